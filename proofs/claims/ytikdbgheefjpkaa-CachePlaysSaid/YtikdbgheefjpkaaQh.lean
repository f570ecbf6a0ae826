/- The library's MinFunc, IndexFunc, DeleteFunc on ints; who goes. -/
import Derived.Test.YtikdbgheefjpkaaQg
set_option maxRecDepth 100000
set_option maxHeartbeats 8000000
set_option linter.unusedSimpArgs false
set_option linter.unusedVariables false
namespace Go.Sx
open Go.RowKit
section
variable {P : Program} {ops : List Oper} {C : World → Prop} {anc : Nat → Bool} {R : Act → (World → Prop) → Prop} {i : Nat} {l : List Nat} {n : Nat} {st : Slots} {S : Nat → Prop} {w0 : World} {H : List Res} {o : Oper} {d : Nat}
/-- Cells of a slice of one-cell elements set to nothing. -/
theorem a_clear {t e : TypeId} {z : Value} (ht : P.underlying t = some (.slice e)) (hv : ∀ w, (zeroValue e).run P w = .ok z w) (hz : z.cells = #[z]) (h1 : z.oneCell' = true) (ho : nthO ops i = some o) (hg : gd ops.toArray n st o = true) (ha : anc i = true) {x : Operand} (hop : o.op = .call { callee := .builtin .clear, args := #[x], argTypes := #[t] }) {b off len cap : Nat} (hx : ev n st x = .slice (some ⟨b, off, none⟩) (len + 1) cap) (j : Nat) {T : TypeId} {vs : List Value} (hj : H[j]? = some (row b T vs)) (hl : off + (len + 1) ≤ vs.length)
    (hC : ∀ w, Ok S w0 (H.set j (row b T (splice vs off (List.replicate (len + 1) z)))) w → C w) {st' : Slots} (hs : up o.dst (.tuple #[]) st = st') (h : MX P ops C anc R l n st' S w0 (H.set j (row b T (splice vs off (List.replicate (len + 1) z))))) : MX P ops C anc R (i :: l) n st S w0 H := by
  subst hs
  refine a_any ho hg ha fun _ w hw => ?_
  obtain ⟨w', hr, hok⟩ := hw.store j hj (us := List.replicate (len + 1) z) (by simpa using hl) P (fun v hv => by rw [List.eq_of_mem_replicate hv]; exact h1)
  have hzc : (Builtin.zeroCells z.cells (len + 1)).toList = List.replicate (len + 1) z := by
    rw [hz]
    simp [Builtin.zeroCells]
    apply List.ext_getElem
    · simp
    · intro i h1 h2
      simp [Nat.mod_one]
  have hr' : (execOp (ev n st) o).run P w = .ok (.value (.tuple #[])) w' := by
    simp [execOp, resolve, invoke, builtin, hop, hx, Builtin.clear_, run_underlying ht, hv, hzc, hr, Result.andThen]
  unfold runs
  rw [hr']
  exact ⟨_, hC, hok, h⟩
end
end Go.Sx
namespace Go.Proofs.Ytikdbgheefjpkaa
open Go Go.Sx Go.RowKit
/-- Places. -/
def fidx {α : Type} (p : α → Bool) : List α → Nat → Option Nat
  | [], _ => none
  | x :: l, i => if p x = true then some i else fidx p l (i + 1)
def oix : Option Nat → Int
  | some i => i
  | none => -1
theorem fidx_le {α : Type} {p : α → Bool} : ∀ {l : List α} {i j : Nat}, fidx p l i = some j → i ≤ j ∧ j - i < l.length ∧ ∃ x, l[j - i]? = some x ∧ p x = true
  | [], i, j, h => by simp [fidx] at h
  | x :: l, i, j, h => by
    unfold fidx at h
    split at h
    · obtain rfl : i = j := by simpa using h
      exact ⟨Nat.le_refl _, by simp, x, by simp, by assumption⟩
    · obtain ⟨h1, h2, y, h3, h4⟩ := fidx_le h
      refine ⟨by omega, by simp; omega, y, ?_, h4⟩
      rw [show j - i = (j - (i + 1)) + 1 by omega]
      simpa using h3
theorem fidx_drop {α : Type} {p : α → Bool} {l : List α} {i : Nat} {x : α} (hx : l[i]? = some x) : fidx p (l.drop i) i = if p x = true then some i else fidx p (l.drop (i + 1)) (i + 1) := by
  have hi : i < l.length := (List.getElem?_eq_some_iff.1 hx).1
  have : l.drop i = x :: l.drop (i + 1) := by
    rw [List.drop_eq_getElem_cons hi]
    congr 1
    exact (List.getElem?_eq_some_iff.1 hx).2
  rw [this]
  rfl
theorem ixf90 (k : FuncId) (fn : Func) (hk : Try.prog.funcs[k]? = some fn) (hkb : fn.body.isSome = true) (hkn : (fn.name == "runtime.NumGoroutine") = false) (ad : Option Addr) (cap : Nat) (rows : List Int) (hs : rows.length ≤ 1000000000) (vc : List Value) (p : Int → Bool) (w : World) (hl : InL w ad 1 cI rows) (hp : ∀ r ∈ rows, ∀ w', Grow w w' → Calls Try.prog k ([Value.int .i64 r] ++ vc).toArray w' fun e w'' => e = .returned (.bool (p r)) ∧ Grow w' w'') :
    Calls Try.prog 90 #[.slice ad rows.length cap, .func (.func k) #[] vc.toArray] w fun e w' => e = .returned (.int .i64 (oix (fidx p rows 0))) ∧ Grow w w' := by
  refine enter2 (S := fun _ => False) 19 Try.func90 rfl rfl rfl (Ok.start w) ?_
  (repeat (first | ((refine (?_ : MX _ _ _ _ _ _ _ _ _ _ _)); first | refine mx_end ?_ | (refine mx_mv _ rfl rfl (by conv => {lhs; whnf}) ?_) | (refine mx_as _ rfl rfl (by conv => {lhs; whnf}) ?_) | (refine g_bi .len rfl ?_; refine mx_len E rfl rfl rfl rfl ?_) ) | refine cw_seq ?_ | refine cw_line rfl ?_ | refine cw_block ?_ | refine pw_then ?_ ))
  refine cw_loop (fun i : Nat => [(8, .int .i64 i), (7, .int .i64 rows.length), (0, .slice ad rows.length cap), (1, .func (.func k) #[] vc.toArray)]) (fun i => []) (fun i => i ≤ rows.length ∧ fidx p rows 0 = fidx p (rows.drop i) i) (fun i => rows.length - i) 0 ⟨by omega, rfl⟩ ⟨rfl, rfl, rfl, rfl, trivial⟩ (fun w h => h) ?_
  intro i jk ⟨hi, hf⟩
  by_cases h0 : (i : Int) < rows.length
  case neg =>
    have e : fidx p rows 0 = none := by rw [hf, List.drop_of_length_le (by omega)]; rfl
    rw [e]
    (repeat (first | ((refine (?_ : MX _ _ _ _ _ _ _ _ _ _ _)); first | refine mx_end ?_ | (refine mx_as _ rfl rfl (by conv => {lhs; whnf}) ?_) | (refine g_bin rfl ?_; ( (refine mx_cmpl .lss rfl rfl rfl rfl rfl (by exact cmp_lt_f (by omega) ) ?_) ) ) ) | refine cw_seq ?_ | refine cw_line rfl ?_ | refine cw_cond_f rfl ?_ | refine cw_exit ?_ | refine cw_ret ?_ | refine pw_then ?_ | refine pw_then_x ?_ | refine pw_block_e ?_ ))
    exact pw_ret rfl rfl rfl rfl fun w hw => ⟨rfl, hw.keep.grow⟩
  case pos =>
    obtain ⟨r, hx⟩ := getElem_some (xs := rows) (i := i) (by omega)
    obtain ⟨b4, off, e, hcc⟩ := inl_at hl hx
    subst e
    have hS : ¬ (fun _ : Nat => False) b4 := id
    have hc0 : w.cell? ⟨b4, off + i * 1, none⟩ = some (.int .i64 r) := hcc 0 _ rfl
    have hst := fidx_drop (p := p) hx
    (repeat (first | ((refine (?_ : MX _ _ _ _ _ _ _ _ _ _ _)); first | refine mx_end ?_ | (refine mx_mv _ rfl rfl (by conv => {lhs; whnf}) ?_) | (refine mx_as _ rfl rfl (by conv => {lhs; whnf}) ?_) | (refine g_load rfl ?_; refine mx_old1 E rfl rfl rfl rfl rfl (by assumption) (by assumption) rfl ?_ ) | (refine g_bin rfl ?_; ( (refine mx_cmpl .lss rfl rfl rfl rfl rfl (by exact cmp_lt_t (by omega) ) ?_) ) ) | (refine g_ix rfl ?_; refine mx_ixsn E rfl rfl rfl rfl rfl rfl (by omega) rfl ?_ ) ) | refine cw_seq ?_ | refine cw_line rfl ?_ | refine cw_block ?_ | refine cw_cond_t rfl ?_ | refine cw_skip ?_ | refine pw_then ?_ ))
    refine a_fcall (vf := []) (vc := vc) rfl rfl rfl rfl rfl hk hkb hkn rfl (.bool (p r)) (fun w' hw => hp r (List.mem_of_getElem? hx) w' hw.keep.grow) rfl ?_
    cases hpr : p r with
    | true =>
      have e : fidx p rows 0 = some i := by rw [hf, hst, hpr]; rfl
      rw [e]
      (repeat (first | ((refine (?_ : MX _ _ _ _ _ _ _ _ _ _ _)); first | refine mx_end ?_ | (refine mx_mv _ rfl rfl (by conv => {lhs; whnf}) ?_) | (refine mx_as _ rfl rfl (by conv => {lhs; whnf}) ?_) ) | refine cw_seq ?_ | refine cw_line rfl ?_ | refine cw_cond_t rfl ?_ | refine cw_ret ?_ | refine pw_then ?_ | refine pw_then_r ?_ | refine pw_block_r ?_))
      exact pw_ret rfl rfl rfl rfl fun w hw => ⟨rfl, hw.keep.grow⟩
    | false =>
      (repeat (first | ((refine (?_ : MX _ _ _ _ _ _ _ _ _ _ _)); first | refine mx_end ?_ | (refine mx_mv _ rfl rfl (by conv => {lhs; whnf}) ?_) | (refine g_bin rfl ?_; ( refine mx_ar rfl rfl rfl rfl rfl rfl (IntWalk.i64_in _ (by omega)) rfl ?_ ) ) ) | refine cw_line rfl ?_ | refine cw_cond_f rfl ?_ | refine cw_skip ?_ | refine pw_then ?_ | refine pw_block ?_ ))
      refine pw_round (i + 1) ⟨by omega, by rw [hf, hst, hpr]; rfl⟩ (by omega) ⟨rfl, rfl, rfl, rfl, trivial⟩ (fun w h => h)
/-- How often, less how often. -/
theorem clo89 (bx fm rm bq : Nat) (most : Int) (rs : List (Int × Int)) (hb : ∀ q, 0 ≤ runs q rs ∧ runs q rs ≤ 1000000) (x y : Int) (w : World) (h1 : (row bq 52 [.pointer (some ⟨bx, 0, none⟩)]).holds w) (h2 : (row bx 96 [.int .i64 most, .map (some fm), .map (some rm)]).holds w) (h3 : (mapR rm (rs.map rV)).holds w) :
    Calls Try.prog 89 #[.int .i64 x, .int .i64 y, .pointer (some ⟨bq, 0, none⟩)] w fun e w' => e = .returned (.int .i64 (runs x rs - runs y rs)) ∧ Grow w w' := by
  refine enter3 (S := fun _ => False) 19 Try.func89 rfl rfl rfl (Ok.start w) ?_
  have hS : ¬ (fun _ : Nat => False) bq := id
  have hS2 : ¬ (fun _ : Nat => False) bx := id
  have hlx := look_runs x rs
  have hly := look_runs y rs
  have hbx := hb x
  have hby := hb y
  have hlt : rm < w.heap.size := by obtain ⟨es, clock, h, _⟩ := h3; exact (Array.getElem?_eq_some_iff.1 h).1
  haveI : ∀ (anc : Nat → Bool) (H : List Res), ReadsM (Ok (fun _ => False) w []) anc (fun _ => False) w H rm (rs.map rV) := fun anc H => ⟨.inr fun w' hw => (mapR rm (rs.map rV)).loc w w' (fun b hb => by
    obtain rfl : b = rm := hb
    exact hw.keep.old b hlt id) h3⟩
  (repeat (first | ((refine (?_ : MX _ _ _ _ _ _ _ _ _ _ _)); first | refine mx_end ?_ | (refine mx_as _ rfl rfl (by conv => {lhs; whnf}) ?_) ) | refine cw_seq ?_ | refine cw_line rfl ?_ | refine pw_then ?_ ))
  refine cw_drawm [0, 1, 2, 3, 4, 5, 6, 7, 8, 9, 10, 11, 12, 13] (fun i => false) [] mixed (by kernel_rfl) (fun w h => h.nil) ?_
  (repeat (first | ((refine (?_ : MX _ _ _ _ _ _ _ _ _ _ _)); first | refine mx_end ?_ | (refine mx_mv _ rfl rfl (by conv => {lhs; whnf}) ?_) | (refine mx_as _ rfl rfl (by conv => {lhs; whnf}) ?_) | ( refine mx_fa E rfl rfl rfl rfl ?_) | (refine g_load rfl ?_; refine mx_orow E rfl rfl rfl rfl rfl (by assumption) (by assumption) (by rfl) rfl ?_ ) | (refine g_bin rfl ?_; ( refine mx_ar rfl rfl rfl rfl rfl rfl (IntWalk.i64_in _ (by omega)) rfl ?_ ) ) | (refine mx_nc rfl rfl rfl ?_) | ( refine mx_look1 mt94 rfl rfl rfl rfl rfl (by with_reducible assumption) rfl ?_ ) ) | refine cw_ret ?_ | refine pw_then ?_ ))
  exact pw_ret rfl rfl rfl rfl fun w hw => ⟨rfl, hw.keep.grow⟩
def minV (r : Int → Int) : List Int → Int → Int
  | [], m => m
  | x :: l, m => minV r l (if r x < r m then x else m)
def evV (r : Int → Int) : List Int → Int
  | [] => 0
  | x :: l => minV r l x
theorem min88 (bq : Nat) (r : Int → Int) (hb : ∀ q, 0 ≤ r q ∧ r q ≤ 1000000) (ad : Option Addr) (cap : Nat) (x0 : Int) (xs : List Int) (hs : xs.length ≤ 1000000) (v : Int) (hv : evV r (x0 :: xs) = v) (w : World) (hl : InL w ad 1 cI (x0 :: xs)) (hp : ∀ x y, ∀ w', Grow w w' → Calls Try.prog 89 #[.int .i64 x, .int .i64 y, .pointer (some ⟨bq, 0, none⟩)] w' fun e w'' => e = .returned (.int .i64 (r x - r y)) ∧ Grow w' w'') :
    Calls Try.prog 88 #[.slice ad (x0 :: xs).length cap, .func (.func 89) #[] #[.pointer (some ⟨bq, 0, none⟩)]] w fun e w' => e = .returned (.int .i64 v) ∧ Grow w w' := by
  refine enter2 (S := fun _ => False) 33 Try.func88 rfl rfl rfl (Ok.start w) ?_
  generalize hxs : x0 :: xs = l at *
  have hll : l.length = xs.length + 1 := by rw [← hxs]; rfl
  have h0 : l[0]? = some x0 := by rw [← hxs]; rfl
  obtain ⟨b4, off, e, hcc⟩ := inl_at hl h0
  subst e
  have hS : ¬ (fun _ : Nat => False) b4 := id
  have hc0 : w.cell? ⟨b4, off + 0 * 1, none⟩ = some (.int .i64 x0) := hcc 0 _ rfl
  have hc0' : w.cell? ⟨b4, off + (0 : Int).toNat * 1, none⟩ = some (.int .i64 x0) := hcc 0 _ rfl
  (repeat (first | ((refine (?_ : MX _ _ _ _ _ _ _ _ _ _ _)); first | refine mx_end ?_ | (refine mx_mv _ rfl rfl (by conv => {lhs; whnf}) ?_) | (refine mx_as _ rfl rfl (by conv => {lhs; whnf}) ?_) | (refine g_load rfl ?_; refine mx_old1 E rfl rfl rfl rfl rfl (by assumption) (by assumption) rfl ?_ ) | (refine g_bin rfl ?_; ( (refine mx_cmpl .lss rfl rfl rfl rfl rfl (by exact cmp_lt_f (by omega) ) ?_) ) ) | (refine g_ix rfl ?_; refine mx_ixsi E rfl rfl rfl rfl rfl rfl (by omega) (by omega) rfl ?_ ) | (refine g_bi .len rfl ?_; refine mx_len E rfl rfl rfl rfl ?_) ) | refine cw_seq ?_ | refine cw_line rfl ?_ | refine cw_block ?_ | refine cw_cond_f rfl ?_ | refine cw_skip ?_ | refine pw_then ?_ ))
  refine cw_loop (ι := Nat × Int) (fun q => [(6, .int .i64 ((q.1 + 1 : Nat) : Int)), (5, .int .i64 q.2), (0, .slice (some ⟨b4, off, none⟩) l.length cap), (1, .func (.func 89) #[] #[.pointer (some ⟨bq, 0, none⟩)])]) (fun q => []) (fun q => q.1 ≤ xs.length ∧ minV r (xs.drop q.1) q.2 = v) (fun q => xs.length - q.1) (0, x0) ⟨Nat.zero_le _, by rw [← hv, ← hxs]; rfl⟩ ⟨rfl, rfl, rfl, rfl, trivial⟩ (fun w h => h) ?_
  rintro ⟨i, m⟩ jk ⟨hi, hm⟩
  dsimp only at hi hm ⊢
  by_cases h1 : ((i + 1 : Nat) : Int) < l.length
  case neg =>
    have : xs.drop i = [] := List.drop_of_length_le (by omega)
    rw [this] at hm
    obtain rfl : m = v := hm
    (repeat (first | ((refine (?_ : MX _ _ _ _ _ _ _ _ _ _ _)); first | refine mx_end ?_ | (refine mx_mv _ rfl rfl (by conv => {lhs; whnf}) ?_) | (refine mx_as _ rfl rfl (by conv => {lhs; whnf}) ?_) | (refine g_bin rfl ?_; ( (refine mx_cmpl .lss rfl rfl rfl rfl rfl (by exact cmp_lt_f (by omega) ) ?_) ) ) | (refine g_bi .len rfl ?_; refine mx_len E rfl rfl rfl rfl ?_) ) | refine cw_seq ?_ | refine cw_line rfl ?_ | refine cw_cond_f rfl ?_ | refine cw_exit ?_ | refine cw_ret ?_ | refine pw_then ?_ | refine pw_then_x ?_ | refine pw_block_e ?_ ))
    exact pw_ret rfl rfl rfl rfl fun w hw => ⟨rfl, hw.keep.grow⟩
  obtain ⟨x, hx⟩ := getElem_some (xs := l) (i := i + 1) (by omega)
  have hc1 : w.cell? ⟨b4, off + (i + 1) * 1, none⟩ = some (.int .i64 x) := by
    obtain ⟨b5, off5, e5, hcc5⟩ := inl_at hl hx
    obtain ⟨rfl, rfl⟩ : b4 = b5 ∧ off = off5 := by simpa using e5
    exact hcc5 0 _ rfl
  have hx' : xs[i]? = some x := by rw [← hxs] at hx; simpa using hx
  have hdr : xs.drop i = x :: xs.drop (i + 1) := by
    rw [List.drop_eq_getElem_cons (by omega)]
    congr 1
    exact (List.getElem?_eq_some_iff.1 hx').2
  rw [hdr] at hm
  unfold minV at hm
  have hbx := hb x
  have hbm := hb m
  (repeat (first | ((refine (?_ : MX _ _ _ _ _ _ _ _ _ _ _)); first | refine mx_end ?_ | (refine mx_mv _ rfl rfl (by conv => {lhs; whnf}) ?_) | (refine g_load rfl ?_; refine mx_old1 E rfl rfl rfl rfl rfl (by assumption) (by assumption) rfl ?_ ) | (refine g_bin rfl ?_; ( (refine mx_cmpl .lss rfl rfl rfl rfl rfl (by exact cmp_lt_t (by omega) ) ?_) ) ) | (refine g_ix rfl ?_; refine mx_ixsn E rfl rfl rfl rfl rfl rfl (by omega) rfl ?_ ) | (refine g_bi .len rfl ?_; refine mx_len E rfl rfl rfl rfl ?_) ) | refine cw_seq ?_ | refine cw_line rfl ?_ | refine cw_block ?_ | refine cw_cond_t rfl ?_ | refine cw_skip ?_ | refine pw_then ?_ ))
  refine a_fcall (vf := []) (vc := [.pointer (some ⟨bq, 0, none⟩)]) rfl rfl rfl rfl rfl Try.func89 rfl rfl rfl (.int .i64 (r x - r m)) (fun w' hw => hp x m w' hw.keep.grow) rfl ?_
  by_cases hlt : r x < r m
  · rw [if_pos hlt] at hm
    have hneg : r x - r m < 0 := by omega
    (repeat (first | ((refine (?_ : MX _ _ _ _ _ _ _ _ _ _ _)); first | refine mx_end ?_ | (refine mx_mv _ rfl rfl (by conv => {lhs; whnf}) ?_) | (refine mx_as _ rfl rfl (by conv => {lhs; whnf}) ?_) | (refine g_load rfl ?_; refine mx_old1 E rfl rfl rfl rfl rfl (by assumption) (by assumption) rfl ?_ ) | (refine g_bin rfl ?_; first | ( (refine mx_cmpl .lss rfl rfl rfl rfl rfl (by exact cmp_lt_t (by omega) ) ?_) ) | ( refine mx_ar rfl rfl rfl rfl rfl rfl (IntWalk.i64_in _ (by omega)) rfl ?_ ) ) | (refine g_ix rfl ?_; refine mx_ixsn E rfl rfl rfl rfl rfl rfl (by omega) rfl ?_ ) ) | refine cw_line rfl ?_ | refine cw_cond_t rfl ?_ | refine pw_then ?_ | refine pw_block ?_ ))
    exact pw_round (i + 1, x) ⟨by show i + 1 ≤ xs.length; omega, hm⟩ (by show xs.length - (i + 1) < xs.length - i; omega) ⟨rfl, rfl, rfl, rfl, trivial⟩ (fun w h => h)
  · rw [if_neg hlt] at hm
    have hneg : ¬ r x - r m < 0 := by omega
    (repeat (first | ((refine (?_ : MX _ _ _ _ _ _ _ _ _ _ _)); first | refine mx_end ?_ | (refine mx_mv _ rfl rfl (by conv => {lhs; whnf}) ?_) | (refine mx_as _ rfl rfl (by conv => {lhs; whnf}) ?_) | (refine g_bin rfl ?_; first | ( (refine mx_cmpl .lss rfl rfl rfl rfl rfl (by first | exact cmp_lt_t (by omega) | exact cmp_lt_f (by omega) ) ?_) ) | ( refine mx_ar rfl rfl rfl rfl rfl rfl (IntWalk.i64_in _ (by omega)) rfl ?_ ) ) ) | refine cw_line rfl ?_ | refine cw_cond_f rfl ?_ | refine cw_skip ?_ | refine pw_then ?_ | refine pw_block ?_ ))
    exact pw_round (i + 1, m) ⟨by show i + 1 ≤ xs.length; omega, hm⟩ (by show xs.length - (i + 1) < xs.length - i; omega) ⟨rfl, rfl, rfl, rfl, trivial⟩ (fun w h => h)
/-- One of some programs' forms goes. -/
theorem evict65 (bx fm rm : Nat) (most : Int) (fs : List CD) (rs : List (Int × Int)) (hn : (fs.map CD.prog).Nodup) (hb : ∀ q, 0 ≤ runs q rs ∧ runs q rs ≤ 1000000) (ad : Option Addr) (cap n : Nat) (xs : List Int) (hx : xs.length = n) (hne : xs ≠ []) (hs : n ≤ 1000000) (p : Int) (hp : evV (fun q => runs q rs) xs = p) (w : World) (hd : ∀ w', Chg (domL (OCc bx fm rm most fs rs)) w w' → InL w' ad 1 cI xs) (h0 : Ok (domL (OCc bx fm rm most fs rs)) w (OCc bx fm rm most fs rs) w) :
    Calls Try.prog 65 #[.pointer (some ⟨bx, 0, none⟩), .slice ad n cap] w fun e w' => ∃ u : Unit, e = .returned (.int .i64 p) ∧ Ok (domL (OCc bx fm rm most fs rs)) w (OCc bx fm rm most (fs.filter fun c => decide (c.prog ≠ p)) rs) w' := by
  subst hx
  cases xs with
  | nil => exact absurd rfl hne
  | cons x0 xs =>
  have hlen : (x0 :: xs).length = xs.length + 1 := rfl
  refine enter2 (S := domL (OCc bx fm rm most fs rs)) (H := [row bx 96 [.int .i64 most, .map (some fm), .map (some rm)], mapR fm (fs.map cV), mapR rm (rs.map rV), allD fs]) 15 Try.func65 rfl rfl rfl h0 ?_
  have hdel := delKg CD.prog (fun c => .agg (cCD c).toArray) (k := p) fs hn
  (repeat (first | ((refine (?_ : MX _ _ _ _ _ _ _ _ _ _ _)); first | refine mx_end ?_ | (refine mx_mv _ rfl rfl (by conv => {lhs; whnf}) ?_) | (refine mx_as _ rfl rfl (by conv => {lhs; whnf}) ?_) | (refine g_box rfl ?_; refine a_box1 rfl rfl rfl rfl rfl rfl rfl (fun _ => ?_)) | ( refine mx_fn rfl rfl rfl rfl rfl rfl ?_) ) | refine cw_seq ?_ | refine cw_line rfl ?_ | refine pw_then ?_ ))
  rename_i bq
  refine g_cf 88 rfl ?_
  refine a_callv rfl rfl rfl rfl Try.func88 rfl rfl rfl (.int .i64 p) (fun w' hw => min88 bq (fun q => runs q rs) hb ad cap x0 xs (by omega) p hp w' (hd w' hw.keep) (fun x y w'' hg => clo89 bx fm rm bq most rs hb x y w'' ((row bq 52 [.pointer (some ⟨bx, 0, none⟩)]).loc w' w'' (fun b hb' => hg.block b (row_lt (hw.holds 0 _ rfl) b hb')) (hw.holds 0 _ rfl)) ((row bx 96 [.int .i64 most, .map (some fm), .map (some rm)]).loc w' w'' (fun b hb' => hg.block b (row_lt (hw.holds 1 _ rfl) b hb')) (hw.holds 1 _ rfl)) ((mapR rm (rs.map rV)).loc w' w'' (fun b hb' => hg.block b (hw.own 3 _ rfl b hb').1) (hw.holds 3 _ rfl)))) rfl ?_
  (repeat (first | ((refine (?_ : MX _ _ _ _ _ _ _ _ _ _ _)); first | refine mx_end ?_ | (refine mx_mv _ rfl rfl (by conv => {lhs; whnf}) ?_) | (refine mx_as _ rfl rfl (by conv => {lhs; whnf}) ?_) | ( refine mx_fa E rfl rfl rfl rfl ?_) | (refine g_load rfl ?_; refine mx_get E rfl rfl rfl rfl rfl (by rfl) rfl ?_ ) | (refine mx_nc rfl rfl rfl ?_) ) | refine cw_seq ?_ | refine cw_line rfl ?_ | refine pw_then ?_ ))
  refine g_bi .delete rfl ?_
  refine a_mdel mt93 rfl rfl rfl rfl rfl rfl (fun _ _ => trivial) rfl ?_
  rw [hdel]
  (repeat (first | ((refine (?_ : MX _ _ _ _ _ _ _ _ _ _ _)); first | refine mx_end ?_ | (refine mx_mv _ rfl rfl (by conv => {lhs; whnf}) ?_) | (refine mx_as _ rfl rfl (by conv => {lhs; whnf}) ?_) ) | refine cw_seq ?_ | refine cw_line rfl ?_ | refine cw_ret ?_ | refine pw_then ?_ ))
  exact pw_ret rfl rfl rfl rfl fun w' hw => ⟨(), rfl, (allD_sub (l' := fs.filter fun c => decide (c.prog ≠ p)) List.filter_sublist (hw.pick (H' := [allD fs, row bx 96 [.int .i64 most, .map (some fm), .map (some rm)], mapR fm ((fs.filter fun c => decide (c.prog ≠ p)).map cV), mapR rm (rs.map rV)]) [4, 1, 2, 3] (by simp) rfl)).pick [1, 2, 3, 0] (by simp) rfl⟩
theorem clo67 (y : Int) (x : CD) (bq : Nat) (w : World) (hb : (row bq 59 (cCD x)).holds w) :
    Calls Try.prog 67 #[.int .i64 y, .pointer (some ⟨bq, 0, none⟩)] w fun e w' => e = .returned (.bool (decide (y = x.prog))) ∧ Grow w w' := by
  refine enter2 (S := fun _ => False) 8 Try.func67 rfl rfl rfl (Ok.start w) ?_
  have hS : ¬ (fun _ : Nat => False) bq := id
  by_cases h : y = x.prog
  · rw [decide_eq_true h]
    (repeat (first | ((refine (?_ : MX _ _ _ _ _ _ _ _ _ _ _)); first | refine mx_end ?_ | (refine mx_mv _ rfl rfl (by conv => {lhs; whnf}) ?_) | (refine mx_as _ rfl rfl (by conv => {lhs; whnf}) ?_) | (refine mx_fa0 E rfl rfl rfl rfl ?_ ) | (refine g_load rfl ?_; refine mx_orow E rfl rfl rfl rfl rfl (by assumption) (by assumption) (by rfl) rfl ?_ ) | (refine g_bin rfl ?_; ((refine mx_cmpl .eql rfl rfl rfl rfl rfl (by exact cmp_eq_t (by omega) ) ?_) ) ) ) | refine cw_seq ?_ | refine cw_line rfl ?_ | refine cw_ret ?_ | refine pw_then ?_ ))
    exact pw_ret rfl rfl rfl rfl fun w hw => ⟨rfl, hw.keep.grow⟩
  · rw [decide_eq_false h]
    (repeat (first | ((refine (?_ : MX _ _ _ _ _ _ _ _ _ _ _)); first | refine mx_end ?_ | (refine mx_mv _ rfl rfl (by conv => {lhs; whnf}) ?_) | (refine mx_as _ rfl rfl (by conv => {lhs; whnf}) ?_) | (refine mx_fa0 E rfl rfl rfl rfl ?_ ) | (refine g_load rfl ?_; refine mx_orow E rfl rfl rfl rfl rfl (by assumption) (by assumption) (by rfl) rfl ?_ ) | (refine g_bin rfl ?_; ((refine mx_cmpl .eql rfl rfl rfl rfl rfl (by exact cmp_eq_f (by omega) ) ?_) ) ) ) | refine cw_seq ?_ | refine cw_line rfl ?_ | refine cw_ret ?_ | refine pw_then ?_ ))
    exact pw_ret rfl rfl rfl rfl fun w hw => ⟨rfl, hw.keep.grow⟩
theorem fidx_mid {α : Type} {p : α → Bool} {x : α} {B : List α} : ∀ {A : List α} {i : Nat}, (∀ y ∈ A, p y = false) → p x = true → fidx p (A ++ x :: B) i = some (i + A.length)
  | [], i, _, hx => by simp [fidx, hx]
  | a :: A, i, hA, hx => by
    rw [List.cons_append]
    unfold fidx
    rw [if_neg (by rw [hA a (by simp)]; simp), fidx_mid (fun y hy => hA y (List.mem_cons_of_mem _ hy)) hx, List.length_cons]
    congr 1
    omega
theorem del66 (b : Nat) (cap : Nat) (A B : List Int) (x : CD) (bq : Nat) (hA : ∀ y ∈ A, y ≠ x.prog) (hB : ∀ y ∈ B, y ≠ x.prog) (hs : (A ++ x.prog :: B).length ≤ 1000000) (w : World) (hq : ∀ w', Chg (domL [ownd (some ⟨b, 0, none⟩) cap 3 1 (A ++ x.prog :: B).length ((A ++ x.prog :: B).flatMap cI)]) w w' → (row bq 59 (cCD x)).holds w') (h0 : Ok (domL [ownd (some ⟨b, 0, none⟩) cap 3 1 (A ++ x.prog :: B).length ((A ++ x.prog :: B).flatMap cI)]) w [ownd (some ⟨b, 0, none⟩) cap 3 1 (A ++ x.prog :: B).length ((A ++ x.prog :: B).flatMap cI)] w) :
    Calls Try.prog 66 #[.slice (some ⟨b, 0, none⟩) (A ++ x.prog :: B).length cap, .func (.func 67) #[] #[.pointer (some ⟨bq, 0, none⟩)]] w fun e w' => ∃ u : Unit, e = .returned (.slice (some ⟨b, 0, none⟩) (A ++ B).length cap) ∧ Ok (domL [ownd (some ⟨b, 0, none⟩) cap 3 1 (A ++ x.prog :: B).length ((A ++ x.prog :: B).flatMap cI)]) w [ownd (some ⟨b, 0, none⟩) cap 3 1 (A ++ B).length ((A ++ B).flatMap cI)] w' := by
  have hlen : (A ++ x.prog :: B).length = A.length + B.length + 1 := by simp; omega
  have hlen2 : (A ++ B).length = A.length + B.length := by simp
  refine enter2 (S := domL [ownd (some ⟨b, 0, none⟩) cap 3 1 (A ++ x.prog :: B).length ((A ++ x.prog :: B).flatMap cI)]) (H := [ownd (some ⟨b, 0, none⟩) cap 3 1 (A ++ x.prog :: B).length ((A ++ x.prog :: B).flatMap cI)]) 42 Try.func66 rfl rfl rfl h0 ?_
  have hfx : fidx (fun y => decide (y = x.prog)) (A ++ x.prog :: B) 0 = some A.length := by
    rw [fidx_mid (fun y hy => decide_eq_false (hA y hy)) (decide_eq_true rfl), Nat.zero_add]
  (repeat (first | ((refine (?_ : MX _ _ _ _ _ _ _ _ _ _ _)); first | refine mx_end ?_ | (refine mx_mv _ rfl rfl (by conv => {lhs; whnf}) ?_) | (refine mx_as _ rfl rfl (by conv => {lhs; whnf}) ?_) ) | refine cw_seq ?_ | refine cw_line rfl ?_ | refine pw_then ?_ ))
  refine g_cf 90 rfl ?_
  refine a_callv rfl rfl rfl rfl Try.func90 rfl rfl rfl (.int .i64 A.length) (fun w' hw => by
    have h90 := ixf90 67 _ Try.func67 rfl rfl (some ⟨b, 0, none⟩) cap (A ++ x.prog :: B) (by omega) [.pointer (some ⟨bq, 0, none⟩)] (fun y => decide (y = x.prog)) w' (own_in len_I (hw.holds 0 _ rfl) (Nat.le_refl _)) (fun r _ w'' hg => clo67 r x bq w'' ((row bq 59 (cCD x)).loc w' w'' (fun b hb' => hg.block b (row_lt (hq w' hw.keep) b hb')) (hq w' hw.keep)))
    rw [hfx] at h90
    exact h90) rfl ?_
  have hneq : ¬ ((A.length : Int) = -1) := by omega
  (repeat (first | ((refine (?_ : MX _ _ _ _ _ _ _ _ _ _ _)); first | refine mx_end ?_ | (refine mx_mv _ rfl rfl (by conv => {lhs; whnf}) ?_) | (refine mx_as _ rfl rfl (by conv => {lhs; whnf}) ?_) | (refine g_bin rfl ?_; first | ((refine mx_cmpl .eql rfl rfl rfl rfl rfl (by exact cmp_eq_f (by omega) ) ?_) ) | ( refine mx_ar rfl rfl rfl rfl rfl rfl (IntWalk.i64_in _ (by omega)) rfl ?_ ) ) ) | refine cw_seq ?_ | refine cw_line rfl ?_ | refine cw_block ?_ | refine cw_cond_f rfl ?_ | refine cw_skip ?_ | refine pw_then ?_ ))
  refine cw_ex (fun rest => [row b 3 ((A ++ x.prog :: B).flatMap cI ++ rest)]) _ (fun w hw => (ok_open 0 rfl hw).imp fun rest h => ⟨h.1, h.2⟩) (fun rest he => ?_)
  obtain ⟨q1, q2, q3, q4⟩ := he
  refine cw_loop (ι := Nat × Int) (fun q => [(6, .int .i64 ((A.length + 1 + q.1 : Nat) : Int)), (5, .int .i64 ((A.length + q.1 : Nat) : Int)), (0, .slice (some ⟨b, 0, none⟩) (A ++ x.prog :: B).length cap), (1, .func (.func 67) #[] #[.pointer (some ⟨bq, 0, none⟩)])]) (fun q => [row b 3 ((A ++ B.take q.1 ++ [q.2] ++ B.drop q.1).flatMap cI ++ rest)]) (fun q => q.1 ≤ B.length) (fun q => B.length - q.1) (0, x.prog) (Nat.zero_le _) ⟨rfl, rfl, rfl, rfl, trivial⟩ (fun w h => by simpa using h) ?_
  rintro ⟨k, g⟩ jk hk
  dsimp only at hk ⊢
  by_cases h1 : ((A.length + 1 + k : Nat) : Int) < (A ++ x.prog :: B).length
  case neg =>
    obtain rfl : k = B.length := by omega
    rw [List.take_length, List.drop_length, List.append_nil]
    have hsp : Sp ((A ++ B ++ [g]).flatMap cI ++ rest) (0 + (A.length + B.length) * 1) [.int .i64 0] ((A ++ B ++ [0]).flatMap cI ++ rest) := by
      have h2 := sp_at len_I (xs := A ++ B ++ [g]) (j := (A ++ B).length) (x := g) (x' := 0) (by simp) (o := 0) (us := [.int .i64 0]) (Sp.all rfl) rest (p := 0 + (A.length + B.length) * 1) (by omega)
      rw [show (A ++ B ++ [g]).set (A ++ B).length 0 = A ++ B ++ [0] from set_cat] at h2
      exact h2
    have hcl := hsp.le
    (repeat (first | ((refine (?_ : MX _ _ _ _ _ _ _ _ _ _ _)); first | refine mx_end ?_ | (refine mx_mv _ rfl rfl (by conv => {lhs; whnf}) ?_) | (refine g_bin rfl ?_; ( (refine mx_cmpl .lss rfl rfl rfl rfl rfl (by exact cmp_lt_f (by omega) ) ?_) ) ) | (refine g_bi .len rfl ?_; refine mx_len E rfl rfl rfl rfl ?_) ) | refine cw_seq ?_ | refine cw_line rfl ?_ | refine cw_cond_f rfl ?_ | refine cw_exit ?_ | refine pw_then ?_ | refine pw_then_x ?_ | refine pw_block_e ?_ ))
    refine mx_slice_from E rfl rfl rfl rfl rfl rfl (by omega) (by omega) (by omega) rfl ?_
    rw [Int.toNat_natCast, show (A ++ x.prog :: B).length - (A.length + B.length) = 0 + 1 by omega]
    (repeat (first | ((refine (?_ : MX _ _ _ _ _ _ _ _ _ _ _)); first | refine mx_end ?_ | (refine mx_mv _ rfl rfl (by conv => {lhs; whnf}) ?_) | (refine mx_as _ rfl rfl (by conv => {lhs; whnf}) ?_) | (first | refine mx_fa0 E rfl rfl rfl rfl ?_ | refine mx_fa E rfl rfl rfl rfl ?_) | (refine g_load rfl ?_; first | refine mx_get E rfl rfl rfl rfl rfl (by first | assumption | rfl) rfl ?_ | refine mx_getn E rfl rfl rfl rfl rfl (by first | assumption | exact Vr.all rfl | exact ⟨⟨rfl⟩, rfl⟩) rfl ?_ | refine mx_oldn E rfl rfl rfl rfl rfl (by assumption) (by assumption) (rfl) rfl ?_ | refine mx_old1 E rfl rfl rfl rfl rfl (by assumption) (by assumption) rfl ?_ | refine mx_orow E rfl rfl rfl rfl rfl (by assumption) (by assumption) (by first | assumption | rfl) rfl ?_ | refine mx_orown E rfl rfl rfl rfl rfl (by assumption) (by assumption) (by first | assumption | exact Vr.all rfl | exact ⟨⟨rfl⟩, rfl⟩) rfl ?_ | refine mx_geta E rfl rfl rfl rfl rfl rfl (by first | assumption | rfl) rfl ?_ | refine mx_getna E rfl rfl rfl rfl rfl rfl (by first | assumption | exact Vr.all rfl | exact ⟨⟨rfl⟩, rfl⟩) rfl ?_) | (refine g_bin rfl ?_; first | (first | (refine mx_cmpl .eql rfl rfl rfl rfl rfl (by first | exact cmp_eq_t (by omega) | exact cmp_eq_f (by omega) | rfl) ?_) | (refine mx_cmpl .neq rfl rfl rfl rfl rfl (by first | exact cmp_ne_t (by omega) | exact cmp_ne_f (by omega) | rfl) ?_) | (refine mx_cmpl .lss rfl rfl rfl rfl rfl (by first | exact cmp_lt_t (by omega) | exact cmp_lt_f (by omega) | rfl) ?_) | (refine mx_cmpl .leq rfl rfl rfl rfl rfl (by first | exact cmp_le_t (by omega) | exact cmp_le_f (by omega) | rfl) ?_) | (refine mx_cmpl .gtr rfl rfl rfl rfl rfl (by first | exact cmp_gt_t (by omega) | exact cmp_gt_f (by omega) | rfl) ?_) | (refine mx_cmpl .geq rfl rfl rfl rfl rfl (by first | exact cmp_ge_t (by omega) | exact cmp_ge_f (by omega) | rfl) ?_)) | (first | refine mx_ar rfl rfl rfl rfl rfl rfl ((IntWalk.i64_in _ (by omega)).trans (by with_reducible assumption)) rfl ?_ | refine mx_ar rfl rfl rfl rfl rfl rfl (IntWalk.i64_in _ (by omega)) rfl ?_ | refine mx_ar rfl rfl rfl rfl rfl rfl (by with_reducible assumption) rfl ?_) | (first | refine mx_eqs rfl rfl rfl rfl rfl rfl ?_ | refine mx_nes rfl rfl rfl rfl rfl rfl ?_ | refine mx_eq rfl rfl rfl rfl rfl rfl ?_ | refine mx_ne rfl rfl rfl rfl rfl rfl ?_) | refine mx_bsame E rfl rfl rfl rfl rfl rfl rfl ?_ | refine mx_bnsame E rfl rfl rfl rfl rfl rfl rfl ?_ | refine mx_beq E rfl rfl rfl rfl rfl rfl rfl ?_ | refine mx_bne E rfl rfl rfl rfl rfl rfl rfl ?_ | refine mx_dv rfl rfl rfl rfl rfl (by decide) (congrArg some (by assumption)) rfl rfl ?_ | refine mx_dv rfl rfl rfl rfl rfl (by decide) rfl rfl rfl ?_ | refine mx_bit rfl rfl rfl rfl rfl (congrArg some (by assumption)) rfl rfl ?_ | refine mx_bit rfl rfl rfl rfl rfl rfl rfl rfl ?_ | refine mx_sh rfl rfl rfl rfl rfl (by omega) (congrArg some (by assumption)) rfl rfl ?_ | refine mx_sh rfl rfl rfl rfl rfl (by omega) rfl rfl rfl ?_) | (refine g_ix rfl ?_; first | refine mx_ixan E rfl rfl rfl rfl rfl rfl (by omega) rfl ?_ | refine mx_ixsn E rfl rfl rfl rfl rfl rfl (by omega) rfl ?_ | refine mx_ixsi E rfl rfl rfl rfl rfl rfl (by omega) (by omega) rfl ?_ | refine mx_ixa E rfl rfl rfl rfl rfl rfl (by omega) (by omega) rfl rfl ?_) | (refine mx_nc rfl rfl rfl ?_) | (refine g_bi .len rfl ?_; refine mx_len E rfl rfl rfl rfl ?_) | (refine mx_not rfl rfl rfl ?_) | (refine mx_ex _ rfl rfl rfl (by conv => {lhs; whnf}) ?_) | (refine mx_skip rfl rfl rfl ?_) | (refine g_pick rfl ?_; first | refine mx_andf rfl rfl rfl rfl rfl ?_ | refine mx_ort rfl rfl rfl rfl rfl ?_ | refine mx_and rfl rfl rfl rfl rfl rfl ?_ | refine mx_or rfl rfl rfl rfl rfl rfl ?_ | refine mx_pickt _ rfl rfl rfl rfl (by conv => {lhs; whnf}) rfl ?_ | refine mx_pickf _ rfl rfl rfl rfl (by conv => {lhs; whnf}) rfl ?_) | (refine g_store rfl ?_; first | refine s_l E rfl rfl rfl rfl rfl rfl rfl (by first | assumption | exact Sp.all rfl | exact Sp.lit rfl rfl) rfl ?_ | refine s_1 E rfl rfl rfl rfl rfl rfl rfl rfl (by first | assumption | exact sp0 | exact spS sp0 | exact spS (spS sp0) | exact Sp.lit rfl rfl) rfl ?_) | (refine g_build rfl ?_; first | refine mx_build rfl rfl rfl rfl (b96 _ _ _) rfl ?_) | (refine a_new rfl rfl rfl rfl rfl (fun _ => ?_)) | (refine g_box rfl ?_; first | refine a_boxl rfl rfl rfl rfl rfl rfl (fun _ => ?_) | refine a_box1 rfl rfl rfl rfl rfl rfl rfl (fun _ => ?_)) | (first | refine mx_indexn E rfl rfl rfl rfl rfl rfl rfl rfl (by omega) (by first | exact vr_RR _ (by omega)) rfl ?_ | refine mx_index E rfl rfl rfl rfl rfl rfl rfl rfl (by omega) (by omega) (by first | exact vr_RR _ (by omega)) rfl ?_) | (refine g_bs rfl ?_; first | refine a_bs0 E rfl rfl rfl rfl rfl rfl (fun _ => ?_) | refine a_bsi E rfl rfl rfl rfl rfl (by (repeat (first | exact EvI.nil | (apply EvI.cons; rfl)))) (by rfl) (by rfl) (by rfl) rfl (fun _ => ?_)) | (refine g_conv rfl ?_; first | refine mx_cv E rfl rfl rfl rfl rfl rfl (by assumption) rfl ?_ | refine mx_cv E rfl rfl rfl rfl rfl rfl (IntWalk.i64_in _ (by omega)) rfl ?_ | refine mx_cv E rfl rfl rfl rfl rfl rfl (IntWalk.u64_in _ (by omega)) rfl ?_ | refine mx_cv E rfl rfl rfl rfl rfl rfl (IntWalk.u8_in _ (by omega)) rfl ?_ | refine mx_cv E rfl rfl rfl rfl rfl rfl rfl rfl ?_) | (first | (refine g_bi .max rfl ?_; refine mx_maxi rfl rfl rfl rfl rfl rfl rfl ?_) | (refine g_bi .min rfl ?_; refine mx_mini rfl rfl rfl rfl rfl rfl rfl ?_)) | (first | refine mx_look mt93 rfl rfl rfl rfl rfl (by with_reducible assumption) rfl ?_ | refine mx_look1 mt94 rfl rfl rfl rfl rfl (by with_reducible assumption) rfl ?_ | refine mx_fn rfl rfl rfl rfl rfl rfl ?_) | (fail)) | refine cw_seq ?_ | refine cw_line rfl ?_ | (fail) | refine cw_block ?_ | refine cw_cond_f rfl ?_ | refine cw_cond_t rfl ?_ | refine cw_skip ?_ | refine cw_exit ?_ | refine cw_ret ?_ | refine pw_then ?_ | refine pw_then_x ?_ | refine pw_then_r ?_ | refine pw_block ?_ | refine pw_block_e ?_ | refine pw_block_n rfl ?_ | refine pw_block_r ?_))
    refine g_bi .clear rfl ?_
    refine a_clear (e := 3) (z := .int .i64 0) (by kernel_rfl) (fun _ => rfl) rfl rfl rfl rfl rfl rfl rfl 0 rfl (by simpa using hcl) (fun _ _ => trivial) rfl ?_
    refine mx_weak (H' := [row b 3 ((A ++ B).flatMap cI ++ ([.int .i64 0] ++ rest))]) (fun w h => by
      have e1 : splice ((A ++ B ++ [g]).flatMap cI ++ rest) (0 + (A.length + B.length) * 1) (List.replicate (0 + 1) (.int .i64 0)) = (A ++ B).flatMap cI ++ ([.int .i64 0] ++ rest) := by
        have e2 := hsp.eq
        rw [show List.replicate (0 + 1) (Value.int .i64 0) = [.int .i64 0] from rfl, e2, List.flatMap_append, List.append_assoc]
        rfl
      rw [← e1]
      exact h) (fun _ _ => trivial) ?_
    (repeat (first | ((refine (?_ : MX _ _ _ _ _ _ _ _ _ _ _)); first | refine mx_end ?_ | (refine mx_mv _ rfl rfl (by conv => {lhs; whnf}) ?_) ) | refine cw_seq ?_ | refine cw_line rfl ?_ | refine pw_then ?_ ))
    refine mx_slice_to E rfl rfl rfl rfl rfl rfl (by omega) (by omega) rfl ?_
    rw [Int.toNat_natCast, ← hlen2]
    (repeat (first | ((refine (?_ : MX _ _ _ _ _ _ _ _ _ _ _)); first | refine mx_end ?_ | (refine mx_as _ rfl rfl (by conv => {lhs; whnf}) ?_) ) | refine cw_ret ?_ | refine pw_then ?_ ))
    exact pw_ret rfl rfl rfl rfl fun w' hw => ⟨(), rfl, ok_close (cap := cap) (z := 1) (len := (A ++ B).length) (xs := (A ++ B).flatMap cI) (rest := [.int .i64 0] ++ rest) 0 rfl (flatMap_len len_I _) (by rw [← q2]; simp [flatMap_len len_I]; omega) (by omega) q4 hw⟩
  obtain ⟨v, hv⟩ := getElem_some (xs := B) (i := k) (by omega)
  have hvn := hB v (List.mem_of_getElem? hv)
  have hdr : B.drop k = v :: B.drop (k + 1) := by
    rw [List.drop_eq_getElem_cons (by omega)]
    congr 1
    exact (List.getElem?_eq_some_iff.1 hv).2
  have htk : B.take (k + 1) = B.take k ++ [v] := by rw [List.take_add_one, hv]; rfl
  have htl : (B.take k).length = k := by rw [List.length_take]; omega
  have hrd : ((A ++ B.take k ++ [g] ++ B.drop k).flatMap cI ++ rest)[0 + (A.length + 1 + k) * 1]? = some (.int .i64 v) := rd_at len_I (xs := A ++ B.take k ++ [g] ++ B.drop k) (j := A.length + 1 + k) (x := v) (by
    rw [hdr, List.getElem?_append_right (by simp [htl]; omega)]
    have : A.length + 1 + k - (A ++ B.take k ++ [g]).length = 0 := by simp [htl]; omega
    rw [this]
    rfl) (o := 0) (show 0 < 1 by omega) rfl rest (by omega)
  have hsp : Sp ((A ++ B.take k ++ [g] ++ B.drop k).flatMap cI ++ rest) (0 + (A.length + k) * 1) [.int .i64 v] ((A ++ B.take (k + 1) ++ [v] ++ B.drop (k + 1)).flatMap cI ++ rest) := by
    have h2 := sp_at len_I (xs := A ++ B.take k ++ g :: B.drop k) (j := (A ++ B.take k).length) (x := g) (x' := v) (by simp) (o := 0) (us := [.int .i64 v]) (Sp.all rfl) rest (p := 0 + (A.length + k) * 1) (by simp [htl])
    rw [set_cat, hdr] at h2
    rw [htk, hdr]
    simpa using h2
  (repeat (first | ((refine (?_ : MX _ _ _ _ _ _ _ _ _ _ _)); first | refine mx_end ?_ | (refine mx_mv _ rfl rfl (by conv => {lhs; whnf}) ?_) | (refine mx_as _ rfl rfl (by conv => {lhs; whnf}) ?_) | (refine g_load rfl ?_; refine mx_get E rfl rfl rfl rfl rfl (by assumption ) rfl ?_ ) | (refine g_bin rfl ?_; ( (refine mx_cmpl .lss rfl rfl rfl rfl rfl (by exact cmp_lt_t (by omega) ) ?_) ) ) | (refine g_ix rfl ?_; refine mx_ixsn E rfl rfl rfl rfl rfl rfl (by omega) rfl ?_ ) | (refine g_bi .len rfl ?_; refine mx_len E rfl rfl rfl rfl ?_) ) | refine cw_seq ?_ | refine cw_line rfl ?_ | refine cw_block ?_ | refine cw_cond_t rfl ?_ | refine cw_skip ?_ | refine pw_then ?_ ))
  refine a_fcall (vf := []) (vc := [.pointer (some ⟨bq, 0, none⟩)]) rfl rfl rfl rfl rfl Try.func67 rfl rfl rfl (.bool false) (fun w' hw => by
    have h67 := clo67 v x bq w' (hq w' hw.keep)
    rw [decide_eq_false hvn] at h67
    exact h67) rfl ?_
  (repeat (first | ((refine (?_ : MX _ _ _ _ _ _ _ _ _ _ _)); first | refine mx_end ?_ | (refine mx_mv _ rfl rfl (by conv => {lhs; whnf}) ?_) | (refine mx_as _ rfl rfl (by conv => {lhs; whnf}) ?_) | (refine g_bin rfl ?_; ( refine mx_ar rfl rfl rfl rfl rfl rfl (IntWalk.i64_in _ (by omega)) rfl ?_ ) ) | (refine g_ix rfl ?_; refine mx_ixsn E rfl rfl rfl rfl rfl rfl (by omega) rfl ?_ ) | (refine mx_not rfl rfl rfl ?_) | (refine g_store rfl ?_; refine s_1 E rfl rfl rfl rfl rfl rfl rfl rfl (by assumption ) rfl ?_) ) | refine cw_seq ?_ | refine cw_line rfl ?_ | refine cw_cond_t rfl ?_ | refine pw_then ?_ | refine pw_block ?_ ))
  exact pw_round (k + 1, v) (by show k + 1 ≤ B.length; omega) (by show B.length - (k + 1) < B.length - k; omega) ⟨rfl, rfl, rfl, rfl, trivial⟩ (fun w h => h)
end Go.Proofs.Ytikdbgheefjpkaa
