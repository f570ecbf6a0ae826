/- Whether one of some events breaks one of others, by the program and by the document. -/
import Derived.Test.YtikdbgheefjpkaaKc
set_option maxRecDepth 100000
set_option maxHeartbeats 8000000
set_option linter.unusedSimpArgs false
set_option linter.unusedVariables false
namespace Go.Proofs.Ytikdbgheefjpkaa
open Go Go.Sx Go.RowKit
/-- Places. -/
def fidx {α : Type} (p : α → Bool) : List α → Nat → Option Nat
  | [], _ => none
  | x :: l, i => if p x = true then some i else fidx p l (i + 1)
def oix : Option Nat → Int
  | some i => i
  | none => -1
theorem fidx_le {α : Type} {p : α → Bool} : ∀ {l : List α} {i j : Nat}, fidx p l i = some j → i ≤ j ∧ j - i < l.length ∧ ∃ x, l[j - i]? = some x ∧ p x = true
  | [], i, j, h => by simp [fidx] at h
  | x :: l, i, j, h => by
    unfold fidx at h
    split at h
    · obtain rfl : i = j := by simpa using h
      exact ⟨Nat.le_refl _, by simp, x, by simp, by assumption⟩
    · obtain ⟨h1, h2, y, h3, h4⟩ := fidx_le h
      refine ⟨by omega, by simp; omega, y, ?_, h4⟩
      rw [show j - i = (j - (i + 1)) + 1 by omega]
      simpa using h3
theorem fidx_drop {α : Type} {p : α → Bool} {l : List α} {i : Nat} {x : α} (hx : l[i]? = some x) : fidx p (l.drop i) i = if p x = true then some i else fidx p (l.drop (i + 1)) (i + 1) := by
  have hi : i < l.length := (List.getElem?_eq_some_iff.1 hx).1
  have : l.drop i = x :: l.drop (i + 1) := by
    rw [List.drop_eq_getElem_cons hi]
    congr 1
    exact (List.getElem?_eq_some_iff.1 hx).2
  rw [this]
  rfl
theorem ixf82 (k : FuncId) (fn : Func) (hk : Try.prog.funcs[k]? = some fn) (hkb : fn.body.isSome = true) (hkn : (fn.name == "runtime.NumGoroutine") = false) (ad : Option Addr) (cap : Nat) (rows : List EV) (hs : rows.length ≤ 1000000000) (vc : List Value) (p : EV → Bool) (w : World) (hl : InL w ad 5 cEV rows) (hp : ∀ r ∈ rows, ∀ w', Grow w w' → Calls Try.prog k ([Value.agg (cEV r).toArray] ++ vc).toArray w' fun e w'' => e = .returned (.bool (p r)) ∧ Grow w' w'') :
    Calls Try.prog 82 #[.slice ad rows.length cap, .func (.func k) #[] vc.toArray] w fun e w' => e = .returned (.int .i64 (oix (fidx p rows 0))) ∧ Grow w w' := by
  refine enter2 (S := fun _ => False) 19 Try.func82 rfl rfl rfl (Ok.start w) ?_
  (repeat (first | ((refine (?_ : MX _ _ _ _ _ _ _ _ _ _ _)); first | refine mx_end ?_ | (refine mx_mv _ rfl rfl (by conv => {lhs; whnf}) ?_) | (refine mx_as _ rfl rfl (by conv => {lhs; whnf}) ?_) | (refine g_bi .len rfl ?_; refine mx_len E rfl rfl rfl rfl ?_) ) | refine cw_seq ?_ | refine cw_line rfl ?_ | refine cw_block ?_ | refine pw_then ?_ ))
  refine cw_loop (fun i : Nat => [(8, .int .i64 i), (7, .int .i64 rows.length), (0, .slice ad rows.length cap), (1, .func (.func k) #[] vc.toArray)]) (fun i => []) (fun i => i ≤ rows.length ∧ fidx p rows 0 = fidx p (rows.drop i) i) (fun i => rows.length - i) 0 ⟨by omega, rfl⟩ ⟨rfl, rfl, rfl, rfl, trivial⟩ (fun w h => h) ?_
  intro i jk ⟨hi, hf⟩
  by_cases h0 : (i : Int) < rows.length
  case neg =>
    have e : fidx p rows 0 = none := by rw [hf, List.drop_of_length_le (by omega)]; rfl
    rw [e]
    (repeat (first | ((refine (?_ : MX _ _ _ _ _ _ _ _ _ _ _)); first | refine mx_end ?_ | (refine mx_as _ rfl rfl (by conv => {lhs; whnf}) ?_) | (refine g_bin rfl ?_; ( (refine mx_cmpl .lss rfl rfl rfl rfl rfl (by exact cmp_lt_f (by omega) ) ?_) ) ) ) | refine cw_seq ?_ | refine cw_line rfl ?_ | refine cw_cond_f rfl ?_ | refine cw_exit ?_ | refine cw_ret ?_ | refine pw_then ?_ | refine pw_then_x ?_ | refine pw_block_e ?_ ))
    exact pw_ret rfl rfl rfl rfl fun w hw => ⟨rfl, hw.keep.grow⟩
  case pos =>
    obtain ⟨r, hx⟩ := getElem_some (xs := rows) (i := i) (by omega)
    obtain ⟨b4, off, e, hcc⟩ := inl_at hl hx
    subst e
    have hS : ¬ (fun _ : Nat => False) b4 := id
    have hc0 : ∀ (k : Nat) (v : Value), (cEV r)[k]? = some v → w.cell? ⟨b4, off + i * 5 + k, none⟩ = some v := hcc
    have hst := fidx_drop (p := p) hx
    (repeat (first | ((refine (?_ : MX _ _ _ _ _ _ _ _ _ _ _)); first | refine mx_end ?_ | (refine mx_mv _ rfl rfl (by conv => {lhs; whnf}) ?_) | (refine mx_as _ rfl rfl (by conv => {lhs; whnf}) ?_) | (refine g_load rfl ?_; refine mx_oldn E rfl rfl rfl rfl rfl (by assumption) (by assumption) (rfl) rfl ?_ ) | (refine g_bin rfl ?_; ( (refine mx_cmpl .lss rfl rfl rfl rfl rfl (by exact cmp_lt_t (by omega) ) ?_) ) ) | (refine g_ix rfl ?_; refine mx_ixsn E rfl rfl rfl rfl rfl rfl (by omega) rfl ?_ ) ) | refine cw_seq ?_ | refine cw_line rfl ?_ | refine cw_block ?_ | refine cw_cond_t rfl ?_ | refine cw_skip ?_ | refine pw_then ?_ ))
    refine a_fcall (vf := []) (vc := vc) rfl rfl rfl rfl rfl hk hkb hkn rfl (.bool (p r)) (fun w' hw => hp r (List.mem_of_getElem? hx) w' hw.keep.grow) rfl ?_
    cases hpr : p r with
    | true =>
      have e : fidx p rows 0 = some i := by rw [hf, hst, hpr]; rfl
      rw [e]
      (repeat (first | ((refine (?_ : MX _ _ _ _ _ _ _ _ _ _ _)); first | refine mx_end ?_ | (refine mx_mv _ rfl rfl (by conv => {lhs; whnf}) ?_) | (refine mx_as _ rfl rfl (by conv => {lhs; whnf}) ?_) ) | refine cw_seq ?_ | refine cw_line rfl ?_ | refine cw_cond_t rfl ?_ | refine cw_ret ?_ | refine pw_then ?_ | refine pw_then_r ?_ | refine pw_block_r ?_))
      exact pw_ret rfl rfl rfl rfl fun w hw => ⟨rfl, hw.keep.grow⟩
    | false =>
      (repeat (first | ((refine (?_ : MX _ _ _ _ _ _ _ _ _ _ _)); first | refine mx_end ?_ | (refine mx_mv _ rfl rfl (by conv => {lhs; whnf}) ?_) | (refine g_bin rfl ?_; ( refine mx_ar rfl rfl rfl rfl rfl rfl (IntWalk.i64_in _ (by omega)) rfl ?_ ) ) ) | refine cw_line rfl ?_ | refine cw_cond_f rfl ?_ | refine cw_skip ?_ | refine pw_then ?_ | refine pw_block ?_ ))
      refine pw_round (i + 1) ⟨by omega, by rw [hf, hst, hpr]; rfl⟩ (by omega) ⟨rfl, rfl, rfl, rfl, trivial⟩ (fun w h => h)
theorem oix_ge (o : Option Nat) : (decide (oix o ≥ 0)) = o.isSome := by
  cases o with
  | none => rfl
  | some i => simp [oix]
theorem fidx_some' {α : Type} {p : α → Bool} : ∀ {l : List α} {i : Nat}, (fidx p l i).isSome = l.any p
  | [], _ => rfl
  | x :: l, i => by
    unfold fidx
    rw [List.any_cons]
    cases p x with
    | true => rfl
    | false => simpa using fidx_some' (p := p) (l := l) (i := i + 1)
/-- Contains, of a question that each event answers. -/
theorem con60 (k : FuncId) (fn : Func) (hk : Try.prog.funcs[k]? = some fn) (hkb : fn.body.isSome = true) (hkn : (fn.name == "runtime.NumGoroutine") = false) (ad : Option Addr) (cap : Nat) (rows : List EV) (hs : rows.length ≤ 1000000) (vc : List Value) (p : EV → Bool) (w : World) (hl : InL w ad 5 cEV rows) (hp : ∀ r ∈ rows, ∀ w', Grow w w' → Calls Try.prog k ([Value.agg (cEV r).toArray] ++ vc).toArray w' fun e w'' => e = .returned (.bool (p r)) ∧ Grow w' w'') :
    Calls Try.prog 60 #[.slice ad rows.length cap, .func (.func k) #[] vc.toArray] w fun r w' => r = .returned (.bool (rows.any p)) ∧ Grow w w' := by
  refine enter2 (S := fun _ => False) 9 Try.func60 rfl rfl rfl (Ok.start w) ?_
  have hB : (fidx p rows 0).isSome = rows.any p := fidx_some'
  rw [← hB]
  cases hf : fidx p rows 0 with
  | none =>
    (repeat (first | ((refine (?_ : MX _ _ _ _ _ _ _ _ _ _ _)); first | refine mx_end ?_ | (refine mx_mv _ rfl rfl (by conv => {lhs; whnf}) ?_) | (refine mx_as _ rfl rfl (by conv => {lhs; whnf}) ?_) ) | refine cw_seq ?_ | refine cw_line rfl ?_ | refine pw_then ?_ ))
    refine g_cf 82 rfl ?_
    refine a_callv rfl rfl rfl rfl Try.func82 rfl rfl rfl (.int .i64 (-1)) (fun w' hw => by
      have := ixf82 k fn hk hkb hkn ad cap rows (by omega) vc p w' (hl.keep hw fun _ _ _ h => h) (fun r hr w'' hg => hp r hr w'' (hw.keep.trans (Chg.of_grow hg)).grow)
      rw [hf] at this
      exact this) rfl ?_
    (repeat (first | ((refine (?_ : MX _ _ _ _ _ _ _ _ _ _ _)); first | refine mx_end ?_ | (refine mx_as _ rfl rfl (by conv => {lhs; whnf}) ?_) | (refine g_bin rfl ?_; ( (refine mx_cmpl .geq rfl rfl rfl rfl rfl (by exact cmp_ge_f (by omega) ) ?_)) ) ) | refine cw_ret ?_ | refine pw_then ?_ ))
    exact pw_ret rfl rfl rfl rfl fun w hw => ⟨rfl, hw.keep.grow⟩
  | some i =>
    (repeat (first | ((refine (?_ : MX _ _ _ _ _ _ _ _ _ _ _)); first | refine mx_end ?_ | (refine mx_mv _ rfl rfl (by conv => {lhs; whnf}) ?_) | (refine mx_as _ rfl rfl (by conv => {lhs; whnf}) ?_) ) | refine cw_seq ?_ | refine cw_line rfl ?_ | refine pw_then ?_ ))
    refine g_cf 82 rfl ?_
    refine a_callv rfl rfl rfl rfl Try.func82 rfl rfl rfl (.int .i64 i) (fun w' hw => by
      have := ixf82 k fn hk hkb hkn ad cap rows (by omega) vc p w' (hl.keep hw fun _ _ _ h => h) (fun r hr w'' hg => hp r hr w'' (hw.keep.trans (Chg.of_grow hg)).grow)
      rw [hf] at this
      exact this) rfl ?_
    (repeat (first | ((refine (?_ : MX _ _ _ _ _ _ _ _ _ _ _)); first | refine mx_end ?_ | (refine mx_as _ rfl rfl (by conv => {lhs; whnf}) ?_) | (refine g_bin rfl ?_; ( (refine mx_cmpl .geq rfl rfl rfl rfl rfl (by exact cmp_ge_t (by omega) ) ?_)) ) ) | refine cw_ret ?_ | refine pw_then ?_ ))
    exact pw_ret rfl rfl rfl rfl fun w hw => ⟨rfl, hw.keep.grow⟩
theorem clo62 (x e : EV) (be : Nat) (hx : BytK x.v.key) (he : BytK e.v.key) (w : World) (hb : (row be 49 (cEV e)).holds w) (hl : InL w x.ka 1 cU x.v.key) (hl' : InL w e.ka 1 cU e.v.key) :
    Calls Try.prog 62 #[.agg (cEV x).toArray, .pointer (some ⟨be, 0, none⟩)] w fun r w' => r = .returned (.bool (likeV e.v x.v)) ∧ Grow w w' := by
  refine enter2 (S := fun _ => False) 7 Try.func62 rfl rfl rfl (Ok.start w) ?_
  have hS : ¬ (fun _ : Nat => False) be := id
  (repeat (first | ((refine (?_ : MX _ _ _ _ _ _ _ _ _ _ _)); first | refine mx_end ?_ | (refine mx_as _ rfl rfl (by conv => {lhs; whnf}) ?_) | (refine g_load rfl ?_; first | refine mx_getn E rfl rfl rfl rfl rfl (by exact Vr.all rfl ) rfl ?_ | refine mx_orown E rfl rfl rfl rfl rfl (by assumption) (by assumption) (by exact Vr.all rfl ) rfl ?_ ) | (refine g_box rfl ?_; refine a_boxl rfl rfl rfl rfl rfl rfl (fun _ => ?_) ) ) | refine cw_seq ?_ | refine cw_line rfl ?_ | refine pw_then ?_ ))
  refine g_cf 63 rfl ?_
  refine a_callv rfl rfl rfl rfl Try.func63 rfl rfl rfl (.bool (likeV e.v x.v)) (fun w' hw => alike63 e x he hx w' (hl'.keep hw fun _ _ _ h => h) (hl.keep hw fun _ _ _ h => h)) rfl ?_
  (repeat (first | ((refine (?_ : MX _ _ _ _ _ _ _ _ _ _ _)); first | refine mx_end ?_ | (refine mx_as _ rfl rfl (by conv => {lhs; whnf}) ?_) ) | refine cw_ret ?_ | refine pw_then ?_ ))
  exact pw_ret rfl rfl rfl rfl fun w hw => ⟨rfl, hw.keep.grow⟩
theorem clo61 (e : EV) (ad : Option Addr) (cap : Nat) (m : List EV) (bm : Nat) (hs : m.length ≤ 1000000) (he : BytK e.v.key) (w : World) (hb : (row bm 29 [.slice ad m.length cap]).holds w) (hm : EvR w ad m) (hl' : InL w e.ka 1 cU e.v.key) :
    Calls Try.prog 61 #[.agg (cEV e).toArray, .pointer (some ⟨bm, 0, none⟩)] w fun r w' => r = .returned (.bool ((m.map (·.v)).any (likeV e.v))) ∧ Grow w w' := by
  refine enter2 (S := fun _ => False) 7 Try.func61 rfl rfl rfl (Ok.start w) ?_
  have hS : ¬ (fun _ : Nat => False) bm := id
  (repeat (first | ((refine (?_ : MX _ _ _ _ _ _ _ _ _ _ _)); first | refine mx_end ?_ | (refine mx_as _ rfl rfl (by conv => {lhs; whnf}) ?_) | (refine g_load rfl ?_; refine mx_orow E rfl rfl rfl rfl rfl (by assumption) (by assumption) (by rfl) rfl ?_ ) | (refine g_box rfl ?_; refine a_boxl rfl rfl rfl rfl rfl rfl (fun _ => ?_) ) | ( refine mx_fn rfl rfl rfl rfl rfl rfl ?_) ) | refine cw_seq ?_ | refine cw_line rfl ?_ | refine pw_then ?_ ))
  rename_i be
  refine g_cf 60 rfl ?_
  refine a_callv rfl rfl rfl rfl Try.func60 rfl rfl rfl (.bool ((m.map (·.v)).any (likeV e.v))) (fun w' hw => by
    have := con60 62 _ Try.func62 rfl rfl ad cap m hs [.pointer (some ⟨be, 0, none⟩)] (fun x => likeV e.v x.v) w' (hm.l.keep hw fun _ _ _ h => h) (fun r hr w'' hg => clo62 r e be (hm.k r hr).2.1 he w'' ((row be 49 (cEV e)).loc w' w'' (fun b hb' => hg.block b (row_lt (hw.holds 0 _ rfl) b hb')) (hw.holds 0 _ rfl)) (((hm.k r hr).1.keep hw fun _ _ _ h => h).grow hg) ((hl'.keep hw fun _ _ _ h => h).grow hg))
    rw [List.any_map]
    exact this) rfl ?_
  (repeat (first | ((refine (?_ : MX _ _ _ _ _ _ _ _ _ _ _)); first | refine mx_end ?_ | (refine mx_as _ rfl rfl (by conv => {lhs; whnf}) ?_) ) | refine cw_ret ?_ | refine pw_then ?_ ))
  exact pw_ret rfl rfl rfl rfl fun w hw => ⟨rfl, hw.keep.grow⟩
/-- The program's Breaks. -/
theorem breaks29 (ad ad' : Option Addr) (cap cap' : Nat) (l m : List EV) (hs : l.length ≤ 1000000) (hs' : m.length ≤ 1000000) (w : World) (hl : EvR w ad l) (hm : EvR w ad' m) :
    Calls Try.prog 29 #[.slice ad l.length cap, .slice ad' m.length cap'] w fun r w' => r = .returned (.bool (brkV (l.map (·.v)) (m.map (·.v)))) ∧ Grow w w' := by
  refine enter2 (S := fun _ => False) 8 Try.func29 rfl rfl rfl (Ok.start w) ?_
  (repeat (first | ((refine (?_ : MX _ _ _ _ _ _ _ _ _ _ _)); first | refine mx_end ?_ | (refine mx_mv _ rfl rfl (by conv => {lhs; whnf}) ?_) | (refine mx_as _ rfl rfl (by conv => {lhs; whnf}) ?_) | (refine g_box rfl ?_; refine a_box1 rfl rfl rfl rfl rfl rfl rfl (fun _ => ?_)) | ( refine mx_fn rfl rfl rfl rfl rfl rfl ?_) ) | refine cw_seq ?_ | refine cw_line rfl ?_ | refine pw_then ?_ ))
  rename_i bm
  refine g_cf 60 rfl ?_
  refine a_callv rfl rfl rfl rfl Try.func60 rfl rfl rfl (.bool (brkV (l.map (·.v)) (m.map (·.v)))) (fun w' hw => by
    have := con60 61 _ Try.func61 rfl rfl ad cap l hs [.pointer (some ⟨bm, 0, none⟩)] (fun x : EV => (m.map (fun y : EV => y.v)).any (likeV x.v)) w' (hl.l.keep hw fun _ _ _ h => h) (fun r hr w'' hg => clo61 r ad' cap' m bm hs' (hl.k r hr).2.1 w'' ((row bm 29 [.slice ad' m.length cap']).loc w' w'' (fun b hb' => hg.block b (row_lt (hw.holds 0 _ rfl) b hb')) (hw.holds 0 _ rfl)) ((hm.keep hw).grow hg) (((hl.k r hr).1.keep hw fun _ _ _ h => h).grow hg))
    unfold brkV
    rw [List.any_map]
    exact this) rfl ?_
  (repeat (first | ((refine (?_ : MX _ _ _ _ _ _ _ _ _ _ _)); first | refine mx_end ?_ | (refine mx_as _ rfl rfl (by conv => {lhs; whnf}) ?_) ) | refine cw_ret ?_ | refine pw_then ?_ ))
  exact pw_ret rfl rfl rfl rfl fun w hw => ⟨rfl, hw.keep.grow⟩
theorem any_drop {α : Type} {p : α → Bool} {l : List α} {i : Nat} {x : α} (hx : l[i]? = some x) : (l.drop i).any p = (p x || (l.drop (i + 1)).any p) := by
  have hi : i < l.length := (List.getElem?_eq_some_iff.1 hx).1
  have : l.drop i = x :: l.drop (i + 1) := by
    rw [List.drop_eq_getElem_cons hi]
    congr 1
    exact (List.getElem?_eq_some_iff.1 hx).2
  rw [this, List.any_cons]
/-- The document's. -/
theorem breaks55 (ad ad' : Option Addr) (cap cap' : Nat) (l m : List EV) (hs : l.length ≤ 1000000) (hs' : m.length ≤ 1000000) (w : World) (hl : EvR w ad l) (hm : EvR w ad' m) :
    Calls Try.prog 55 #[.slice ad l.length cap, .slice ad' m.length cap'] w fun r w' => r = .returned (.bool (brkV (l.map (·.v)) (m.map (·.v)))) ∧ Grow w w' := by
  refine enter2 (S := fun _ => False) 28 Try.func55 rfl rfl rfl (Ok.start w) ?_
  (repeat (first | ((refine (?_ : MX _ _ _ _ _ _ _ _ _ _ _)); first | refine mx_end ?_ | (refine mx_as _ rfl rfl (by conv => {lhs; whnf}) ?_) ) | refine cw_seq ?_ | refine cw_line rfl ?_ | refine cw_block ?_ | refine pw_then ?_ ))
  refine cw_loop (fun i : Nat => [(5, .int .i64 i), (0, .slice ad l.length cap), (1, .slice ad' m.length cap')]) (fun i => []) (fun i => i ≤ l.length ∧ brkV (l.map (·.v)) (m.map (·.v)) = (l.drop i).any fun e => (m.map (·.v)).any (likeV e.v)) (fun i => l.length - i) 0 ⟨Nat.zero_le _, by unfold brkV; rw [List.any_map]; rfl⟩ ⟨rfl, rfl, rfl, trivial⟩ (fun w h => h) ?_
  intro i jk ⟨hi, hf⟩
  by_cases h0 : (i : Int) < l.length
  case neg =>
    have e : brkV (l.map (·.v)) (m.map (·.v)) = false := by rw [hf, List.drop_of_length_le (by omega)]; rfl
    rw [e]
    (repeat (first | ((refine (?_ : MX _ _ _ _ _ _ _ _ _ _ _)); first | refine mx_end ?_ | (refine mx_mv _ rfl rfl (by conv => {lhs; whnf}) ?_) | (refine mx_as _ rfl rfl (by conv => {lhs; whnf}) ?_) | (refine g_bin rfl ?_; ( (refine mx_cmpl .lss rfl rfl rfl rfl rfl (by exact cmp_lt_f (by omega) ) ?_) ) ) | (refine g_bi .len rfl ?_; refine mx_len E rfl rfl rfl rfl ?_) ) | refine cw_seq ?_ | refine cw_line rfl ?_ | refine cw_cond_f rfl ?_ | refine cw_exit ?_ | refine cw_ret ?_ | refine pw_then ?_ | refine pw_then_x ?_ | refine pw_block_e ?_ ))
    exact pw_ret rfl rfl rfl rfl fun w hw => ⟨rfl, hw.keep.grow⟩
  obtain ⟨x, hx⟩ := getElem_some (xs := l) (i := i) (by omega)
  obtain ⟨b4, off, e, hcc⟩ := inl_at hl.l hx
  subst e
  have hS : ¬ (fun _ : Nat => False) b4 := id
  have hc0 : ∀ (k : Nat) (v : Value), (cEV x)[k]? = some v → w.cell? ⟨b4, off + i * 5 + k, none⟩ = some v := hcc
  have hxk := hl.k x (List.mem_of_getElem? hx)
  rw [any_drop hx] at hf
  (repeat (first | ((refine (?_ : MX _ _ _ _ _ _ _ _ _ _ _)); first | refine mx_end ?_ | (refine mx_mv _ rfl rfl (by conv => {lhs; whnf}) ?_) | (refine mx_as _ rfl rfl (by conv => {lhs; whnf}) ?_) | (refine g_bin rfl ?_; ( (refine mx_cmpl .lss rfl rfl rfl rfl rfl (by exact cmp_lt_t (by omega) ) ?_) ) ) | (refine g_bi .len rfl ?_; refine mx_len E rfl rfl rfl rfl ?_) ) | refine cw_seq ?_ | refine cw_line rfl ?_ | refine cw_block ?_ | refine cw_cond_t rfl ?_ | refine cw_skip ?_ | refine pw_then ?_ ))
  refine cw_loop (fun j : Nat => [(6, .int .i64 j), (5, .int .i64 i), (0, .slice (some ⟨b4, off, none⟩) l.length cap), (1, .slice ad' m.length cap')]) (fun j => []) (fun j => j ≤ m.length ∧ (m.map (·.v)).any (likeV x.v) = (m.drop j).any fun y => likeV x.v y.v) (fun j => m.length - j) 0 ⟨Nat.zero_le _, by rw [List.any_map]; rfl⟩ ⟨rfl, rfl, rfl, rfl, trivial⟩ (fun w h => h) ?_
  intro j jk2 ⟨hj, hg⟩
  by_cases h1 : (j : Int) < m.length
  case neg =>
    have e : (m.map (·.v)).any (likeV x.v) = false := by rw [hg, List.drop_of_length_le (by omega)]; rfl
    rw [e, Bool.false_or] at hf
    (repeat (first | ((refine (?_ : MX _ _ _ _ _ _ _ _ _ _ _)); first | refine mx_end ?_ | (refine mx_mv _ rfl rfl (by conv => {lhs; whnf}) ?_) | (refine mx_as _ rfl rfl (by conv => {lhs; whnf}) ?_) | (refine g_bin rfl ?_; first | ( (refine mx_cmpl .lss rfl rfl rfl rfl rfl (by first | exact cmp_lt_t (by omega) | exact cmp_lt_f (by omega) ) ?_) ) | ( refine mx_ar rfl rfl rfl rfl rfl rfl (IntWalk.i64_in _ (by omega)) rfl ?_ ) ) | (refine g_bi .len rfl ?_; refine mx_len E rfl rfl rfl rfl ?_) ) | refine cw_seq ?_ | refine cw_line rfl ?_ | refine cw_cond_f rfl ?_ | refine cw_exit ?_ | refine pw_then ?_ | refine pw_then_x ?_ | refine pw_block ?_ | refine pw_block_e ?_ ))
    exact pw_round (i + 1) ⟨by omega, hf⟩ (by omega) ⟨rfl, rfl, rfl, trivial⟩ (fun w h => h)
  obtain ⟨y, hy⟩ := getElem_some (xs := m) (i := j) (by omega)
  obtain ⟨b5, off5, e5, hcc5⟩ := inl_at hm.l hy
  subst e5
  have hS5 : ¬ (fun _ : Nat => False) b5 := id
  have hc5 : ∀ (k : Nat) (v : Value), (cEV y)[k]? = some v → w.cell? ⟨b5, off5 + j * 5 + k, none⟩ = some v := hcc5
  have hyk := hm.k y (List.mem_of_getElem? hy)
  rw [any_drop hy] at hg
  (repeat (first | ((refine (?_ : MX _ _ _ _ _ _ _ _ _ _ _)); first | refine mx_end ?_ | (refine mx_mv _ rfl rfl (by conv => {lhs; whnf}) ?_) | (refine g_bin rfl ?_; ( (refine mx_cmpl .lss rfl rfl rfl rfl rfl (by exact cmp_lt_t (by omega) ) ?_) ) ) | (refine g_bi .len rfl ?_; refine mx_len E rfl rfl rfl rfl ?_) ) | refine cw_seq ?_ | refine cw_line rfl ?_ | refine cw_block ?_ | refine cw_cond_t rfl ?_ | refine cw_skip ?_ | refine pw_then ?_ ))
  refine cw_drawm [0, 1, 2, 3, 4, 5, 6, 7, 8] (fun i => Nat.beq i 8) [] mixed (by kernel_rfl) (fun w h => h.nil) ?_
  (repeat (((refine (?_ : MX _ _ _ _ _ _ _ _ _ _ _)); first | (refine mx_mv _ rfl rfl (by conv => {lhs; whnf}) ?_) | (refine g_load rfl ?_; refine mx_oldn E rfl rfl rfl rfl rfl (by assumption) (by assumption) (rfl) rfl ?_ ) | (refine g_ix rfl ?_; refine mx_ixsn E rfl rfl rfl rfl rfl rfl (by omega) rfl ?_ ) ) ))
  refine g_cf 79 rfl ?_
  refine a_callv rfl rfl rfl rfl Try.func79 rfl rfl rfl (.bool (likeV x.v y.v)) (fun w' hw => alike79 x y (by omega) w' (hxk.1.keep hw fun _ _ _ h => h) (hyk.1.keep hw fun _ _ _ h => h)) rfl ?_
  cases hb : likeV x.v y.v with
  | true =>
    have e : brkV (l.map (·.v)) (m.map (·.v)) = true := by rw [hf, hg, hb]; rfl
    rw [e]
    (repeat (first | ((refine (?_ : MX _ _ _ _ _ _ _ _ _ _ _)); first | refine mx_end ?_ | (refine mx_as _ rfl rfl (by conv => {lhs; whnf}) ?_) ) | refine cw_seq ?_ | refine cw_line rfl ?_ | refine cw_cond_t rfl ?_ | refine cw_ret ?_ | refine pw_then ?_ | refine pw_then_r ?_ | refine pw_block_r ?_))
    exact pw_ret rfl rfl rfl rfl fun w hw => ⟨rfl, hw.keep.grow⟩
  | false =>
    rw [hb, Bool.false_or] at hg
    (repeat (first | ((refine (?_ : MX _ _ _ _ _ _ _ _ _ _ _)); first | refine mx_end ?_ | (refine mx_mv _ rfl rfl (by conv => {lhs; whnf}) ?_) | (refine mx_as _ rfl rfl (by conv => {lhs; whnf}) ?_) | (refine g_bin rfl ?_; ( refine mx_ar rfl rfl rfl rfl rfl rfl (IntWalk.i64_in _ (by omega)) rfl ?_ ) ) ) | refine cw_line rfl ?_ | refine cw_cond_f rfl ?_ | refine cw_skip ?_ | refine pw_then ?_ | refine pw_block ?_ ))
    exact pw_round (j + 1) ⟨by omega, hg⟩ (by omega) ⟨rfl, rfl, rfl, rfl, trivial⟩ (fun w h => h)
end Go.Proofs.Ytikdbgheefjpkaa
