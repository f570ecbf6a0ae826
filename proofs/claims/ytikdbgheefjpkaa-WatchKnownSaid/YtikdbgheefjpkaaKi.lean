/- The document's watch: Drop, Progs, Hit. -/
import Derived.Test.YtikdbgheefjpkaaKh
set_option maxRecDepth 100000
set_option maxHeartbeats 8000000
set_option linter.unusedSimpArgs false
set_option linter.unusedVariables false
namespace Go.Proofs.Ytikdbgheefjpkaa
open Go Go.Sx Go.RowKit
theorem b83 : Blt Try.prog 83 [] [.slice none 0 0] := ⟨by kernel_rfl⟩
theorem b86 (k : Int) (a : Option Addr) (n c : Nat) : Blt Try.prog 86 [(0, .int .i64 k), (1, .slice a n c)] [.int .i64 k, .slice a n c] := ⟨by kernel_rfl⟩
attribute [instance] ze86
@[reducible] def cRW (e : WE) : List Value := [.int .i64 e.k, .slice e.ad e.evs.length e.cap]
theorem len_RW (x : WE) : (cRW x).length = 2 := rfl
/-- The document's watch. -/
def RX (bx : Nat) (la : Option Addr) (lc : Nat) (rows : List WE) : List Res := [row bx 83 [.slice la rows.length lc], ownd la lc 86 2 rows.length (rows.flatMap cRW), allW rows]
theorem new14 (w : World) : Calls Try.prog 14 #[] w fun e w' => ∃ a : Nat, e = .returned (.pointer (some ⟨a, 0, none⟩)) ∧ Ok (domL []) w (RX a none 0 []) w' := by
  refine enter0 (S := domL []) 3 Try.func14 rfl rfl rfl (Ok.start w) ?_
  (repeat (first | ((refine (?_ : MX _ _ _ _ _ _ _ _ _ _ _)); first | refine mx_end ?_ | (refine mx_as _ rfl rfl (by conv => {lhs; whnf}) ?_) | (refine g_build rfl ?_; refine mx_build rfl rfl rfl rfl b83 rfl ?_ ) | (refine g_box rfl ?_; refine a_boxl rfl rfl rfl rfl rfl rfl (fun _ => ?_) ) ) | refine cw_seq ?_ | refine cw_line rfl ?_ | refine cw_ret ?_ | refine pw_then ?_ ))
  refine pw_ret rfl rfl rfl rfl fun w' hw => ⟨_, rfl, ?_⟩
  exact (allW_nil (hw.own_nil 86 2)).pick [2, 1, 0] (by simp) rfl
theorem drop19 (bx : Nat) (la : Option Addr) (lc : Nat) (rows : List WE) (k : Int) (hs : rows.length ≤ 100000) (w : World) (hl : InL w la 2 cRW rows) (hne : rows ≠ [] → ∀ b off, la = some ⟨b, off, none⟩ → ¬ domL [row bx 83 [.slice la rows.length lc]] b) (h0 : Ok (domL [row bx 83 [.slice la rows.length lc]]) w [row bx 83 [.slice la rows.length lc]] w) :
    Calls Try.prog 19 #[.pointer (some ⟨bx, 0, none⟩), .int .i64 k] w fun e w' => ∃ a : Option Addr × Nat, e = .returned (.tuple #[]) ∧ Ok (domL [row bx 83 [.slice la rows.length lc]]) w [row bx 83 [.slice a.1 (rows.filter fun e => decide (e.k ≠ k)).length a.2], ownd a.1 a.2 86 2 (rows.filter fun e => decide (e.k ≠ k)).length ((rows.filter fun e => decide (e.k ≠ k)).flatMap cRW)] w' := by
  refine enter2 (S := domL [row bx 83 [.slice la rows.length lc]]) (H := [row bx 83 [.slice la rows.length lc]]) 39 Try.func19 rfl rfl rfl h0 ?_
  (repeat (first | ((refine (?_ : MX _ _ _ _ _ _ _ _ _ _ _)); first | refine mx_end ?_ | (refine mx_as _ rfl rfl (by conv => {lhs; whnf}) ?_) ) | refine cw_seq ?_ | refine cw_line rfl ?_ | refine cw_block ?_ | refine pw_then ?_ ))
  refine cw_loop (ι := Nat × (Option Addr × Nat)) (fun q => [(5, .int .i64 q.1), (4, .slice q.2.1 ((rows.take q.1).filter fun e => decide (e.k ≠ k)).length q.2.2), (0, .pointer (some ⟨bx, 0, none⟩)), (1, .int .i64 k)]) (fun q => [ownd q.2.1 q.2.2 86 2 ((rows.take q.1).filter fun e => decide (e.k ≠ k)).length (((rows.take q.1).filter fun e => decide (e.k ≠ k)).flatMap cRW), row bx 83 [.slice la rows.length lc]]) (fun q => q.1 ≤ rows.length) (fun q => rows.length - q.1) (0, (none, 0)) (Nat.zero_le _) ⟨rfl, rfl, rfl, rfl, trivial⟩ (fun w h => h.own_nil 86 2) ?_
  rintro ⟨i, ⟨a1, c1⟩⟩ jk hi
  dsimp only at hi ⊢
  by_cases h1 : (i : Int) < rows.length
  case neg =>
    obtain rfl : i = rows.length := by omega
    rw [List.take_length]
    (repeat (first | ((refine (?_ : MX _ _ _ _ _ _ _ _ _ _ _)); first | refine mx_end ?_ | (refine mx_mv _ rfl rfl (by conv => {lhs; whnf}) ?_) | (refine mx_fa0 E rfl rfl rfl rfl ?_ ) | (refine g_load rfl ?_; refine mx_get E rfl rfl rfl rfl rfl (by rfl) rfl ?_ ) | (refine g_bin rfl ?_; ( (refine mx_cmpl .lss rfl rfl rfl rfl rfl (by exact cmp_lt_f (by omega) ) ?_) ) ) | (refine mx_nc rfl rfl rfl ?_) | (refine g_bi .len rfl ?_; refine mx_len E rfl rfl rfl rfl ?_) | (refine g_store rfl ?_; refine s_1 E rfl rfl rfl rfl rfl rfl rfl rfl (by exact sp0 ) rfl ?_) ) | refine cw_seq ?_ | refine cw_line rfl ?_ | refine cw_cond_f rfl ?_ | refine cw_exit ?_ | refine pw_then ?_ | refine pw_then_x ?_ | refine pw_block_e ?_ ))
    exact pw_ret0 rfl rfl fun w' hw => ⟨(a1, c1), rfl, hw.pick [1, 0] (by simp) rfl⟩
  obtain ⟨x, hx⟩ := getElem_some (xs := rows) (i := i) (by omega)
  have hne' := hne (by intro e; subst e; simp at hx)
  obtain ⟨b4, off, e, hcc⟩ := inl_at hl hx
  subst e
  have hS : ¬ (domL [row bx 83 [.slice (some ⟨b4, off, none⟩) rows.length lc]] : Nat → Prop) b4 := hne' b4 off rfl
  have hc0 : ∀ (k : Nat) (v : Value), (cRW x)[k]? = some v → w.cell? ⟨b4, off + i * 2 + k, none⟩ = some v := hcc
  have hc1 : w.cell? ⟨b4, off + i * 2, none⟩ = some (.int .i64 x.k) := hcc 0 _ rfl
  have htk : rows.take (i + 1) = rows.take i ++ [x] := by rw [List.take_add_one, hx]; rfl
  have hfl : ((rows.take i).filter fun e => decide (e.k ≠ k)).length ≤ 100000 := by
    refine Nat.le_trans (List.length_filter_le ..) ?_
    rw [List.length_take]
    omega
  by_cases hk : x.k = k
  · have e2 : ((rows.take (i + 1)).filter fun e => decide (e.k ≠ k)) = (rows.take i).filter fun e => decide (e.k ≠ k) := by rw [htk, List.filter_append, List.filter_cons_of_neg (by simp [hk])]; simp
    (repeat (first | ((refine (?_ : MX _ _ _ _ _ _ _ _ _ _ _)); first | refine mx_end ?_ | (refine mx_mv _ rfl rfl (by conv => {lhs; whnf}) ?_) | (refine mx_as _ rfl rfl (by conv => {lhs; whnf}) ?_) | (refine mx_fa0 E rfl rfl rfl rfl ?_ ) | (refine g_load rfl ?_; first | refine mx_get E rfl rfl rfl rfl rfl (by rfl) rfl ?_ | refine mx_old1 E rfl rfl rfl rfl rfl (by assumption) (by assumption) rfl ?_ ) | (refine g_bin rfl ?_; first | (first | (refine mx_cmpl .neq rfl rfl rfl rfl rfl (by exact cmp_ne_f (by omega) ) ?_) | (refine mx_cmpl .lss rfl rfl rfl rfl rfl (by exact cmp_lt_t (by omega) ) ?_) ) | ( refine mx_ar rfl rfl rfl rfl rfl rfl (IntWalk.i64_in _ (by omega)) rfl ?_ ) ) | (refine g_ix rfl ?_; refine mx_ixsn E rfl rfl rfl rfl rfl rfl (by omega) rfl ?_ ) | (refine mx_nc rfl rfl rfl ?_) | (refine g_bi .len rfl ?_; refine mx_len E rfl rfl rfl rfl ?_) ) | refine cw_seq ?_ | refine cw_line rfl ?_ | refine cw_block ?_ | refine cw_cond_f rfl ?_ | refine cw_cond_t rfl ?_ | refine cw_skip ?_ | refine pw_then ?_ | refine pw_block ?_ ))
    exact pw_round (i + 1, (a1, c1)) (by show i + 1 ≤ rows.length; omega) (by show rows.length - (i + 1) < rows.length - i; omega) (by dsimp only; rw [e2]; exact ⟨rfl, rfl, rfl, rfl, trivial⟩) (fun w h => by dsimp only; rw [e2]; exact h)
  · have e2 : ((rows.take (i + 1)).filter fun e => decide (e.k ≠ k)) = ((rows.take i).filter fun e => decide (e.k ≠ k)) ++ [x] := by rw [htk, List.filter_append, List.filter_cons_of_pos (by simpa using hk)]; simp
    have e3 : ((rows.take i).filter fun e => decide (e.k ≠ k)).flatMap cRW ++ cRW x = ((rows.take (i + 1)).filter fun e => decide (e.k ≠ k)).flatMap cRW := by rw [e2, List.flatMap_append]; simp
    have e4 : ((rows.take i).filter fun e => decide (e.k ≠ k)).length + 1 = ((rows.take (i + 1)).filter fun e => decide (e.k ≠ k)).length := by rw [e2]; simp
    (repeat (first | ((refine (?_ : MX _ _ _ _ _ _ _ _ _ _ _)); first | refine mx_end ?_ | (refine mx_mv _ rfl rfl (by conv => {lhs; whnf}) ?_) | (refine mx_fa0 E rfl rfl rfl rfl ?_ ) | (refine g_load rfl ?_; first | refine mx_get E rfl rfl rfl rfl rfl (by rfl) rfl ?_ | refine mx_oldn E rfl rfl rfl rfl rfl (by assumption) (by assumption) (rfl) rfl ?_ | refine mx_old1 E rfl rfl rfl rfl rfl (by assumption) (by assumption) rfl ?_ ) | (refine g_bin rfl ?_; (first | (refine mx_cmpl .neq rfl rfl rfl rfl rfl (by exact cmp_ne_t (by omega) ) ?_) | (refine mx_cmpl .lss rfl rfl rfl rfl rfl (by exact cmp_lt_t (by omega) ) ?_) ) ) | (refine g_ix rfl ?_; refine mx_ixsn E rfl rfl rfl rfl rfl rfl (by omega) rfl ?_ ) | (refine mx_nc rfl rfl rfl ?_) | (refine g_bi .len rfl ?_; refine mx_len E rfl rfl rfl rfl ?_) ) | refine cw_seq ?_ | refine cw_line rfl ?_ | refine cw_block ?_ | refine cw_cond_t rfl ?_ | refine cw_skip ?_ | refine pw_then ?_ ))
    refine g_bs rfl ?_
    refine a_bslice1 E rfl rfl rfl rfl (us := cRW x) rfl rfl rfl rfl rfl rfl (fun b9 => ?_)
    refine g_bi .append rfl ?_
    refine a_app E rfl rfl rfl rfl rfl rfl rfl rfl (cRW x) rfl (fun w hw => fun _ => ⟨b9, 0, rfl, fun j u hj => by rw [add_at, Nat.zero_add]; exact row_cell (hw.holds 0 _ rfl) hj⟩) rfl (by omega) rfl (fun _ _ _ _ => trivial) (fun a2 c2 => ?_)
    rw [e3, e4]
    (repeat (first | ((refine (?_ : MX _ _ _ _ _ _ _ _ _ _ _)); first | refine mx_end ?_ | (refine mx_mv _ rfl rfl (by conv => {lhs; whnf}) ?_) | (refine mx_as _ rfl rfl (by conv => {lhs; whnf}) ?_) | (refine g_bin rfl ?_; ( refine mx_ar rfl rfl rfl rfl rfl rfl (IntWalk.i64_in _ (by omega)) rfl ?_ ) ) ) | refine cw_line rfl ?_ | refine pw_then ?_ | refine pw_block ?_ ))
    exact pw_round (i + 1, (a2, c2)) (by show i + 1 ≤ rows.length; omega) (by show rows.length - (i + 1) < rows.length - i; omega) ⟨rfl, rfl, rfl, rfl, trivial⟩ (fun w h => h.pick [1, 2] (by simp) rfl)
/-- As a whole. -/
theorem sepX {S : Nat → Prop} {w0 w : World} {bx : Nat} {la : Option Addr} {lc : Nat} {rows : List WE} (h : Ok S w0 (RX bx la lc rows) w) : rows ≠ [] → ∀ b off, la = some ⟨b, off, none⟩ → ¬ domL [row bx 83 [.slice la rows.length lc]] b := fun hne b off e hd => by
  obtain ⟨j, r, hj, hr⟩ := hd
  have hj0 : j = 0 := by have := (List.getElem?_eq_some_iff.1 hj).1; simpa using this
  subst hj0
  obtain rfl : row bx 83 [.slice la rows.length lc] = r := by simpa using hj
  obtain rfl : b = bx := hr
  refine h.sep 0 1 _ _ rfl rfl (by omega) b rfl ?_
  obtain ⟨b2, e2, _⟩ := (own_at (h.holds 1 _ rfl)).2.1 (List.length_pos_iff.2 hne)
  rw [e] at e2
  show (Value.slice la rows.length lc).ownBlock = some b
  rw [e]
  obtain rfl : off = 0 := congrArg Addr.off (Option.some.inj e2)
  simp [Value.ownBlock]
theorem inX {S : Nat → Prop} {w0 w : World} {bx : Nat} {la : Option Addr} {lc : Nat} {rows : List WE} (h : Ok S w0 (RX bx la lc rows) w) : InL w la 2 cRW rows := own_in len_RW (h.holds 1 _ rfl) (Nat.le_refl _)
theorem drop19o (bx : Nat) (la : Option Addr) (lc : Nat) (rows : List WE) (k : Int) (hs : rows.length ≤ 100000) (w : World) (h0 : Ok (domL (RX bx la lc rows)) w (RX bx la lc rows) w) :
    Calls Try.prog 19 #[.pointer (some ⟨bx, 0, none⟩), .int .i64 k] w fun e w' => ∃ a : Option Addr × Nat, e = .returned (.tuple #[]) ∧ Ok (domL (RX bx la lc rows)) w (RX bx a.1 a.2 (rows.filter fun e => decide (e.k ≠ k))) w' :=
  (drop19 bx la lc rows k hs w (inX h0) (sepX h0) (Ok.enterL (L := [row bx 83 [.slice la rows.length lc]]) (H := [ownd la lc 86 2 rows.length (rows.flatMap cRW), allW rows]) h0)).mono fun e w' ⟨a, h1, h2⟩ => ⟨a, h1, by
    have h3 := Ok.backL (L := [row bx 83 [.slice la rows.length lc]]) (H := [ownd la lc 86 2 rows.length (rows.flatMap cRW), allW rows]) h0 h2
    have h4 := h3.pick (H' := [allW rows, row bx 83 [.slice a.1 (rows.filter fun e => decide (e.k ≠ k)).length a.2], ownd a.1 a.2 86 2 (rows.filter fun e => decide (e.k ≠ k)).length ((rows.filter fun e => decide (e.k ≠ k)).flatMap cRW)]) [3, 0, 1] (by simp) rfl
    exact (allW_sub (l' := rows.filter fun e => decide (e.k ≠ k)) List.filter_sublist h4).pick [1, 2, 0] (by simp) rfl⟩
/-! ### Progs -/
theorem dprogs27 (bx : Nat) (la : Option Addr) (lc : Nat) (rows : List WE) (hs : rows.length ≤ 100000) (w : World) (h1 : (row bx 83 [.slice la rows.length lc]).holds w) (hl : InL w la 2 cRW rows) :
    Calls Try.prog 27 #[.pointer (some ⟨bx, 0, none⟩)] w fun e w' => ∃ a : Option Addr × Nat, e = .returned (.slice a.1 rows.length a.2) ∧ Ok (domL []) w [ownd a.1 a.2 3 1 rows.length ((rows.map WE.k).flatMap cI)] w' := by
  refine enter1 (S := domL []) 26 Try.func27 rfl rfl rfl (Ok.start w) ?_
  have hS0 : ¬ (domL [] : Nat → Prop) bx := no_dom _
  (repeat (first | ((refine (?_ : MX _ _ _ _ _ _ _ _ _ _ _)); first | refine mx_end ?_ | (refine mx_as _ rfl rfl (by conv => {lhs; whnf}) ?_) ) | refine cw_seq ?_ | refine cw_line rfl ?_ | refine cw_block ?_ | refine pw_then ?_ ))
  refine cw_loop (ι := Nat × (Option Addr × Nat)) (fun q => [(4, .int .i64 q.1), (3, .slice q.2.1 q.1 q.2.2), (0, .pointer (some ⟨bx, 0, none⟩))]) (fun q => [ownd q.2.1 q.2.2 3 1 q.1 (((rows.map WE.k).take q.1).flatMap cI)]) (fun q => q.1 ≤ rows.length) (fun q => rows.length - q.1) (0, (none, 0)) (Nat.zero_le _) ⟨rfl, rfl, rfl, trivial⟩ (fun w h => h.own_nil 3 1) ?_
  rintro ⟨i, ⟨a1, c1⟩⟩ jk hi
  dsimp only at hi ⊢
  by_cases h2 : (i : Int) < rows.length
  case neg =>
    obtain rfl : i = rows.length := by omega
    rw [List.take_of_length_le (by simp)]
    (repeat (first | ((refine (?_ : MX _ _ _ _ _ _ _ _ _ _ _)); first | refine mx_end ?_ | (refine mx_mv _ rfl rfl (by conv => {lhs; whnf}) ?_) | (refine mx_as _ rfl rfl (by conv => {lhs; whnf}) ?_) | (refine mx_fa0 E rfl rfl rfl rfl ?_ ) | (refine g_load rfl ?_; refine mx_orow E rfl rfl rfl rfl rfl (by assumption) (by assumption) (by rfl) rfl ?_ ) | (refine g_bin rfl ?_; ( (refine mx_cmpl .lss rfl rfl rfl rfl rfl (by exact cmp_lt_f (by omega) ) ?_) ) ) | (refine mx_nc rfl rfl rfl ?_) | (refine g_bi .len rfl ?_; refine mx_len E rfl rfl rfl rfl ?_) ) | refine cw_seq ?_ | refine cw_line rfl ?_ | refine cw_cond_f rfl ?_ | refine cw_exit ?_ | refine cw_ret ?_ | refine pw_then ?_ | refine pw_then_x ?_ | refine pw_block_e ?_ ))
    exact pw_ret rfl rfl rfl rfl fun w' hw => ⟨(a1, c1), rfl, hw⟩
  obtain ⟨x, hx⟩ := getElem_some (xs := rows) (i := i) (by omega)
  obtain ⟨b4, off, e, hcc⟩ := inl_at hl hx
  subst e
  have hS : ¬ (domL [] : Nat → Prop) b4 := no_dom _
  have hc1 : w.cell? ⟨b4, off + i * 2, none⟩ = some (.int .i64 x.k) := hcc 0 _ rfl
  have hxk : (rows.map WE.k)[i]? = some x.k := by rw [List.getElem?_map, hx]; rfl
  (repeat (first | ((refine (?_ : MX _ _ _ _ _ _ _ _ _ _ _)); first | refine mx_end ?_ | (refine mx_mv _ rfl rfl (by conv => {lhs; whnf}) ?_) | (refine mx_fa0 E rfl rfl rfl rfl ?_ ) | (refine g_load rfl ?_; first | refine mx_old1 E rfl rfl rfl rfl rfl (by assumption) (by assumption) rfl ?_ | refine mx_orow E rfl rfl rfl rfl rfl (by assumption) (by assumption) (by rfl) rfl ?_ ) | (refine g_bin rfl ?_; ( (refine mx_cmpl .lss rfl rfl rfl rfl rfl (by exact cmp_lt_t (by omega) ) ?_) ) ) | (refine g_ix rfl ?_; refine mx_ixsn E rfl rfl rfl rfl rfl rfl (by omega) rfl ?_ ) | (refine mx_nc rfl rfl rfl ?_) | (refine g_bi .len rfl ?_; refine mx_len E rfl rfl rfl rfl ?_) | (refine g_bs rfl ?_; refine a_bsi E rfl rfl rfl rfl rfl (by (repeat (first | exact EvI.nil | (apply EvI.cons; rfl)))) (by rfl) (by rfl) (by rfl) rfl (fun _ => ?_)) ) | refine cw_seq ?_ | refine cw_line rfl ?_ | refine cw_block ?_ | refine cw_cond_t rfl ?_ | refine cw_skip ?_ | refine pw_then ?_ ))
  rename_i b9
  refine g_bi .append rfl ?_
  refine a_app E rfl rfl rfl rfl rfl rfl rfl rfl [.int .i64 x.k] rfl (fun w hw => fun _ => ⟨b9, 0, rfl, fun j u hj => by rw [add_at, Nat.zero_add]; exact row_cell (hw.holds 0 _ rfl) hj⟩) rfl (by omega) rfl (fun _ _ _ _ => trivial) (fun a2 c2 => ?_)
  rw [take_c cI hxk]
  (repeat (first | ((refine (?_ : MX _ _ _ _ _ _ _ _ _ _ _)); first | refine mx_end ?_ | (refine mx_mv _ rfl rfl (by conv => {lhs; whnf}) ?_) | (refine mx_as _ rfl rfl (by conv => {lhs; whnf}) ?_) | (refine g_bin rfl ?_; ( refine mx_ar rfl rfl rfl rfl rfl rfl (IntWalk.i64_in _ (by omega)) rfl ?_ ) ) ) | refine cw_line rfl ?_ | refine pw_then ?_ | refine pw_block ?_ ))
  exact pw_round (i + 1, a2, c2) (by show i + 1 ≤ rows.length; omega) (by show rows.length - (i + 1) < rows.length - i; omega) ⟨rfl, rfl, rfl, trivial⟩ (fun w h => h.only 1 rfl)
/-! ### Hit -/
def brk (h : List VE) (e : WE) : Bool := brkV h e.vs
theorem hit22 (bx : Nat) (la : Option Addr) (lc : Nat) (rows : List WE) (hs : rows.length ≤ 100000) (ad : Option Addr) (cap : Nat) (hap : List EV) (hh : hap.length ≤ 1000) (w : World) (hl : InL w la 2 cRW rows) (hne : rows ≠ [] → ∀ b off, la = some ⟨b, off, none⟩ → ¬ domL [row bx 83 [.slice la rows.length lc]] b) (hd : ∀ w', Chg (domL [row bx 83 [.slice la rows.length lc]]) w w' → EvR w' ad hap) (hde : ∀ e ∈ rows, e.evs.length ≤ 1000 ∧ ∀ w', Chg (domL [row bx 83 [.slice la rows.length lc]]) w w' → EvR w' e.ad e.evs) (h0 : Ok (domL [row bx 83 [.slice la rows.length lc]]) w [row bx 83 [.slice la rows.length lc]] w) :
    Calls Try.prog 22 #[.pointer (some ⟨bx, 0, none⟩), .slice ad hap.length cap] w fun e w' => ∃ a : (Option Addr × Nat) × (Option Addr × Nat), e = .returned (.slice a.1.1 (rows.filter (brk (hap.map EV.v))).length a.1.2) ∧ Ok (domL [row bx 83 [.slice la rows.length lc]]) w [row bx 83 [.slice a.2.1 (rows.filter fun e => !brk (hap.map EV.v) e).length a.2.2], ownd a.2.1 a.2.2 86 2 (rows.filter fun e => !brk (hap.map EV.v) e).length ((rows.filter fun e => !brk (hap.map EV.v) e).flatMap cRW), ownd a.1.1 a.1.2 3 1 (rows.filter (brk (hap.map EV.v))).length (((rows.filter (brk (hap.map EV.v))).map WE.k).flatMap cI)] w' := by
  refine enter2 (S := domL [row bx 83 [.slice la rows.length lc]]) (H := [row bx 83 [.slice la rows.length lc]]) 53 Try.func22 rfl rfl rfl h0 ?_
  generalize hpp : brk (hap.map EV.v) = p
  (repeat (first | ((refine (?_ : MX _ _ _ _ _ _ _ _ _ _ _)); first | refine mx_end ?_ | (refine mx_as _ rfl rfl (by conv => {lhs; whnf}) ?_) ) | refine cw_seq ?_ | refine cw_line rfl ?_ | refine cw_block ?_ | refine pw_then ?_ ))
  refine cw_loop (ι := Nat × (Option Addr × Nat) × (Option Addr × Nat)) (fun q => [(7, .int .i64 q.1), (5, .slice q.2.1.1 ((rows.take q.1).filter p).length q.2.1.2), (6, .slice q.2.2.1 ((rows.take q.1).filter fun e => !p e).length q.2.2.2), (0, .pointer (some ⟨bx, 0, none⟩)), (1, .slice ad hap.length cap)]) (fun q => [ownd q.2.2.1 q.2.2.2 86 2 ((rows.take q.1).filter fun e => !p e).length (((rows.take q.1).filter fun e => !p e).flatMap cRW), ownd q.2.1.1 q.2.1.2 3 1 ((rows.take q.1).filter p).length ((((rows.take q.1).filter p).map WE.k).flatMap cI), row bx 83 [.slice la rows.length lc]]) (fun q => q.1 ≤ rows.length) (fun q => rows.length - q.1) (0, (none, 0), (none, 0)) (Nat.zero_le _) ⟨rfl, rfl, rfl, rfl, rfl, trivial⟩ (fun w h => (h.own_nil 3 1).own_nil 86 2) ?_
  rintro ⟨i, ⟨a1, c1⟩, ⟨a2, c2⟩⟩ jk hi
  dsimp only at hi ⊢
  by_cases h1 : (i : Int) < rows.length
  case neg =>
    obtain rfl : i = rows.length := by omega
    rw [List.take_length]
    (repeat (first | ((refine (?_ : MX _ _ _ _ _ _ _ _ _ _ _)); first | refine mx_end ?_ | (refine mx_mv _ rfl rfl (by conv => {lhs; whnf}) ?_) | (refine mx_as _ rfl rfl (by conv => {lhs; whnf}) ?_) | (refine mx_fa0 E rfl rfl rfl rfl ?_ ) | (refine g_load rfl ?_; refine mx_get E rfl rfl rfl rfl rfl (by rfl) rfl ?_ ) | (refine g_bin rfl ?_; ( (refine mx_cmpl .lss rfl rfl rfl rfl rfl (by exact cmp_lt_f (by omega) ) ?_) ) ) | (refine mx_nc rfl rfl rfl ?_) | (refine g_bi .len rfl ?_; refine mx_len E rfl rfl rfl rfl ?_) | (refine g_store rfl ?_; refine s_1 E rfl rfl rfl rfl rfl rfl rfl rfl (by exact sp0 ) rfl ?_) ) | refine cw_seq ?_ | refine cw_line rfl ?_ | refine cw_cond_f rfl ?_ | refine cw_exit ?_ | refine cw_ret ?_ | refine pw_then ?_ | refine pw_then_x ?_ | refine pw_block_e ?_ ))
    exact pw_ret rfl rfl rfl rfl fun w' hw => ⟨((a1, c1), (a2, c2)), rfl, hw.pick [2, 0, 1] (by simp) rfl⟩
  obtain ⟨x, hx⟩ := getElem_some (xs := rows) (i := i) (by omega)
  have hne' := hne (by intro e; subst e; simp at hx)
  have hxe := hde x (List.mem_of_getElem? hx)
  obtain ⟨b4, off, e, hcc⟩ := inl_at hl hx
  subst e
  have hS : ¬ (domL [row bx 83 [.slice (some ⟨b4, off, none⟩) rows.length lc]] : Nat → Prop) b4 := hne' b4 off rfl
  have hc0 : ∀ (k : Nat) (v : Value), (cRW x)[k]? = some v → w.cell? ⟨b4, off + i * 2 + k, none⟩ = some v := hcc
  have hc1 : w.cell? ⟨b4, off + i * 2, none⟩ = some (.int .i64 x.k) := hcc 0 _ rfl
  have hc2 : w.cell? ⟨b4, off + i * 2 + 1, none⟩ = some (.slice x.ad x.evs.length x.cap) := hcc 1 _ rfl
  have htk : rows.take (i + 1) = rows.take i ++ [x] := by rw [List.take_add_one, hx]; rfl
  have hfl : ∀ q : WE → Bool, ((rows.take i).filter q).length ≤ 100000 := fun q => by
    refine Nat.le_trans (List.length_filter_le ..) ?_
    rw [List.length_take]
    omega
  have hf1 := hfl p
  have hf2 := hfl fun e => !p e
  have hpx : brkV (hap.map EV.v) (x.evs.map EV.v) = p x := by rw [← hpp]; rfl
  (repeat (first | ((refine (?_ : MX _ _ _ _ _ _ _ _ _ _ _)); first | refine mx_end ?_ | (refine mx_mv _ rfl rfl (by conv => {lhs; whnf}) ?_) | (first | refine mx_fa0 E rfl rfl rfl rfl ?_ | refine mx_fa E rfl rfl rfl rfl ?_) | (refine g_load rfl ?_; first | refine mx_get E rfl rfl rfl rfl rfl (by rfl) rfl ?_ | refine mx_old1 E rfl rfl rfl rfl rfl (by assumption) (by assumption) rfl ?_ ) | (refine g_bin rfl ?_; ( (refine mx_cmpl .lss rfl rfl rfl rfl rfl (by exact cmp_lt_t (by omega) ) ?_) ) ) | (refine g_ix rfl ?_; refine mx_ixsn E rfl rfl rfl rfl rfl rfl (by omega) rfl ?_ ) | (refine mx_nc rfl rfl rfl ?_) | (refine g_bi .len rfl ?_; refine mx_len E rfl rfl rfl rfl ?_) ) | refine cw_seq ?_ | refine cw_line rfl ?_ | refine cw_block ?_ | refine cw_cond_t rfl ?_ | refine cw_skip ?_ | refine pw_then ?_ ))
  refine g_cf 55 rfl ?_
  refine a_callv rfl rfl rfl rfl Try.func55 rfl rfl rfl (.bool (p x)) (fun w' hw => by
    rw [← hpx]
    exact breaks55 ad x.ad cap x.cap hap x.evs (by omega) (by omega) w' (hd w' hw.keep) (hxe.2 w' hw.keep)) rfl ?_
  cases hb : p x with
  | true =>
    have e1 : ((rows.take (i + 1)).filter p) = ((rows.take i).filter p) ++ [x] := by rw [htk, List.filter_append, List.filter_cons_of_pos hb]; simp
    have e2 : ((rows.take (i + 1)).filter fun e => !p e) = (rows.take i).filter fun e => !p e := by rw [htk, List.filter_append, List.filter_cons_of_neg (by simp [hb])]; simp
    have e3 : (((rows.take i).filter p).map WE.k).flatMap cI ++ [.int .i64 x.k] = (((rows.take (i + 1)).filter p).map WE.k).flatMap cI := by rw [e1, List.map_append, List.flatMap_append]; simp
    have e4 : ((rows.take i).filter p).length + 1 = ((rows.take (i + 1)).filter p).length := by rw [e1]; simp
    (repeat (first | ((refine (?_ : MX _ _ _ _ _ _ _ _ _ _ _)); first | refine mx_end ?_ | (refine mx_mv _ rfl rfl (by conv => {lhs; whnf}) ?_) | (refine mx_fa0 E rfl rfl rfl rfl ?_ ) | (refine g_load rfl ?_; first | refine mx_get E rfl rfl rfl rfl rfl (by rfl) rfl ?_ | refine mx_old1 E rfl rfl rfl rfl rfl (by assumption) (by assumption) rfl ?_ ) | (refine g_ix rfl ?_; refine mx_ixsn E rfl rfl rfl rfl rfl rfl (by omega) rfl ?_ ) | (refine mx_nc rfl rfl rfl ?_) | (refine g_bs rfl ?_; refine a_bsi E rfl rfl rfl rfl rfl (by (repeat (first | exact EvI.nil | (apply EvI.cons; rfl)))) (by rfl) (by rfl) (by rfl) rfl (fun _ => ?_)) ) | refine cw_line rfl ?_ | refine cw_cond_t rfl ?_ | refine pw_then ?_ ))
    rename_i b9
    refine g_bi .append rfl ?_
    refine a_app E rfl rfl rfl rfl rfl rfl rfl rfl [.int .i64 x.k] rfl (fun w hw => fun _ => ⟨b9, 0, rfl, fun j u hj => by rw [add_at, Nat.zero_add]; exact row_cell (hw.holds 0 _ rfl) hj⟩) rfl (by omega) rfl (fun _ _ _ _ => trivial) (fun a3 c3 => ?_)
    rw [e3, e4]
    (repeat (first | ((refine (?_ : MX _ _ _ _ _ _ _ _ _ _ _)); first | refine mx_end ?_ | (refine mx_mv _ rfl rfl (by conv => {lhs; whnf}) ?_) | (refine mx_as _ rfl rfl (by conv => {lhs; whnf}) ?_) | (refine g_bin rfl ?_; ( refine mx_ar rfl rfl rfl rfl rfl rfl (IntWalk.i64_in _ (by omega)) rfl ?_ ) ) ) | refine cw_line rfl ?_ | refine pw_then ?_ | refine pw_block ?_ ))
    exact pw_round (i + 1, (a3, c3), (a2, c2)) (by show i + 1 ≤ rows.length; omega) (by show rows.length - (i + 1) < rows.length - i; omega) (by dsimp only; rw [e2]; exact ⟨rfl, rfl, rfl, rfl, rfl, trivial⟩) (fun w h => by dsimp only; rw [e2]; exact h.pick [1, 2, 3] (by simp) rfl)
  | false =>
    have e1 : ((rows.take (i + 1)).filter fun e => !p e) = ((rows.take i).filter fun e => !p e) ++ [x] := by rw [htk, List.filter_append, List.filter_cons_of_pos (by simp [hb])]; simp
    have e2 : ((rows.take (i + 1)).filter p) = (rows.take i).filter p := by rw [htk, List.filter_append, List.filter_cons_of_neg (by simp [hb])]; simp
    have e3 : ((rows.take i).filter fun e => !p e).flatMap cRW ++ cRW x = ((rows.take (i + 1)).filter fun e => !p e).flatMap cRW := by rw [e1, List.flatMap_append]; simp
    have e4 : ((rows.take i).filter fun e => !p e).length + 1 = ((rows.take (i + 1)).filter fun e => !p e).length := by rw [e1]; simp
    (repeat (first | ((refine (?_ : MX _ _ _ _ _ _ _ _ _ _ _)); first | refine mx_end ?_ | (refine mx_mv _ rfl rfl (by conv => {lhs; whnf}) ?_) | (refine mx_fa0 E rfl rfl rfl rfl ?_ ) | (refine g_load rfl ?_; first | refine mx_get E rfl rfl rfl rfl rfl (by rfl) rfl ?_ | refine mx_oldn E rfl rfl rfl rfl rfl (by assumption) (by assumption) (rfl) rfl ?_ ) | (refine g_ix rfl ?_; refine mx_ixsn E rfl rfl rfl rfl rfl rfl (by omega) rfl ?_ ) | (refine mx_nc rfl rfl rfl ?_) ) | refine cw_line rfl ?_ | refine cw_cond_f rfl ?_ | refine pw_then ?_ ))
    refine g_bs rfl ?_
    refine a_bslice1 E rfl rfl rfl rfl (us := cRW x) rfl rfl rfl rfl rfl rfl (fun b9 => ?_)
    refine g_bi .append rfl ?_
    refine a_app E rfl rfl rfl rfl rfl rfl rfl rfl (cRW x) rfl (fun w hw => fun _ => ⟨b9, 0, rfl, fun j u hj => by rw [add_at, Nat.zero_add]; exact row_cell (hw.holds 0 _ rfl) hj⟩) rfl (by omega) rfl (fun _ _ _ _ => trivial) (fun a3 c3 => ?_)
    rw [e3, e4]
    (repeat (first | ((refine (?_ : MX _ _ _ _ _ _ _ _ _ _ _)); first | refine mx_end ?_ | (refine mx_mv _ rfl rfl (by conv => {lhs; whnf}) ?_) | (refine mx_as _ rfl rfl (by conv => {lhs; whnf}) ?_) | (refine g_bin rfl ?_; ( refine mx_ar rfl rfl rfl rfl rfl rfl (IntWalk.i64_in _ (by omega)) rfl ?_ ) ) ) | refine cw_line rfl ?_ | refine pw_then ?_ | refine pw_block ?_ ))
    exact pw_round (i + 1, (a1, c1), (a3, c3)) (by show i + 1 ≤ rows.length; omega) (by show rows.length - (i + 1) < rows.length - i; omega) (by dsimp only; rw [e2]; exact ⟨rfl, rfl, rfl, rfl, rfl, trivial⟩) (fun w h => by dsimp only; rw [e2]; exact h.pick [1, 2, 3] (by simp) rfl)
end Go.Proofs.Ytikdbgheefjpkaa
