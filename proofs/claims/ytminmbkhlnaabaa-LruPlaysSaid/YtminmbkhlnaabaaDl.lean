/- The document's map of which the key goes that was used longest ago: looked for, used, without one, put, found, taken away; walked once each. -/
import Derived.Test.YtminmbkhlnaabaaLK
set_option maxRecDepth 100000
set_option maxHeartbeats 8000000
set_option linter.unusedSimpArgs false
set_option linter.unusedVariables false
namespace Go.Proofs.Ytminmbkhlnaabaa
open Go Go.Sx Go.RowKit
structure DR where
  ka : Option Addr
  kc : Nat
  k : List Int
  c : Int
  u : Nat
  deriving Inhabited
@[reducible] def cDR (r : DR) : List Value := [.slice r.ka r.k.length r.kc, .int .i64 r.c, .int .i64 r.u]
theorem len_DR (r : DR) : (cDR r).length = 3 := rfl
def RDR (r : DR) : Res := ownd r.ka r.kc 5 1 r.k.length (r.k.flatMap cU)
def allD (rows : List DR) : Res := star (rows.map RDR)
@[reducible] def hdD (key most : Int) (uses : Nat) (la : Option Addr) (n lc : Nat) : List Value := [.int .i64 key, .int .i64 most, .int .i64 uses, .slice la n lc]
def OD (mx : Nat) (key most : Int) (uses : Nat) (la : Option Addr) (lc : Nat) (rows : List DR) : List Res := [row mx 81 (hdD key most uses la rows.length lc), ownd la lc 83 3 rows.length (rows.flatMap cDR), allD rows]
theorem b81 (a b : Int) : Blt Try.prog 81 [(0, .int .i64 a), (1, .int .i64 b)] [.int .i64 a, .int .i64 b, .int .i64 0, .slice none 0 0] := ⟨by kernel_rfl⟩
theorem b83 (ad : Option Addr) (m cap : Nat) (c : Int) : Blt Try.prog 83 [(0, .slice ad m cap), (1, .int .i64 c)] [.slice ad m cap, .int .i64 c, .int .i64 0] := ⟨by kernel_rfl⟩
instance : ZeroT Try.prog 83 [.slice none 0 0, .int .i64 0, .int .i64 0] := ⟨by kernel_rfl⟩
theorem no_domD (b : Nat) : ¬ domL [] b := fun h => by
  obtain ⟨_, hr, _⟩ := domL_mem h
  cases hr
theorem inD {rows : List DR} {w : World} (h : (allD rows).holds w) {r : DR} (hr : r ∈ rows) : InL w r.ka 1 cU r.k := own_in len_U (star_holds h (List.mem_map.2 ⟨r, hr, rfl⟩)) (Nat.le_refl _)
theorem dnew22 (key most : Int) (w : World) : Calls Try.prog 22 #[.int .i64 key, .int .i64 most] w fun e w' => ∃ b : Nat, e = .returned (.pointer (some ⟨b, 0, none⟩)) ∧ Ok (domL []) w (OD b (cutK key 16) (cutK most 64) 0 none 0 []) w' := by
  refine enter2 (S := domL []) 13 Try.func22 rfl rfl rfl (Ok.start w) ?_
  (repeat (first | ((refine (?_ : MX _ _ _ _ _ _ _ _ _ _ _)); first | refine mx_end ?_ | (refine mx_mv _ rfl rfl (by conv => {lhs; whnf}) ?_) | (refine mx_as _ rfl rfl (by conv => {lhs; whnf}) ?_) | (refine g_build rfl ?_; refine mx_build rfl rfl rfl rfl (b81 _ _) rfl ?_ ) | (refine g_box rfl ?_; refine a_boxl rfl rfl rfl rfl rfl rfl (fun _ => ?_) ) | (first | (refine g_bi .max rfl ?_; refine mx_maxi rfl rfl rfl rfl rfl rfl rfl ?_) | (refine g_bi .min rfl ?_; refine mx_mini rfl rfl rfl rfl rfl rfl rfl ?_)) ) | refine cw_seq ?_ | refine cw_line rfl ?_ | refine cw_ret ?_ | refine pw_then ?_ ))
  refine pw_ret rfl rfl rfl rfl fun w' hw => ⟨_, rfl, ?_⟩
  have h2 := Ok.star (L := []) (hw.own_nil 83 3)
  exact h2.pick [2, 1, 0] (by simp) rfl
@[reducible] def dlk (k : List Int) (r : DR) : Bool := decide (r.k = k)
section
variable (mx : Nat) (key most : Int) (uses : Nat) (la : Option Addr) (lc : Nat) (rows : List DR)
theorem dat69 (hs : rows.length ≤ 100000) (hk : ∀ r ∈ rows, r.k.length ≤ 100000) (ad : Option Addr) (m cap : Nat) (k : List Int) (hm : k.length = m) (w : World) (h1 : (row mx 81 (hdD key most uses la rows.length lc)).holds w) (h2 : InL w la 3 cDR rows) (h3 : ∀ r ∈ rows, InL w r.ka 1 cU r.k) (hl : InL w ad 1 cU k) :
    Calls Try.prog 69 #[.pointer (some ⟨mx, 0, none⟩), .slice ad m cap] w fun e w' => e = .returned (.int .i64 (oix (fidx (dlk k) rows 0))) ∧ Grow w w' := by
  refine enter2 (S := fun _ => False) 26 Try.func69 rfl rfl rfl (Ok.start w) ?_
  have hS0 : ¬ (fun _ : Nat => False) mx := id
  (repeat (first | ((refine (?_ : MX _ _ _ _ _ _ _ _ _ _ _)); first | refine mx_end ?_ | (refine mx_as _ rfl rfl (by conv => {lhs; whnf}) ?_) ) | refine cw_seq ?_ | refine cw_line rfl ?_ | refine cw_block ?_ | refine pw_then ?_ ))
  refine cw_loop (fun i : Nat => [(5, .int .i64 i), (0, .pointer (some ⟨mx, 0, none⟩)), (1, .slice ad m cap)]) (fun i => []) (fun i => i ≤ rows.length ∧ fidx (dlk k) rows 0 = fidx (dlk k) (rows.drop i) i) (fun i => rows.length - i) 0 ⟨by omega, rfl⟩ ⟨rfl, rfl, rfl, trivial⟩ (fun w h => h) ?_
  intro i jk ⟨hi, hf⟩
  by_cases h0 : (i : Int) < rows.length
  case neg =>
    have e : fidx (dlk k) rows 0 = none := by rw [hf, List.drop_of_length_le (by omega)]; rfl
    rw [e]
    (repeat (first | ((refine (?_ : MX _ _ _ _ _ _ _ _ _ _ _)); first | refine mx_end ?_ | (refine mx_mv _ rfl rfl (by conv => {lhs; whnf}) ?_) | (refine mx_as _ rfl rfl (by conv => {lhs; whnf}) ?_) | ( refine mx_fa E rfl rfl rfl rfl ?_) | (refine g_load rfl ?_; refine mx_orow E rfl rfl rfl rfl rfl (by assumption) (by assumption) (by rfl) rfl ?_ ) | (refine g_bin rfl ?_; ( (refine mx_cmpl .lss rfl rfl rfl rfl rfl (by exact cmp_lt_f (by omega) ) ?_) ) ) | (refine mx_nc rfl rfl rfl ?_) | (refine g_bi .len rfl ?_; refine mx_len E rfl rfl rfl rfl ?_) ) | refine cw_seq ?_ | refine cw_line rfl ?_ | refine cw_cond_f rfl ?_ | refine cw_exit ?_ | refine cw_ret ?_ | refine pw_then ?_ | refine pw_then_x ?_ | refine pw_block_e ?_ ))
    exact pw_ret rfl rfl rfl rfl fun w hw => ⟨rfl, hw.keep.grow⟩
  case pos =>
    obtain ⟨r, hx⟩ := getElem_some (xs := rows) (i := i) (by omega)
    obtain ⟨b4, off, e, hcc⟩ := inl_at h2 hx
    subst e
    have hS : ¬ (fun _ : Nat => False) b4 := id
    have hc0 : w.cell? ⟨b4, off + i * 3, none⟩ = some (.slice r.ka r.k.length r.kc) := hcc 0 _ rfl
    have hst := fidx_drop (p := dlk k) hx
    have hrk := hk r (List.mem_of_getElem? hx)
    (repeat (first | ((refine (?_ : MX _ _ _ _ _ _ _ _ _ _ _)); first | refine mx_end ?_ | (refine mx_mv _ rfl rfl (by conv => {lhs; whnf}) ?_) | (first | refine mx_fa0 E rfl rfl rfl rfl ?_ | refine mx_fa E rfl rfl rfl rfl ?_) | (refine g_load rfl ?_; first | refine mx_old1 E rfl rfl rfl rfl rfl (by assumption) (by assumption) rfl ?_ | refine mx_orow E rfl rfl rfl rfl rfl (by assumption) (by assumption) (by rfl) rfl ?_ ) | (refine g_bin rfl ?_; ( (refine mx_cmpl .lss rfl rfl rfl rfl rfl (by exact cmp_lt_t (by omega) ) ?_) ) ) | (refine g_ix rfl ?_; refine mx_ixsn E rfl rfl rfl rfl rfl rfl (by omega) rfl ?_ ) | (refine mx_nc rfl rfl rfl ?_) | (refine g_bi .len rfl ?_; refine mx_len E rfl rfl rfl rfl ?_) ) | refine cw_seq ?_ | refine cw_line rfl ?_ | refine cw_block ?_ | refine cw_cond_t rfl ?_ | refine cw_skip ?_ | refine pw_then ?_ ))
    refine g_cf 36 rfl ?_
    refine a_callv rfl rfl rfl rfl Try.func36 rfl rfl rfl (.bool (decide (r.k = k))) (fun w' hw => sameB r.ka ad r.k.length m r.kc cap r.k k rfl hm (by omega) w' ((h3 r (List.mem_of_getElem? hx)).keep hw fun _ _ _ h => h) (hl.keep hw fun _ _ _ h => h)) rfl ?_
    by_cases hpr : r.k = k
    · rw [decide_eq_true hpr]
      have e : fidx (dlk k) rows 0 = some i := by rw [hf, hst, if_pos (decide_eq_true hpr)]
      rw [e]
      (repeat (first | ((refine (?_ : MX _ _ _ _ _ _ _ _ _ _ _)); first | refine mx_end ?_ | (refine mx_mv _ rfl rfl (by conv => {lhs; whnf}) ?_) | (refine mx_as _ rfl rfl (by conv => {lhs; whnf}) ?_) ) | refine cw_seq ?_ | refine cw_line rfl ?_ | refine cw_cond_t rfl ?_ | refine cw_ret ?_ | refine pw_then ?_ | refine pw_then_r ?_ | refine pw_block_r ?_))
      exact pw_ret rfl rfl rfl rfl fun w hw => ⟨rfl, hw.keep.grow⟩
    · rw [decide_eq_false hpr]
      (repeat (first | ((refine (?_ : MX _ _ _ _ _ _ _ _ _ _ _)); first | refine mx_end ?_ | (refine mx_mv _ rfl rfl (by conv => {lhs; whnf}) ?_) | (refine mx_as _ rfl rfl (by conv => {lhs; whnf}) ?_) | (refine g_bin rfl ?_; (refine mx_ar rfl rfl rfl rfl rfl rfl (IntWalk.i64_in _ (by omega)) rfl ?_ ) ) ) | refine cw_line rfl ?_ | refine cw_cond_f rfl ?_ | refine cw_skip ?_ | refine pw_then ?_ | refine pw_block ?_ ))
      refine pw_round (i + 1) ⟨by omega, by rw [hf, hst, if_neg (by simpa using hpr)]⟩ (by omega) ⟨rfl, rfl, rfl, trivial⟩ (fun w h => h)
theorem dlen24 (w : World) (h1 : (row mx 81 (hdD key most uses la rows.length lc)).holds w) : Calls Try.prog 24 #[.pointer (some ⟨mx, 0, none⟩)] w fun e w' => e = .returned (.int .i64 rows.length) ∧ Grow w w' := by
  refine enter1 (S := fun _ => False) 8 Try.func24 rfl rfl rfl (Ok.start w) ?_
  have hS : ¬ (fun _ : Nat => False) mx := id
  (repeat (first | ((refine (?_ : MX _ _ _ _ _ _ _ _ _ _ _)); first | refine mx_end ?_ | (refine mx_mv _ rfl rfl (by conv => {lhs; whnf}) ?_) | (refine mx_as _ rfl rfl (by conv => {lhs; whnf}) ?_) | ( refine mx_fa E rfl rfl rfl rfl ?_) | (refine g_load rfl ?_; refine mx_orow E rfl rfl rfl rfl rfl (by assumption) (by assumption) (by rfl) rfl ?_ ) | (refine mx_nc rfl rfl rfl ?_) | (refine g_bi .len rfl ?_; refine mx_len E rfl rfl rfl rfl ?_) ) | refine cw_seq ?_ | refine cw_line rfl ?_ | refine cw_ret ?_ | refine pw_then ?_ ))
  exact pw_ret rfl rfl rfl rfl fun w hw => ⟨rfl, hw.keep.grow⟩
def peekD (k : List Int) (rows : List DR) : Int × Bool := match fidx (dlk k) rows 0 with
  | some i => ((rows.getD i default).c, true)
  | none => (0, false)
theorem dpeek57 (hs : rows.length ≤ 100000) (hk : ∀ r ∈ rows, r.k.length ≤ 100000) (ad : Option Addr) (m cap : Nat) (k : List Int) (hm : k.length = m) (w : World) (h1 : (row mx 81 (hdD key most uses la rows.length lc)).holds w) (h2 : InL w la 3 cDR rows) (h3 : ∀ r ∈ rows, InL w r.ka 1 cU r.k) (hl : InL w ad 1 cU k) :
    Calls Try.prog 57 #[.pointer (some ⟨mx, 0, none⟩), .slice ad m cap] w fun e w' => e = .returned (.tuple #[.int .i64 (peekD k rows).1, .bool (peekD k rows).2]) ∧ Grow w w' := by
  refine enter2 (S := fun _ => False) 20 Try.func57 rfl rfl rfl (Ok.start w) ?_
  have hS : ¬ (fun _ : Nat => False) mx := id
  (repeat (first | ((refine (?_ : MX _ _ _ _ _ _ _ _ _ _ _)); first | refine mx_end ?_ | (refine mx_mv _ rfl rfl (by conv => {lhs; whnf}) ?_) | (refine mx_as _ rfl rfl (by conv => {lhs; whnf}) ?_) ) | refine cw_seq ?_ | refine cw_line rfl ?_ | refine pw_then ?_ ))
  refine g_cf 69 rfl ?_
  refine a_callv rfl rfl rfl rfl Try.func69 rfl rfl rfl (.int .i64 (oix (fidx (dlk k) rows 0))) (fun w' hw => dat69 mx key most uses la lc rows hs hk ad m cap k hm w' (hw.orow h1 id) (h2.keep hw fun _ _ _ h => h) (fun r hr => (h3 r hr).keep hw fun _ _ _ h => h) (hl.keep hw fun _ _ _ h => h)) rfl ?_
  unfold peekD
  cases hf : fidx (dlk k) rows 0 with
  | none =>
    rw [oix_none]
    dsimp only
    (repeat (first | ((refine (?_ : MX _ _ _ _ _ _ _ _ _ _ _)); first | refine mx_end ?_ | (refine mx_mv _ rfl rfl (by conv => {lhs; whnf}) ?_) | (refine mx_as _ rfl rfl (by conv => {lhs; whnf}) ?_) | (refine g_bin rfl ?_; ( (refine mx_cmpl .lss rfl rfl rfl rfl rfl (by exact cmp_lt_t (by omega) ) ?_) ) ) ) | refine cw_seq ?_ | refine cw_line rfl ?_ | refine cw_cond_t rfl ?_ | refine cw_ret ?_ | refine pw_then ?_ | refine pw_then_r ?_ ))
    exact pw_rets rfl [_, _] ⟨rfl, rfl, trivial⟩ rfl fun w hw => ⟨rfl, hw.keep.grow⟩
  | some i =>
    rw [oix_some]
    dsimp only
    obtain ⟨_, hi, r, hx, _⟩ := fidx_le hf
    rw [Nat.sub_zero] at hi hx
    have hg : rows.getD i default = r := by simp [List.getD, hx]
    rw [hg]
    obtain ⟨b4, off, e, hcc⟩ := inl_at h2 hx
    subst e
    have hS4 : ¬ (fun _ : Nat => False) b4 := id
    have hc0 : w.cell? ⟨b4, off + i * 3 + 1, none⟩ = some (.int .i64 r.c) := hcc 1 _ rfl
    (repeat (first | ((refine (?_ : MX _ _ _ _ _ _ _ _ _ _ _)); first | refine mx_end ?_ | (refine mx_mv _ rfl rfl (by conv => {lhs; whnf}) ?_) | (refine mx_as _ rfl rfl (by conv => {lhs; whnf}) ?_) | ( refine mx_fa E rfl rfl rfl rfl ?_) | (refine g_load rfl ?_; first | refine mx_old1 E rfl rfl rfl rfl rfl (by assumption) (by assumption) rfl ?_ | refine mx_orow E rfl rfl rfl rfl rfl (by assumption) (by assumption) (by rfl) rfl ?_ ) | (refine g_bin rfl ?_; ( (refine mx_cmpl .lss rfl rfl rfl rfl rfl (by exact cmp_lt_f (by omega) ) ?_) ) ) | (refine g_ix rfl ?_; refine mx_ixsn E rfl rfl rfl rfl rfl rfl (by omega) rfl ?_ ) | (refine mx_nc rfl rfl rfl ?_) ) | refine cw_seq ?_ | refine cw_line rfl ?_ | refine cw_cond_f rfl ?_ | refine cw_skip ?_ | refine cw_ret ?_ | refine pw_then ?_ ))
    exact pw_rets rfl [_, _] ⟨rfl, rfl, trivial⟩ rfl fun w hw => ⟨rfl, hw.keep.grow⟩
/-- The rows of a list without one. -/
theorem wo_step {α : Type} (l : List α) (i k : Nat) {x : α} (hx : l[k]? = some x) : (l.take (k + 1)).eraseIdx i = if k = i then (l.take k).eraseIdx i else (l.take k).eraseIdx i ++ [x] := by
  have hk := (List.getElem?_eq_some_iff.1 hx).1
  have hl : (l.take k).length = k := by rw [List.length_take]; omega
  rw [List.take_add_one, hx]
  show (l.take k ++ [x]).eraseIdx i = _
  by_cases h : k = i
  · subst h
    rw [if_pos rfl, List.eraseIdx_append_of_length_le (by omega), hl, Nat.sub_self]
    rw [List.eraseIdx_of_length_le (l := l.take k) (by omega)]
    simp
  · rw [if_neg h]
    by_cases h2 : i < k
    · rw [List.eraseIdx_append_of_lt_length (by omega)]
    · rw [List.eraseIdx_append_of_length_le (by omega), hl, List.eraseIdx_of_length_le (l := l.take k) (by omega), List.eraseIdx_of_length_le (by simp; omega)]
theorem dwithout70 (hs : rows.length ≤ 100000) (i : Nat) (w : World) (h1 : (row mx 81 (hdD key most uses la rows.length lc)).holds w) (h2 : InL w la 3 cDR rows) :
    Calls Try.prog 70 #[.pointer (some ⟨mx, 0, none⟩), .int .i64 i] w fun e w' => ∃ a : Option Addr × Nat, e = .returned (.slice a.1 (rows.eraseIdx i).length a.2) ∧ Ok (domL []) w [ownd a.1 a.2 83 3 (rows.eraseIdx i).length ((rows.eraseIdx i).flatMap cDR)] w' := by
  refine enter2 (S := domL []) 30 Try.func70 rfl rfl rfl (Ok.start w) ?_
  have hS0 : ¬ (domL [] : Nat → Prop) mx := no_domD mx
  (repeat (first | ((refine (?_ : MX _ _ _ _ _ _ _ _ _ _ _)); first | refine mx_end ?_ | (refine mx_as _ rfl rfl (by conv => {lhs; whnf}) ?_) ) | refine cw_seq ?_ | refine cw_line rfl ?_ | refine cw_block ?_ | refine pw_then ?_ ))
  refine cw_loop (ι := Nat × Option Addr × Nat) (fun p => [(6, .int .i64 p.1), (5, .slice p.2.1 ((rows.take p.1).eraseIdx i).length p.2.2), (0, .pointer (some ⟨mx, 0, none⟩)), (1, .int .i64 i)]) (fun p => [ownd p.2.1 p.2.2 83 3 ((rows.take p.1).eraseIdx i).length (((rows.take p.1).eraseIdx i).flatMap cDR)]) (fun p => p.1 ≤ rows.length) (fun p => rows.length - p.1) (0, none, 0) (by show 0 ≤ rows.length; omega) ⟨rfl, rfl, rfl, rfl, trivial⟩ (fun w h => h.own_nil _ _) ?_
  rintro ⟨k, a1, c1⟩ jk hk
  dsimp only at hk ⊢
  by_cases h0 : (k : Int) < rows.length
  case neg =>
    have e1 : rows.take k = rows := List.take_of_length_le (by omega)
    rw [e1]
    (repeat (first | ((refine (?_ : MX _ _ _ _ _ _ _ _ _ _ _)); first | refine mx_end ?_ | (refine mx_mv _ rfl rfl (by conv => {lhs; whnf}) ?_) | (refine mx_as _ rfl rfl (by conv => {lhs; whnf}) ?_) | ( refine mx_fa E rfl rfl rfl rfl ?_) | (refine g_load rfl ?_; refine mx_orow E rfl rfl rfl rfl rfl (by assumption) (by assumption) (by rfl) rfl ?_ ) | (refine g_bin rfl ?_; ( (refine mx_cmpl .lss rfl rfl rfl rfl rfl (by exact cmp_lt_f (by omega) ) ?_) ) ) | (refine mx_nc rfl rfl rfl ?_) | (refine g_bi .len rfl ?_; refine mx_len E rfl rfl rfl rfl ?_) ) | refine cw_seq ?_ | refine cw_line rfl ?_ | refine cw_cond_f rfl ?_ | refine cw_exit ?_ | refine cw_ret ?_ | refine pw_then ?_ | refine pw_then_x ?_ | refine pw_block_e ?_ ))
    exact pw_ret rfl rfl rfl rfl fun w' hw => ⟨(a1, c1), rfl, hw⟩
  case pos =>
    obtain ⟨r, hx⟩ := getElem_some (xs := rows) (i := k) (by omega)
    obtain ⟨b4, off, e, hcc⟩ := inl_at h2 hx
    subst e
    have hS : ¬ (domL [] : Nat → Prop) b4 := no_domD b4
    have hc0 : ∀ (j : Nat) (v : Value), (cDR r)[j]? = some v → w.cell? ⟨b4, off + k * 3 + j, none⟩ = some v := hcc
    have hst := wo_step rows i k hx
    have hel : ((rows.take k).eraseIdx i).length ≤ 100000 := by
      rw [List.length_eraseIdx, List.length_take]
      split <;> omega
    by_cases hki : (k : Int) = i
    · rw [if_pos (by omega)] at hst
      (repeat (first | ((refine (?_ : MX _ _ _ _ _ _ _ _ _ _ _)); first | refine mx_end ?_ | (refine mx_mv _ rfl rfl (by conv => {lhs; whnf}) ?_) | (refine mx_as _ rfl rfl (by conv => {lhs; whnf}) ?_) | ( refine mx_fa E rfl rfl rfl rfl ?_) | (refine g_load rfl ?_; refine mx_orow E rfl rfl rfl rfl rfl (by assumption) (by assumption) (by rfl) rfl ?_ ) | (refine g_bin rfl ?_; first | (first | (refine mx_cmpl .neq rfl rfl rfl rfl rfl (by exact cmp_ne_f (by omega) ) ?_) | (refine mx_cmpl .lss rfl rfl rfl rfl rfl (by exact cmp_lt_t (by omega) ) ?_) ) | (refine mx_ar rfl rfl rfl rfl rfl rfl (IntWalk.i64_in _ (by omega)) rfl ?_ ) ) | (refine mx_nc rfl rfl rfl ?_) | (refine g_bi .len rfl ?_; refine mx_len E rfl rfl rfl rfl ?_) ) | refine cw_seq ?_ | refine cw_line rfl ?_ | refine cw_block ?_ | refine cw_cond_f rfl ?_ | refine cw_cond_t rfl ?_ | refine cw_skip ?_ | refine pw_then ?_ | refine pw_block ?_ ))
      refine pw_round (k + 1, a1, c1) (by show k + 1 ≤ rows.length; omega) (by show rows.length - (k + 1) < rows.length - k; omega) ⟨rfl, by show _ = Value.slice a1 ((rows.take (k + 1)).eraseIdx i).length c1; rw [hst]; rfl, rfl, rfl, trivial⟩ (fun w h => ?_)
      show Ok _ _ [ownd a1 c1 83 3 ((rows.take (k + 1)).eraseIdx i).length (((rows.take (k + 1)).eraseIdx i).flatMap cDR)] _
      rw [hst]
      exact h
    · rw [if_neg (by omega)] at hst
      (repeat (first | ((refine (?_ : MX _ _ _ _ _ _ _ _ _ _ _)); first | refine mx_end ?_ | (refine mx_mv _ rfl rfl (by conv => {lhs; whnf}) ?_) | ( refine mx_fa E rfl rfl rfl rfl ?_) | (refine g_load rfl ?_; first | refine mx_oldn E rfl rfl rfl rfl rfl (by assumption) (by assumption) (rfl) rfl ?_ | refine mx_orow E rfl rfl rfl rfl rfl (by assumption) (by assumption) (by rfl) rfl ?_ ) | (refine g_bin rfl ?_; (first | (refine mx_cmpl .neq rfl rfl rfl rfl rfl (by exact cmp_ne_t (by omega) ) ?_) | (refine mx_cmpl .lss rfl rfl rfl rfl rfl (by exact cmp_lt_t (by omega) ) ?_) ) ) | (refine g_ix rfl ?_; refine mx_ixsn E rfl rfl rfl rfl rfl rfl (by omega) rfl ?_ ) | (refine mx_nc rfl rfl rfl ?_) | (refine g_bi .len rfl ?_; refine mx_len E rfl rfl rfl rfl ?_) ) | refine cw_seq ?_ | refine cw_line rfl ?_ | refine cw_block ?_ | refine cw_cond_t rfl ?_ | refine cw_skip ?_ | refine pw_then ?_ ))
      refine g_bs rfl ?_
      refine a_bslice1 E rfl rfl rfl rfl (us := cDR r) rfl rfl rfl rfl rfl rfl (fun b6 => ?_)
      (repeat (first | ((refine (?_ : MX _ _ _ _ _ _ _ _ _ _ _)); first | refine mx_end ?_ | (refine mx_mv _ rfl rfl (by conv => {lhs; whnf}) ?_) | (refine mx_as _ rfl rfl (by conv => {lhs; whnf}) ?_) | (first | refine mx_fa0 E rfl rfl rfl rfl ?_ | refine mx_fa E rfl rfl rfl rfl ?_) | (refine g_load rfl ?_; first | refine mx_get E rfl rfl rfl rfl rfl (by first | assumption | rfl) rfl ?_ | refine mx_getn E rfl rfl rfl rfl rfl (by first | exact Vr.all rfl | exact ⟨⟨rfl⟩, rfl⟩) rfl ?_ | refine mx_oldn E rfl rfl rfl rfl rfl (by assumption) (by assumption) (rfl) rfl ?_ | refine mx_old1 E rfl rfl rfl rfl rfl (by assumption) (by assumption) rfl ?_ | refine mx_orow E rfl rfl rfl rfl rfl (by assumption) (by assumption) (by first | assumption | rfl) rfl ?_ | refine mx_orown E rfl rfl rfl rfl rfl (by assumption) (by assumption) (by first | exact Vr.all rfl | exact ⟨⟨rfl⟩, rfl⟩) rfl ?_ | refine mx_geta E rfl rfl rfl rfl rfl rfl (by first | assumption | rfl) rfl ?_ | refine mx_getna E rfl rfl rfl rfl rfl rfl (by first | exact Vr.all rfl | exact ⟨⟨rfl⟩, rfl⟩) rfl ?_) | (refine g_bin rfl ?_; first | (first | (refine mx_cmpl .eql rfl rfl rfl rfl rfl (by first | exact cmp_eq_t (by omega) | exact cmp_eq_f (by omega) | rfl) ?_) | (refine mx_cmpl .neq rfl rfl rfl rfl rfl (by first | exact cmp_ne_t (by omega) | exact cmp_ne_f (by omega) | rfl) ?_) | (refine mx_cmpl .lss rfl rfl rfl rfl rfl (by first | exact cmp_lt_t (by omega) | exact cmp_lt_f (by omega) | rfl) ?_) | (refine mx_cmpl .leq rfl rfl rfl rfl rfl (by first | exact cmp_le_t (by omega) | exact cmp_le_f (by omega) | rfl) ?_) | (refine mx_cmpl .gtr rfl rfl rfl rfl rfl (by first | exact cmp_gt_t (by omega) | exact cmp_gt_f (by omega) | rfl) ?_) | (refine mx_cmpl .geq rfl rfl rfl rfl rfl (by first | exact cmp_ge_t (by omega) | exact cmp_ge_f (by omega) | rfl) ?_)) | (first | refine mx_ar rfl rfl rfl rfl rfl rfl (IntWalk.i64_in _ (by omega)) rfl ?_ | refine mx_ar rfl rfl rfl rfl rfl rfl (IntWalk.u64_in _ (by omega)) rfl ?_ | refine mx_ar rfl rfl rfl rfl rfl rfl (IntWalk.u8_in _ (by omega)) rfl ?_ | refine mx_ar rfl rfl rfl rfl rfl rfl rfl rfl ?_) | (first | refine mx_eqs rfl rfl rfl rfl rfl rfl ?_ | refine mx_nes rfl rfl rfl rfl rfl rfl ?_ | refine mx_eq rfl rfl rfl rfl rfl rfl ?_ | refine mx_ne rfl rfl rfl rfl rfl rfl ?_) | refine mx_bsame E rfl rfl rfl rfl rfl rfl rfl ?_ | refine mx_bnsame E rfl rfl rfl rfl rfl rfl rfl ?_ | refine mx_beq E rfl rfl rfl rfl rfl rfl rfl ?_ | refine mx_bne E rfl rfl rfl rfl rfl rfl rfl ?_ | refine mx_dv rfl rfl rfl rfl rfl (by decide) (congrArg some (by assumption)) rfl rfl ?_ | refine mx_dv rfl rfl rfl rfl rfl (by decide) rfl rfl rfl ?_ | refine mx_bit rfl rfl rfl rfl rfl (congrArg some (by assumption)) rfl rfl ?_ | refine mx_bit rfl rfl rfl rfl rfl rfl rfl rfl ?_ | refine mx_sh rfl rfl rfl rfl rfl (by omega) (congrArg some (by assumption)) rfl rfl ?_ | refine mx_sh rfl rfl rfl rfl rfl (by omega) rfl rfl rfl ?_) | (refine g_ix rfl ?_; first | refine mx_ixan E rfl rfl rfl rfl rfl rfl (by omega) rfl ?_ | refine mx_ixsn E rfl rfl rfl rfl rfl rfl (by omega) rfl ?_ | refine mx_ixsi E rfl rfl rfl rfl rfl rfl (by omega) (by omega) rfl ?_ | refine mx_ixa E rfl rfl rfl rfl rfl rfl (by omega) (by omega) rfl rfl ?_) | (refine mx_nc rfl rfl rfl ?_) | (refine g_bi .len rfl ?_; refine mx_len E rfl rfl rfl rfl ?_) | (refine mx_not rfl rfl rfl ?_) | (refine mx_ex _ rfl rfl rfl (by conv => {lhs; whnf}) ?_) | (refine mx_skip rfl rfl rfl ?_) | (refine g_pick rfl ?_; first | refine mx_andf rfl rfl rfl rfl rfl ?_ | refine mx_ort rfl rfl rfl rfl rfl ?_ | refine mx_and rfl rfl rfl rfl rfl rfl ?_ | refine mx_or rfl rfl rfl rfl rfl rfl ?_ | refine mx_pickt _ rfl rfl rfl rfl (by conv => {lhs; whnf}) rfl ?_ | refine mx_pickf _ rfl rfl rfl rfl (by conv => {lhs; whnf}) rfl ?_) | (refine g_store rfl ?_; first | refine s_l E rfl rfl rfl rfl rfl rfl rfl (by first | exact Sp.all rfl | exact Sp.lit rfl rfl) rfl ?_ | refine s_1 E rfl rfl rfl rfl rfl rfl rfl rfl (by first | exact sp0 | exact spS sp0 | exact spS (spS sp0) | exact Sp.lit rfl rfl) rfl ?_) | (refine g_build rfl ?_; first | refine mx_build rfl rfl rfl rfl (b81 _ _) rfl ?_ | refine mx_build rfl rfl rfl rfl (b83 _ _ _ _) rfl ?_) | (refine a_new rfl rfl rfl rfl rfl (fun _ => ?_)) | (refine g_box rfl ?_; first | refine a_boxl rfl rfl rfl rfl rfl rfl (fun _ => ?_) | refine a_box1 rfl rfl rfl rfl rfl rfl rfl (fun _ => ?_)) | (first | refine mx_indexn E rfl rfl rfl rfl rfl rfl rfl rfl (by omega) (by first | exact vr_RR _ (by omega)) rfl ?_ | refine mx_index E rfl rfl rfl rfl rfl rfl rfl rfl (by omega) (by omega) (by first | exact vr_RR _ (by omega)) rfl ?_) | (refine g_bs rfl ?_; first | refine a_bs0 E rfl rfl rfl rfl rfl rfl (fun _ => ?_) | refine a_bsi E rfl rfl rfl rfl rfl (by (repeat (first | exact EvI.nil | (apply EvI.cons; rfl)))) (by rfl) (by rfl) (by rfl) rfl (fun _ => ?_)) | (refine g_conv rfl ?_; first | refine mx_cv E rfl rfl rfl rfl rfl rfl (by assumption) rfl ?_ | refine mx_cv E rfl rfl rfl rfl rfl rfl (IntWalk.i64_in _ (by omega)) rfl ?_ | refine mx_cv E rfl rfl rfl rfl rfl rfl (IntWalk.u64_in _ (by omega)) rfl ?_ | refine mx_cv E rfl rfl rfl rfl rfl rfl (IntWalk.u8_in _ (by omega)) rfl ?_ | refine mx_cv E rfl rfl rfl rfl rfl rfl rfl rfl ?_) | (first | (refine g_bi .max rfl ?_; refine mx_maxi rfl rfl rfl rfl rfl rfl rfl ?_) | (refine g_bi .min rfl ?_; refine mx_mini rfl rfl rfl rfl rfl rfl rfl ?_)) | (refine mx_fld rfl rfl rfl rfl (by kernel_rfl) rfl rfl ?_) | (fail)) | refine cw_seq ?_ | refine cw_line rfl ?_ | (refine cw_drawq mixed rfl (by kernel_rfl) rfl ?_) | refine cw_block ?_ | refine cw_cond_f rfl ?_ | refine cw_cond_t rfl ?_ | refine cw_skip ?_ | refine cw_exit ?_ | refine cw_ret ?_ | refine pw_then ?_ | refine pw_then_x ?_ | refine pw_then_r ?_ | refine pw_block ?_ | refine pw_block_e ?_ | refine pw_block_n rfl ?_ | refine pw_block_r ?_))
      refine g_bi .append rfl ?_
      refine a_app E rfl rfl rfl rfl rfl rfl rfl rfl (cDR r) rfl (fun w hw => fun _ => ⟨b6, 0, rfl, fun j u hj => by rw [add_at, Nat.zero_add]; exact row_cell (hw.holds 0 _ rfl) hj⟩) rfl (by omega) rfl (fun _ _ _ _ => trivial) (fun a2 c2 => ?_)
      have e1 : ((rows.take k).eraseIdx i).flatMap cDR ++ cDR r = ((rows.take (k + 1)).eraseIdx i).flatMap cDR := by rw [hst, List.flatMap_append]; simp
      have e2 : ((rows.take k).eraseIdx i).length + 1 = ((rows.take (k + 1)).eraseIdx i).length := by rw [hst]; simp
      rw [e1, e2]
      (repeat (first | ((refine (?_ : MX _ _ _ _ _ _ _ _ _ _ _)); first | refine mx_end ?_ | (refine mx_mv _ rfl rfl (by conv => {lhs; whnf}) ?_) | (refine mx_as _ rfl rfl (by conv => {lhs; whnf}) ?_) | (refine g_bin rfl ?_; (refine mx_ar rfl rfl rfl rfl rfl rfl (IntWalk.i64_in _ (by omega)) rfl ?_ ) ) ) | refine cw_line rfl ?_ | refine pw_then ?_ | refine pw_block ?_ ))
      exact pw_round (k + 1, a2, c2) (by show k + 1 ≤ rows.length; omega) (by show rows.length - (k + 1) < rows.length - k; omega) ⟨rfl, rfl, rfl, rfl, trivial⟩ (fun w h => h.pick [1] (by simp) rfl)
end
end Go.Proofs.Ytminmbkhlnaabaa
