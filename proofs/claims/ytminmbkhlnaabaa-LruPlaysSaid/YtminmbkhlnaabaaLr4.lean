/- The program's map of which the key goes that was used longest ago: put, its keys. -/
import Derived.Test.YtminmbkhlnaabaaLr3
set_option maxRecDepth 100000
set_option maxHeartbeats 8000000
set_option linter.unusedSimpArgs false
set_option linter.unusedVariables false
namespace Go.Proofs.Ytminmbkhlnaabaa
open Go Go.Sx Go.RowKit
def putE (key : Int) (k : List Int) (rows : List RW) : Int := if (k.length : Int) ≠ key then 14 else if (fidx (plk k) rows 0).isSome then 11 else 0
def putG (most : Int) (rows : List RW) : RW := if (rows.length : Int) = most then rows.getD (rows.length - 1) default else ⟨[], 0⟩
def putL (most : Int) (rows : List RW) (k : List Int) (c : Int) : List RW := ⟨k, c⟩ :: if (rows.length : Int) = most then rows.eraseIdx (rows.length - 1) else rows
section
variable (bx : Nat) (key most : Int) (ra : Option Addr) (rc : Nat) (rows : List RW) (ad : Option Addr) (m cap : Nat) (k : List Int)
theorem put13e (c : Int) (hs : rows.length ≤ 100000) (hR : ∀ r ∈ rows, BytR r) (hk : ∀ x ∈ k, 0 ≤ x ∧ x < 256) (hm : k.length = m) (he : putE key k rows ≠ 0) (w : World) (h0 : Ok (domL (OL bx key most ra rc rows)) w (OL bx key most ra rc rows) w) (hl : InL w ad 1 cU k) (hne : k ≠ [] → ∀ b off, ad = some ⟨b, off, none⟩ → ¬ domL (OL bx key most ra rc rows) b) :
    Calls Try.prog 13 #[.pointer (some ⟨bx, 0, none⟩), .slice ad m cap, .int .i64 c] w fun e w' => e = .returned (.tuple #[.slice none 0 0, .int .i64 0, .int .i64 (putE key k rows)]) ∧ Ok (domL (OL bx key most ra rc rows)) w (OL bx key most ra rc rows) w' := by
  refine enter3 (S := domL (OL bx key most ra rc rows)) (H := [row bx 73 (hdL key most ra rows.length rc), rdR ra rows.length rc (rows.flatMap cR)]) 51 Try.func13 rfl rfl rfl h0 ?_
  unfold putE at he ⊢
  rw [hm] at he ⊢
  by_cases hkey : (m : Int) = key
  · rw [if_neg (fun h => h hkey)] at he ⊢
    cases hf : fidx (plk k) rows 0 with
    | none => rw [hf] at he; exact absurd rfl he
    | some i =>
      (repeat (first | ((refine (?_ : MX _ _ _ _ _ _ _ _ _ _ _)); first | refine mx_end ?_ | (refine mx_mv _ rfl rfl (by conv => {lhs; whnf}) ?_) | (refine mx_as _ rfl rfl (by conv => {lhs; whnf}) ?_) | (refine mx_fa0 E rfl rfl rfl rfl ?_ ) | (refine g_load rfl ?_; refine mx_get E rfl rfl rfl rfl rfl (by rfl) rfl ?_ ) | (refine g_bin rfl ?_; ( (refine mx_cmpl .neq rfl rfl rfl rfl rfl (by exact cmp_ne_f (by omega) ) ?_) ) ) | (refine mx_nc rfl rfl rfl ?_) | (refine g_bi .len rfl ?_; refine mx_len E rfl rfl rfl rfl ?_) ) | refine cw_seq ?_ | refine cw_line rfl ?_ | refine cw_block ?_ | refine cw_cond_f rfl ?_ | refine pw_then ?_ ))
      refine g_cf 52 rfl ?_; refine a_callv rfl rfl rfl rfl Try.func52 rfl rfl rfl (.int .i64 (oix (fidx (plk k) rows 0))) (fun w' hw => at52 bx key most ra rc rows (by omega) hR ad m cap k hk hm w' (hw.holds 0 _ rfl) (src_inl len_R (by omega) (hw.holds 1 _ rfl).1) (hl.keep' hw hne)) rfl ?_
      rw [hf, oix_some]
      (repeat (first | ((refine (?_ : MX _ _ _ _ _ _ _ _ _ _ _)); first | refine mx_end ?_ | (refine mx_as _ rfl rfl (by conv => {lhs; whnf}) ?_) | (refine g_bin rfl ?_; ( (refine mx_cmpl .geq rfl rfl rfl rfl rfl (by exact cmp_ge_t (by omega) ) ?_)) ) ) | refine cw_seq ?_ | refine cw_line rfl ?_ | refine cw_cond_t rfl ?_ | refine cw_ret ?_ | refine pw_then ?_ | refine pw_then_r ?_ | refine pw_block_r ?_))
      exact pw_rets rfl [_, _, _] ⟨rfl, rfl, rfl, trivial⟩ rfl fun w hw => ⟨rfl, hw⟩
  · rw [if_pos hkey]
    (repeat (first | ((refine (?_ : MX _ _ _ _ _ _ _ _ _ _ _)); first | refine mx_end ?_ | (refine mx_mv _ rfl rfl (by conv => {lhs; whnf}) ?_) | (refine mx_as _ rfl rfl (by conv => {lhs; whnf}) ?_) | (refine mx_fa0 E rfl rfl rfl rfl ?_ ) | (refine g_load rfl ?_; refine mx_get E rfl rfl rfl rfl rfl (by rfl) rfl ?_ ) | (refine g_bin rfl ?_; ( (refine mx_cmpl .neq rfl rfl rfl rfl rfl (by exact cmp_ne_t (by omega) ) ?_) ) ) | (refine mx_nc rfl rfl rfl ?_) | (refine g_bi .len rfl ?_; refine mx_len E rfl rfl rfl rfl ?_) ) | refine cw_seq ?_ | refine cw_line rfl ?_ | refine cw_block ?_ | refine cw_cond_t rfl ?_ | refine cw_ret ?_ | refine pw_then ?_ | refine pw_then_r ?_ | refine pw_block_r ?_))
    exact pw_rets rfl [_, _, _] ⟨rfl, rfl, rfl, trivial⟩ rfl fun w hw => ⟨rfl, hw⟩
structure PutA where
  ra : Option Addr
  rc : Nat
  b : Nat
  cap : Nat
  rest : List Value
theorem put13s (c : Int) (hs : rows.length ≤ 10000) (hR : ∀ r ∈ rows, BytR r) (hmost : 1 ≤ most) (hmost2 : most ≤ 100000) (hk : ∀ x ∈ k, 0 ≤ x ∧ x < 256) (hm : k.length = m) (he : putE key k rows = 0) (w : World) (h0 : Ok (domL (OL bx key most ra rc rows)) w (OL bx key most ra rc rows) w) (hl : InL w ad 1 cU k) (hne : k ≠ [] → ∀ b off, ad = some ⟨b, off, none⟩ → ¬ domL (OL bx key most ra rc rows) b) :
    Calls Try.prog 13 #[.pointer (some ⟨bx, 0, none⟩), .slice ad m cap, .int .i64 c] w fun e w' => ∃ a : PutA, e = .returned (.tuple #[.slice (some ⟨a.b, 0, none⟩) (putG most rows).k.length a.cap, .int .i64 (putG most rows).c, .int .i64 0]) ∧ Ok (domL (OL bx key most ra rc rows)) w (strR a.b 5 ((putG most rows).k.map (Value.int .u8) ++ a.rest) :: OL bx key most a.ra a.rc (putL most rows k c)) w' := by
  refine enter3 (S := domL (OL bx key most ra rc rows)) (H := [row bx 73 (hdL key most ra rows.length rc), rdR ra rows.length rc (rows.flatMap cR)]) 51 Try.func13 rfl rfl rfl h0 ?_
  unfold putE at he
  rw [hm] at he
  have hkey : (m : Int) = key := by
    by_cases h : (m : Int) = key
    · exact h
    · rw [if_pos h] at he; omega
  rw [if_neg (fun h => h hkey)] at he
  have hf : fidx (plk k) rows 0 = none := by
    cases hf : fidx (plk k) rows 0 with
    | none => rfl
    | some i => rw [hf] at he; simp at he
  have hsr := src_U hl
  (repeat (first | ((refine (?_ : MX _ _ _ _ _ _ _ _ _ _ _)); first | refine mx_end ?_ | (refine mx_mv _ rfl rfl (by conv => {lhs; whnf}) ?_) | (refine mx_as _ rfl rfl (by conv => {lhs; whnf}) ?_) | (refine mx_fa0 E rfl rfl rfl rfl ?_ ) | (refine g_load rfl ?_; refine mx_get E rfl rfl rfl rfl rfl (by rfl) rfl ?_ ) | (refine g_bin rfl ?_; ( (refine mx_cmpl .neq rfl rfl rfl rfl rfl (by exact cmp_ne_f (by omega) ) ?_) ) ) | (refine mx_nc rfl rfl rfl ?_) | (refine g_bi .len rfl ?_; refine mx_len E rfl rfl rfl rfl ?_) ) | refine cw_seq ?_ | refine cw_line rfl ?_ | refine cw_block ?_ | refine cw_cond_f rfl ?_ | refine pw_then ?_ ))
  refine g_cf 52 rfl ?_; refine a_callv rfl rfl rfl rfl Try.func52 rfl rfl rfl (.int .i64 (oix (fidx (plk k) rows 0))) (fun w' hw => at52 bx key most ra rc rows (by omega) hR ad m cap k hk hm w' (hw.holds 0 _ rfl) (src_inl len_R (by omega) (hw.holds 1 _ rfl).1) (hl.keep' hw hne)) rfl ?_
  rw [hf, oix_none]
  by_cases hfull : (rows.length : Int) = most
  · unfold putG putL
    rw [if_pos hfull, if_pos hfull]
    obtain ⟨r, hx⟩ := getElem_some (xs := rows) (i := rows.length - 1) (by omega)
    have hg : rows.getD (rows.length - 1) default = r := by simp [List.getD, hx]
    rw [hg]
    have hj : most - 1 = ((rows.length - 1 : Nat) : Int) := by omega
    have hbr := hR r (List.mem_of_getElem? hx)
    have he1 : (rows.eraseIdx (rows.length - 1)).length ≤ 10000 := by rw [List.length_eraseIdx]; split <;> omega
    generalize hq : rows.length - 1 = j at *
    (repeat (first | ((refine (?_ : MX _ _ _ _ _ _ _ _ _ _ _)); first | refine mx_end ?_ | (refine mx_mv _ rfl rfl (by conv => {lhs; whnf}) ?_) | (refine mx_as _ rfl rfl (by conv => {lhs; whnf}) ?_) | ( refine mx_fa E rfl rfl rfl rfl ?_) | (refine g_load rfl ?_; refine mx_get E rfl rfl rfl rfl rfl (by rfl) rfl ?_ ) | (refine g_bin rfl ?_; first | (first | (refine mx_cmpl .eql rfl rfl rfl rfl rfl (by exact cmp_eq_t (by omega) ) ?_) | (refine mx_cmpl .geq rfl rfl rfl rfl rfl (by first | exact cmp_ge_t (by omega) | exact cmp_ge_f (by omega) ) ?_)) | (refine mx_ar rfl rfl rfl rfl rfl rfl ((IntWalk.i64_in _ (by omega)).trans (by with_reducible assumption)) rfl ?_ ) ) | (refine mx_nc rfl rfl rfl ?_) | (refine g_bi .len rfl ?_; refine mx_len E rfl rfl rfl rfl ?_) | (refine a_new rfl rfl rfl rfl rfl (fun _ => ?_)) ) | refine cw_seq ?_ | refine cw_line rfl ?_ | (refine cw_drawq mixed rfl (by kernel_rfl) rfl ?_) | refine cw_cond_f rfl ?_ | refine cw_cond_t rfl ?_ | refine cw_skip ?_ | refine pw_then ?_ | refine pw_block ?_ ))
    rename_i b9
    refine g_cf 53 rfl ?_
    refine a_calls rfl rfl rfl rfl Try.func53 rfl rfl rfl (OL bx key most ra rc rows) [row b9 76 (cR ⟨[], 0⟩)] (fun w h => h.pick [1, 2, 0] (by simp) rfl) (fun a : Option Addr × Nat => .agg (cR r).toArray) (fun a => OL bx key most a.1 a.2 (rows.eraseIdx j)) (fun w' hw h => out53 bx key most ra rc rows (by omega) j r hx w' h) (fun _ => rfl) (fun _ _ _ => trivial) (fun a => ?_)
    obtain ⟨ra1, rc1⟩ := a
    refine mx_weak (H' := [row b9 76 (cR ⟨[], 0⟩), row bx 73 (hdL key most ra1 (rows.eraseIdx j).length rc1), rdR ra1 (rows.eraseIdx j).length rc1 ((rows.eraseIdx j).flatMap cR)]) (fun w h => h.pick [2, 0, 1] (by simp) rfl) (fun _ _ => trivial) ?_
    (repeat (first | ((refine (?_ : MX _ _ _ _ _ _ _ _ _ _ _)); first | refine mx_end ?_ | (refine mx_mv _ rfl rfl (by conv => {lhs; whnf}) ?_) | (refine g_store rfl ?_; refine s_l E rfl rfl rfl rfl rfl rfl rfl (by exact Sp.all rfl ) rfl ?_ ) ) | refine cw_seq ?_ | refine cw_line rfl ?_ | refine pw_then ?_ ))
    refine mx_b2s rfl rfl rfl (by kernel_rfl) rfl hm hsr hne rfl ?_
    (repeat (((refine (?_ : MX _ _ _ _ _ _ _ _ _ _ _)); first | (refine mx_mv _ rfl rfl (by conv => {lhs; whnf}) ?_) | (refine g_build rfl ?_; refine mx_build rfl rfl rfl rfl (b76 _ _) rfl ?_) ) ))
    refine g_cf 54 rfl ?_
    refine a_calls rfl rfl rfl rfl Try.func54 rfl rfl rfl (OL bx key most ra1 rc1 (rows.eraseIdx j)) [row b9 76 (cR r)] (fun w h => h.pick [1, 2, 0] (by simp) rfl) (fun a : Option Addr × Nat => .tuple #[]) (fun a => OL bx key most a.1 a.2 (⟨k, c⟩ :: rows.eraseIdx j)) (fun w' hw h => first54 bx key most ra1 rc1 (rows.eraseIdx j) (by omega) ⟨k, c⟩ w' h) (fun _ => rfl) (fun _ _ _ => trivial) (fun a => ?_)
    obtain ⟨ra2, rc2⟩ := a
    (repeat (first | ((refine (?_ : MX _ _ _ _ _ _ _ _ _ _ _)); refine mx_end ?_ ) | refine pw_then ?_))
    refine cw_weak (H' := [row b9 76 (cR r), row bx 73 (hdL key most ra2 ((⟨k, c⟩ : RW) :: rows.eraseIdx j).length rc2), rdR ra2 ((⟨k, c⟩ : RW) :: rows.eraseIdx j).length rc2 (((⟨k, c⟩ : RW) :: rows.eraseIdx j).flatMap cR)]) (fun w h => h.pick [2, 0, 1] (by simp) rfl) ?_
    refine cw_seq ?_
    refine cw_drawm [0, 1, 3, 4, 2, 5, 6, 7] (fun i => Nat.beq i 2) _ mixed (by kernel_rfl) (fun w h => h.only 0 rfl) ?_
    (repeat (((refine (?_ : MX _ _ _ _ _ _ _ _ _ _ _)); first | (first | refine mx_fa0 E rfl rfl rfl rfl ?_ | refine mx_fa E rfl rfl rfl rfl ?_) | (refine g_load rfl ?_; refine mx_get E rfl rfl rfl rfl rfl (by rfl) rfl ?_ ) ) ))
    refine a_s2b rfl rfl rfl rfl (e := 5) (by kernel_rfl) hbr rfl rfl (fun bs caps rest => ?_)
    (repeat (first | ((refine (?_ : MX _ _ _ _ _ _ _ _ _ _ _)); first | refine mx_end ?_ | (refine mx_as _ rfl rfl (by conv => {lhs; whnf}) ?_) ) | refine cw_ret ?_ | refine pw_then ?_ ))
    exact pw_rets rfl [_, _, _] ⟨rfl, rfl, rfl, trivial⟩ rfl fun w hw => ⟨⟨ra2, rc2, bs, caps, rest⟩, rfl, hw.pick [0, 2, 3] (by simp) rfl⟩
  · unfold putG putL
    rw [if_neg hfull, if_neg hfull]
    (repeat (first | ((refine (?_ : MX _ _ _ _ _ _ _ _ _ _ _)); first | refine mx_end ?_ | (refine mx_mv _ rfl rfl (by conv => {lhs; whnf}) ?_) | (refine mx_as _ rfl rfl (by conv => {lhs; whnf}) ?_) | ( refine mx_fa E rfl rfl rfl rfl ?_) | (refine g_load rfl ?_; refine mx_get E rfl rfl rfl rfl rfl (by rfl) rfl ?_ ) | (refine g_bin rfl ?_; (first | (refine mx_cmpl .eql rfl rfl rfl rfl rfl (by first | exact cmp_eq_t (by omega) | exact cmp_eq_f (by omega) ) ?_) | (refine mx_cmpl .geq rfl rfl rfl rfl rfl (by exact cmp_ge_f (by omega) ) ?_)) ) | (refine mx_nc rfl rfl rfl ?_) | (refine g_bi .len rfl ?_; refine mx_len E rfl rfl rfl rfl ?_) | (refine a_new rfl rfl rfl rfl rfl (fun _ => ?_)) ) | refine cw_seq ?_ | refine cw_line rfl ?_ | (refine cw_drawq mixed rfl (by kernel_rfl) rfl ?_) | refine cw_cond_f rfl ?_ | refine cw_skip ?_ | refine pw_then ?_ | refine pw_block ?_ ))
    rename_i b9
    refine mx_b2s rfl rfl rfl (by kernel_rfl) rfl hm hsr hne rfl ?_
    (repeat (((refine (?_ : MX _ _ _ _ _ _ _ _ _ _ _)); first | (refine mx_mv _ rfl rfl (by conv => {lhs; whnf}) ?_) | (refine g_build rfl ?_; refine mx_build rfl rfl rfl rfl (b76 _ _) rfl ?_) ) ))
    refine g_cf 54 rfl ?_
    refine a_calls rfl rfl rfl rfl Try.func54 rfl rfl rfl (OL bx key most ra rc rows) [row b9 76 (cR ⟨[], 0⟩)] (fun w h => h.pick [1, 2, 0] (by simp) rfl) (fun a : Option Addr × Nat => .tuple #[]) (fun a => OL bx key most a.1 a.2 (⟨k, c⟩ :: rows)) (fun w' hw h => first54 bx key most ra rc rows (by omega) ⟨k, c⟩ w' h) (fun _ => rfl) (fun _ _ _ => trivial) (fun a => ?_)
    obtain ⟨ra2, rc2⟩ := a
    (repeat (first | ((refine (?_ : MX _ _ _ _ _ _ _ _ _ _ _)); refine mx_end ?_ ) | refine pw_then ?_))
    refine cw_weak (H' := [row b9 76 (cR ⟨[], 0⟩), row bx 73 (hdL key most ra2 ((⟨k, c⟩ : RW) :: rows).length rc2), rdR ra2 ((⟨k, c⟩ : RW) :: rows).length rc2 (((⟨k, c⟩ : RW) :: rows).flatMap cR)]) (fun w h => h.pick [2, 0, 1] (by simp) rfl) ?_
    refine cw_seq ?_
    refine cw_drawm [0, 1, 3, 4, 2, 5, 6, 7] (fun i => Nat.beq i 2) _ mixed (by kernel_rfl) (fun w h => h.only 0 rfl) ?_
    (repeat (((refine (?_ : MX _ _ _ _ _ _ _ _ _ _ _)); first | (first | refine mx_fa0 E rfl rfl rfl rfl ?_ | refine mx_fa E rfl rfl rfl rfl ?_) | (refine g_load rfl ?_; refine mx_get E rfl rfl rfl rfl rfl (by rfl) rfl ?_ ) ) ))
    refine a_s2b rfl rfl rfl rfl (e := 5) (by kernel_rfl) (xs := []) (fun x hx => by cases hx) rfl rfl (fun bs caps rest => ?_)
    (repeat (first | ((refine (?_ : MX _ _ _ _ _ _ _ _ _ _ _)); first | refine mx_end ?_ | (refine mx_as _ rfl rfl (by conv => {lhs; whnf}) ?_) ) | refine cw_ret ?_ | refine pw_then ?_ ))
    exact pw_rets rfl [_, _, _] ⟨rfl, rfl, rfl, trivial⟩ rfl fun w hw => ⟨⟨ra2, rc2, bs, caps, rest⟩, rfl, hw.pick [0, 2, 3] (by simp) rfl⟩
/-- A key told. -/
structure KB where
  b : Nat
  cap : Nat
  rest : List Value
  k : List Int
  deriving Inhabited
@[reducible] def cKB (q : KB) : List Value := [.slice (some ⟨q.b, 0, none⟩) q.k.length q.cap]
theorem len_KB (q : KB) : (cKB q).length = 1 := rfl
def keysR (l : List KB) : Res where
  dom := fun b => ∃ q ∈ l, q.b = b
  holds := fun w => ∀ q ∈ l, (strR q.b 5 (q.k.map (Value.int .u8) ++ q.rest)).holds w
  loc := fun w w' h hh q hq => (strR q.b 5 (q.k.map (Value.int .u8) ++ q.rest)).loc w w' (fun b hb => h b ⟨q, hq, hb.symm⟩) (hh q hq)
theorem keys18 (hs : rows.length ≤ 100000) (hR : ∀ r ∈ rows, BytR r) (w : World) (h1 : (row bx 73 (hdL key most ra rows.length rc)).holds w) (h2 : InL w ra 2 cR rows) :
    Calls Try.prog 18 #[.pointer (some ⟨bx, 0, none⟩)] w fun e w' => ∃ a : (Option Addr × Nat) × {l : List KB // l.map (·.k) = rows.map (·.k)}, e = .returned (.slice a.1.1 rows.length a.1.2) ∧ Ok (fun _ => False) w [ownd a.1.1 a.1.2 22 1 rows.length (a.2.1.flatMap cKB), keysR a.2.1] w' := by
  refine enter1 (S := fun _ => False) 23 Try.func18 rfl rfl rfl (Ok.start w) ?_
  have hS : ¬ (fun _ : Nat => False) bx := id
  (repeat (first | ((refine (?_ : MX _ _ _ _ _ _ _ _ _ _ _)); first | refine mx_end ?_ | (refine mx_mv _ rfl rfl (by conv => {lhs; whnf}) ?_) | (refine mx_as _ rfl rfl (by conv => {lhs; whnf}) ?_) | ( refine mx_fa E rfl rfl rfl rfl ?_) | (refine g_load rfl ?_; refine mx_orow E rfl rfl rfl rfl rfl (by assumption) (by assumption) (by rfl) rfl ?_ ) | (refine mx_nc rfl rfl rfl ?_) | (refine g_bi .len rfl ?_; refine mx_len E rfl rfl rfl rfl ?_) ) | refine cw_seq ?_ | refine cw_line rfl ?_ | refine cw_block ?_ | refine pw_then ?_ ))
  refine cw_loop (ι := Nat × Option Addr × Nat × List KB) (fun p => [(11, .int .i64 p.1), (10, .int .i64 rows.length), (9, .slice ra rows.length rc), (3, .slice p.2.1 p.1 p.2.2.1)]) (fun p => [ownd p.2.1 p.2.2.1 22 1 p.1 (p.2.2.2.flatMap cKB), keysR p.2.2.2]) (fun p => p.1 ≤ rows.length ∧ p.2.2.2.map (·.k) = (rows.take p.1).map (·.k)) (fun p => rows.length - p.1) (0, none, 0, []) ⟨by simp, by simp⟩ ⟨rfl, rfl, rfl, rfl, trivial⟩ (fun w h => (h.own_nil 22 1).push (D := fun _ => False) (Chg.rfl' _ _) (fun _ _ h => h) (keysR []) (fun q hq => by cases hq) (fun b ⟨q, hq, _⟩ => by cases hq) |>.pick [1, 0] (by simp) rfl) ?_
  rintro ⟨i, a1, c1, l⟩ jk ⟨hi, hkl⟩
  dsimp only at hi hkl ⊢
  by_cases h0 : (i : Int) < rows.length
  case neg =>
    obtain rfl : i = rows.length := by omega
    rw [List.take_length] at hkl
    (repeat (first | ((refine (?_ : MX _ _ _ _ _ _ _ _ _ _ _)); first | refine mx_end ?_ | (refine mx_mv _ rfl rfl (by conv => {lhs; whnf}) ?_) | (refine mx_as _ rfl rfl (by conv => {lhs; whnf}) ?_) | (refine g_bin rfl ?_; ( (refine mx_cmpl .lss rfl rfl rfl rfl rfl (by exact cmp_lt_f (by omega) ) ?_) ) ) ) | refine cw_seq ?_ | refine cw_line rfl ?_ | refine cw_cond_f rfl ?_ | refine cw_exit ?_ | refine cw_ret ?_ | refine pw_then ?_ | refine pw_then_x ?_ | refine pw_block_e ?_ ))
    exact pw_ret rfl rfl rfl rfl fun w' hw => ⟨((a1, c1), ⟨l, hkl⟩), rfl, hw⟩
  case pos =>
    obtain ⟨r, hx⟩ := getElem_some (xs := rows) (i := i) (by omega)
    obtain ⟨b4, off, e, hcc⟩ := inl_at h2 hx
    subst e
    have hS4 : ¬ (fun _ : Nat => False) b4 := id
    have hc0 : ∀ (k : Nat) (v : Value), (cR r)[k]? = some v → w.cell? ⟨b4, off + i * 2 + k, none⟩ = some v := hcc
    have hbr := hR r (List.mem_of_getElem? hx)
    (repeat (first | ((refine (?_ : MX _ _ _ _ _ _ _ _ _ _ _)); first | refine mx_end ?_ | (refine mx_mv _ rfl rfl (by conv => {lhs; whnf}) ?_) | (refine mx_fa0 E rfl rfl rfl rfl ?_ ) | (refine g_load rfl ?_; first | refine mx_get E rfl rfl rfl rfl rfl (by rfl) rfl ?_ | refine mx_oldn E rfl rfl rfl rfl rfl (by assumption) (by assumption) (rfl) rfl ?_ ) | (refine g_bin rfl ?_; ( (refine mx_cmpl .lss rfl rfl rfl rfl rfl (by exact cmp_lt_t (by omega) ) ?_) ) ) | (refine g_ix rfl ?_; refine mx_ixsn E rfl rfl rfl rfl rfl rfl (by omega) rfl ?_ ) | (refine g_store rfl ?_; refine s_l E rfl rfl rfl rfl rfl rfl rfl (by exact Sp.all rfl ) rfl ?_ ) | (refine a_new rfl rfl rfl rfl rfl (fun _ => ?_)) ) | refine cw_seq ?_ | refine cw_line rfl ?_ | refine cw_block ?_ | refine cw_cond_t rfl ?_ | refine cw_skip ?_ | refine pw_then ?_ ))
    rename_i b5
    refine a_s2b rfl rfl rfl rfl (e := 5) (by kernel_rfl) hbr rfl rfl (fun bs caps rest => ?_)
    (repeat (first | ((refine (?_ : MX _ _ _ _ _ _ _ _ _ _ _)); first | refine mx_end ?_ | (refine mx_mv _ rfl rfl (by conv => {lhs; whnf}) ?_) | (refine mx_as _ rfl rfl (by conv => {lhs; whnf}) ?_) | (first | refine mx_fa0 E rfl rfl rfl rfl ?_ | refine mx_fa E rfl rfl rfl rfl ?_) | (refine g_load rfl ?_; first | refine mx_get E rfl rfl rfl rfl rfl (by first | assumption | rfl) rfl ?_ | refine mx_getn E rfl rfl rfl rfl rfl (by first | exact Vr.all rfl | exact ⟨⟨rfl⟩, rfl⟩) rfl ?_ | refine mx_oldn E rfl rfl rfl rfl rfl (by assumption) (by assumption) (rfl) rfl ?_ | refine mx_old1 E rfl rfl rfl rfl rfl (by assumption) (by assumption) rfl ?_ | refine mx_orow E rfl rfl rfl rfl rfl (by assumption) (by assumption) (by first | assumption | rfl) rfl ?_ | refine mx_orown E rfl rfl rfl rfl rfl (by assumption) (by assumption) (by first | exact Vr.all rfl | exact ⟨⟨rfl⟩, rfl⟩) rfl ?_ | refine mx_geta E rfl rfl rfl rfl rfl rfl (by first | assumption | rfl) rfl ?_ | refine mx_getna E rfl rfl rfl rfl rfl rfl (by first | exact Vr.all rfl | exact ⟨⟨rfl⟩, rfl⟩) rfl ?_) | (refine g_bin rfl ?_; first | (first | (refine mx_cmpl .eql rfl rfl rfl rfl rfl (by first | exact cmp_eq_t (by omega) | exact cmp_eq_f (by omega) | rfl) ?_) | (refine mx_cmpl .neq rfl rfl rfl rfl rfl (by first | exact cmp_ne_t (by omega) | exact cmp_ne_f (by omega) | rfl) ?_) | (refine mx_cmpl .lss rfl rfl rfl rfl rfl (by first | exact cmp_lt_t (by omega) | exact cmp_lt_f (by omega) | rfl) ?_) | (refine mx_cmpl .leq rfl rfl rfl rfl rfl (by first | exact cmp_le_t (by omega) | exact cmp_le_f (by omega) | rfl) ?_) | (refine mx_cmpl .gtr rfl rfl rfl rfl rfl (by first | exact cmp_gt_t (by omega) | exact cmp_gt_f (by omega) | rfl) ?_) | (refine mx_cmpl .geq rfl rfl rfl rfl rfl (by first | exact cmp_ge_t (by omega) | exact cmp_ge_f (by omega) | rfl) ?_)) | (first | refine mx_ar rfl rfl rfl rfl rfl rfl ((IntWalk.i64_in _ (by omega)).trans (by with_reducible assumption)) rfl ?_ | refine mx_ar rfl rfl rfl rfl rfl rfl (IntWalk.i64_in _ (by omega)) rfl ?_) | (first | refine mx_eqs rfl rfl rfl rfl rfl rfl ?_ | refine mx_nes rfl rfl rfl rfl rfl rfl ?_ | refine mx_eq rfl rfl rfl rfl rfl rfl ?_ | refine mx_ne rfl rfl rfl rfl rfl rfl ?_) | refine mx_bsame E rfl rfl rfl rfl rfl rfl rfl ?_ | refine mx_bnsame E rfl rfl rfl rfl rfl rfl rfl ?_ | refine mx_beq E rfl rfl rfl rfl rfl rfl rfl ?_ | refine mx_bne E rfl rfl rfl rfl rfl rfl rfl ?_ | refine mx_dv rfl rfl rfl rfl rfl (by decide) (congrArg some (by assumption)) rfl rfl ?_ | refine mx_dv rfl rfl rfl rfl rfl (by decide) rfl rfl rfl ?_ | refine mx_bit rfl rfl rfl rfl rfl (congrArg some (by assumption)) rfl rfl ?_ | refine mx_bit rfl rfl rfl rfl rfl rfl rfl rfl ?_ | refine mx_sh rfl rfl rfl rfl rfl (by omega) (congrArg some (by assumption)) rfl rfl ?_ | refine mx_sh rfl rfl rfl rfl rfl (by omega) rfl rfl rfl ?_) | (refine g_ix rfl ?_; first | refine mx_ixan E rfl rfl rfl rfl rfl rfl (by omega) rfl ?_ | refine mx_ixsn E rfl rfl rfl rfl rfl rfl (by omega) rfl ?_ | refine mx_ixsi E rfl rfl rfl rfl rfl rfl (by omega) (by omega) rfl ?_ | refine mx_ixa E rfl rfl rfl rfl rfl rfl (by omega) (by omega) rfl rfl ?_) | (refine mx_nc rfl rfl rfl ?_) | (refine g_bi .len rfl ?_; refine mx_len E rfl rfl rfl rfl ?_) | (refine mx_not rfl rfl rfl ?_) | (refine mx_ex _ rfl rfl rfl (by conv => {lhs; whnf}) ?_) | (refine mx_skip rfl rfl rfl ?_) | (refine g_pick rfl ?_; first | refine mx_andf rfl rfl rfl rfl rfl ?_ | refine mx_ort rfl rfl rfl rfl rfl ?_ | refine mx_and rfl rfl rfl rfl rfl rfl ?_ | refine mx_or rfl rfl rfl rfl rfl rfl ?_ | refine mx_pickt _ rfl rfl rfl rfl (by conv => {lhs; whnf}) rfl ?_ | refine mx_pickf _ rfl rfl rfl rfl (by conv => {lhs; whnf}) rfl ?_) | (refine g_store rfl ?_; first | refine s_l E rfl rfl rfl rfl rfl rfl rfl (by first | exact Sp.all rfl | exact Sp.lit rfl rfl) rfl ?_ | refine s_1 E rfl rfl rfl rfl rfl rfl rfl rfl (by first | exact sp0 | exact spS sp0 | exact spS (spS sp0) | exact Sp.lit rfl rfl) rfl ?_) | (refine g_build rfl ?_; first | refine mx_build rfl rfl rfl rfl (b73 _ _) rfl ?_ | refine mx_build rfl rfl rfl rfl (b76 _ _) rfl ?_) | (refine a_new rfl rfl rfl rfl rfl (fun _ => ?_)) | (refine g_box rfl ?_; first | refine a_boxl rfl rfl rfl rfl rfl rfl (fun _ => ?_) | refine a_box1 rfl rfl rfl rfl rfl rfl rfl (fun _ => ?_)) | (first | refine mx_indexn E rfl rfl rfl rfl rfl rfl rfl rfl (by omega) (by first | exact vr_RR _ (by omega)) rfl ?_ | refine mx_index E rfl rfl rfl rfl rfl rfl rfl rfl (by omega) (by omega) (by first | exact vr_RR _ (by omega)) rfl ?_) | (refine g_bs rfl ?_; first | refine a_bs0 E rfl rfl rfl rfl rfl rfl (fun _ => ?_) | refine a_bsi E rfl rfl rfl rfl rfl (by (repeat (first | exact EvI.nil | (apply EvI.cons; rfl)))) (by rfl) (by rfl) (by rfl) rfl (fun _ => ?_)) | (refine g_conv rfl ?_; first | refine mx_cv E rfl rfl rfl rfl rfl rfl (by assumption) rfl ?_ | refine mx_cv E rfl rfl rfl rfl rfl rfl (IntWalk.i64_in _ (by omega)) rfl ?_ | refine mx_cv E rfl rfl rfl rfl rfl rfl (IntWalk.u64_in _ (by omega)) rfl ?_ | refine mx_cv E rfl rfl rfl rfl rfl rfl (IntWalk.u8_in _ (by omega)) rfl ?_ | refine mx_cv E rfl rfl rfl rfl rfl rfl rfl rfl ?_) | (first | (refine g_bi .max rfl ?_; refine mx_maxi rfl rfl rfl rfl rfl rfl rfl ?_) | (refine g_bi .min rfl ?_; refine mx_mini rfl rfl rfl rfl rfl rfl rfl ?_)) | (first | refine mx_fld (off := 1) rfl rfl rfl rfl (by kernel_rfl) rfl rfl ?_ | refine mx_fn rfl rfl rfl rfl rfl rfl ?_ | refine mx_streq rfl rfl rfl rfl rfl rfl ?_ | refine mx_slice3 E rfl rfl rfl rfl rfl rfl rfl (by omega) (by omega) rfl ?_) | (fail)) | refine cw_seq ?_ | refine cw_line rfl ?_ | (refine cw_drawq mixed rfl (by kernel_rfl) rfl ?_) | refine cw_block ?_ | refine cw_cond_f rfl ?_ | refine cw_cond_t rfl ?_ | refine cw_skip ?_ | refine cw_exit ?_ | refine cw_ret ?_ | refine pw_then ?_ | refine pw_then_x ?_ | refine pw_then_r ?_ | refine pw_block ?_ | refine pw_block_e ?_ | refine pw_block_n rfl ?_ | refine pw_block_r ?_))
    refine g_bs rfl ?_
    refine a_bslice1 E rfl rfl rfl rfl (us := [.slice (some ⟨bs, 0, none⟩) r.k.length caps]) rfl rfl rfl rfl rfl rfl (fun b6 => ?_)
    refine g_bi .append rfl ?_
    refine a_app E rfl rfl rfl rfl rfl rfl rfl rfl [.slice (some ⟨bs, 0, none⟩) r.k.length caps] rfl (fun w hw => fun _ => ⟨b6, 0, rfl, fun j u hj => by rw [add_at, Nat.zero_add]; exact row_cell (hw.holds 0 _ rfl) hj⟩) rfl (by omega) rfl (fun _ _ _ _ => trivial) (fun a2 c2 => ?_)
    have e1 : l.flatMap cKB ++ [.slice (some ⟨bs, 0, none⟩) r.k.length caps] = (l ++ [(⟨bs, caps, rest, r.k⟩ : KB)]).flatMap cKB := by
      rw [List.flatMap_append]
      rfl
    rw [e1]
    (repeat (first | ((refine (?_ : MX _ _ _ _ _ _ _ _ _ _ _)); first | refine mx_end ?_ | (refine mx_mv _ rfl rfl (by conv => {lhs; whnf}) ?_) | (refine mx_as _ rfl rfl (by conv => {lhs; whnf}) ?_) | (refine g_bin rfl ?_; ( refine mx_ar rfl rfl rfl rfl rfl rfl (IntWalk.i64_in _ (by omega)) rfl ?_) ) ) | refine cw_line rfl ?_ | refine pw_then ?_ | refine pw_block ?_ ))
    refine pw_round (i + 1, a2, c2, l ++ [(⟨bs, caps, rest, r.k⟩ : KB)]) ⟨by show i + 1 ≤ rows.length; omega, by
      show (l ++ [(⟨bs, caps, rest, r.k⟩ : KB)]).map (·.k) = (rows.take (i + 1)).map (·.k)
      rw [List.map_append, hkl, List.take_add_one, hx, List.map_append]
      rfl⟩ (by show rows.length - (i + 1) < rows.length - i; omega) ⟨rfl, rfl, rfl, rfl, trivial⟩ (fun w h => ?_)
    have h3 := h.pick (H' := [strR bs 5 (r.k.map (Value.int .u8) ++ rest), keysR l, ownd a2 c2 22 1 (i + 1) ((l ++ [(⟨bs, caps, rest, r.k⟩ : KB)]).flatMap cKB)]) [1, 4, 3] (by simp) rfl
    refine (h3.merge (r := keysR (l ++ [(⟨bs, caps, rest, r.k⟩ : KB)])) (fun b ⟨q, hq, hb⟩ => ?_) (fun q hq => ?_)).pick [1, 0] (by simp) rfl
    · rcases List.mem_append.1 hq with hq | hq
      · exact .inr ⟨q, hq, hb⟩
      · obtain rfl := List.mem_singleton.1 hq
        exact .inl hb.symm
    · rcases List.mem_append.1 hq with hq | hq
      · exact h3.holds 1 _ rfl q hq
      · obtain rfl := List.mem_singleton.1 hq
        exact h3.holds 0 _ rfl
end
end Go.Proofs.Ytminmbkhlnaabaa
