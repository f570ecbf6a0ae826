/- Stacks and numbers as plain data; the small functions of layer 13, walked. -/
import Derived.Test.YtdimcafdmaidpaaFm
import Derived.Test.YtdimcafdmaidpaaBy
set_option maxRecDepth 100000
set_option maxHeartbeats 4000000
set_option linter.unusedSimpArgs false
set_option linter.unusedVariables false
namespace Go.Proofs.Ytdimcafdmaidpaa
open Go Go.Sx Go.RowKit
def sizedB (n : Int) : Bool := n == 1 || n == 2 || n == 4 || n == 8
def onB (off n : Int) : Bool := decide (-512 ≤ off) && decide (off ≤ 0) && decide (0 ≤ n) && decide (n ≤ -off)
theorem sizedB_iff (n : Int) : sizedB n = true ↔ n = 1 ∨ n = 2 ∨ n = 4 ∨ n = 8 := by
  unfold sizedB
  simp only [Bool.or_eq_true, beq_iff_eq]
  omega
theorem onB_iff (off n : Int) : onB off n = true ↔ -512 ≤ off ∧ off ≤ 0 ∧ 0 ≤ n ∧ n ≤ -off := by
  unfold onB
  simp only [Bool.and_eq_true, decide_eq_true_eq]
  omega
theorem sized63 (n : Int) (w : World) : Calls Try.prog 63 #[.int .i64 n] w fun e w' => e = .returned (.bool (sizedB n)) ∧ Grow w w' := by
  have hs := sizedB_iff n
  refine enter1 (S := fun _ => False) 17 Try.func63 rfl rfl rfl (Ok.start w) ?_
  by_cases h : n = 1 ∨ n = 2 ∨ n = 4 ∨ n = 8
  · rw [hs.2 h]
    rcases h with rfl | rfl | rfl | rfl
    all_goals
      (repeat (first | ((refine (?_ : MX _ _ _ _ _ _ _ _ _ _ _)); first | refine mx_end ?_ | (refine mx_mv _ rfl rfl (by conv => {lhs; whnf}) ?_) | (refine mx_as _ rfl rfl (by conv => {lhs; whnf}) ?_) | (refine g_bin rfl ?_; ((refine mx_cmpl .eql rfl rfl rfl rfl rfl (by first | exact cmp_eq_t (by omega) | exact cmp_eq_f (by omega) | rfl) ?_) ) ) | (refine mx_skip rfl rfl rfl ?_) | (refine g_pick rfl ?_; first | refine mx_ort rfl rfl rfl rfl rfl ?_ | refine mx_or rfl rfl rfl rfl rfl rfl ?_ ) ) | refine cw_seq ?_ | refine cw_line rfl ?_ | refine cw_ret ?_ | refine pw_then ?_ ))
      exact pw_ret rfl rfl rfl rfl fun w hw => ⟨rfl, hw.keep.grow⟩
  · have e : sizedB n = false := by cases hb : sizedB n with
      | false => rfl
      | true => exact absurd (hs.1 hb) h
    rw [e]
    (repeat (first | ((refine (?_ : MX _ _ _ _ _ _ _ _ _ _ _)); first | refine mx_end ?_ | (refine mx_mv _ rfl rfl (by conv => {lhs; whnf}) ?_) | (refine mx_as _ rfl rfl (by conv => {lhs; whnf}) ?_) | (refine g_bin rfl ?_; ((refine mx_cmpl .eql rfl rfl rfl rfl rfl (by exact cmp_eq_f (by omega) ) ?_) ) ) | (refine g_pick rfl ?_; refine mx_or rfl rfl rfl rfl rfl rfl ?_ ) ) | refine cw_seq ?_ | refine cw_line rfl ?_ | refine cw_ret ?_ | refine pw_then ?_ ))
    exact pw_ret rfl rfl rfl rfl fun w hw => ⟨rfl, hw.keep.grow⟩
theorem sized69 (n : Int) (w : World) : Calls Try.prog 69 #[.int .i64 n] w fun e w' => e = .returned (.bool (sizedB n)) ∧ Grow w w' := by
  have hs := sizedB_iff n
  refine enter1 (S := fun _ => False) 17 Try.func69 rfl rfl rfl (Ok.start w) ?_
  by_cases h : n = 1 ∨ n = 2 ∨ n = 4 ∨ n = 8
  · rw [hs.2 h]
    rcases h with rfl | rfl | rfl | rfl
    all_goals
      (repeat (first | ((refine (?_ : MX _ _ _ _ _ _ _ _ _ _ _)); first | refine mx_end ?_ | (refine mx_mv _ rfl rfl (by conv => {lhs; whnf}) ?_) | (refine mx_as _ rfl rfl (by conv => {lhs; whnf}) ?_) | (refine g_bin rfl ?_; ((refine mx_cmpl .eql rfl rfl rfl rfl rfl (by first | exact cmp_eq_t (by omega) | exact cmp_eq_f (by omega) | rfl) ?_) ) ) | (refine mx_skip rfl rfl rfl ?_) | (refine g_pick rfl ?_; first | refine mx_ort rfl rfl rfl rfl rfl ?_ | refine mx_or rfl rfl rfl rfl rfl rfl ?_ ) ) | refine cw_seq ?_ | refine cw_line rfl ?_ | refine cw_ret ?_ | refine pw_then ?_ ))
      exact pw_ret rfl rfl rfl rfl fun w hw => ⟨rfl, hw.keep.grow⟩
  · have e : sizedB n = false := by cases hb : sizedB n with
      | false => rfl
      | true => exact absurd (hs.1 hb) h
    rw [e]
    (repeat (first | ((refine (?_ : MX _ _ _ _ _ _ _ _ _ _ _)); first | refine mx_end ?_ | (refine mx_mv _ rfl rfl (by conv => {lhs; whnf}) ?_) | (refine mx_as _ rfl rfl (by conv => {lhs; whnf}) ?_) | (refine g_bin rfl ?_; ((refine mx_cmpl .eql rfl rfl rfl rfl rfl (by exact cmp_eq_f (by omega) ) ?_) ) ) | (refine g_pick rfl ?_; refine mx_or rfl rfl rfl rfl rfl rfl ?_ ) ) | refine cw_seq ?_ | refine cw_line rfl ?_ | refine cw_ret ?_ | refine pw_then ?_ ))
    exact pw_ret rfl rfl rfl rfl fun w hw => ⟨rfl, hw.keep.grow⟩
theorem on64 (off n : Int) (w : World) : Calls Try.prog 64 #[.int .i64 off, .int .i64 n] w fun e w' => e = .returned (.bool (onB off n)) ∧ Grow w w' := by
  refine enter2 (S := fun _ => False) 21 Try.func64 rfl rfl rfl (Ok.start w) ?_
  unfold onB
  by_cases h1 : -512 ≤ off
  case neg => (rw [decide_eq_false h1]; (repeat (first | ((refine (?_ : MX _ _ _ _ _ _ _ _ _ _ _)); first | refine mx_end ?_ | (refine mx_mv _ rfl rfl (by conv => {lhs; whnf}) ?_) | (refine mx_as _ rfl rfl (by conv => {lhs; whnf}) ?_) | (refine g_bin rfl ?_; ( (refine mx_cmpl .geq rfl rfl rfl rfl rfl (by first | exact cmp_ge_f (by omega) | rfl) ?_)) ) | (refine mx_skip rfl rfl rfl ?_) | (refine g_pick rfl ?_; refine mx_andf rfl rfl rfl rfl rfl ?_ ) ) | refine cw_seq ?_ | refine cw_line rfl ?_ | refine cw_ret ?_ | refine pw_then ?_ )); exact pw_ret rfl rfl rfl rfl fun w hw => ⟨rfl, hw.keep.grow⟩)
  by_cases h2 : off ≤ 0
  case neg => (rw [decide_eq_true h1, decide_eq_false h2]; (repeat (first | ((refine (?_ : MX _ _ _ _ _ _ _ _ _ _ _)); first | refine mx_end ?_ | (refine mx_mv _ rfl rfl (by conv => {lhs; whnf}) ?_) | (refine mx_as _ rfl rfl (by conv => {lhs; whnf}) ?_) | (refine g_bin rfl ?_; (first | (refine mx_cmpl .leq rfl rfl rfl rfl rfl (by first | exact cmp_le_t (by omega) | exact cmp_le_f (by omega) ) ?_) | (refine mx_cmpl .geq rfl rfl rfl rfl rfl (by first | exact cmp_ge_t (by omega) | rfl) ?_)) ) | (refine mx_skip rfl rfl rfl ?_) | (refine g_pick rfl ?_; first | refine mx_andf rfl rfl rfl rfl rfl ?_ | refine mx_and rfl rfl rfl rfl rfl rfl ?_ ) ) | refine cw_seq ?_ | refine cw_line rfl ?_ | refine cw_ret ?_ | refine pw_then ?_ )); exact pw_ret rfl rfl rfl rfl fun w hw => ⟨rfl, hw.keep.grow⟩)
  by_cases h3 : 0 ≤ n
  case neg => (rw [decide_eq_true h1, decide_eq_true h2, decide_eq_false h3]; (repeat (first | ((refine (?_ : MX _ _ _ _ _ _ _ _ _ _ _)); first | refine mx_end ?_ | (refine mx_mv _ rfl rfl (by conv => {lhs; whnf}) ?_) | (refine mx_as _ rfl rfl (by conv => {lhs; whnf}) ?_) | (refine g_bin rfl ?_; (first | (refine mx_cmpl .leq rfl rfl rfl rfl rfl (by exact cmp_le_t (by omega) ) ?_) | (refine mx_cmpl .geq rfl rfl rfl rfl rfl (by first | exact cmp_ge_t (by omega) | exact cmp_ge_f (by omega) ) ?_)) ) | (refine mx_skip rfl rfl rfl ?_) | (refine g_pick rfl ?_; first | refine mx_andf rfl rfl rfl rfl rfl ?_ | refine mx_and rfl rfl rfl rfl rfl rfl ?_ ) ) | refine cw_seq ?_ | refine cw_line rfl ?_ | refine cw_ret ?_ | refine pw_then ?_ )); exact pw_ret rfl rfl rfl rfl fun w hw => ⟨rfl, hw.keep.grow⟩)
  by_cases h4 : n ≤ -off
  case neg => (rw [decide_eq_true h1, decide_eq_true h2, decide_eq_true h3, decide_eq_false h4]; have e : (0 : Int) - off = -off := (by omega); (repeat (first | ((refine (?_ : MX _ _ _ _ _ _ _ _ _ _ _)); first | refine mx_end ?_ | (refine mx_mv _ rfl rfl (by conv => {lhs; whnf}) ?_) | (refine mx_as _ rfl rfl (by conv => {lhs; whnf}) ?_) | (refine g_bin rfl ?_; (first | (refine mx_cmpl .leq rfl rfl rfl rfl rfl (by first | exact cmp_le_t (by omega) | exact cmp_le_f (by omega) ) ?_) | (refine mx_cmpl .geq rfl rfl rfl rfl rfl (by exact cmp_ge_t (by omega) ) ?_)) ) | (refine g_pick rfl ?_; refine mx_and rfl rfl rfl rfl rfl rfl ?_ ) | (refine mx_negi rfl rfl rfl rfl (IntWalk.i64_in _ (by omega)) rfl ?_ ) ) | refine cw_seq ?_ | refine cw_line rfl ?_ | refine cw_ret ?_ | refine pw_then ?_ )); exact pw_ret rfl rfl rfl rfl fun w hw => ⟨rfl, hw.keep.grow⟩)
  rw [decide_eq_true h1, decide_eq_true h2, decide_eq_true h3, decide_eq_true h4]
  (repeat (first | ((refine (?_ : MX _ _ _ _ _ _ _ _ _ _ _)); first | refine mx_end ?_ | (refine mx_mv _ rfl rfl (by conv => {lhs; whnf}) ?_) | (refine mx_as _ rfl rfl (by conv => {lhs; whnf}) ?_) | (refine g_bin rfl ?_; (first | (refine mx_cmpl .leq rfl rfl rfl rfl rfl (by exact cmp_le_t (by omega) ) ?_) | (refine mx_cmpl .geq rfl rfl rfl rfl rfl (by exact cmp_ge_t (by omega) ) ?_)) ) | (refine g_pick rfl ?_; refine mx_and rfl rfl rfl rfl rfl rfl ?_ ) | (refine mx_negi rfl rfl rfl rfl (IntWalk.i64_in _ (by omega)) rfl ?_ ) ) | refine cw_seq ?_ | refine cw_line rfl ?_ | refine cw_ret ?_ | refine pw_then ?_ ))
  exact pw_ret rfl rfl rfl rfl fun w hw => ⟨rfl, hw.keep.grow⟩
theorem part70 (off n : Int) (w : World) : Calls Try.prog 70 #[.int .i64 off, .int .i64 n] w fun e w' => e = .returned (.bool (onB off n)) ∧ Grow w w' := by
  refine enter2 (S := fun _ => False) 21 Try.func70 rfl rfl rfl (Ok.start w) ?_
  unfold onB
  by_cases h1 : -512 ≤ off
  case neg => (rw [decide_eq_false h1]; (repeat (first | ((refine (?_ : MX _ _ _ _ _ _ _ _ _ _ _)); first | refine mx_end ?_ | (refine mx_mv _ rfl rfl (by conv => {lhs; whnf}) ?_) | (refine mx_as _ rfl rfl (by conv => {lhs; whnf}) ?_) | (refine g_bin rfl ?_; ( (refine mx_cmpl .geq rfl rfl rfl rfl rfl (by first | exact cmp_ge_f (by omega) | rfl) ?_)) ) | (refine mx_skip rfl rfl rfl ?_) | (refine g_pick rfl ?_; refine mx_andf rfl rfl rfl rfl rfl ?_ ) ) | refine cw_seq ?_ | refine cw_line rfl ?_ | refine cw_ret ?_ | refine pw_then ?_ )); exact pw_ret rfl rfl rfl rfl fun w hw => ⟨rfl, hw.keep.grow⟩)
  by_cases h2 : off ≤ 0
  case neg => (rw [decide_eq_true h1, decide_eq_false h2]; (repeat (first | ((refine (?_ : MX _ _ _ _ _ _ _ _ _ _ _)); first | refine mx_end ?_ | (refine mx_mv _ rfl rfl (by conv => {lhs; whnf}) ?_) | (refine mx_as _ rfl rfl (by conv => {lhs; whnf}) ?_) | (refine g_bin rfl ?_; (first | (refine mx_cmpl .leq rfl rfl rfl rfl rfl (by first | exact cmp_le_t (by omega) | exact cmp_le_f (by omega) ) ?_) | (refine mx_cmpl .geq rfl rfl rfl rfl rfl (by first | exact cmp_ge_t (by omega) | rfl) ?_)) ) | (refine mx_skip rfl rfl rfl ?_) | (refine g_pick rfl ?_; first | refine mx_andf rfl rfl rfl rfl rfl ?_ | refine mx_and rfl rfl rfl rfl rfl rfl ?_ ) ) | refine cw_seq ?_ | refine cw_line rfl ?_ | refine cw_ret ?_ | refine pw_then ?_ )); exact pw_ret rfl rfl rfl rfl fun w hw => ⟨rfl, hw.keep.grow⟩)
  by_cases h3 : 0 ≤ n
  case neg => (rw [decide_eq_true h1, decide_eq_true h2, decide_eq_false h3]; (repeat (first | ((refine (?_ : MX _ _ _ _ _ _ _ _ _ _ _)); first | refine mx_end ?_ | (refine mx_mv _ rfl rfl (by conv => {lhs; whnf}) ?_) | (refine mx_as _ rfl rfl (by conv => {lhs; whnf}) ?_) | (refine g_bin rfl ?_; (first | (refine mx_cmpl .leq rfl rfl rfl rfl rfl (by exact cmp_le_t (by omega) ) ?_) | (refine mx_cmpl .geq rfl rfl rfl rfl rfl (by first | exact cmp_ge_t (by omega) | exact cmp_ge_f (by omega) ) ?_)) ) | (refine mx_skip rfl rfl rfl ?_) | (refine g_pick rfl ?_; first | refine mx_andf rfl rfl rfl rfl rfl ?_ | refine mx_and rfl rfl rfl rfl rfl rfl ?_ ) ) | refine cw_seq ?_ | refine cw_line rfl ?_ | refine cw_ret ?_ | refine pw_then ?_ )); exact pw_ret rfl rfl rfl rfl fun w hw => ⟨rfl, hw.keep.grow⟩)
  by_cases h4 : n ≤ -off
  case neg => (rw [decide_eq_true h1, decide_eq_true h2, decide_eq_true h3, decide_eq_false h4]; have e : (0 : Int) - off = -off := (by omega); (repeat (first | ((refine (?_ : MX _ _ _ _ _ _ _ _ _ _ _)); first | refine mx_end ?_ | (refine mx_mv _ rfl rfl (by conv => {lhs; whnf}) ?_) | (refine mx_as _ rfl rfl (by conv => {lhs; whnf}) ?_) | (refine g_bin rfl ?_; (first | (refine mx_cmpl .leq rfl rfl rfl rfl rfl (by first | exact cmp_le_t (by omega) | exact cmp_le_f (by omega) ) ?_) | (refine mx_cmpl .geq rfl rfl rfl rfl rfl (by exact cmp_ge_t (by omega) ) ?_)) ) | (refine g_pick rfl ?_; refine mx_and rfl rfl rfl rfl rfl rfl ?_ ) | (refine mx_negi rfl rfl rfl rfl (IntWalk.i64_in _ (by omega)) rfl ?_ ) ) | refine cw_seq ?_ | refine cw_line rfl ?_ | refine cw_ret ?_ | refine pw_then ?_ )); exact pw_ret rfl rfl rfl rfl fun w hw => ⟨rfl, hw.keep.grow⟩)
  rw [decide_eq_true h1, decide_eq_true h2, decide_eq_true h3, decide_eq_true h4]
  (repeat (first | ((refine (?_ : MX _ _ _ _ _ _ _ _ _ _ _)); first | refine mx_end ?_ | (refine mx_mv _ rfl rfl (by conv => {lhs; whnf}) ?_) | (refine mx_as _ rfl rfl (by conv => {lhs; whnf}) ?_) | (refine g_bin rfl ?_; (first | (refine mx_cmpl .leq rfl rfl rfl rfl rfl (by exact cmp_le_t (by omega) ) ?_) | (refine mx_cmpl .geq rfl rfl rfl rfl rfl (by exact cmp_ge_t (by omega) ) ?_)) ) | (refine g_pick rfl ?_; refine mx_and rfl rfl rfl rfl rfl rfl ?_ ) | (refine mx_negi rfl rfl rfl rfl (IntWalk.i64_in _ (by omega)) rfl ?_ ) ) | refine cw_seq ?_ | refine cw_line rfl ?_ | refine cw_ret ?_ | refine pw_then ?_ ))
  exact pw_ret rfl rfl rfl rfl fun w hw => ⟨rfl, hw.keep.grow⟩
/-- A place of the stack: the slot, and the byte. -/
theorem place78 (at0 : Int) (p : Nat) (hp : at0 + 512 = p) (hs : p ≤ 1000000) (w : World) : Calls Try.prog 78 #[.int .i64 at0] w fun e w' => e = .returned (.tuple #[.int .i64 ((p / 8 : Nat) : Int), .int .i64 ((p % 8 : Nat) : Int)]) ∧ Grow w w' := by
  have hq : IntKind.i64.wrap ((at0 + 512).tdiv 8) = ((p / 8 : Nat) : Int) := by
    rw [hp, IntWalk.i64_quo _ _ (by omega)]; omega
  have hr : (at0 + 512).tmod 8 = ((p % 8 : Nat) : Int) := by
    rw [hp, IntWalk.rem_in _ _ (by omega)]; omega
  refine enter1 (S := fun _ => False) 10 Try.func78 rfl rfl rfl (Ok.start w) ?_
  refine cw_seq ?_; refine cw_line rfl ?_; (repeat (first | ((refine (?_ : MX _ _ _ _ _ _ _ _ _ _ _)); first | refine mx_end ?_ | (refine mx_as _ rfl rfl (by conv => {lhs; whnf}) ?_) ) | refine pw_then ?_))
  refine cw_seq ?_; refine cw_line rfl ?_; (repeat (first | ((refine (?_ : MX _ _ _ _ _ _ _ _ _ _ _)); first | refine mx_end ?_ | (refine mx_mv _ rfl rfl (by conv => {lhs; whnf}) ?_) | (refine mx_as _ rfl rfl (by conv => {lhs; whnf}) ?_) | (refine g_bin rfl ?_; (refine mx_ar rfl rfl rfl rfl rfl rfl (IntWalk.i64_in _ (by omega)) rfl ?_ ) ) ) | refine pw_then ?_))
  refine cw_seq ?_
  refine cw_line rfl ?_
  refine mx_mv _ rfl rfl (by conv => {lhs; whnf}) ?_
  refine mx_dv rfl rfl rfl rfl rfl (by decide) (congrArg some hq) rfl rfl ?_
  refine mx_mv _ rfl rfl (by conv => {lhs; whnf}) ?_
  refine mx_dv rfl rfl rfl rfl rfl (by decide) (congrArg some hr) rfl rfl ?_
  (repeat (first | ((refine (?_ : MX _ _ _ _ _ _ _ _ _ _ _)); first | refine mx_end ?_ | (refine mx_as _ rfl rfl (by conv => {lhs; whnf}) ?_) ) | refine cw_ret ?_ | refine pw_then ?_ ))
  exact pw_rets rfl [_, _] ⟨rfl, rfl, trivial⟩ rfl fun w hw => ⟨rfl, hw.keep.grow⟩
/-- From where on so many bytes are just a slot. -/
theorem whole66 (b : Nat) (at0 size : Int) (p : Nat) (hp : at0 + 512 = p) (hs : p < 512) (w : World) : Calls Try.prog 66 #[.pointer (some ⟨b, 0, none⟩), .int .i64 at0, .int .i64 size] w fun e w' => e = .returned (.pointer (if size = 8 ∧ p % 8 = 0 then some ⟨b, 36 + p / 8 * 12, none⟩ else none)) ∧ Grow w w' := by
  refine enter3 (S := fun _ => False) 25 Try.func66 rfl rfl rfl (Ok.start w) ?_
  refine cw_seq ?_; refine cw_line rfl ?_; (repeat (first | ((refine (?_ : MX _ _ _ _ _ _ _ _ _ _ _)); first | refine mx_end ?_ | (refine mx_as _ rfl rfl (by conv => {lhs; whnf}) ?_) ) | refine pw_then ?_))
  refine cw_seq ?_; refine cw_line rfl ?_; (repeat (((refine (?_ : MX _ _ _ _ _ _ _ _ _ _ _)); (refine mx_mv _ rfl rfl (by conv => {lhs; whnf}) ?_) ) ))
  refine g_cf 78 rfl ?_; refine mx_call rfl rfl rfl Try.func78 rfl rfl rfl _ (fun w => place78 at0 p hp (by omega) w) rfl ?_
  by_cases h1 : size = 8
  case neg =>
    rw [if_neg (fun h => h1 h.1)]
    (repeat (first | ((refine (?_ : MX _ _ _ _ _ _ _ _ _ _ _)); first | refine mx_end ?_ | (refine mx_mv _ rfl rfl (by conv => {lhs; whnf}) ?_) | (refine mx_as _ rfl rfl (by conv => {lhs; whnf}) ?_) | (refine g_bin rfl ?_; ( (refine mx_cmpl .neq rfl rfl rfl rfl rfl (by first | exact cmp_ne_t (by omega) | rfl) ?_) ) ) | (refine mx_ex _ rfl rfl rfl (by conv => {lhs; whnf}) ?_) | (refine mx_skip rfl rfl rfl ?_) | (refine g_pick rfl ?_; refine mx_ort rfl rfl rfl rfl rfl ?_ ) ) | refine cw_seq ?_ | refine cw_line rfl ?_ | refine cw_cond_t rfl ?_ | refine cw_ret ?_ | refine pw_then ?_ | refine pw_then_r ?_ ))
    exact pw_ret rfl rfl rfl rfl fun w hw => ⟨rfl, hw.keep.grow⟩
  case pos =>
    by_cases h2 : p % 8 = 0
    case neg =>
      rw [if_neg (fun h => h2 h.2)]
      (repeat (first | ((refine (?_ : MX _ _ _ _ _ _ _ _ _ _ _)); first | refine mx_end ?_ | (refine mx_mv _ rfl rfl (by conv => {lhs; whnf}) ?_) | (refine mx_as _ rfl rfl (by conv => {lhs; whnf}) ?_) | (refine g_bin rfl ?_; ( (refine mx_cmpl .neq rfl rfl rfl rfl rfl (by first | exact cmp_ne_t (by omega) | exact cmp_ne_f (by omega) ) ?_) ) ) | (refine mx_ex _ rfl rfl rfl (by conv => {lhs; whnf}) ?_) | (refine g_pick rfl ?_; refine mx_or rfl rfl rfl rfl rfl rfl ?_ ) ) | refine cw_seq ?_ | refine cw_line rfl ?_ | refine cw_cond_t rfl ?_ | refine cw_ret ?_ | refine pw_then ?_ | refine pw_then_r ?_ ))
      exact pw_ret rfl rfl rfl rfl fun w hw => ⟨rfl, hw.keep.grow⟩
    case pos =>
      rw [if_pos ⟨h1, h2⟩]
      (repeat (first | ((refine (?_ : MX _ _ _ _ _ _ _ _ _ _ _)); first | refine mx_end ?_ | (refine mx_mv _ rfl rfl (by conv => {lhs; whnf}) ?_) | (refine mx_as _ rfl rfl (by conv => {lhs; whnf}) ?_) | ( refine mx_fa E rfl rfl rfl rfl ?_) | (refine g_bin rfl ?_; ( (refine mx_cmpl .neq rfl rfl rfl rfl rfl (by exact cmp_ne_f (by omega) ) ?_) ) ) | (refine g_ix rfl ?_; refine mx_ixan E rfl rfl rfl rfl rfl rfl (by omega) rfl ?_ ) | (refine mx_nc rfl rfl rfl ?_) | (refine mx_ex _ rfl rfl rfl (by conv => {lhs; whnf}) ?_) | (refine g_pick rfl ?_; refine mx_or rfl rfl rfl rfl rfl rfl ?_ ) ) | refine cw_seq ?_ | refine cw_line rfl ?_ | refine cw_cond_f rfl ?_ | refine cw_skip ?_ | refine cw_ret ?_ | refine pw_then ?_ ))
      exact pw_ret rfl rfl rfl rfl fun w hw => ⟨rfl, hw.keep.grow⟩
/-- The number that bytes are. -/
def numB : List Int → Int
  | [] => 0
  | c :: cs => c + 256 * numB cs
def Byts (cs : List Int) : Prop := ∀ c ∈ cs, 0 ≤ c ∧ c < 256
theorem numB_bd : ∀ (cs : List Int), Byts cs → 0 ≤ numB cs ∧ numB cs < 256 ^ cs.length
  | [], _ => by simp [numB]
  | c :: cs, h => by
    have h1 := h c (by simp)
    have h2 := numB_bd cs fun x hx => h x (List.mem_cons_of_mem _ hx)
    simp only [numB, List.length_cons, Int.pow_succ]
    omega
theorem numB_snoc : ∀ (cs : List Int) (c : Int), numB (cs ++ [c]) = numB cs + 256 ^ cs.length * c
  | [], c => by simp [numB]
  | d :: cs, c => by
    simp only [List.cons_append, numB, numB_snoc cs c, List.length_cons, Int.pow_succ]
    rw [Int.mul_add, ← Int.mul_assoc, Int.mul_comm (256 ^ cs.length) 256]
    omega
theorem or_add (k : IntKind) (hk : k = .u64 ∨ k = .u8) (i : Nat) (a c : Int) (ha : 0 ≤ a) (hai : a < 2 ^ i) (hc : 0 ≤ c) (hb : a + 2 ^ i * c < 2 ^ k.bits) : k.wrap ((BitVec.ofInt k.bits a) ||| (BitVec.ofInt k.bits (2 ^ i * c))).toNat = a + 2 ^ i * c := by
  obtain ⟨m, rfl⟩ := Int.eq_ofNat_of_zero_le ha
  obtain ⟨q, rfl⟩ := Int.eq_ofNat_of_zero_le hc
  have hai' : m < 2 ^ i := by exact_mod_cast hai
  have hb' : m + 2 ^ i * q < 2 ^ k.bits := by exact_mod_cast hb
  have e1 : (BitVec.ofInt k.bits (m : Int)).toNat = m := by
    rw [BitVec.toNat_ofInt]
    have : ((m : Int) % ((2 ^ k.bits : Nat) : Int)).toNat = m % 2 ^ k.bits := by rw [← Int.natCast_emod]; rfl
    rw [this, Nat.mod_eq_of_lt (by omega)]
  have e2 : (BitVec.ofInt k.bits (2 ^ i * (q : Int))).toNat = 2 ^ i * q := by
    have e : (2 : Int) ^ i * (q : Int) = ((2 ^ i * q : Nat) : Int) := by push_cast; rfl
    rw [e, BitVec.toNat_ofInt]
    have : (((2 ^ i * q : Nat) : Int) % ((2 ^ k.bits : Nat) : Int)).toNat = (2 ^ i * q) % 2 ^ k.bits := by rw [← Int.natCast_emod]; rfl
    rw [this, Nat.mod_eq_of_lt (by omega)]
  rw [BitVec.toNat_or, e1, e2, Nat.or_comm, ← Nat.two_pow_add_eq_or_of_lt hai']
  have e3 : ((2 ^ i * q + m : Nat) : Int) = (m : Int) + 2 ^ i * (q : Int) := by push_cast; omega
  rw [e3]
  rcases hk with rfl | rfl
  · exact IntWalk.u64_in _ (by
      have : (2 : Int) ^ IntKind.u64.bits = 18446744073709551616 := rfl
      have h0 : (0 : Int) ≤ 2 ^ i * (q : Int) := Int.mul_nonneg (Int.le_of_lt (Int.pow_pos (by decide))) (by omega)
      omega)
  · exact IntWalk.u8_in _ (by
      have : (2 : Int) ^ IntKind.u8.bits = 256 := rfl
      have h0 : (0 : Int) ≤ 2 ^ i * (q : Int) := Int.mul_nonneg (Int.le_of_lt (Int.pow_pos (by decide))) (by omega)
      omega)
end Go.Proofs.Ytdimcafdmaidpaa
