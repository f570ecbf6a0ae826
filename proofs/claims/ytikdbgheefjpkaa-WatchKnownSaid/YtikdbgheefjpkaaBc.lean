/- A list of bytes in memory of its own, nil stays nil. -/
import Derived.Test.YtikdbgheefjpkaaBy
set_option maxRecDepth 100000
set_option maxHeartbeats 4000000
set_option linter.unusedSimpArgs false
set_option linter.unusedVariables false
namespace Go.Proofs.Ytikdbgheefjpkaa
open Go Go.Sx Go.RowKit
/-- A list of its own, and a nil one. -/
theorem cloneB (ad : Option Addr) (m cap : Nat) (xs : List Int) (hm : xs.length = m) (hs : m ≤ 1000000000) (w : World) (hl : InL w ad 1 cU xs) :
    Calls Try.prog 87 #[.slice ad m cap] w fun e w' => ∃ a : Option Addr × Nat, e = .returned (.slice a.1 m a.2) ∧ Grow w w' ∧ (ownd a.1 a.2 5 1 m (xs.flatMap cU)).holds w' ∧ ∀ b, (ownd a.1 a.2 5 1 m (xs.flatMap cU)).dom b → b < w'.heap.size ∧ ¬ b < w.heap.size := by
  refine enter1 (S := fun _ => False) 8 Try.func87 rfl rfl rfl (Ok.start w) ?_
  refine cw_seq ?_; refine cw_line rfl ?_; (repeat (first | ((refine (?_ : MX _ _ _ _ _ _ _ _ _ _ _)); first | refine mx_end ?_ | (refine mx_as _ rfl rfl (by conv => {lhs; whnf}) ?_) ) | refine pw_then ?_))
  refine cw_seq ?_
  refine cw_seq ?_
  refine cw_line rfl ?_
  refine mx_mv _ rfl rfl (by conv => {lhs; whnf}) ?_
  refine mx_nils E rfl rfl rfl rfl rfl rfl rfl ?_
  cases ad with
  | none =>
    have hx : xs = [] := by
      cases xs with
      | nil => rfl
      | cons x xs => obtain ⟨b, off, e, _⟩ := hl (by simp); cases e
    subst hx
    obtain rfl : m = 0 := by simpa using hm.symm
    (repeat (first | ((refine (?_ : MX _ _ _ _ _ _ _ _ _ _ _)); first | refine mx_end ?_ | (refine mx_as _ rfl rfl (by conv => {lhs; whnf}) ?_) ) | refine cw_seq ?_ | refine cw_line rfl ?_ | refine cw_cond_t rfl ?_ | refine cw_ret ?_ | refine pw_then ?_ | refine pw_then_r ?_ ))
    refine pw_weak (H' := [ownd none 0 5 1 0 []]) (fun w h => h.own_nil _ _) ?_
    exact pw_ret rfl rfl rfl rfl fun w' hw => ⟨(none, 0), rfl, hw.keep.grow, hw.holds 0 _ rfl, fun b hb => hw.fresh 0 rfl b hb⟩
  | some a =>
    (repeat (first | ((refine (?_ : MX _ _ _ _ _ _ _ _ _ _ _)); first | refine mx_end ?_ | (refine mx_mv _ rfl rfl (by conv => {lhs; whnf}) ?_) | (refine g_bs rfl ?_; refine a_bs0 E rfl rfl rfl rfl rfl rfl (fun _ => ?_) ) ) | refine cw_seq ?_ | refine cw_line rfl ?_ | refine cw_cond_f rfl ?_ | refine cw_skip ?_ | refine pw_then ?_ ))
    refine g_bi .append rfl ?_
    refine a_app E rfl rfl rfl rfl rfl rfl rfl rfl (xs.flatMap cU) (by rw [flatU_len, hm]; omega) (fun w hw => (hl.keep hw fun _ _ _ h => h).src len_U) (one_U xs) (by omega) rfl (fun _ _ _ _ => trivial) (fun a2 c2 => ?_)
    rw [List.nil_append, Nat.zero_add]
    (repeat (first | ((refine (?_ : MX _ _ _ _ _ _ _ _ _ _ _)); first | refine mx_end ?_ | (refine mx_as _ rfl rfl (by conv => {lhs; whnf}) ?_) ) | refine cw_ret ?_ | refine pw_then ?_ ))
    exact pw_ret rfl rfl rfl rfl fun w' hw => ⟨(a2, c2), rfl, hw.keep.grow, hw.holds 0 _ rfl, fun b hb => hw.fresh 0 rfl b hb⟩
end Go.Proofs.Ytikdbgheefjpkaa
