/- A number counted round. -/
import Derived.Test.YtikdbgheefjpkaaBy
set_option maxRecDepth 100000
set_option maxHeartbeats 4000000
set_option linter.unusedSimpArgs false
set_option linter.unusedVariables false
namespace Go.Proofs.Ytikdbgheefjpkaa
open Go Go.Sx Go.RowKit
theorem pickC (k n : Int) (h0 : 1 ≤ n) (h1 : n ≤ 1000000000) (w : World) : Calls Try.prog 46 #[.int .i64 k, .int .i64 n] w fun e w' => e = .returned (.int .i64 (k % n)) ∧ Grow w w' := by
  have ht := Int.tmod_lt_of_pos k (show 0 < n by omega)
  have ht2 := Int.tmod_lt_of_pos (-k) (show 0 < n by omega)
  rw [Int.neg_tmod] at ht2
  refine enter2 (S := fun _ => False) 16 Try.func46 rfl rfl rfl (Ok.start w) ?_
  refine cw_seq ?_; refine cw_line rfl ?_; (repeat (first | ((refine (?_ : MX _ _ _ _ _ _ _ _ _ _ _)); first | refine mx_end ?_ | (refine mx_as _ rfl rfl (by conv => {lhs; whnf}) ?_) ) | refine pw_then ?_))
  refine cw_seq ?_
  refine cw_seq ?_; refine cw_line rfl ?_; (repeat (first | ((refine (?_ : MX _ _ _ _ _ _ _ _ _ _ _)); first | refine mx_end ?_ | (refine mx_mv _ rfl rfl (by conv => {lhs; whnf}) ?_) | (refine g_bin rfl ?_; ( (refine mx_cmpl .lss rfl rfl rfl rfl rfl (by exact cmp_lt_f (by omega) ) ?_) ) ) ) | refine pw_then ?_))
  refine cw_cond_f rfl ?_
  refine cw_skip ?_
  refine pw_then ?_
  refine cw_seq ?_
  refine cw_line rfl ?_
  refine mx_mv _ rfl rfl (by conv => {lhs; whnf}) ?_
  refine mx_mv _ rfl rfl (by conv => {lhs; whnf}) ?_
  refine mx_dv rfl rfl rfl rfl rfl (by omega) rfl rfl rfl ?_
  by_cases hn : k.tmod n < 0
  · have e : k.tmod n + n = k % n := by
      have h2 := Int.emod_add_mul_ediv k n
      have h3 := Int.tmod_add_mul_tdiv k n
      have h4 := Int.emod_nonneg k (show n ≠ 0 by omega)
      have h5 := Int.emod_lt_of_pos k (show 0 < n by omega)
      exact (Int.emod_emod_of_dvd k (Int.dvd_refl n)).symm.trans (by
        have e6 : k % n = (k.tmod n + n) % n := by
          rw [Int.add_emod_right]
          conv => lhs; rw [← h3]
          rw [Int.add_mul_emod_self_left]
        rw [e6, Int.emod_emod_of_dvd _ (Int.dvd_refl n)]
        exact Int.emod_eq_of_lt (by omega) (by omega)) |>.symm
    (repeat (first | ((refine (?_ : MX _ _ _ _ _ _ _ _ _ _ _)); first | refine mx_end ?_ | (refine mx_mv _ rfl rfl (by conv => {lhs; whnf}) ?_) | (refine mx_as _ rfl rfl (by conv => {lhs; whnf}) ?_) | (refine g_bin rfl ?_; first | ( (refine mx_cmpl .lss rfl rfl rfl rfl rfl (by exact cmp_lt_t (by omega) ) ?_) ) | (refine mx_ar rfl rfl rfl rfl rfl rfl (IntWalk.i64_in _ (by omega)) rfl ?_ ) ) ) | refine cw_seq ?_ | refine cw_line rfl ?_ | refine cw_cond_t rfl ?_ | refine cw_ret ?_ | refine pw_then ?_ ))
    rw [e]
    exact pw_ret rfl rfl rfl rfl fun w hw => ⟨rfl, hw.keep.grow⟩
  · have e : k.tmod n = k % n := by
      have h3 := Int.tmod_add_mul_tdiv k n
      have e6 : k % n = k.tmod n % n := by
        conv => lhs; rw [← h3]
        rw [Int.add_mul_emod_self_left]
      rw [e6]
      exact (Int.emod_eq_of_lt (by omega) (by omega)).symm
    (repeat (first | ((refine (?_ : MX _ _ _ _ _ _ _ _ _ _ _)); first | refine mx_end ?_ | (refine mx_mv _ rfl rfl (by conv => {lhs; whnf}) ?_) | (refine mx_as _ rfl rfl (by conv => {lhs; whnf}) ?_) | (refine g_bin rfl ?_; ( (refine mx_cmpl .lss rfl rfl rfl rfl rfl (by exact cmp_lt_f (by omega) ) ?_) ) ) ) | refine cw_seq ?_ | refine cw_line rfl ?_ | refine cw_cond_f rfl ?_ | refine cw_skip ?_ | refine cw_ret ?_ | refine pw_then ?_ ))
    rw [e]
    exact pw_ret rfl rfl rfl rfl fun w hw => ⟨rfl, hw.keep.grow⟩
theorem pickE (k n v : Int) (h0 : 1 ≤ n) (h1 : n ≤ 1000000000) (hv : k % n = v) (w : World) : Calls Try.prog 46 #[.int .i64 k, .int .i64 n] w fun e w' => e = .returned (.int .i64 v) ∧ Grow w w' := hv ▸ pickC k n h0 h1 w
end Go.Proofs.Ytikdbgheefjpkaa
