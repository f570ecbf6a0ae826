/- The bytes of a number, and a number's low bytes; walked. What bytes are as a number. -/
import Derived.Test.YtdimcafdmaidpaaMl
set_option maxRecDepth 100000
set_option maxHeartbeats 8000000
set_option linter.unusedSimpArgs false
set_option linter.unusedVariables false
namespace Go.Proofs.Ytdimcafdmaidpaa
open Go Go.Sx Go.RowKit
theorem bytesOf43 (n : Int) (m : Nat) (hm : m ≤ 8) (w : World) :
    Calls Try.prog 43 #[.int .u64 n, .int .i64 m] w fun e w' => ∃ a : Option Addr × Nat, e = .returned (.slice a.1 m a.2) ∧ Grow w w' ∧ (ownd a.1 a.2 5 1 m ((byts n m).flatMap cU)).holds w' ∧ ∀ b, (ownd a.1 a.2 5 1 m ((byts n m).flatMap cU)).dom b → b < w'.heap.size ∧ ¬ b < w.heap.size := by
  refine enter2 (S := fun _ => False) 22 Try.func43 rfl rfl rfl (Ok.start w) ?_
  (repeat (first | ((refine (?_ : MX _ _ _ _ _ _ _ _ _ _ _)); first | refine mx_end ?_ | (refine mx_as _ rfl rfl (by conv => {lhs; whnf}) ?_) ) | refine cw_seq ?_ | refine cw_line rfl ?_ | refine cw_block ?_ | refine pw_then ?_ ))
  refine cw_loop (ι := Nat × Option Addr × Nat) (fun p => [(6, .int .i64 p.1), (5, .slice p.2.1 p.1 p.2.2), (0, .int .u64 n), (1, .int .i64 m)]) (fun p => [ownd p.2.1 p.2.2 5 1 p.1 ((byts n p.1).flatMap cU)]) (fun p => p.1 ≤ m) (fun p => m - p.1) (0, none, 0) (by simp) ⟨rfl, rfl, rfl, rfl, trivial⟩ (fun w h => h.own_nil 5 1) ?_
  rintro ⟨i, a1, c1⟩ jk hi
  dsimp only at hi ⊢
  by_cases h0 : (i : Int) < m
  case neg =>
    obtain rfl : i = m := by omega
    (repeat (first | ((refine (?_ : MX _ _ _ _ _ _ _ _ _ _ _)); first | refine mx_end ?_ | (refine mx_mv _ rfl rfl (by conv => {lhs; whnf}) ?_) | (refine mx_as _ rfl rfl (by conv => {lhs; whnf}) ?_) | (refine g_bin rfl ?_; ( (refine mx_cmpl .lss rfl rfl rfl rfl rfl (by exact cmp_lt_f (by omega) ) ?_) ) ) ) | refine cw_seq ?_ | refine cw_line rfl ?_ | refine cw_cond_f rfl ?_ | refine cw_exit ?_ | refine cw_ret ?_ | refine pw_then ?_ | refine pw_then_x ?_ | refine pw_block_e ?_ ))
    exact pw_ret rfl rfl rfl rfl fun w' hw => ⟨(a1, c1), rfl, hw.keep.grow, hw.holds 0 _ rfl, fun b hb => hw.fresh 0 rfl b hb⟩
  case pos =>
    have hsr := shr64 n i (by omega)
    have hcv : IntKind.u8.wrap (n / 2 ^ (8 * i)) = bytw n i := rfl
    (repeat (first | ((refine (?_ : MX _ _ _ _ _ _ _ _ _ _ _)); first | refine mx_end ?_ | (refine mx_mv _ rfl rfl (by conv => {lhs; whnf}) ?_) | (refine g_bin rfl ?_; first | ( (refine mx_cmpl .lss rfl rfl rfl rfl rfl (by exact cmp_lt_t (by omega) ) ?_) ) | (refine mx_ar rfl rfl rfl rfl rfl rfl (IntWalk.i64_in _ (by omega)) rfl ?_ ) | refine mx_sh rfl rfl rfl rfl rfl (by omega) (congrArg some (by assumption)) rfl rfl ?_ ) | (refine g_bs rfl ?_; refine a_bsi E rfl rfl rfl rfl rfl (by (repeat (first | exact EvI.nil | (apply EvI.cons; rfl)))) (by rfl) (by rfl) (by rfl) rfl (fun _ => ?_)) | (refine g_conv rfl ?_; first | refine mx_cv E rfl rfl rfl rfl rfl rfl (by assumption) rfl ?_ | refine mx_cv E rfl rfl rfl rfl rfl rfl (IntWalk.u64_in _ (by omega)) rfl ?_ ) ) | refine cw_seq ?_ | refine cw_line rfl ?_ | refine cw_block ?_ | refine cw_cond_t rfl ?_ | refine cw_skip ?_ | refine pw_then ?_ ))
    refine g_bi .append rfl ?_
    refine a_app E rfl rfl rfl rfl rfl rfl rfl rfl [.int .u8 (bytw n i)] rfl (fun w hw => one_src (hw.holds 0 _ rfl)) rfl (by omega) rfl (fun _ _ _ _ => trivial) (fun a2 c2 => ?_)
    rw [app_flat, ← byts_succ]
    (repeat (first | ((refine (?_ : MX _ _ _ _ _ _ _ _ _ _ _)); first | refine mx_end ?_ | (refine mx_mv _ rfl rfl (by conv => {lhs; whnf}) ?_) | (refine mx_as _ rfl rfl (by conv => {lhs; whnf}) ?_) | (refine g_bin rfl ?_; (refine mx_ar rfl rfl rfl rfl rfl rfl (IntWalk.i64_in _ (by omega)) rfl ?_ ) ) ) | refine cw_line rfl ?_ | refine pw_then ?_ | refine pw_block ?_ ))
    refine pw_round (i + 1, a2, c2) (by show i + 1 ≤ m; omega) (by show m - (i + 1) < m - i; omega) ⟨rfl, rfl, rfl, rfl, trivial⟩ (fun w h => h.only 1 rfl)
theorem dd256 (n k : Int) : n / (256 * k) = n / 256 / k := by rw [Int.ediv_ediv]; simp
theorem bytw_succ (n : Int) (i : Nat) : bytw n (i + 1) = bytw (n / 256) i := by
  unfold bytw
  have : (2 : Int) ^ (8 * (i + 1)) = 256 * 2 ^ (8 * i) := by
    rw [show 8 * (i + 1) = 8 + 8 * i by omega, Int.pow_add]; rfl
  rw [this, dd256]
theorem byts_cons (n : Int) (m : Nat) : byts n (m + 1) = bytw n 0 :: byts (n / 256) m := by
  unfold byts
  rw [List.range_succ_eq_map, List.map_cons, List.map_map]
  congr 1
  exact List.map_congr_left fun i _ => bytw_succ n i
theorem numB_byts : ∀ (m : Nat) (n : Int), numB (byts n m) = n % 256 ^ m
  | 0, n => by simp [byts, numB, Int.emod_one]
  | m + 1, n => by
    rw [byts_cons, numB, numB_byts m]
    have e0 : bytw n 0 = n % 256 := by
      unfold bytw
      rw [IntKind.wrap_u8]
      simp
    have hk : (0 : Int) < 256 ^ m := Int.pow_pos (by decide)
    rw [e0, Int.pow_succ, Int.mul_comm (256 ^ m) 256, Int.emod_def n (256 * 256 ^ m), dd256, Int.emod_def (n / 256), Int.emod_def n 256, Int.mul_sub, Int.mul_assoc]
    omega
theorem wrap64 (x : Int) : IntKind.u64.wrap x = x % 18446744073709551616 := by simp [IntKind.wrap, IntKind.bits, IntKind.signed]
theorem low_eq (n : Int) (h0 : 0 ≤ n) (h1 : n < 18446744073709551616) (m : Nat) (hm : m = 1 ∨ m = 2 ∨ m = 4 ∨ m = 8) : (IntKind.u64.wrap (n * 2 ^ min (64 - 8 * (m : Int)).toNat IntKind.u64.bits)).fdiv (2 ^ min (64 - 8 * (m : Int)).toNat IntKind.u64.bits) = n % 256 ^ m := by
  rw [Int.fdiv_eq_ediv_of_nonneg _ (Int.le_of_lt (Int.pow_pos (by decide))), wrap64]
  rcases hm with rfl | rfl | rfl | rfl
  · rw [show min (64 - 8 * ((1 : Nat) : Int)).toNat IntKind.u64.bits = 56 by decide, show (2 : Int) ^ 56 = 72057594037927936 by decide, show (256 : Int) ^ 1 = 256 by decide]; omega
  · rw [show min (64 - 8 * ((2 : Nat) : Int)).toNat IntKind.u64.bits = 48 by decide, show (2 : Int) ^ 48 = 281474976710656 by decide, show (256 : Int) ^ 2 = 65536 by decide]; omega
  · rw [show min (64 - 8 * ((4 : Nat) : Int)).toNat IntKind.u64.bits = 32 by decide, show (2 : Int) ^ 32 = 4294967296 by decide, show (256 : Int) ^ 4 = 4294967296 by decide]; omega
  · rw [show min (64 - 8 * ((8 : Nat) : Int)).toNat IntKind.u64.bits = 0 by decide, show (2 : Int) ^ 0 = 1 by decide, show (256 : Int) ^ 8 = 18446744073709551616 by decide]; omega
theorem low32 (n : Int) (h0 : 0 ≤ n) (h1 : n < 18446744073709551616) (m : Nat) (hm : m = 1 ∨ m = 2 ∨ m = 4 ∨ m = 8) (w : World) :
    Calls Try.prog 32 #[.int .u64 n, .int .i64 m] w fun e w' => e = .returned (.int .u64 (n % 256 ^ m)) ∧ Grow w w' := by
  refine enter2 (S := fun _ => False) 16 Try.func32 rfl rfl rfl (Ok.start w) ?_
  have h8 : m ≤ 8 := by omega
  rw [← low_eq n h0 h1 m hm]
  (repeat (first | ((refine (?_ : MX _ _ _ _ _ _ _ _ _ _ _)); first | refine mx_end ?_ | (refine mx_mv _ rfl rfl (by conv => {lhs; whnf}) ?_) | (refine mx_as _ rfl rfl (by conv => {lhs; whnf}) ?_) | (refine g_bin rfl ?_; first | (refine mx_ar rfl rfl rfl rfl rfl rfl (IntWalk.i64_in _ (by omega)) rfl ?_ ) | refine mx_sh rfl rfl rfl rfl rfl (by omega) rfl rfl rfl ?_) | (refine g_conv rfl ?_; refine mx_cv E rfl rfl rfl rfl rfl rfl (IntWalk.u64_in _ (by omega)) rfl ?_ ) ) | refine cw_seq ?_ | refine cw_line rfl ?_ | refine cw_ret ?_ | refine pw_then ?_ ))
  exact pw_ret rfl rfl rfl rfl fun w hw => ⟨rfl, hw.keep.grow⟩
end Go.Proofs.Ytdimcafdmaidpaa
