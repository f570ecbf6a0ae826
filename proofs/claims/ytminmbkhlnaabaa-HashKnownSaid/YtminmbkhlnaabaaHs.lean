/- The document's sum is the program's. -/
import Derived.Test.YtminmbkhlnaabaaHw
set_option maxRecDepth 100000
set_option maxHeartbeats 8000000
set_option linter.unusedSimpArgs false
set_option linter.unusedVariables false
namespace Go.Proofs.Ytminmbkhlnaabaa
open Go Go.Sx Go.RowKit
theorem xor_low (s x : Nat) (hx : x < 256) : s ^^^ x = s - s % 256 + (s % 256 ^^^ x) := by
  have h1 : (s ^^^ x) / 2 ^ 8 = s / 2 ^ 8 := by
    rw [Nat.xor_div_two_pow, show x / 2 ^ 8 = 0 from Nat.div_eq_of_lt hx, Nat.xor_zero]
  have h2 : (s ^^^ x) % 2 ^ 8 = s % 2 ^ 8 ^^^ x := by
    rw [Nat.xor_mod_two_pow, show x % 2 ^ 8 = x from Nat.mod_eq_of_lt hx]
  have h3 := Nat.div_add_mod (s ^^^ x) (2 ^ 8)
  have h4 := Nat.div_add_mod s (2 ^ 8)
  rw [h1, h2] at h3
  simp only [show (2 : Nat) ^ 8 = 256 from rfl] at h3 h4
  omega
theorem wrap64u (x : Int) : IntKind.u64.wrap x = x % 18446744073709551616 := by simp [IntKind.wrap, IntKind.bits, IntKind.signed]
theorem xorB (n : Nat) (a b : Nat) (ha : a < 2 ^ n) (hb : b < 2 ^ n) : ((BitVec.ofInt n (a : Int)) ^^^ (BitVec.ofInt n (b : Int))).toNat = a ^^^ b := by
  rw [BitVec.toNat_xor, BitVec.toNat_ofInt, BitVec.toNat_ofInt]
  have h1 : ((a : Int) % ((2 ^ n : Nat) : Int)).toNat = a := by
    rw [Int.emod_eq_of_lt (by omega) (by omega)]
    exact Int.toNat_natCast a
  have h2 : ((b : Int) % ((2 ^ n : Nat) : Int)).toNat = b := by
    rw [Int.emod_eq_of_lt (by omega) (by omega)]
    exact Int.toNat_natCast b
  rw [h1, h2]
theorem xlow (a b : Nat) (ha : a < 256) (hb : b < 256) : a ^^^ b < 256 := Nat.xor_lt_two_pow (n := 8) ha hb
theorem sum_step (s x : Nat) (hs : s < 4294967296) (hx : x < 256) : stepK (s : Int) (x : Int) = (((s - s % 256 + (s % 256 ^^^ x)) * 16777619 % 4294967296 : Nat) : Int) := by
  unfold stepK
  have hw : IntKind.u32.wrap (x : Int) = (x : Int) := by rw [wrap32]; omega
  have hb : IntKind.u32.bits = 32 := rfl
  rw [hw, hb, xorB 32 s x (by omega) (by omega), xor_low s x hx, wrap32, wrap32]
  have h1 := xlow (s % 256) x (by omega) hx
  have h2 : s - s % 256 + (s % 256 ^^^ x) < 4294967296 := by omega
  omega
theorem dsum32 (ad : Option Addr) (m cap : Nat) (k : List Int) (hk : BytK k) (hm : k.length = m) (hs : m ≤ 1000000000) (w : World) (hl : InL w ad 1 cU k) :
    Calls Try.prog 32 #[.slice ad m cap] w fun e w' => e = .returned (.int .u32 (sumK k)) ∧ Grow w w' := by
  refine enter1 (S := fun _ => False) 31 Try.func32 rfl rfl rfl (Ok.start w) ?_
  subst hm
  (repeat (first | ((refine (?_ : MX _ _ _ _ _ _ _ _ _ _ _)); first | refine mx_end ?_ | (refine mx_as _ rfl rfl (by conv => {lhs; whnf}) ?_) ) | refine cw_seq ?_ | refine cw_line rfl ?_ | refine cw_block ?_ | refine pw_then ?_ ))
  refine cw_loop (fun i : Nat => [(4, .int .i64 i), (3, .int .u64 (sumK (k.take i))), (0, .slice ad k.length cap)]) (fun i => []) (fun i => i ≤ k.length) (fun i => k.length - i) 0 (by omega) ⟨rfl, rfl, rfl, trivial⟩ (fun w h => h) ?_
  intro i jk hi
  by_cases h0 : (i : Int) < k.length
  case neg =>
    rw [List.take_of_length_le (by omega)]
    have hr := sumK_rng k
    have hcv : IntKind.u32.wrap (sumK k) = sumK k := by rw [wrap32]; omega
    (repeat (first | ((refine (?_ : MX _ _ _ _ _ _ _ _ _ _ _)); first | refine mx_end ?_ | (refine mx_mv _ rfl rfl (by conv => {lhs; whnf}) ?_) | (refine mx_as _ rfl rfl (by conv => {lhs; whnf}) ?_) | (refine g_bin rfl ?_; ( (refine mx_cmpl .lss rfl rfl rfl rfl rfl (by exact cmp_lt_f (by omega) ) ?_) ) ) | (refine g_bi .len rfl ?_; refine mx_len E rfl rfl rfl rfl ?_) | (refine g_conv rfl ?_; refine mx_cv E rfl rfl rfl rfl rfl rfl (by with_reducible assumption) rfl ?_) ) | refine cw_seq ?_ | refine cw_line rfl ?_ | refine cw_cond_f rfl ?_ | refine cw_exit ?_ | refine cw_ret ?_ | refine pw_then ?_ | refine pw_then_x ?_ | refine pw_block_e ?_ ))
    exact pw_ret rfl rfl rfl rfl fun w' hw => ⟨rfl, hw.keep.grow⟩
  case pos =>
    obtain ⟨x, hx⟩ := getElem_some (xs := k) (i := i) (by omega)
    obtain ⟨b4, off, e, hcc⟩ := inl_at hl hx
    subst e
    have hS : ¬ (fun _ : Nat => False) b4 := id
    have hc0 : w.cell? ⟨b4, off + i * 1, none⟩ = some (.int .u8 x) := hcc 0 _ rfl
    have hxr := hk x (List.mem_of_getElem? hx)
    have hr := sumK_rng (k.take i)
    have hnx := sumK_take hx
    obtain ⟨xn, rfl⟩ := Int.eq_ofNat_of_zero_le hxr.1
    obtain ⟨s, hsn⟩ := Int.eq_ofNat_of_zero_le hr.1
    rw [hsn] at hnx hr ⊢
    rw [sum_step s xn (by omega) (by omega)] at hnx
    have hd := xlow (s % 256) xn (by omega) (by omega)
    have h1 : (s : Int).tmod 256 = ((s % 256 : Nat) : Int) := by
      rw [Int.tmod_eq_emod_of_nonneg (by omega)]
      omega
    have h2 : IntKind.u64.wrap (xn : Int) = (xn : Int) := by rw [wrap64u]; omega
    have h3 : IntKind.u64.wrap (((BitVec.ofInt IntKind.u64.bits ((s % 256 : Nat) : Int)) ^^^ (BitVec.ofInt IntKind.u64.bits (xn : Int))).toNat : Int) = ((s % 256 ^^^ xn : Nat) : Int) := by
      have hb : IntKind.u64.bits = 64 := rfl
      rw [hb, xorB 64 (s % 256) xn (by omega) (by omega), wrap64u]
      omega
    have h4 : IntKind.u64.wrap ((s : Int) - ((s % 256 : Nat) : Int)) = ((s - s % 256 : Nat) : Int) := by rw [wrap64u]; omega
    have h5 : IntKind.u64.wrap (((s - s % 256 : Nat) : Int) + ((s % 256 ^^^ xn : Nat) : Int)) = ((s - s % 256 + (s % 256 ^^^ xn) : Nat) : Int) := by rw [wrap64u]; omega
    have h6 : IntKind.u64.wrap (((s - s % 256 + (s % 256 ^^^ xn) : Nat) : Int) * 16777619) = (((s - s % 256 + (s % 256 ^^^ xn)) * 16777619 : Nat) : Int) := by rw [wrap64u]; omega
    have h7 : ((((s - s % 256 + (s % 256 ^^^ xn)) * 16777619 : Nat) : Int)).tmod 4294967296 = (((s - s % 256 + (s % 256 ^^^ xn)) * 16777619 % 4294967296 : Nat) : Int) := by
      rw [Int.tmod_eq_emod_of_nonneg (by omega)]
      omega
    (repeat (first | ((refine (?_ : MX _ _ _ _ _ _ _ _ _ _ _)); first | refine mx_end ?_ | (refine mx_mv _ rfl rfl (by conv => {lhs; whnf}) ?_) | (refine mx_as _ rfl rfl (by conv => {lhs; whnf}) ?_) | (refine g_load rfl ?_; refine mx_old1 E rfl rfl rfl rfl rfl (by assumption) (by assumption) rfl ?_ ) | (refine g_bin rfl ?_; first | ( (refine mx_cmpl .lss rfl rfl rfl rfl rfl (by exact cmp_lt_t (by omega) ) ?_) ) | (first | refine mx_ar rfl rfl rfl rfl rfl rfl (IntWalk.i64_in _ (by omega)) rfl ?_ | refine mx_ar rfl rfl rfl rfl rfl rfl (by with_reducible assumption) rfl ?_) | refine mx_dv rfl rfl rfl rfl rfl (by decide) (congrArg some (by assumption)) rfl rfl ?_ | refine mx_bit rfl rfl rfl rfl rfl (congrArg some (by assumption)) rfl rfl ?_ ) | (refine g_ix rfl ?_; refine mx_ixsn E rfl rfl rfl rfl rfl rfl (by omega) rfl ?_ ) | (refine g_bi .len rfl ?_; refine mx_len E rfl rfl rfl rfl ?_) | (refine g_conv rfl ?_; refine mx_cv E rfl rfl rfl rfl rfl rfl (by with_reducible assumption) rfl ?_) ) | refine cw_seq ?_ | refine cw_line rfl ?_ | refine cw_block ?_ | refine cw_cond_t rfl ?_ | refine cw_skip ?_ | refine pw_then ?_ | refine pw_block ?_ ))
    exact pw_round (i + 1) (by omega) (by omega) ⟨rfl, by rw [hnx]; rfl, rfl, trivial⟩ (fun w h => h)
end Go.Proofs.Ytminmbkhlnaabaa
