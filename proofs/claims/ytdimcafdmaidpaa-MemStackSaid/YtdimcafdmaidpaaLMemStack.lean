/- The walk of the law MemStack: what is stored on a stack is loaded. -/
import Derived.Test.YtdimcafdmaidpaaMt
set_option maxRecDepth 100000
set_option maxHeartbeats 16000000
set_option linter.unusedSimpArgs false
set_option linter.unusedVariables false
namespace Go.Proofs.Ytdimcafdmaidpaa
open Go Go.Sx Go.RowKit
theorem pickx (k n v : Int) (h0 : 1 ≤ n) (h1 : n ≤ 1000000000) (hv : k % n = v) (w : World) : Calls Try.prog 27 #[.int .i64 k, .int .i64 n] w fun e w' => e = .returned (.int .i64 v) ∧ Grow w w' := hv ▸ pick27 k n h0 h1 w
instance cl_Ss (T : Nat → SL) : Cl (cSs T) 768 := ⟨len_Ss T, by unfold cSs; exact oneCells_tab (f := fun i => cS (T i)) (fun i => (cl_S _).one) 64⟩
theorem lawMemStack (f : Fr) (hf : FrOk f) (off size : Int) (v : V3) (hn0 : 0 ≤ v.n) (hn1 : v.n < 18446744073709551616) (w : World) : Calls Try.prog 8 #[.agg (cF f).toArray, .int .i64 off, .int .i64 size, .agg (cV v).toArray] w fun e w' => e = .returned (.bool true) ∧ Grow w w' := by
  refine enter4 (S := fun _ => False) 231 Try.func8 rfl rfl rfl (Ok.start w) ?_
  obtain ⟨j, s, hj, hj4, hrd, hs⟩ : ∃ j s : Nat, size % 4 = (j : Int) ∧ j < 4 ∧ (([1, 2, 4, 8] : List Int).flatMap (cK .i64))[0 + j * 1]? = some (.int .i64 s) ∧ (s = 1 ∨ s = 2 ∨ s = 4 ∨ s = 8) := by
    have h0 := Int.emod_nonneg size (show (4 : Int) ≠ 0 by decide)
    have h1 := Int.emod_lt_of_pos size (show (0 : Int) < 4 by decide)
    have h2 : size % 4 = 0 ∨ size % 4 = 1 ∨ size % 4 = 2 ∨ size % 4 = 3 := by omega
    rcases h2 with h | h | h | h
    · exact ⟨0, 1, h, by omega, rfl, .inl rfl⟩
    · exact ⟨1, 2, h, by omega, rfl, .inr (.inl rfl)⟩
    · exact ⟨2, 4, h, by omega, rfl, .inr (.inr (.inl rfl))⟩
    · exact ⟨3, 8, h, by omega, rfl, .inr (.inr (.inr rfl))⟩
  obtain ⟨p, hp, hp5⟩ : ∃ p : Nat, off % 512 = (p : Int) ∧ p < 512 := by
    have h0 := Int.emod_nonneg off (show (512 : Int) ≠ 0 by decide)
    have h1 := Int.emod_lt_of_pos off (show (0 : Int) < 512 by decide)
    exact ⟨(off % 512).toNat, by omega, by omega⟩
  have hs8 : s ≤ 8 := by omega
  have hs1 : 1 ≤ s := by omega
  (repeat (first | ((refine (?_ : MX _ _ _ _ _ _ _ _ _ _ _)); first | refine mx_end ?_ | (refine mx_mv _ rfl rfl (by conv => {lhs; whnf}) ?_) | (refine mx_as _ rfl rfl (by conv => {lhs; whnf}) ?_) | (refine g_load rfl ?_; first | refine mx_get E rfl rfl rfl rfl rfl (by first | exact rd_Vk _ | assumption ) rfl ?_ | refine mx_getn E rfl rfl rfl rfl rfl (by first | exact vr_V _ | exact vr_F _ ) rfl ?_ ) | (refine g_bin rfl ?_; (refine mx_ar rfl rfl rfl rfl rfl rfl (IntWalk.i64_in _ (by omega)) rfl ?_ ) ) | (refine g_ix rfl ?_; refine mx_ixsn E rfl rfl rfl rfl rfl rfl (by omega) rfl ?_ ) | (refine g_store rfl ?_; refine s_l E rfl rfl rfl rfl rfl rfl rfl (by exact Sp.all (by rw [len_F, len_F]) ) rfl ?_ ) | (refine a_new rfl rfl rfl rfl rfl (fun _ => ?_)) | (refine g_box rfl ?_; refine a_boxl rfl rfl rfl rfl rfl rfl (fun _ => ?_) ) | (refine g_bs rfl ?_; refine a_bsi E rfl rfl rfl rfl rfl (by (repeat (first | exact EvI.nil | (apply EvI.cons; rfl)))) (by rfl) (by rfl) (by rfl) rfl (fun _ => ?_)) | (refine g_call rfl ?_; (refine g_cf 27 rfl ?_; refine mx_call rfl rfl rfl Try.func27 rfl rfl rfl _ (fun w => pickx _ _ _ (by omega) (by omega) (by assumption) w) rfl ?_) )) | refine cw_seq ?_ | refine cw_line rfl ?_ | refine pw_then ?_ ))
  rename_i b4 b7 b9 b10
  refine mx_weak (H' := [row b10 31 (cF f), row b7 24 (cV v), row b4 31 (cF f)]) (fun w h => h.pick [0, 2, 3] (by simp) rfl) (fun _ _ => trivial) ?_
  refine g_cf 28 rfl ?_
  refine a_callr rfl rfl rfl rfl Try.func28 rfl rfl rfl b4 (cF (stR f (-512 + (p : Int)) s v).2) (.int .i64 (stR f (-512 + (p : Int)) s v).1) (fun w' hw h => store28 b4 f (-512 + (p : Int)) s v w' h) rfl ?_
  by_cases hk : v.k = 0
  case pos =>
    have hst : stR f (-512 + (p : Int)) s v = (20, f) := by unfold stR; rw [if_pos hk]
    rw [hst]
    (repeat (first | ((refine (?_ : MX _ _ _ _ _ _ _ _ _ _ _)); first | refine mx_end ?_ | (refine mx_mv _ rfl rfl (by conv => {lhs; whnf}) ?_) | (refine mx_as _ rfl rfl (by conv => {lhs; whnf}) ?_) | (refine mx_fa0 E rfl rfl rfl rfl ?_ ) | (refine g_load rfl ?_; first | refine mx_get E rfl rfl rfl rfl rfl (by exact rd_Vk _ ) rfl ?_ | refine mx_getn E rfl rfl rfl rfl rfl (by exact vr_F _ ) rfl ?_ ) | (refine g_bin rfl ?_; first | (first | (refine mx_cmpl .eql rfl rfl rfl rfl rfl (by first | exact cmp_eq_t (by omega) | exact cmp_eq_f (by omega) ) ?_) | (refine mx_cmpl .leq rfl rfl rfl rfl rfl (by first | exact cmp_le_t (by omega) | rfl) ?_) ) | (refine mx_ar rfl rfl rfl rfl rfl rfl (IntWalk.i64_in _ (by omega)) rfl ?_ ) | (refine mx_eqs rfl rfl rfl rfl rfl rfl ?_ ) ) | (refine g_pick rfl ?_; refine mx_and rfl rfl rfl rfl rfl rfl ?_ ) | (refine g_call rfl ?_; (refine g_cf 29 rfl ?_; refine mx_call rfl rfl rfl Try.func29 rfl rfl rfl _ (fun w => known29 w) rfl ?_) )) | refine cw_seq ?_ | refine cw_line rfl ?_ | refine cw_cond_t rfl ?_ | refine cw_ret ?_ | refine pw_then ?_ | refine pw_then_r ?_ ))
    exact pw_ret rfl rfl rfl rfl fun w hw => ⟨rfl, hw.keep.grow⟩
  by_cases hfit : (p : Int) + s ≤ 512
  case neg =>
    have hst : stR f (-512 + (p : Int)) s v = (22, f) := by unfold stR; rw [if_neg hk, ldOk_of hs, decide_eq_false hfit]; rfl
    rw [hst]
    (repeat (first | ((refine (?_ : MX _ _ _ _ _ _ _ _ _ _ _)); first | refine mx_end ?_ | (refine mx_mv _ rfl rfl (by conv => {lhs; whnf}) ?_) | (refine mx_as _ rfl rfl (by conv => {lhs; whnf}) ?_) | (refine mx_fa0 E rfl rfl rfl rfl ?_ ) | (refine g_load rfl ?_; first | refine mx_get E rfl rfl rfl rfl rfl (by exact rd_Vk _ ) rfl ?_ | refine mx_getn E rfl rfl rfl rfl rfl (by exact vr_F _ ) rfl ?_ ) | (refine g_bin rfl ?_; first | (first | (refine mx_cmpl .eql rfl rfl rfl rfl rfl (by first | exact cmp_eq_t (by omega) | exact cmp_eq_f (by omega) | rfl) ?_) | (refine mx_cmpl .leq rfl rfl rfl rfl rfl (by first | exact cmp_le_t (by omega) | exact cmp_le_f (by omega) ) ?_) ) | (refine mx_ar rfl rfl rfl rfl rfl rfl (IntWalk.i64_in _ (by omega)) rfl ?_ ) | (refine mx_eqs rfl rfl rfl rfl rfl rfl ?_ ) ) | (refine mx_not rfl rfl rfl ?_) | (refine g_pick rfl ?_; refine mx_and rfl rfl rfl rfl rfl rfl ?_ ) | (refine g_call rfl ?_; (refine g_cf 29 rfl ?_; refine mx_call rfl rfl rfl Try.func29 rfl rfl rfl _ (fun w => known29 w) rfl ?_) )) | refine cw_seq ?_ | refine cw_line rfl ?_ | refine cw_cond_f rfl ?_ | refine cw_cond_t rfl ?_ | refine cw_skip ?_ | refine cw_ret ?_ | refine pw_then ?_ | refine pw_then_r ?_ ))
    exact pw_ret rfl rfl rfl rfl fun w hw => ⟨rfl, hw.keep.grow⟩
  have hld : ldOk (-512 + (p : Int)) s = true := by rw [ldOk_of hs, decide_eq_true hfit]
  have e1 : (-512 + (p : Int) + 512).toNat = p := by omega
  have htm := tmod8 (-512 + (p : Int)) p (by omega)
  have hbd := tmod_bd8 (-512 + (p : Int))
  obtain ⟨T, hT⟩ : ∃ T, (-512 + (p : Int)).tmod 8 = T := ⟨_, rfl⟩
  rw [hT] at htm hbd
  by_cases hc : v.k = 1 ∨ (s = 8 ∧ p % 8 = 0)
  case neg =>
    have hc1 : v.k ≠ 1 := fun h => hc (.inl h)
    have hst : stR f (-512 + (p : Int)) s v = (24, f) := by
      unfold stR
      rw [if_neg hk, if_pos hld, if_neg hc1, e1, if_neg fun h => hc (.inr ⟨by omega, h.2⟩)]
    rw [hst]
    by_cases h8 : (s : Int) = 8
    · have hT0 : T ≠ 0 := fun h => hc (.inr ⟨by omega, htm.1 h⟩)
      (repeat (first | ((refine (?_ : MX _ _ _ _ _ _ _ _ _ _ _)); first | refine mx_end ?_ | (refine mx_mv _ rfl rfl (by conv => {lhs; whnf}) ?_) | (refine mx_as _ rfl rfl (by conv => {lhs; whnf}) ?_) | (refine mx_fa0 E rfl rfl rfl rfl ?_ ) | (refine g_load rfl ?_; first | refine mx_get E rfl rfl rfl rfl rfl (by exact rd_Vk _ ) rfl ?_ | refine mx_getn E rfl rfl rfl rfl rfl (by exact vr_F _ ) rfl ?_ ) | (refine g_bin rfl ?_; first | (first | (refine mx_cmpl .eql rfl rfl rfl rfl rfl (by first | exact cmp_eq_t (by omega) | exact cmp_eq_f (by omega) ) ?_) | (refine mx_cmpl .neq rfl rfl rfl rfl rfl (by first | exact cmp_ne_t (by omega) | exact cmp_ne_f (by omega) ) ?_) | (refine mx_cmpl .leq rfl rfl rfl rfl rfl (by exact cmp_le_t (by omega) ) ?_) ) | (refine mx_ar rfl rfl rfl rfl rfl rfl (IntWalk.i64_in _ (by omega)) rfl ?_ ) | (refine mx_eqs rfl rfl rfl rfl rfl rfl ?_ ) | refine mx_dv rfl rfl rfl rfl rfl (by decide) (congrArg some (by assumption)) rfl rfl ?_ ) | (refine mx_not rfl rfl rfl ?_) | (refine g_pick rfl ?_; first | refine mx_and rfl rfl rfl rfl rfl rfl ?_ | refine mx_or rfl rfl rfl rfl rfl rfl ?_ ) | (refine g_call rfl ?_; (refine g_cf 29 rfl ?_; refine mx_call rfl rfl rfl Try.func29 rfl rfl rfl _ (fun w => known29 w) rfl ?_) )) | refine cw_seq ?_ | refine cw_line rfl ?_ | refine cw_cond_f rfl ?_ | refine cw_cond_t rfl ?_ | refine cw_skip ?_ | refine cw_ret ?_ | refine pw_then ?_ | refine pw_then_r ?_ ))
      exact pw_ret rfl rfl rfl rfl fun w hw => ⟨rfl, hw.keep.grow⟩
    · (repeat (first | ((refine (?_ : MX _ _ _ _ _ _ _ _ _ _ _)); first | refine mx_end ?_ | (refine mx_mv _ rfl rfl (by conv => {lhs; whnf}) ?_) | (refine mx_as _ rfl rfl (by conv => {lhs; whnf}) ?_) | (refine mx_fa0 E rfl rfl rfl rfl ?_ ) | (refine g_load rfl ?_; first | refine mx_get E rfl rfl rfl rfl rfl (by exact rd_Vk _ ) rfl ?_ | refine mx_getn E rfl rfl rfl rfl rfl (by exact vr_F _ ) rfl ?_ ) | (refine g_bin rfl ?_; first | (first | (refine mx_cmpl .eql rfl rfl rfl rfl rfl (by first | exact cmp_eq_t (by omega) | exact cmp_eq_f (by omega) ) ?_) | (refine mx_cmpl .neq rfl rfl rfl rfl rfl (by exact cmp_ne_t (by omega) ) ?_) | (refine mx_cmpl .leq rfl rfl rfl rfl rfl (by exact cmp_le_t (by omega) ) ?_) ) | (refine mx_ar rfl rfl rfl rfl rfl rfl (IntWalk.i64_in _ (by omega)) rfl ?_ ) | (refine mx_eqs rfl rfl rfl rfl rfl rfl ?_ ) ) | (refine mx_not rfl rfl rfl ?_) | (refine mx_skip rfl rfl rfl ?_) | (refine g_pick rfl ?_; first | refine mx_ort rfl rfl rfl rfl rfl ?_ | refine mx_and rfl rfl rfl rfl rfl rfl ?_ ) | (refine g_call rfl ?_; (refine g_cf 29 rfl ?_; refine mx_call rfl rfl rfl Try.func29 rfl rfl rfl _ (fun w => known29 w) rfl ?_) )) | refine cw_seq ?_ | refine cw_line rfl ?_ | refine cw_cond_f rfl ?_ | refine cw_cond_t rfl ?_ | refine cw_skip ?_ | refine cw_ret ?_ | refine pw_then ?_ | refine pw_then_r ?_ ))
      exact pw_ret rfl rfl rfl rfl fun w hw => ⟨rfl, hw.keep.grow⟩
  obtain ⟨g, hst, hg⟩ := stored hf (p := p) (s := s) (by omega) hs v hk hc
  rw [hst]
  have hnum := hg.num
  have hptr := hg.ptr
  have rest : True := trivial
  clear rest
  rcases (show v.k = 1 ∨ v.k ≠ 1 by omega) with hv | hv
  obtain ⟨hl0, hl1⟩ := hnum hv
  (repeat (first | ((refine (?_ : MX _ _ _ _ _ _ _ _ _ _ _)); first | refine mx_end ?_ | (refine mx_mv _ rfl rfl (by conv => {lhs; whnf}) ?_) | (refine mx_as _ rfl rfl (by conv => {lhs; whnf}) ?_) | (refine mx_fa0 E rfl rfl rfl rfl ?_ ) | (refine g_load rfl ?_; refine mx_get E rfl rfl rfl rfl rfl (by exact rd_Vk _ ) rfl ?_ ) | (refine g_bin rfl ?_; first | (first | (refine mx_cmpl .eql rfl rfl rfl rfl rfl (by first | exact cmp_eq_t (by omega) | exact cmp_eq_f (by omega) ) ?_) | (refine mx_cmpl .leq rfl rfl rfl rfl rfl (by exact cmp_le_t (by omega) ) ?_) ) | (refine mx_ar rfl rfl rfl rfl rfl rfl (IntWalk.i64_in _ (by omega)) rfl ?_ ) ) | (refine mx_not rfl rfl rfl ?_) | (refine mx_skip rfl rfl rfl ?_) | (refine g_pick rfl ?_; refine mx_andf rfl rfl rfl rfl rfl ?_ ) ) | refine cw_seq ?_ | refine cw_line rfl ?_ | refine cw_cond_f rfl ?_ | refine cw_skip ?_ | refine pw_then ?_ ))
  refine g_cf 30 rfl ?_
  refine a_callv rfl rfl rfl rfl Try.func30 rfl rfl rfl (.tuple #[.agg (cV ⟨1, v.n % 256 ^ s, 0⟩).toArray, .int .i64 0]) (fun w' hw => by
    have h30 := load30 b4 g hg.ok (-512 + (p : Int)) s w' (hw.holds 2 _ rfl)
    rw [hl0] at h30; exact h30) rfl ?_
  (repeat (first | ((refine (?_ : MX _ _ _ _ _ _ _ _ _ _ _)); first | refine mx_end ?_ | (refine mx_mv _ rfl rfl (by conv => {lhs; whnf}) ?_) | (refine mx_as _ rfl rfl (by conv => {lhs; whnf}) ?_) | (refine mx_ex _ rfl rfl rfl (by conv => {lhs; whnf}) ?_) | (refine g_store rfl ?_; refine s_l E rfl rfl rfl rfl rfl rfl rfl (by exact Sp.all (by rw [len_V, len_V]) ) rfl ?_ ) | (refine a_new rfl rfl rfl rfl rfl (fun _ => ?_)) ) | refine pw_then ?_))
  refine cw_seq ?_
  refine cw_seq ?_
  refine cw_drawq mixed rfl (by kernel_rfl) rfl ?_
  (repeat (first | ((refine (?_ : MX _ _ _ _ _ _ _ _ _ _ _)); first | refine mx_end ?_ | (refine mx_mv _ rfl rfl (by conv => {lhs; whnf}) ?_) | ( refine mx_fa E rfl rfl rfl rfl ?_) | (refine g_load rfl ?_; first | refine mx_get E rfl rfl rfl rfl rfl (by first | exact rd_Vk _ | exact rd_Vn _ ) rfl ?_ | refine mx_getn E rfl rfl rfl rfl rfl (by exact vr_V _ ) rfl ?_ ) | (refine g_bin rfl ?_; first | ( (refine mx_cmpl .neq rfl rfl rfl rfl rfl (by first | exact cmp_ne_t (by omega) | exact cmp_ne_f (by omega) ) ?_) ) | ( refine mx_nes rfl rfl rfl rfl rfl rfl ?_ ) ) | (refine mx_not rfl rfl rfl ?_) | (refine mx_skip rfl rfl rfl ?_) | (refine g_pick rfl ?_; first | refine mx_andf rfl rfl rfl rfl rfl ?_ | refine mx_and rfl rfl rfl rfl rfl rfl ?_ | refine mx_or rfl rfl rfl rfl rfl rfl ?_ ) | (refine g_call rfl ?_; first | (refine g_cf 31 rfl ?_; refine mx_call rfl rfl rfl Try.func31 rfl rfl rfl _ (fun w => num31 _ w) rfl ?_) | (refine g_cf 32 rfl ?_; refine mx_call rfl rfl rfl Try.func32 rfl rfl rfl _ (fun w => low32 _ hn0 hn1 _ hs w) rfl ?_))) | refine pw_then ?_))
  refine cw_cond_f rfl ?_
  refine cw_skip ?_
  refine pw_then ?_
  refine cw_mid (ι := Unit) (fun _ => [(1, .int .i64 (-512 + (p : Int))), (2, .int .i64 s), (4, .pointer (some ⟨b4, 0, none⟩)), (10, .pointer (some ⟨b10, 0, none⟩))]) (fun _ => [row b10 31 (cF f), row b4 31 (cF g)]) (fun _ => True) ?_ ?_
  · (repeat (first | ((refine (?_ : MX _ _ _ _ _ _ _ _ _ _ _)); first | refine mx_end ?_ | (refine mx_as _ rfl rfl (by conv => {lhs; whnf}) ?_) ) | refine cw_seq ?_ | refine cw_line rfl ?_ | refine cw_block ?_ | refine pw_then ?_ ))
    refine cw_loop (fun i : Nat => [(16, .int .i64 i), (1, .int .i64 (-512 + (p : Int))), (2, .int .i64 s), (4, .pointer (some ⟨b4, 0, none⟩)), (7, .pointer (some ⟨b7, 0, none⟩)), (10, .pointer (some ⟨b10, 0, none⟩)), (13, .bool true)]) (fun _ => [row b10 31 (cF f), row b7 24 (cV v), row b4 31 (cF g)]) (fun i => i ≤ s) (fun i => s - i) 0 (by omega) ⟨rfl, rfl, rfl, rfl, rfl, rfl, rfl, trivial⟩ (fun w h => h.pick [1, 2, 3] (by simp) rfl) ?_
    intro i jk hi
    by_cases h0 : (i : Int) < s
    · have hl2 := hl1 i (by omega)
      have hsr := shr64 v.n i (by omega)
      have hrm : (v.n / 2 ^ (8 * i)).tmod 256 = bytw v.n i := by
        unfold bytw
        rw [IntKind.wrap_u8]
        have := div_nonneg2 v.n (8 * i) hn0
        generalize v.n / 2 ^ (8 * i) = z at *
        rw [Int.tmod_eq_emod_of_nonneg this]
      (repeat (first | ((refine (?_ : MX _ _ _ _ _ _ _ _ _ _ _)); first | refine mx_end ?_ | (refine mx_mv _ rfl rfl (by conv => {lhs; whnf}) ?_) | (refine g_bin rfl ?_; first | ( (refine mx_cmpl .lss rfl rfl rfl rfl rfl (by exact cmp_lt_t (by omega) ) ?_) ) | (refine mx_ar rfl rfl rfl rfl rfl rfl (IntWalk.i64_in _ (by omega)) rfl ?_ ) ) ) | refine cw_seq ?_ | refine cw_line rfl ?_ | refine cw_block ?_ | refine cw_cond_t rfl ?_ | refine cw_skip ?_ | refine pw_then ?_ ))
      refine g_cf 30 rfl ?_
      refine a_callv rfl rfl rfl rfl Try.func30 rfl rfl rfl (.tuple #[.agg (cV ⟨1, bytw v.n i, 0⟩).toArray, .int .i64 0]) (fun w' hw => by
        have h30 := load30 b4 g hg.ok (-512 + (p : Int) + i) 1 w' (hw.holds 2 _ rfl)
        rw [hl2] at h30; exact h30) rfl ?_
      (repeat (first | ((refine (?_ : MX _ _ _ _ _ _ _ _ _ _ _)); first | refine mx_end ?_ | (refine mx_mv _ rfl rfl (by conv => {lhs; whnf}) ?_) | (refine mx_as _ rfl rfl (by conv => {lhs; whnf}) ?_) | ( refine mx_fa E rfl rfl rfl rfl ?_) | (refine g_load rfl ?_; first | refine mx_get E rfl rfl rfl rfl rfl (by first | exact rd_Vk _ | exact rd_Vn _ ) rfl ?_ | refine mx_getn E rfl rfl rfl rfl rfl (by exact vr_V _ ) rfl ?_ ) | (refine g_bin rfl ?_; first | ( (refine mx_cmpl .neq rfl rfl rfl rfl rfl (by first | exact cmp_ne_t (by omega) | exact cmp_ne_f (by omega) | rfl) ?_) ) | (refine mx_ar rfl rfl rfl rfl rfl rfl (IntWalk.i64_in _ (by omega)) rfl ?_ ) | ( refine mx_nes rfl rfl rfl rfl rfl rfl ?_ ) | refine mx_dv rfl rfl rfl rfl rfl (by decide) (congrArg some (by assumption)) rfl rfl ?_ | refine mx_sh rfl rfl rfl rfl rfl (by omega) (congrArg some (by assumption)) rfl rfl ?_ ) | (refine mx_not rfl rfl rfl ?_) | (refine mx_ex _ rfl rfl rfl (by conv => {lhs; whnf}) ?_) | (refine mx_skip rfl rfl rfl ?_) | (refine g_pick rfl ?_; first | refine mx_andf rfl rfl rfl rfl rfl ?_ | refine mx_and rfl rfl rfl rfl rfl rfl ?_ | refine mx_or rfl rfl rfl rfl rfl rfl ?_ ) | (refine g_store rfl ?_; refine s_l E rfl rfl rfl rfl rfl rfl rfl (by exact Sp.all (by rw [len_V, len_V]) ) rfl ?_ ) | (refine a_new rfl rfl rfl rfl rfl (fun _ => ?_)) | (refine g_conv rfl ?_; refine mx_cv E rfl rfl rfl rfl rfl rfl (IntWalk.u64_in _ (by omega)) rfl ?_ ) | (refine g_call rfl ?_; (refine g_cf 31 rfl ?_; refine mx_call rfl rfl rfl Try.func31 rfl rfl rfl _ (fun w => num31 _ w) rfl ?_) )) | refine cw_seq ?_ | refine cw_line rfl ?_ | (refine cw_drawq mixed rfl (by kernel_rfl) rfl ?_) | refine cw_cond_f rfl ?_ | refine cw_skip ?_ | refine pw_then ?_ | refine pw_block ?_ ))
      refine pw_round (i + 1) (by omega) (by omega) ⟨rfl, rfl, rfl, rfl, rfl, rfl, rfl, trivial⟩ (fun w h => h.pick [1, 2, 3] (by simp) rfl)
    · (repeat (first | ((refine (?_ : MX _ _ _ _ _ _ _ _ _ _ _)); first | refine mx_end ?_ | (refine mx_mv _ rfl rfl (by conv => {lhs; whnf}) ?_) | (refine g_bin rfl ?_; ( (refine mx_cmpl .lss rfl rfl rfl rfl rfl (by exact cmp_lt_f (by omega) ) ?_) ) ) ) | refine cw_seq ?_ | refine cw_line rfl ?_ | refine cw_cond_f rfl ?_ | refine cw_exit ?_ | refine pw_then ?_ | refine pw_then_x ?_ | refine pw_block_e ?_ ))
      refine pw_mid () trivial ⟨rfl, rfl, rfl, rfl, trivial⟩ (fun w h => h.pick [0, 2] (by simp) rfl)
  rotate_left
  obtain ⟨hl0, hl1⟩ := hptr hv
  have hs8' : (s : Int) = 8 := by rcases hc with h | h; exact absurd h hv; omega
  have hT0 : T = 0 := htm.2 (by rcases hc with h | h; exact absurd h hv; exact h.2)
  (repeat (first | ((refine (?_ : MX _ _ _ _ _ _ _ _ _ _ _)); first | refine mx_end ?_ | (refine mx_mv _ rfl rfl (by conv => {lhs; whnf}) ?_) | (refine mx_as _ rfl rfl (by conv => {lhs; whnf}) ?_) | (refine mx_fa0 E rfl rfl rfl rfl ?_ ) | (refine g_load rfl ?_; refine mx_get E rfl rfl rfl rfl rfl (by exact rd_Vk _ ) rfl ?_ ) | (refine g_bin rfl ?_; first | (first | (refine mx_cmpl .eql rfl rfl rfl rfl rfl (by first | exact cmp_eq_t (by omega) | exact cmp_eq_f (by omega) ) ?_) | (refine mx_cmpl .neq rfl rfl rfl rfl rfl (by first | exact cmp_ne_t (by omega) | exact cmp_ne_f (by omega) ) ?_) | (refine mx_cmpl .leq rfl rfl rfl rfl rfl (by exact cmp_le_t (by omega) ) ?_) ) | (refine mx_ar rfl rfl rfl rfl rfl rfl (IntWalk.i64_in _ (by omega)) rfl ?_ ) | refine mx_dv rfl rfl rfl rfl rfl (by decide) (congrArg some (by assumption)) rfl rfl ?_ ) | (refine mx_not rfl rfl rfl ?_) | (refine g_pick rfl ?_; first | refine mx_and rfl rfl rfl rfl rfl rfl ?_ | refine mx_or rfl rfl rfl rfl rfl rfl ?_ ) ) | refine cw_seq ?_ | refine cw_line rfl ?_ | refine cw_cond_f rfl ?_ | refine cw_skip ?_ | refine pw_then ?_ ))
  refine g_cf 30 rfl ?_
  refine a_callv rfl rfl rfl rfl Try.func30 rfl rfl rfl (.tuple #[.agg (cV v).toArray, .int .i64 0]) (fun w' hw => by
    have h30 := load30 b4 g hg.ok (-512 + (p : Int)) s w' (hw.holds 2 _ rfl)
    rw [hl0] at h30; exact h30) rfl ?_
  (repeat (first | ((refine (?_ : MX _ _ _ _ _ _ _ _ _ _ _)); first | refine mx_end ?_ | (refine mx_mv _ rfl rfl (by conv => {lhs; whnf}) ?_) | (refine mx_as _ rfl rfl (by conv => {lhs; whnf}) ?_) | (refine mx_ex _ rfl rfl rfl (by conv => {lhs; whnf}) ?_) | (refine g_store rfl ?_; refine s_l E rfl rfl rfl rfl rfl rfl rfl (by exact Sp.all (by rw [len_V, len_V]) ) rfl ?_ ) | (refine a_new rfl rfl rfl rfl rfl (fun _ => ?_)) ) | refine pw_then ?_))
  refine cw_seq ?_
  refine cw_seq ?_
  refine cw_drawq mixed rfl (by kernel_rfl) rfl ?_
  (repeat (first | ((refine (?_ : MX _ _ _ _ _ _ _ _ _ _ _)); first | refine mx_end ?_ | (refine mx_mv _ rfl rfl (by conv => {lhs; whnf}) ?_) | (refine g_load rfl ?_; refine mx_getn E rfl rfl rfl rfl rfl (by exact vr_V _ ) rfl ?_ ) | (refine g_bin rfl ?_; first | ( (refine mx_cmpl .neq rfl rfl rfl rfl rfl (by first | exact cmp_ne_t (by omega) | exact cmp_ne_f (by omega) ) ?_) ) | ( refine mx_nes rfl rfl rfl rfl rfl rfl ?_ ) ) | (refine mx_not rfl rfl rfl ?_) | (refine mx_skip rfl rfl rfl ?_) | (refine g_pick rfl ?_; first | refine mx_andf rfl rfl rfl rfl rfl ?_ | refine mx_and rfl rfl rfl rfl rfl rfl ?_ | refine mx_or rfl rfl rfl rfl rfl rfl ?_ ) ) | refine pw_then ?_))
  refine cw_cond_f rfl ?_
  refine cw_skip ?_
  refine pw_then ?_
  refine cw_mid (ι := Unit) (fun _ => [(1, .int .i64 (-512 + (p : Int))), (2, .int .i64 s), (4, .pointer (some ⟨b4, 0, none⟩)), (10, .pointer (some ⟨b10, 0, none⟩))]) (fun _ => [row b10 31 (cF f), row b4 31 (cF g)]) (fun _ => True) ?_ ?_
  · (repeat (first | ((refine (?_ : MX _ _ _ _ _ _ _ _ _ _ _)); first | refine mx_end ?_ | (refine mx_as _ rfl rfl (by conv => {lhs; whnf}) ?_) ) | refine cw_seq ?_ | refine cw_line rfl ?_ | refine cw_block ?_ | refine pw_then ?_ ))
    refine cw_loop (fun i : Nat => [(16, .int .i64 i), (7, .pointer (some ⟨b7, 0, none⟩)), (13, .bool false), (1, .int .i64 (-512 + (p : Int))), (2, .int .i64 s), (4, .pointer (some ⟨b4, 0, none⟩)), (10, .pointer (some ⟨b10, 0, none⟩))]) (fun _ => [row b10 31 (cF f), row b7 24 (cV v), row b4 31 (cF g)]) (fun i => i ≤ s) (fun i => s - i) 0 (by omega) ⟨rfl, rfl, rfl, rfl, rfl, rfl, rfl, trivial⟩ (fun w h => h.pick [1, 2, 3] (by simp) rfl) ?_
    intro i jk hi
    by_cases h0 : (i : Int) < s
    · have hl2 := hl1 i (by omega)
      (repeat (first | ((refine (?_ : MX _ _ _ _ _ _ _ _ _ _ _)); first | refine mx_end ?_ | (refine mx_mv _ rfl rfl (by conv => {lhs; whnf}) ?_) | (refine g_bin rfl ?_; first | ( (refine mx_cmpl .lss rfl rfl rfl rfl rfl (by exact cmp_lt_t (by omega) ) ?_) ) | (refine mx_ar rfl rfl rfl rfl rfl rfl (IntWalk.i64_in _ (by omega)) rfl ?_ ) ) ) | refine cw_seq ?_ | refine cw_line rfl ?_ | refine cw_block ?_ | refine cw_cond_t rfl ?_ | refine cw_skip ?_ | refine pw_then ?_ ))
      refine g_cf 30 rfl ?_
      refine a_callv rfl rfl rfl rfl Try.func30 rfl rfl rfl (.tuple #[.agg (cV V3.o).toArray, .int .i64 26]) (fun w' hw => by
        have h30 := load30 b4 g hg.ok (-512 + (p : Int) + i) 1 w' (hw.holds 2 _ rfl)
        rw [hl2] at h30; exact h30) rfl ?_
      (repeat (first | ((refine (?_ : MX _ _ _ _ _ _ _ _ _ _ _)); first | refine mx_end ?_ | (refine mx_mv _ rfl rfl (by conv => {lhs; whnf}) ?_) | (refine mx_as _ rfl rfl (by conv => {lhs; whnf}) ?_) | (refine g_bin rfl ?_; first | ( (refine mx_cmpl .neq rfl rfl rfl rfl rfl (by first | exact cmp_ne_t (by omega) | exact cmp_ne_f (by omega) ) ?_) ) | (refine mx_ar rfl rfl rfl rfl rfl rfl (IntWalk.i64_in _ (by omega)) rfl ?_ ) ) | (refine mx_not rfl rfl rfl ?_) | (refine mx_ex _ rfl rfl rfl (by conv => {lhs; whnf}) ?_) | (refine mx_skip rfl rfl rfl ?_) | (refine g_pick rfl ?_; first | refine mx_andf rfl rfl rfl rfl rfl ?_ | refine mx_and rfl rfl rfl rfl rfl rfl ?_ | refine mx_or rfl rfl rfl rfl rfl rfl ?_ ) | (refine g_store rfl ?_; refine s_l E rfl rfl rfl rfl rfl rfl rfl (by exact Sp.all rfl ) rfl ?_ ) | (refine a_new rfl rfl rfl rfl rfl (fun _ => ?_)) ) | refine cw_seq ?_ | refine cw_line rfl ?_ | (refine cw_drawq mixed rfl (by kernel_rfl) rfl ?_) | refine cw_cond_f rfl ?_ | refine cw_skip ?_ | refine pw_then ?_ | refine pw_block ?_ ))
      refine pw_round (i + 1) (by omega) (by omega) ⟨rfl, rfl, rfl, rfl, rfl, rfl, rfl, trivial⟩ (fun w h => h.pick [1, 2, 3] (by simp) rfl)
    · (repeat (first | ((refine (?_ : MX _ _ _ _ _ _ _ _ _ _ _)); first | refine mx_end ?_ | (refine mx_mv _ rfl rfl (by conv => {lhs; whnf}) ?_) | (refine g_bin rfl ?_; ( (refine mx_cmpl .lss rfl rfl rfl rfl rfl (by exact cmp_lt_f (by omega) ) ?_) ) ) ) | refine cw_seq ?_ | refine cw_line rfl ?_ | refine cw_cond_f rfl ?_ | refine cw_exit ?_ | refine pw_then ?_ | refine pw_then_x ?_ | refine pw_block_e ?_ ))
      refine pw_mid () trivial ⟨rfl, rfl, rfl, rfl, trivial⟩ (fun w h => h.pick [0, 2] (by simp) rfl)
  all_goals (
    intro u jk0 _
    (repeat (first | ((refine (?_ : MX _ _ _ _ _ _ _ _ _ _ _)); first | refine mx_end ?_ | (refine mx_as _ rfl rfl (by conv => {lhs; whnf}) ?_) ) | refine cw_seq ?_ | refine cw_line rfl ?_ | refine cw_block ?_ | refine pw_then ?_ ))
    refine cw_loop (fun k : Nat => [(19, .int .i64 k), (1, .int .i64 (-512 + (p : Int))), (2, .int .i64 s), (4, .pointer (some ⟨b4, 0, none⟩)), (10, .pointer (some ⟨b10, 0, none⟩))]) (fun _ => [row b10 31 (cF f), row b4 31 (cF g)]) (fun k => k ≤ 64) (fun k => 64 - k) 0 (by omega) ⟨rfl, rfl, rfl, rfl, rfl, trivial⟩ (fun w h => h) ?_
    intro k jk hk6
    by_cases h0 : (k : Int) < 64
    case neg =>
      obtain ⟨T2, rfl⟩ : ∃ T2, g = { f with S := T2 } := ⟨g.S, by
        obtain ⟨q1, q2, q3, q4⟩ := hg.like
        cases f; cases g
        simp_all⟩
      (repeat (first | ((refine (?_ : MX _ _ _ _ _ _ _ _ _ _ _)); first | refine mx_end ?_ | (refine mx_mv _ rfl rfl (by conv => {lhs; whnf}) ?_) | (refine mx_as _ rfl rfl (by conv => {lhs; whnf}) ?_) | ( refine mx_fa E rfl rfl rfl rfl ?_) | (refine g_load rfl ?_; refine mx_getn E rfl rfl rfl rfl rfl (by first | exact vr_Ss _ | exact vr_F _ ) rfl ?_ ) | (refine g_bin rfl ?_; first | ( (refine mx_cmpl .lss rfl rfl rfl rfl rfl (by first | exact cmp_lt_t (by omega) | exact cmp_lt_f (by omega) ) ?_) ) | (refine mx_eqs rfl rfl rfl rfl rfl rfl ?_ ) ) | (refine g_pick rfl ?_; refine mx_and rfl rfl rfl rfl rfl rfl ?_ ) | (refine g_store rfl ?_; refine s_l E rfl rfl rfl rfl rfl rfl rfl (by exact sp_Ss _ _ ) rfl ?_ ) | (refine g_call rfl ?_; (refine g_cf 29 rfl ?_; refine mx_call rfl rfl rfl Try.func29 rfl rfl rfl _ (fun w => known29 w) rfl ?_) )) | refine cw_seq ?_ | refine cw_line rfl ?_ | refine cw_cond_f rfl ?_ | refine cw_exit ?_ | refine cw_ret ?_ | refine pw_then ?_ | refine pw_then_x ?_ | refine pw_block_e ?_ ))
      exact pw_ret rfl rfl rfl rfl fun w hw => ⟨rfl, hw.keep.grow⟩
    by_cases hd1 : 8 * (k : Int) + 8 ≤ p
    case pos =>
      have hsame := hg.same k (.inl (by omega))
      (repeat (first | ((refine (?_ : MX _ _ _ _ _ _ _ _ _ _ _)); first | refine mx_end ?_ | (refine mx_mv _ rfl rfl (by conv => {lhs; whnf}) ?_) | ( refine mx_fa E rfl rfl rfl rfl ?_) | (refine g_load rfl ?_; refine mx_getn E rfl rfl rfl rfl rfl (by exact vr_S _ (by omega) ) rfl ?_ ) | (refine g_bin rfl ?_; first | (first | (refine mx_cmpl .lss rfl rfl rfl rfl rfl (by exact cmp_lt_t (by omega) ) ?_) | (refine mx_cmpl .leq rfl rfl rfl rfl rfl (by exact cmp_le_t (by omega) ) ?_) ) | (refine mx_ar rfl rfl rfl rfl rfl rfl (IntWalk.i64_in _ (by omega)) rfl ?_ ) | ( refine mx_ne rfl rfl rfl rfl rfl rfl ?_) ) | (refine g_ix rfl ?_; refine mx_ixan E rfl rfl rfl rfl rfl rfl (by omega) rfl ?_ ) | (refine mx_skip rfl rfl rfl ?_) | (refine g_pick rfl ?_; refine mx_ort rfl rfl rfl rfl rfl ?_ ) ) | refine cw_seq ?_ | refine cw_line rfl ?_ | (refine cw_drawq mixed rfl (by kernel_rfl) rfl ?_) | refine cw_block ?_ | refine cw_cond_t rfl ?_ | refine cw_skip ?_ | refine pw_then ?_ ))
      refine cw_cond_f (by show Value.bool (!eqs (cS (g.S k)) (cS (f.S k))) = _; rw [hsame, eqs_self (ks := kS)]; rfl) ?_
      (repeat (first | ((refine (?_ : MX _ _ _ _ _ _ _ _ _ _ _)); first | refine mx_end ?_ | (refine mx_mv _ rfl rfl (by conv => {lhs; whnf}) ?_) | (refine mx_as _ rfl rfl (by conv => {lhs; whnf}) ?_) | (refine g_bin rfl ?_; (refine mx_ar rfl rfl rfl rfl rfl rfl (IntWalk.i64_in _ (by omega)) rfl ?_ ) ) ) | refine cw_line rfl ?_ | refine cw_skip ?_ | refine cw_exit ?_ | refine pw_then ?_ | refine pw_then_x ?_ | refine pw_block_e ?_ ))
      refine pw_round (k + 1) (by omega) (by omega) ⟨rfl, rfl, rfl, rfl, rfl, trivial⟩ (fun w h => h)
    by_cases hd2 : (p : Int) + s ≤ 8 * k
    case pos =>
      have hsame := hg.same k (.inr (by omega))
      (repeat (first | ((refine (?_ : MX _ _ _ _ _ _ _ _ _ _ _)); first | refine mx_end ?_ | (refine mx_mv _ rfl rfl (by conv => {lhs; whnf}) ?_) | ( refine mx_fa E rfl rfl rfl rfl ?_) | (refine g_load rfl ?_; refine mx_getn E rfl rfl rfl rfl rfl (by exact vr_S _ (by omega) ) rfl ?_ ) | (refine g_bin rfl ?_; first | (first | (refine mx_cmpl .lss rfl rfl rfl rfl rfl (by exact cmp_lt_t (by omega) ) ?_) | (refine mx_cmpl .leq rfl rfl rfl rfl rfl (by first | exact cmp_le_t (by omega) | exact cmp_le_f (by omega) ) ?_) | (refine mx_cmpl .geq rfl rfl rfl rfl rfl (by exact cmp_ge_t (by omega) ) ?_)) | (refine mx_ar rfl rfl rfl rfl rfl rfl (IntWalk.i64_in _ (by omega)) rfl ?_ ) | ( refine mx_ne rfl rfl rfl rfl rfl rfl ?_) ) | (refine g_ix rfl ?_; refine mx_ixan E rfl rfl rfl rfl rfl rfl (by omega) rfl ?_ ) | (refine g_pick rfl ?_; refine mx_or rfl rfl rfl rfl rfl rfl ?_ ) ) | refine cw_seq ?_ | refine cw_line rfl ?_ | (refine cw_drawq mixed rfl (by kernel_rfl) rfl ?_) | refine cw_block ?_ | refine cw_cond_t rfl ?_ | refine cw_skip ?_ | refine pw_then ?_ ))
      refine cw_cond_f (by show Value.bool (!eqs (cS (g.S k)) (cS (f.S k))) = _; rw [hsame, eqs_self (ks := kS)]; rfl) ?_
      (repeat (first | ((refine (?_ : MX _ _ _ _ _ _ _ _ _ _ _)); first | refine mx_end ?_ | (refine mx_mv _ rfl rfl (by conv => {lhs; whnf}) ?_) | (refine mx_as _ rfl rfl (by conv => {lhs; whnf}) ?_) | (refine g_bin rfl ?_; (refine mx_ar rfl rfl rfl rfl rfl rfl (IntWalk.i64_in _ (by omega)) rfl ?_ ) ) ) | refine cw_line rfl ?_ | refine cw_skip ?_ | refine cw_exit ?_ | refine pw_then ?_ | refine pw_then_x ?_ | refine pw_block_e ?_ ))
      refine pw_round (k + 1) (by omega) (by omega) ⟨rfl, rfl, rfl, rfl, rfl, trivial⟩ (fun w h => h)
    by_cases hz : (f.S k).v.k = 0
    case pos =>
      (repeat (first | ((refine (?_ : MX _ _ _ _ _ _ _ _ _ _ _)); first | refine mx_end ?_ | (refine mx_mv _ rfl rfl (by conv => {lhs; whnf}) ?_) | (refine mx_as _ rfl rfl (by conv => {lhs; whnf}) ?_) | (first | refine mx_fa0 E rfl rfl rfl rfl ?_ | refine mx_fa E rfl rfl rfl rfl ?_) | (refine g_load rfl ?_; refine mx_get E rfl rfl rfl rfl rfl (by exact rd_Sk _ (by omega) ) rfl ?_ ) | (refine g_bin rfl ?_; first | (first | (refine mx_cmpl .eql rfl rfl rfl rfl rfl (by exact cmp_eq_t (by omega) ) ?_) | (refine mx_cmpl .lss rfl rfl rfl rfl rfl (by exact cmp_lt_t (by omega) ) ?_) | (refine mx_cmpl .leq rfl rfl rfl rfl rfl (by first | exact cmp_le_t (by omega) | exact cmp_le_f (by omega) ) ?_) | (refine mx_cmpl .geq rfl rfl rfl rfl rfl (by first | exact cmp_ge_t (by omega) | exact cmp_ge_f (by omega) ) ?_)) | (refine mx_ar rfl rfl rfl rfl rfl rfl (IntWalk.i64_in _ (by omega)) rfl ?_ ) ) | (refine g_ix rfl ?_; refine mx_ixan E rfl rfl rfl rfl rfl rfl (by omega) rfl ?_ ) | (refine g_pick rfl ?_; refine mx_or rfl rfl rfl rfl rfl rfl ?_ ) ) | refine cw_seq ?_ | refine cw_line rfl ?_ | refine cw_block ?_ | refine cw_cond_f rfl ?_ | refine cw_cond_t rfl ?_ | refine cw_skip ?_ | refine cw_exit ?_ | refine pw_then ?_ | refine pw_then_x ?_ | refine pw_block_e ?_ ))
      refine pw_round (k + 1) (by omega) (by omega) ⟨rfl, rfl, rfl, rfl, rfl, trivial⟩ (fun w h => h)
    (repeat (first | ((refine (?_ : MX _ _ _ _ _ _ _ _ _ _ _)); first | refine mx_end ?_ | (refine mx_mv _ rfl rfl (by conv => {lhs; whnf}) ?_) | (refine mx_as _ rfl rfl (by conv => {lhs; whnf}) ?_) | (first | refine mx_fa0 E rfl rfl rfl rfl ?_ | refine mx_fa E rfl rfl rfl rfl ?_) | (refine g_load rfl ?_; refine mx_get E rfl rfl rfl rfl rfl (by exact rd_Sk _ (by omega) ) rfl ?_ ) | (refine g_bin rfl ?_; first | (first | (refine mx_cmpl .eql rfl rfl rfl rfl rfl (by first | exact cmp_eq_t (by omega) | exact cmp_eq_f (by omega) ) ?_) | (refine mx_cmpl .lss rfl rfl rfl rfl rfl (by exact cmp_lt_t (by omega) ) ?_) | (refine mx_cmpl .leq rfl rfl rfl rfl rfl (by first | exact cmp_le_t (by omega) | exact cmp_le_f (by omega) ) ?_) | (refine mx_cmpl .geq rfl rfl rfl rfl rfl (by first | exact cmp_ge_t (by omega) | exact cmp_ge_f (by omega) ) ?_)) | (refine mx_ar rfl rfl rfl rfl rfl rfl (IntWalk.i64_in _ (by omega)) rfl ?_ ) ) | (refine g_ix rfl ?_; refine mx_ixan E rfl rfl rfl rfl rfl rfl (by omega) rfl ?_ ) | (refine g_pick rfl ?_; refine mx_or rfl rfl rfl rfl rfl rfl ?_ ) ) | refine cw_seq ?_ | refine cw_line rfl ?_ | refine cw_block ?_ | refine cw_cond_f rfl ?_ | refine cw_cond_t rfl ?_ | refine cw_skip ?_ | refine pw_then ?_ ))
    refine cw_loop (fun i : Nat => [(20, .int .i64 i), (19, .int .i64 k), (1, .int .i64 (-512 + (p : Int))), (2, .int .i64 s), (4, .pointer (some ⟨b4, 0, none⟩)), (10, .pointer (some ⟨b10, 0, none⟩))]) (fun _ => [row b10 31 (cF f), row b4 31 (cF g)]) (fun i => i ≤ 8) (fun i => 8 - i) 0 (by omega) ⟨rfl, rfl, rfl, rfl, rfl, rfl, trivial⟩ (fun w h => h) ?_
    intro i jk2 hi8
    by_cases h8 : (i : Int) < 8
    case neg =>
      (repeat (first | ((refine (?_ : MX _ _ _ _ _ _ _ _ _ _ _)); first | refine mx_end ?_ | (refine mx_mv _ rfl rfl (by conv => {lhs; whnf}) ?_) | (refine mx_as _ rfl rfl (by conv => {lhs; whnf}) ?_) | (refine g_bin rfl ?_; first | ( (refine mx_cmpl .lss rfl rfl rfl rfl rfl (by first | exact cmp_lt_t (by omega) | exact cmp_lt_f (by omega) ) ?_) ) | (refine mx_ar rfl rfl rfl rfl rfl rfl (IntWalk.i64_in _ (by omega)) rfl ?_ ) ) ) | refine cw_seq ?_ | refine cw_line rfl ?_ | refine cw_cond_f rfl ?_ | refine cw_exit ?_ | refine pw_then ?_ | refine pw_then_x ?_ | refine pw_block ?_ | refine pw_block_e ?_ ))
      refine pw_round (k + 1) (by omega) (by omega) ⟨rfl, rfl, rfl, rfl, rfl, trivial⟩ (fun w h => h)
    by_cases ha : (p : Int) ≤ 8 * k + i
    case neg =>
      first
      | (exfalso; omega)
      | (
          have hl3 := hg.gone k i (by omega) (by omega) (by omega) hz (by omega)
          (repeat (first | ((refine (?_ : MX _ _ _ _ _ _ _ _ _ _ _)); first | refine mx_end ?_ | (refine mx_mv _ rfl rfl (by conv => {lhs; whnf}) ?_) | (refine mx_as _ rfl rfl (by conv => {lhs; whnf}) ?_) | (refine g_bin rfl ?_; first | (first | (refine mx_cmpl .lss rfl rfl rfl rfl rfl (by exact cmp_lt_t (by omega) ) ?_) | (refine mx_cmpl .geq rfl rfl rfl rfl rfl (by first | exact cmp_ge_t (by omega) | exact cmp_ge_f (by omega) ) ?_)) | (refine mx_ar rfl rfl rfl rfl rfl rfl (IntWalk.i64_in _ (by omega)) rfl ?_ ) ) | (refine mx_skip rfl rfl rfl ?_) | (refine g_pick rfl ?_; refine mx_andf rfl rfl rfl rfl rfl ?_ ) ) | refine cw_seq ?_ | refine cw_line rfl ?_ | refine cw_block ?_ | refine cw_cond_f rfl ?_ | refine cw_cond_t rfl ?_ | refine cw_skip ?_ | refine pw_then ?_ ))
          refine g_cf 30 rfl ?_
          refine a_callv rfl rfl rfl rfl Try.func30 rfl rfl rfl (.tuple #[.agg (cV V3.o).toArray, .int .i64 26]) (fun w' hw => by
            have h30 := load30 b4 g hg.ok (8 * (k : Int) + i - 512) 1 w' (hw.holds 1 _ rfl)
            rw [hl3] at h30; exact h30) rfl ?_
          (repeat (first | ((refine (?_ : MX _ _ _ _ _ _ _ _ _ _ _)); first | refine mx_end ?_ | (refine mx_mv _ rfl rfl (by conv => {lhs; whnf}) ?_) | (refine mx_as _ rfl rfl (by conv => {lhs; whnf}) ?_) | (refine g_bin rfl ?_; first | ( (refine mx_cmpl .neq rfl rfl rfl rfl rfl (by first | exact cmp_ne_t (by omega) | exact cmp_ne_f (by omega) ) ?_) ) | (refine mx_ar rfl rfl rfl rfl rfl rfl (IntWalk.i64_in _ (by omega)) rfl ?_ ) ) | (refine mx_ex _ rfl rfl rfl (by conv => {lhs; whnf}) ?_) | (refine g_store rfl ?_; refine s_l E rfl rfl rfl rfl rfl rfl rfl (by exact Sp.all rfl ) rfl ?_ ) | (refine a_new rfl rfl rfl rfl rfl (fun _ => ?_)) ) | refine cw_seq ?_ | refine cw_line rfl ?_ | refine cw_cond_f rfl ?_ | refine cw_skip ?_ | refine pw_then ?_ | refine pw_block ?_ ))
          refine pw_round (i + 1) (by omega) (by omega) ⟨rfl, rfl, rfl, rfl, rfl, rfl, trivial⟩ (fun w h => h.pick [1, 2] (by simp) rfl))
    by_cases hb : 8 * (k : Int) + i < p + s
    case pos =>
      (repeat (first | ((refine (?_ : MX _ _ _ _ _ _ _ _ _ _ _)); first | refine mx_end ?_ | (refine mx_mv _ rfl rfl (by conv => {lhs; whnf}) ?_) | (refine mx_as _ rfl rfl (by conv => {lhs; whnf}) ?_) | (refine g_bin rfl ?_; first | (first | (refine mx_cmpl .lss rfl rfl rfl rfl rfl (by exact cmp_lt_t (by omega) ) ?_) | (refine mx_cmpl .geq rfl rfl rfl rfl rfl (by exact cmp_ge_t (by omega) ) ?_)) | (refine mx_ar rfl rfl rfl rfl rfl rfl (IntWalk.i64_in _ (by omega)) rfl ?_ ) ) | (refine g_pick rfl ?_; refine mx_and rfl rfl rfl rfl rfl rfl ?_ ) ) | refine cw_seq ?_ | refine cw_line rfl ?_ | refine cw_block ?_ | refine cw_cond_t rfl ?_ | refine cw_skip ?_ | refine cw_exit ?_ | refine pw_then ?_ | refine pw_then_x ?_ | refine pw_block_e ?_ ))
      refine pw_round (i + 1) (by omega) (by omega) ⟨rfl, rfl, rfl, rfl, rfl, rfl, trivial⟩ (fun w h => h)
    first
    | (exfalso; omega)
    | (
        have hl3 := hg.gone k i (by omega) (by omega) (by omega) hz (by omega)
        (repeat (first | ((refine (?_ : MX _ _ _ _ _ _ _ _ _ _ _)); first | refine mx_end ?_ | (refine mx_mv _ rfl rfl (by conv => {lhs; whnf}) ?_) | (refine mx_as _ rfl rfl (by conv => {lhs; whnf}) ?_) | (refine g_bin rfl ?_; first | (first | (refine mx_cmpl .lss rfl rfl rfl rfl rfl (by first | exact cmp_lt_t (by omega) | exact cmp_lt_f (by omega) ) ?_) | (refine mx_cmpl .geq rfl rfl rfl rfl rfl (by exact cmp_ge_t (by omega) ) ?_)) | (refine mx_ar rfl rfl rfl rfl rfl rfl (IntWalk.i64_in _ (by omega)) rfl ?_ ) ) | (refine g_pick rfl ?_; refine mx_and rfl rfl rfl rfl rfl rfl ?_ ) ) | refine cw_seq ?_ | refine cw_line rfl ?_ | refine cw_block ?_ | refine cw_cond_f rfl ?_ | refine cw_cond_t rfl ?_ | refine cw_skip ?_ | refine pw_then ?_ ))
        refine g_cf 30 rfl ?_
        refine a_callv rfl rfl rfl rfl Try.func30 rfl rfl rfl (.tuple #[.agg (cV V3.o).toArray, .int .i64 26]) (fun w' hw => by
          have h30 := load30 b4 g hg.ok (8 * (k : Int) + i - 512) 1 w' (hw.holds 1 _ rfl)
          rw [hl3] at h30; exact h30) rfl ?_
        (repeat (first | ((refine (?_ : MX _ _ _ _ _ _ _ _ _ _ _)); first | refine mx_end ?_ | (refine mx_mv _ rfl rfl (by conv => {lhs; whnf}) ?_) | (refine mx_as _ rfl rfl (by conv => {lhs; whnf}) ?_) | (refine g_bin rfl ?_; first | ( (refine mx_cmpl .neq rfl rfl rfl rfl rfl (by first | exact cmp_ne_t (by omega) | exact cmp_ne_f (by omega) ) ?_) ) | (refine mx_ar rfl rfl rfl rfl rfl rfl (IntWalk.i64_in _ (by omega)) rfl ?_ ) ) | (refine mx_ex _ rfl rfl rfl (by conv => {lhs; whnf}) ?_) | (refine g_store rfl ?_; refine s_l E rfl rfl rfl rfl rfl rfl rfl (by exact Sp.all rfl ) rfl ?_ ) | (refine a_new rfl rfl rfl rfl rfl (fun _ => ?_)) ) | refine cw_seq ?_ | refine cw_line rfl ?_ | refine cw_cond_f rfl ?_ | refine cw_skip ?_ | refine pw_then ?_ | refine pw_block ?_ ))
        refine pw_round (i + 1) (by omega) (by omega) ⟨rfl, rfl, rfl, rfl, rfl, rfl, trivial⟩ (fun w h => h.pick [1, 2] (by simp) rfl)))
end Go.Proofs.Ytdimcafdmaidpaa
