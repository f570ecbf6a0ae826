/- Loads and stores on a stack, of the document; bytes that are told and laid; walked. -/
import Derived.Test.YtdimcafdmaidpaaMq
set_option maxRecDepth 100000
set_option maxHeartbeats 8000000
set_option linter.unusedSimpArgs false
set_option linter.unusedVariables false
namespace Go.Proofs.Ytdimcafdmaidpaa
open Go Go.Sx Go.RowKit
theorem tmod_bd8 (a : Int) : -8 < a.tmod 8 ∧ a.tmod 8 < 8 := by
  refine ⟨?_, Int.tmod_lt_of_pos a (by decide)⟩
  have := Int.tmod_lt_of_pos (-a) (show (0 : Int) < 8 by decide)
  rw [Int.neg_tmod] at this
  omega
theorem tmod8 (off : Int) (p : Nat) (hp : off + 512 = p) : off.tmod 8 = 0 ↔ p % 8 = 0 := by
  have h := Int.tmod_add_mul_tdiv off 8
  have hb := tmod_bd8 off
  constructor
  · intro e; rw [e] at h; omega
  · intro e
    have : off % 8 = 0 := by omega
    generalize off.tdiv 8 = q at h
    omega
theorem load33 (b : Nat) (f : Fr) (hf : FrOk f) (off size : Int) (w : World) (h : (row b 31 (cF f)).holds w) :
    Calls Try.prog 33 #[.pointer (some ⟨b, 0, none⟩), .int .i64 off, .int .i64 size] w fun e w' => e = .returned (.tuple #[.agg (cV (ldR f off size).1).toArray, .int .i64 (ldR f off size).2]) ∧ Grow w w' := by
  refine enter3 (S := fun _ => False) 62 Try.func33 rfl rfl rfl (Ok.start w) ?_
  have hS0 : ¬ (fun _ : Nat => False) b := id
  unfold ldR
  cases hok : ldOk off size with
  | false =>
    rw [if_neg (by simp)]
    cases hsz : sizedB size with
    | false =>
      (repeat (first | ((refine (?_ : MX _ _ _ _ _ _ _ _ _ _ _)); first | refine mx_end ?_ | (refine mx_mv _ rfl rfl (by conv => {lhs; whnf}) ?_) | (refine mx_as _ rfl rfl (by conv => {lhs; whnf}) ?_) | (refine mx_not rfl rfl rfl ?_) | (refine mx_skip rfl rfl rfl ?_) | (refine g_pick rfl ?_; refine mx_ort rfl rfl rfl rfl rfl ?_ ) | (refine g_store rfl ?_; refine s_l E rfl rfl rfl rfl rfl rfl rfl (by exact Sp.all (by simp only [len_F, len_V, len_S]) ) rfl ?_ ) | (refine g_build rfl ?_; refine mx_build rfl rfl rfl rfl b24_0 rfl ?_ ) | (refine a_new rfl rfl rfl rfl rfl (fun _ => ?_)) | (refine g_call rfl ?_; (refine g_cf 69 rfl ?_; refine mx_call rfl rfl rfl Try.func69 rfl rfl rfl _ (fun w => sized69v _ _ (by assumption) w) rfl ?_) )) | refine cw_seq ?_ | refine cw_line rfl ?_ | refine cw_cond_t rfl ?_ | refine cw_ret ?_ | refine pw_then ?_ | refine pw_then_r ?_ ))
      exact pw_retcs E (j := 0) rfl rfl rfl rfl rfl (len_V _) rfl fun w hw => ⟨rfl, hw.keep.grow⟩
    | true =>
      have hon : onB off size = false := by unfold ldOk at hok; rw [hsz] at hok; simpa using hok
      (repeat (first | ((refine (?_ : MX _ _ _ _ _ _ _ _ _ _ _)); first | refine mx_end ?_ | (refine mx_mv _ rfl rfl (by conv => {lhs; whnf}) ?_) | (refine mx_as _ rfl rfl (by conv => {lhs; whnf}) ?_) | (refine mx_not rfl rfl rfl ?_) | (refine g_pick rfl ?_; refine mx_or rfl rfl rfl rfl rfl rfl ?_ ) | (refine g_store rfl ?_; refine s_l E rfl rfl rfl rfl rfl rfl rfl (by exact Sp.all (by simp only [len_F, len_V, len_S]) ) rfl ?_ ) | (refine g_build rfl ?_; refine mx_build rfl rfl rfl rfl b24_0 rfl ?_ ) | (refine a_new rfl rfl rfl rfl rfl (fun _ => ?_)) | (refine g_call rfl ?_; first | (refine g_cf 69 rfl ?_; refine mx_call rfl rfl rfl Try.func69 rfl rfl rfl _ (fun w => sized69v _ _ (by assumption) w) rfl ?_) | (refine g_cf 70 rfl ?_; refine mx_call rfl rfl rfl Try.func70 rfl rfl rfl _ (fun w => part70v _ _ _ (by assumption) w) rfl ?_) )) | refine cw_seq ?_ | refine cw_line rfl ?_ | refine cw_cond_t rfl ?_ | refine cw_ret ?_ | refine pw_then ?_ | refine pw_then_r ?_ ))
      exact pw_retcs E (j := 0) rfl rfl rfl rfl rfl (len_V _) rfl fun w hw => ⟨rfl, hw.keep.grow⟩
  | true =>
    rw [if_pos rfl]
    obtain ⟨p, m, hp, hm, hpm, hm8, hm1, hsz, hon, e1, e2⟩ := ldOk_spec hok
    rw [e1, e2]
    have h64 : p / 8 < 64 := by omega
    have hq := quo8 off p hp (by omega)
    have hr8 : off.tmod 8 = 0 ↔ p % 8 = 0 := tmod8 off p hp
    have rest : gat f p m = none ∨ ∃ cs, gat f p m = some cs := by cases gat f p m <;> simp
    by_cases hw8 : size = 8 ∧ p % 8 = 0
    case pos =>
      have hr0 := hr8.2 hw8.2
      by_cases hk : (f.S (p / 8)).v.k = 0
      case neg =>
        rw [if_pos ⟨hw8.1, hw8.2, hk⟩]
        (repeat (first | ((refine (?_ : MX _ _ _ _ _ _ _ _ _ _ _)); first | refine mx_end ?_ | (refine mx_mv _ rfl rfl (by conv => {lhs; whnf}) ?_) | (refine mx_as _ rfl rfl (by conv => {lhs; whnf}) ?_) | (first | refine mx_fa0 E rfl rfl rfl rfl ?_ | refine mx_fa E rfl rfl rfl rfl ?_) | (refine g_load rfl ?_; first | refine mx_orow E rfl rfl rfl rfl rfl (by assumption) (by assumption) (by exact rd_Sk _ (by omega) ) rfl ?_ | refine mx_orown E rfl rfl rfl rfl rfl (by assumption) (by assumption) (by exact vr_SV _ (by omega) ) rfl ?_ ) | (refine g_bin rfl ?_; first | (first | (refine mx_cmpl .eql rfl rfl rfl rfl rfl (by exact cmp_eq_t (by omega) ) ?_) | (refine mx_cmpl .neq rfl rfl rfl rfl rfl (by exact cmp_ne_t (by omega) ) ?_) ) | (refine mx_ar rfl rfl rfl rfl rfl rfl (IntWalk.i64_in _ (by omega)) rfl ?_ ) | refine mx_dv rfl rfl rfl rfl rfl (by decide) (congrArg some (by assumption)) rfl rfl ?_ ) | (refine g_ix rfl ?_; refine mx_ixan E rfl rfl rfl rfl rfl rfl (by omega) rfl ?_ ) | (refine mx_nc rfl rfl rfl ?_) | (refine mx_not rfl rfl rfl ?_) | (refine g_pick rfl ?_; first | refine mx_and rfl rfl rfl rfl rfl rfl ?_ | refine mx_or rfl rfl rfl rfl rfl rfl ?_ ) | (refine g_store rfl ?_; refine s_l E rfl rfl rfl rfl rfl rfl rfl (by exact Sp.all (by simp only [len_F, len_V, len_S]) ) rfl ?_ ) | (refine a_new rfl rfl rfl rfl rfl (fun _ => ?_)) | (refine g_call rfl ?_; first | (refine g_cf 69 rfl ?_; refine mx_call rfl rfl rfl Try.func69 rfl rfl rfl _ (fun w => sized69v _ _ (by assumption) w) rfl ?_) | (refine g_cf 70 rfl ?_; refine mx_call rfl rfl rfl Try.func70 rfl rfl rfl _ (fun w => part70v _ _ _ (by assumption) w) rfl ?_) )) | refine cw_seq ?_ | refine cw_line rfl ?_ | refine cw_cond_f rfl ?_ | refine cw_cond_t rfl ?_ | refine cw_skip ?_ | refine cw_ret ?_ | refine pw_then ?_ | refine pw_then_r ?_ ))
        exact pw_retcs E (j := 0) rfl rfl rfl rfl rfl (len_V _) rfl fun w hw => ⟨rfl, hw.keep.grow⟩
      case pos =>
        rw [if_neg (fun hh => hh.2.2 hk)]
        rcases rest with hg | ⟨cs, hg⟩
        · rw [hg]
          subst hm
          (repeat (first | ((refine (?_ : MX _ _ _ _ _ _ _ _ _ _ _)); first | refine mx_end ?_ | (refine mx_mv _ rfl rfl (by conv => {lhs; whnf}) ?_) | (refine mx_as _ rfl rfl (by conv => {lhs; whnf}) ?_) | (first | refine mx_fa0 E rfl rfl rfl rfl ?_ | refine mx_fa E rfl rfl rfl rfl ?_) | (refine g_load rfl ?_; refine mx_orow E rfl rfl rfl rfl rfl (by assumption) (by assumption) (by exact rd_Sk _ (by omega) ) rfl ?_ ) | (refine g_bin rfl ?_; first | (first | (refine mx_cmpl .eql rfl rfl rfl rfl rfl (by exact cmp_eq_t (by omega) ) ?_) | (refine mx_cmpl .neq rfl rfl rfl rfl rfl (by exact cmp_ne_f (by omega) ) ?_) ) | (refine mx_ar rfl rfl rfl rfl rfl rfl (IntWalk.i64_in _ (by omega)) rfl ?_ ) | refine mx_dv rfl rfl rfl rfl rfl (by decide) (congrArg some (by assumption)) rfl rfl ?_ ) | (refine g_ix rfl ?_; refine mx_ixan E rfl rfl rfl rfl rfl rfl (by omega) rfl ?_ ) | (refine mx_nc rfl rfl rfl ?_) | (refine mx_not rfl rfl rfl ?_) | (refine g_pick rfl ?_; first | refine mx_and rfl rfl rfl rfl rfl rfl ?_ | refine mx_or rfl rfl rfl rfl rfl rfl ?_ ) | (refine a_new rfl rfl rfl rfl rfl (fun _ => ?_)) | (refine g_call rfl ?_; first | (refine g_cf 69 rfl ?_; refine mx_call rfl rfl rfl Try.func69 rfl rfl rfl _ (fun w => sized69v _ _ (by assumption) w) rfl ?_) | (refine g_cf 70 rfl ?_; refine mx_call rfl rfl rfl Try.func70 rfl rfl rfl _ (fun w => part70v _ _ _ (by assumption) w) rfl ?_) )) | refine cw_seq ?_ | refine cw_line rfl ?_ | refine cw_cond_f rfl ?_ | refine cw_skip ?_ | refine pw_then ?_ ))
          refine g_cf 71 rfl ?_
          refine a_callv rfl rfl rfl rfl Try.func71 rfl rfl rfl _ (fun w' hw => gath71n b f hf off p m hp hpm hg w' (hw.orow h hS0)) rfl ?_
          (repeat (first | ((refine (?_ : MX _ _ _ _ _ _ _ _ _ _ _)); first | refine mx_end ?_ | (refine mx_mv _ rfl rfl (by conv => {lhs; whnf}) ?_) | (refine mx_as _ rfl rfl (by conv => {lhs; whnf}) ?_) | (refine mx_not rfl rfl rfl ?_) | (refine mx_ex _ rfl rfl rfl (by conv => {lhs; whnf}) ?_) | (refine g_store rfl ?_; refine s_l E rfl rfl rfl rfl rfl rfl rfl (by exact Sp.all (by simp only [len_F, len_V, len_S]) ) rfl ?_ ) | (refine g_build rfl ?_; refine mx_build rfl rfl rfl rfl b24_0 rfl ?_ ) ) | refine cw_seq ?_ | refine cw_line rfl ?_ | refine cw_cond_t rfl ?_ | refine cw_ret ?_ | refine pw_then ?_ | refine pw_then_r ?_ ))
          exact pw_retcs E (j := 0) rfl rfl rfl rfl rfl (len_V _) rfl fun w hw => ⟨rfl, hw.keep.grow⟩
        · rw [hg]
          subst hm
          (repeat (first | ((refine (?_ : MX _ _ _ _ _ _ _ _ _ _ _)); first | refine mx_end ?_ | (refine mx_mv _ rfl rfl (by conv => {lhs; whnf}) ?_) | (refine mx_as _ rfl rfl (by conv => {lhs; whnf}) ?_) | (first | refine mx_fa0 E rfl rfl rfl rfl ?_ | refine mx_fa E rfl rfl rfl rfl ?_) | (refine g_load rfl ?_; refine mx_orow E rfl rfl rfl rfl rfl (by assumption) (by assumption) (by exact rd_Sk _ (by omega) ) rfl ?_ ) | (refine g_bin rfl ?_; first | (first | (refine mx_cmpl .eql rfl rfl rfl rfl rfl (by exact cmp_eq_t (by omega) ) ?_) | (refine mx_cmpl .neq rfl rfl rfl rfl rfl (by exact cmp_ne_f (by omega) ) ?_) ) | (refine mx_ar rfl rfl rfl rfl rfl rfl (IntWalk.i64_in _ (by omega)) rfl ?_ ) | refine mx_dv rfl rfl rfl rfl rfl (by decide) (congrArg some (by assumption)) rfl rfl ?_ ) | (refine g_ix rfl ?_; refine mx_ixan E rfl rfl rfl rfl rfl rfl (by omega) rfl ?_ ) | (refine mx_nc rfl rfl rfl ?_) | (refine mx_not rfl rfl rfl ?_) | (refine g_pick rfl ?_; first | refine mx_and rfl rfl rfl rfl rfl rfl ?_ | refine mx_or rfl rfl rfl rfl rfl rfl ?_ ) | (refine a_new rfl rfl rfl rfl rfl (fun _ => ?_)) | (refine g_call rfl ?_; first | (refine g_cf 69 rfl ?_; refine mx_call rfl rfl rfl Try.func69 rfl rfl rfl _ (fun w => sized69v _ _ (by assumption) w) rfl ?_) | (refine g_cf 70 rfl ?_; refine mx_call rfl rfl rfl Try.func70 rfl rfl rfl _ (fun w => part70v _ _ _ (by assumption) w) rfl ?_) )) | refine cw_seq ?_ | refine cw_line rfl ?_ | refine cw_cond_f rfl ?_ | refine cw_skip ?_ | refine pw_then ?_ ))
          refine g_cf 71 rfl ?_
          refine a_calln rfl rfl rfl rfl Try.func71 rfl rfl rfl (fun a : Option Addr × Nat => .tuple #[.slice a.1 m a.2, .bool true]) (fun a => ownd a.1 a.2 5 1 m (cs.flatMap cU)) (fun w' hw => gath71s b f hf off p m hp hpm cs hg w' (hw.orow h hS0)) rfl (fun a => ?_)
          obtain ⟨a1, c1⟩ := a
          (repeat (first | ((refine (?_ : MX _ _ _ _ _ _ _ _ _ _ _)); first | refine mx_end ?_ | (refine mx_mv _ rfl rfl (by conv => {lhs; whnf}) ?_) | (refine mx_as _ rfl rfl (by conv => {lhs; whnf}) ?_) | (refine mx_not rfl rfl rfl ?_) | (refine mx_ex _ rfl rfl rfl (by conv => {lhs; whnf}) ?_) ) | refine cw_seq ?_ | refine cw_line rfl ?_ | refine cw_cond_f rfl ?_ | refine cw_skip ?_ | refine pw_then ?_ ))
          refine g_cf 72 rfl ?_
          refine a_callv rfl rfl rfl rfl Try.func72 rfl rfl rfl _ (fun w' hw => number72 a1 m c1 cs (gat_len hg) hm8 (gat_byts hf hpm hg) w' (own_in len_U (hw.holds 0 _ rfl) (by rw [gat_len hg]; omega))) rfl ?_
          (repeat (first | ((refine (?_ : MX _ _ _ _ _ _ _ _ _ _ _)); first | refine mx_end ?_ | (refine mx_as _ rfl rfl (by conv => {lhs; whnf}) ?_) | (refine g_store rfl ?_; refine s_l E rfl rfl rfl rfl rfl rfl rfl (by exact Sp.all (by simp only [len_F, len_V, len_S]) ) rfl ?_ ) | (refine g_build rfl ?_; refine mx_build rfl rfl rfl rfl (b24_2 _ _) rfl ?_ ) ) | refine cw_ret ?_ | refine pw_then ?_ ))
          exact pw_retcs E (j := 1) rfl rfl rfl rfl rfl (len_V _) rfl fun w hw => ⟨rfl, hw.keep.grow⟩
    case neg =>
      rw [if_neg (fun hh => hw8 ⟨hh.1, hh.2.1⟩)]
      have hcond : ¬ size = 8 ∨ (size = 8 ∧ ¬ off.tmod 8 = 0) := by
        by_cases hs8 : size = 8
        · exact .inr ⟨hs8, fun e => hw8 ⟨hs8, hr8.1 e⟩⟩
        · exact .inl hs8
      rcases hcond with hs8 | ⟨hs8, hr0⟩
      · rcases rest with hg | ⟨cs, hg⟩
        · rw [hg]
          subst hm
          (repeat (first | ((refine (?_ : MX _ _ _ _ _ _ _ _ _ _ _)); first | refine mx_end ?_ | (refine mx_mv _ rfl rfl (by conv => {lhs; whnf}) ?_) | (refine mx_as _ rfl rfl (by conv => {lhs; whnf}) ?_) | (refine g_bin rfl ?_; ((refine mx_cmpl .eql rfl rfl rfl rfl rfl (by first | exact cmp_eq_t (by omega) | exact cmp_eq_f (by omega) | rfl) ?_) ) ) | (refine mx_not rfl rfl rfl ?_) | (refine mx_skip rfl rfl rfl ?_) | (refine g_pick rfl ?_; first | refine mx_andf rfl rfl rfl rfl rfl ?_ | refine mx_or rfl rfl rfl rfl rfl rfl ?_ ) | (refine a_new rfl rfl rfl rfl rfl (fun _ => ?_)) | (refine g_call rfl ?_; first | (refine g_cf 69 rfl ?_; refine mx_call rfl rfl rfl Try.func69 rfl rfl rfl _ (fun w => sized69v _ _ (by assumption) w) rfl ?_) | (refine g_cf 70 rfl ?_; refine mx_call rfl rfl rfl Try.func70 rfl rfl rfl _ (fun w => part70v _ _ _ (by assumption) w) rfl ?_) )) | refine cw_seq ?_ | refine cw_line rfl ?_ | refine cw_cond_f rfl ?_ | refine cw_skip ?_ | refine pw_then ?_ ))
          refine g_cf 71 rfl ?_
          refine a_callv rfl rfl rfl rfl Try.func71 rfl rfl rfl _ (fun w' hw => gath71n b f hf off p m hp hpm hg w' (hw.orow h hS0)) rfl ?_
          (repeat (first | ((refine (?_ : MX _ _ _ _ _ _ _ _ _ _ _)); first | refine mx_end ?_ | (refine mx_mv _ rfl rfl (by conv => {lhs; whnf}) ?_) | (refine mx_as _ rfl rfl (by conv => {lhs; whnf}) ?_) | (refine mx_not rfl rfl rfl ?_) | (refine mx_ex _ rfl rfl rfl (by conv => {lhs; whnf}) ?_) | (refine g_store rfl ?_; refine s_l E rfl rfl rfl rfl rfl rfl rfl (by exact Sp.all (by simp only [len_F, len_V, len_S]) ) rfl ?_ ) | (refine g_build rfl ?_; refine mx_build rfl rfl rfl rfl b24_0 rfl ?_ ) ) | refine cw_seq ?_ | refine cw_line rfl ?_ | refine cw_cond_t rfl ?_ | refine cw_ret ?_ | refine pw_then ?_ | refine pw_then_r ?_ ))
          exact pw_retcs E (j := 0) rfl rfl rfl rfl rfl (len_V _) rfl fun w hw => ⟨rfl, hw.keep.grow⟩
        · rw [hg]
          subst hm
          (repeat (first | ((refine (?_ : MX _ _ _ _ _ _ _ _ _ _ _)); first | refine mx_end ?_ | (refine mx_mv _ rfl rfl (by conv => {lhs; whnf}) ?_) | (refine mx_as _ rfl rfl (by conv => {lhs; whnf}) ?_) | (refine g_bin rfl ?_; ((refine mx_cmpl .eql rfl rfl rfl rfl rfl (by first | exact cmp_eq_t (by omega) | exact cmp_eq_f (by omega) | rfl) ?_) ) ) | (refine mx_not rfl rfl rfl ?_) | (refine mx_skip rfl rfl rfl ?_) | (refine g_pick rfl ?_; first | refine mx_andf rfl rfl rfl rfl rfl ?_ | refine mx_or rfl rfl rfl rfl rfl rfl ?_ ) | (refine a_new rfl rfl rfl rfl rfl (fun _ => ?_)) | (refine g_call rfl ?_; first | (refine g_cf 69 rfl ?_; refine mx_call rfl rfl rfl Try.func69 rfl rfl rfl _ (fun w => sized69v _ _ (by assumption) w) rfl ?_) | (refine g_cf 70 rfl ?_; refine mx_call rfl rfl rfl Try.func70 rfl rfl rfl _ (fun w => part70v _ _ _ (by assumption) w) rfl ?_) )) | refine cw_seq ?_ | refine cw_line rfl ?_ | refine cw_cond_f rfl ?_ | refine cw_skip ?_ | refine pw_then ?_ ))
          refine g_cf 71 rfl ?_
          refine a_calln rfl rfl rfl rfl Try.func71 rfl rfl rfl (fun a : Option Addr × Nat => .tuple #[.slice a.1 m a.2, .bool true]) (fun a => ownd a.1 a.2 5 1 m (cs.flatMap cU)) (fun w' hw => gath71s b f hf off p m hp hpm cs hg w' (hw.orow h hS0)) rfl (fun a => ?_)
          obtain ⟨a1, c1⟩ := a
          (repeat (first | ((refine (?_ : MX _ _ _ _ _ _ _ _ _ _ _)); first | refine mx_end ?_ | (refine mx_mv _ rfl rfl (by conv => {lhs; whnf}) ?_) | (refine mx_as _ rfl rfl (by conv => {lhs; whnf}) ?_) | (refine mx_not rfl rfl rfl ?_) | (refine mx_ex _ rfl rfl rfl (by conv => {lhs; whnf}) ?_) ) | refine cw_seq ?_ | refine cw_line rfl ?_ | refine cw_cond_f rfl ?_ | refine cw_skip ?_ | refine pw_then ?_ ))
          refine g_cf 72 rfl ?_
          refine a_callv rfl rfl rfl rfl Try.func72 rfl rfl rfl _ (fun w' hw => number72 a1 m c1 cs (gat_len hg) hm8 (gat_byts hf hpm hg) w' (own_in len_U (hw.holds 0 _ rfl) (by rw [gat_len hg]; omega))) rfl ?_
          (repeat (first | ((refine (?_ : MX _ _ _ _ _ _ _ _ _ _ _)); first | refine mx_end ?_ | (refine mx_as _ rfl rfl (by conv => {lhs; whnf}) ?_) | (refine g_store rfl ?_; refine s_l E rfl rfl rfl rfl rfl rfl rfl (by exact Sp.all (by simp only [len_F, len_V, len_S]) ) rfl ?_ ) | (refine g_build rfl ?_; refine mx_build rfl rfl rfl rfl (b24_2 _ _) rfl ?_ ) ) | refine cw_ret ?_ | refine pw_then ?_ ))
          exact pw_retcs E (j := 1) rfl rfl rfl rfl rfl (len_V _) rfl fun w hw => ⟨rfl, hw.keep.grow⟩
      · rcases rest with hg | ⟨cs, hg⟩
        · rw [hg]
          subst hm
          (repeat (first | ((refine (?_ : MX _ _ _ _ _ _ _ _ _ _ _)); first | refine mx_end ?_ | (refine mx_mv _ rfl rfl (by conv => {lhs; whnf}) ?_) | (refine mx_as _ rfl rfl (by conv => {lhs; whnf}) ?_) | (refine g_bin rfl ?_; first | ((refine mx_cmpl .eql rfl rfl rfl rfl rfl (by first | exact cmp_eq_t (by omega) | exact cmp_eq_f (by omega) ) ?_) ) | refine mx_dv rfl rfl rfl rfl rfl (by decide) rfl rfl rfl ?_ ) | (refine mx_not rfl rfl rfl ?_) | (refine mx_skip rfl rfl rfl ?_) | (refine g_pick rfl ?_; first | refine mx_andf rfl rfl rfl rfl rfl ?_ | refine mx_and rfl rfl rfl rfl rfl rfl ?_ | refine mx_or rfl rfl rfl rfl rfl rfl ?_ ) | (refine a_new rfl rfl rfl rfl rfl (fun _ => ?_)) | (refine g_call rfl ?_; first | (refine g_cf 69 rfl ?_; refine mx_call rfl rfl rfl Try.func69 rfl rfl rfl _ (fun w => sized69v _ _ (by assumption) w) rfl ?_) | (refine g_cf 70 rfl ?_; refine mx_call rfl rfl rfl Try.func70 rfl rfl rfl _ (fun w => part70v _ _ _ (by assumption) w) rfl ?_) )) | refine cw_seq ?_ | refine cw_line rfl ?_ | refine cw_cond_f rfl ?_ | refine cw_skip ?_ | refine pw_then ?_ ))
          refine g_cf 71 rfl ?_
          refine a_callv rfl rfl rfl rfl Try.func71 rfl rfl rfl _ (fun w' hw => gath71n b f hf off p m hp hpm hg w' (hw.orow h hS0)) rfl ?_
          (repeat (first | ((refine (?_ : MX _ _ _ _ _ _ _ _ _ _ _)); first | refine mx_end ?_ | (refine mx_mv _ rfl rfl (by conv => {lhs; whnf}) ?_) | (refine mx_as _ rfl rfl (by conv => {lhs; whnf}) ?_) | (refine mx_not rfl rfl rfl ?_) | (refine mx_ex _ rfl rfl rfl (by conv => {lhs; whnf}) ?_) | (refine g_store rfl ?_; refine s_l E rfl rfl rfl rfl rfl rfl rfl (by exact Sp.all (by simp only [len_F, len_V, len_S]) ) rfl ?_ ) | (refine g_build rfl ?_; refine mx_build rfl rfl rfl rfl b24_0 rfl ?_ ) ) | refine cw_seq ?_ | refine cw_line rfl ?_ | refine cw_cond_t rfl ?_ | refine cw_ret ?_ | refine pw_then ?_ | refine pw_then_r ?_ ))
          exact pw_retcs E (j := 0) rfl rfl rfl rfl rfl (len_V _) rfl fun w hw => ⟨rfl, hw.keep.grow⟩
        · rw [hg]
          subst hm
          (repeat (first | ((refine (?_ : MX _ _ _ _ _ _ _ _ _ _ _)); first | refine mx_end ?_ | (refine mx_mv _ rfl rfl (by conv => {lhs; whnf}) ?_) | (refine mx_as _ rfl rfl (by conv => {lhs; whnf}) ?_) | (refine g_bin rfl ?_; first | ((refine mx_cmpl .eql rfl rfl rfl rfl rfl (by first | exact cmp_eq_t (by omega) | exact cmp_eq_f (by omega) ) ?_) ) | refine mx_dv rfl rfl rfl rfl rfl (by decide) rfl rfl rfl ?_ ) | (refine mx_not rfl rfl rfl ?_) | (refine mx_skip rfl rfl rfl ?_) | (refine g_pick rfl ?_; first | refine mx_andf rfl rfl rfl rfl rfl ?_ | refine mx_and rfl rfl rfl rfl rfl rfl ?_ | refine mx_or rfl rfl rfl rfl rfl rfl ?_ ) | (refine a_new rfl rfl rfl rfl rfl (fun _ => ?_)) | (refine g_call rfl ?_; first | (refine g_cf 69 rfl ?_; refine mx_call rfl rfl rfl Try.func69 rfl rfl rfl _ (fun w => sized69v _ _ (by assumption) w) rfl ?_) | (refine g_cf 70 rfl ?_; refine mx_call rfl rfl rfl Try.func70 rfl rfl rfl _ (fun w => part70v _ _ _ (by assumption) w) rfl ?_) )) | refine cw_seq ?_ | refine cw_line rfl ?_ | refine cw_cond_f rfl ?_ | refine cw_skip ?_ | refine pw_then ?_ ))
          refine g_cf 71 rfl ?_
          refine a_calln rfl rfl rfl rfl Try.func71 rfl rfl rfl (fun a : Option Addr × Nat => .tuple #[.slice a.1 m a.2, .bool true]) (fun a => ownd a.1 a.2 5 1 m (cs.flatMap cU)) (fun w' hw => gath71s b f hf off p m hp hpm cs hg w' (hw.orow h hS0)) rfl (fun a => ?_)
          obtain ⟨a1, c1⟩ := a
          (repeat (first | ((refine (?_ : MX _ _ _ _ _ _ _ _ _ _ _)); first | refine mx_end ?_ | (refine mx_mv _ rfl rfl (by conv => {lhs; whnf}) ?_) | (refine mx_as _ rfl rfl (by conv => {lhs; whnf}) ?_) | (refine mx_not rfl rfl rfl ?_) | (refine mx_ex _ rfl rfl rfl (by conv => {lhs; whnf}) ?_) ) | refine cw_seq ?_ | refine cw_line rfl ?_ | refine cw_cond_f rfl ?_ | refine cw_skip ?_ | refine pw_then ?_ ))
          refine g_cf 72 rfl ?_
          refine a_callv rfl rfl rfl rfl Try.func72 rfl rfl rfl _ (fun w' hw => number72 a1 m c1 cs (gat_len hg) hm8 (gat_byts hf hpm hg) w' (own_in len_U (hw.holds 0 _ rfl) (by rw [gat_len hg]; omega))) rfl ?_
          (repeat (first | ((refine (?_ : MX _ _ _ _ _ _ _ _ _ _ _)); first | refine mx_end ?_ | (refine mx_as _ rfl rfl (by conv => {lhs; whnf}) ?_) | (refine g_store rfl ?_; refine s_l E rfl rfl rfl rfl rfl rfl rfl (by exact Sp.all (by simp only [len_F, len_V, len_S]) ) rfl ?_ ) | (refine g_build rfl ?_; refine mx_build rfl rfl rfl rfl (b24_2 _ _) rfl ?_ ) ) | refine cw_ret ?_ | refine pw_then ?_ ))
          exact pw_retcs E (j := 1) rfl rfl rfl rfl rfl (len_V _) rfl fun w hw => ⟨rfl, hw.keep.grow⟩
theorem store34 (b : Nat) (f : Fr) (off size : Int) (v : V3) (w : World) (h : (row b 31 (cF f)).holds w) :
    Calls Try.prog 34 #[.pointer (some ⟨b, 0, none⟩), .int .i64 off, .int .i64 size, .agg (cV v).toArray] w fun e w' => e = .returned (.int .i64 (stR f off size v).1) ∧ Chg (row b 31 (cF f)).dom w w' ∧ (row b 31 (cF (stR f off size v).2)).holds w' := by
  refine enter4 58 Try.func34 rfl rfl rfl (Ok.one h (row_lt h)) ?_
  unfold stR
  by_cases hk0 : v.k = 0
  case pos =>
    rw [if_pos hk0]
    (repeat (first | ((refine (?_ : MX _ _ _ _ _ _ _ _ _ _ _)); first | refine mx_end ?_ | (refine mx_as _ rfl rfl (by conv => {lhs; whnf}) ?_) | (refine mx_fa0 E rfl rfl rfl rfl ?_ ) | (refine g_load rfl ?_; refine mx_get E rfl rfl rfl rfl rfl (by exact rd_Vk _ ) rfl ?_ ) | (refine g_bin rfl ?_; ((refine mx_cmpl .eql rfl rfl rfl rfl rfl (by exact cmp_eq_t (by omega) ) ?_) ) ) | (refine g_box rfl ?_; refine a_boxl rfl rfl rfl rfl rfl rfl (fun _ => ?_) ) ) | refine cw_seq ?_ | refine cw_line rfl ?_ | refine cw_cond_t rfl ?_ | refine cw_ret ?_ | refine pw_then ?_ | refine pw_then_r ?_ ))
    exact pw_ret rfl rfl rfl rfl fun w hw => ⟨rfl, hw.keep, hw.holds 1 _ rfl⟩
  rw [if_neg hk0]
  cases hok : ldOk off size with
  | false =>
    rw [if_neg (by simp)]
    cases hsz : sizedB size with
    | false =>
      (repeat (first | ((refine (?_ : MX _ _ _ _ _ _ _ _ _ _ _)); first | refine mx_end ?_ | (refine mx_mv _ rfl rfl (by conv => {lhs; whnf}) ?_) | (refine mx_as _ rfl rfl (by conv => {lhs; whnf}) ?_) | (refine mx_fa0 E rfl rfl rfl rfl ?_ ) | (refine g_load rfl ?_; refine mx_get E rfl rfl rfl rfl rfl (by exact rd_Vk _ ) rfl ?_ ) | (refine g_bin rfl ?_; ((refine mx_cmpl .eql rfl rfl rfl rfl rfl (by exact cmp_eq_f (by omega) ) ?_) ) ) | (refine mx_not rfl rfl rfl ?_) | (refine mx_skip rfl rfl rfl ?_) | (refine g_pick rfl ?_; refine mx_ort rfl rfl rfl rfl rfl ?_ ) | (refine g_box rfl ?_; refine a_boxl rfl rfl rfl rfl rfl rfl (fun _ => ?_) ) | (refine g_call rfl ?_; (refine g_cf 69 rfl ?_; refine mx_call rfl rfl rfl Try.func69 rfl rfl rfl _ (fun w => sized69v _ _ (by assumption) w) rfl ?_) )) | refine cw_seq ?_ | refine cw_line rfl ?_ | refine cw_cond_f rfl ?_ | refine cw_cond_t rfl ?_ | refine cw_skip ?_ | refine cw_ret ?_ | refine pw_then ?_ | refine pw_then_r ?_ ))
      exact pw_ret rfl rfl rfl rfl fun w hw => ⟨rfl, hw.keep, hw.holds 1 _ rfl⟩
    | true =>
      have hon : onB off size = false := by unfold ldOk at hok; rw [hsz] at hok; simpa using hok
      (repeat (first | ((refine (?_ : MX _ _ _ _ _ _ _ _ _ _ _)); first | refine mx_end ?_ | (refine mx_mv _ rfl rfl (by conv => {lhs; whnf}) ?_) | (refine mx_as _ rfl rfl (by conv => {lhs; whnf}) ?_) | (refine mx_fa0 E rfl rfl rfl rfl ?_ ) | (refine g_load rfl ?_; refine mx_get E rfl rfl rfl rfl rfl (by exact rd_Vk _ ) rfl ?_ ) | (refine g_bin rfl ?_; ((refine mx_cmpl .eql rfl rfl rfl rfl rfl (by exact cmp_eq_f (by omega) ) ?_) ) ) | (refine mx_not rfl rfl rfl ?_) | (refine g_pick rfl ?_; refine mx_or rfl rfl rfl rfl rfl rfl ?_ ) | (refine g_box rfl ?_; refine a_boxl rfl rfl rfl rfl rfl rfl (fun _ => ?_) ) | (refine g_call rfl ?_; first | (refine g_cf 69 rfl ?_; refine mx_call rfl rfl rfl Try.func69 rfl rfl rfl _ (fun w => sized69v _ _ (by assumption) w) rfl ?_) | (refine g_cf 70 rfl ?_; refine mx_call rfl rfl rfl Try.func70 rfl rfl rfl _ (fun w => part70v _ _ _ (by assumption) w) rfl ?_) )) | refine cw_seq ?_ | refine cw_line rfl ?_ | refine cw_cond_f rfl ?_ | refine cw_cond_t rfl ?_ | refine cw_skip ?_ | refine cw_ret ?_ | refine pw_then ?_ | refine pw_then_r ?_ ))
      exact pw_ret rfl rfl rfl rfl fun w hw => ⟨rfl, hw.keep, hw.holds 1 _ rfl⟩
  | true =>
    rw [if_pos rfl]
    obtain ⟨p, m, hp, hm, hpm, hm8, hm1, hsz, hon, e1, e2⟩ := ldOk_spec hok
    rw [e1, e2]
    have h64 : p / 8 < 64 := by omega
    have hq := quo8 off p hp (by omega)
    have hr8 : off.tmod 8 = 0 ↔ p % 8 = 0 := tmod8 off p hp
    by_cases hk1 : v.k = 1
    case pos =>
      rw [if_pos hk1]
      subst hm
      (repeat (first | ((refine (?_ : MX _ _ _ _ _ _ _ _ _ _ _)); first | refine mx_end ?_ | (refine mx_mv _ rfl rfl (by conv => {lhs; whnf}) ?_) | (refine mx_as _ rfl rfl (by conv => {lhs; whnf}) ?_) | (refine mx_fa0 E rfl rfl rfl rfl ?_ ) | (refine g_load rfl ?_; refine mx_get E rfl rfl rfl rfl rfl (by exact rd_Vk _ ) rfl ?_ ) | (refine g_bin rfl ?_; (first | (refine mx_cmpl .eql rfl rfl rfl rfl rfl (by first | exact cmp_eq_t (by omega) | exact cmp_eq_f (by omega) ) ?_) | (refine mx_cmpl .neq rfl rfl rfl rfl rfl (by exact cmp_ne_f (by omega) ) ?_) ) ) | (refine mx_not rfl rfl rfl ?_) | (refine g_pick rfl ?_; refine mx_or rfl rfl rfl rfl rfl rfl ?_ ) | (refine g_box rfl ?_; refine a_boxl rfl rfl rfl rfl rfl rfl (fun _ => ?_) ) | (refine g_call rfl ?_; first | (refine g_cf 69 rfl ?_; refine mx_call rfl rfl rfl Try.func69 rfl rfl rfl _ (fun w => sized69v _ _ (by assumption) w) rfl ?_) | (refine g_cf 70 rfl ?_; refine mx_call rfl rfl rfl Try.func70 rfl rfl rfl _ (fun w => part70v _ _ _ (by assumption) w) rfl ?_) )) | refine cw_seq ?_ | refine cw_line rfl ?_ | refine cw_block ?_ | refine cw_cond_f rfl ?_ | refine cw_skip ?_ | refine pw_then ?_ ))
      rename_i b7
      refine cw_loop (fun i : Nat => [(9, .int .i64 i), (7, .pointer (some ⟨b7, 0, none⟩)), (0, .pointer (some ⟨b, 0, none⟩)), (1, .int .i64 off), (2, .int .i64 m)]) (fun i => [row b7 24 (cV v), row b 31 (cF (layN f p ((byts v.n m).take i)))]) (fun i => i ≤ m) (fun i => m - i) 0 (by omega) ⟨rfl, rfl, rfl, rfl, rfl, trivial⟩ (fun w h => h) ?_
      intro i jk hi
      by_cases h0 : (i : Int) < m
      case pos =>
        have hsr := shr64 v.n i (by omega)
        have hcv : IntKind.u8.wrap (v.n / 2 ^ (8 * i)) = bytw v.n i := rfl
        have hst := layN_step f p (byts v.n m) (byts_at v.n (m := m) (i := i) (by omega))
        (repeat (first | ((refine (?_ : MX _ _ _ _ _ _ _ _ _ _ _)); first | refine mx_end ?_ | (refine mx_mv _ rfl rfl (by conv => {lhs; whnf}) ?_) | ( refine mx_fa E rfl rfl rfl rfl ?_) | (refine g_load rfl ?_; refine mx_get E rfl rfl rfl rfl rfl (by exact rd_Vn _ ) rfl ?_ ) | (refine g_bin rfl ?_; first | ( (refine mx_cmpl .lss rfl rfl rfl rfl rfl (by exact cmp_lt_t (by omega) ) ?_) ) | (refine mx_ar rfl rfl rfl rfl rfl rfl (IntWalk.i64_in _ (by omega)) rfl ?_ ) | refine mx_sh rfl rfl rfl rfl rfl (by omega) (congrArg some (by assumption)) rfl rfl ?_ ) | (refine g_conv rfl ?_; first | refine mx_cv E rfl rfl rfl rfl rfl rfl (by assumption) rfl ?_ | refine mx_cv E rfl rfl rfl rfl rfl rfl (IntWalk.u64_in _ (by omega)) rfl ?_ ) ) | refine cw_seq ?_ | refine cw_line rfl ?_ | refine cw_block ?_ | refine cw_cond_t rfl ?_ | refine cw_skip ?_ | refine pw_then ?_ ))
        refine g_cf 73 rfl ?_
        refine a_callr rfl rfl rfl rfl Try.func73 rfl rfl rfl b (cF (layN f p ((byts v.n m).take (i + 1)))) (.tuple #[]) (fun w' hw h => hst ▸ lay73 b (layN f p ((byts v.n m).take i)) (off + (i : Int)) (p + i) (by omega) (by omega) (bytw v.n i) w' h) rfl ?_
        (repeat (first | ((refine (?_ : MX _ _ _ _ _ _ _ _ _ _ _)); first | refine mx_end ?_ | (refine mx_mv _ rfl rfl (by conv => {lhs; whnf}) ?_) | (refine mx_as _ rfl rfl (by conv => {lhs; whnf}) ?_) | (refine g_bin rfl ?_; (refine mx_ar rfl rfl rfl rfl rfl rfl (IntWalk.i64_in _ (by omega)) rfl ?_ ) ) ) | refine cw_line rfl ?_ | refine pw_then ?_ | refine pw_block ?_ ))
        refine pw_round (i + 1) (by omega) (by omega) ⟨rfl, rfl, rfl, rfl, rfl, trivial⟩ (fun w h => h)
      case neg =>
        obtain rfl : i = m := by omega
        rw [List.take_of_length_le (by rw [byts_len]; omega)]
        (repeat (first | ((refine (?_ : MX _ _ _ _ _ _ _ _ _ _ _)); first | refine mx_end ?_ | (refine mx_mv _ rfl rfl (by conv => {lhs; whnf}) ?_) | (refine mx_as _ rfl rfl (by conv => {lhs; whnf}) ?_) | (refine g_bin rfl ?_; ( (refine mx_cmpl .lss rfl rfl rfl rfl rfl (by exact cmp_lt_f (by omega) ) ?_) ) ) ) | refine cw_seq ?_ | refine cw_line rfl ?_ | refine cw_cond_f rfl ?_ | refine cw_exit ?_ | refine cw_ret ?_ | refine pw_then ?_ | refine pw_then_x ?_ | refine pw_block_e ?_ ))
        exact pw_ret rfl rfl rfl rfl fun w hw => ⟨rfl, hw.keep, hw.holds 1 _ rfl⟩
    case neg =>
      rw [if_neg hk1]
      by_cases hw8 : size = 8 ∧ p % 8 = 0
      case pos =>
        have hr0 := hr8.2 hw8.2
        rw [if_pos hw8]
        (repeat (first | ((refine (?_ : MX _ _ _ _ _ _ _ _ _ _ _)); first | refine mx_end ?_ | (refine mx_mv _ rfl rfl (by conv => {lhs; whnf}) ?_) | (refine mx_as _ rfl rfl (by conv => {lhs; whnf}) ?_) | (refine mx_fa0 E rfl rfl rfl rfl ?_ ) | (refine g_load rfl ?_; refine mx_get E rfl rfl rfl rfl rfl (by exact rd_Vk _ ) rfl ?_ ) | (refine g_bin rfl ?_; first | (first | (refine mx_cmpl .eql rfl rfl rfl rfl rfl (by first | exact cmp_eq_t (by omega) | exact cmp_eq_f (by omega) ) ?_) | (refine mx_cmpl .neq rfl rfl rfl rfl rfl (by first | exact cmp_ne_t (by omega) | exact cmp_ne_f (by omega) ) ?_) ) | refine mx_dv rfl rfl rfl rfl rfl (by decide) (congrArg some (by assumption)) rfl rfl ?_ ) | (refine mx_not rfl rfl rfl ?_) | (refine g_pick rfl ?_; refine mx_or rfl rfl rfl rfl rfl rfl ?_ ) | (refine g_box rfl ?_; refine a_boxl rfl rfl rfl rfl rfl rfl (fun _ => ?_) ) | (refine g_call rfl ?_; first | (refine g_cf 69 rfl ?_; refine mx_call rfl rfl rfl Try.func69 rfl rfl rfl _ (fun w => sized69v _ _ (by assumption) w) rfl ?_) | (refine g_cf 70 rfl ?_; refine mx_call rfl rfl rfl Try.func70 rfl rfl rfl _ (fun w => part70v _ _ _ (by assumption) w) rfl ?_) )) | refine cw_seq ?_ | refine cw_line rfl ?_ | refine cw_cond_f rfl ?_ | refine cw_cond_t rfl ?_ | refine cw_skip ?_ | refine pw_then ?_ ))
        refine cw_drawm [0, 1, 2, 3, 4, 5, 6, 7, 8, 9] (fun i => Nat.beq i 9) _ mixed (by kernel_rfl) (fun w h => h.only 0 rfl) ?_
        (repeat (first | ((refine (?_ : MX _ _ _ _ _ _ _ _ _ _ _)); first | refine mx_end ?_ | (refine mx_mv _ rfl rfl (by conv => {lhs; whnf}) ?_) | (refine mx_as _ rfl rfl (by conv => {lhs; whnf}) ?_) | ( refine mx_fa E rfl rfl rfl rfl ?_) | (refine g_load rfl ?_; refine mx_getn E rfl rfl rfl rfl rfl (by exact vr_V _ ) rfl ?_ ) | (refine g_bin rfl ?_; first | (refine mx_ar rfl rfl rfl rfl rfl rfl (IntWalk.i64_in _ (by omega)) rfl ?_ ) | refine mx_dv rfl rfl rfl rfl rfl (by decide) (congrArg some (by assumption)) rfl rfl ?_ ) | (refine g_ix rfl ?_; refine mx_ixan E rfl rfl rfl rfl rfl rfl (by omega) rfl ?_ ) | (refine mx_nc rfl rfl rfl ?_) | (refine g_store rfl ?_; refine s_l E rfl rfl rfl rfl rfl rfl rfl (by exact sp_S _ (by omega) _ ) rfl ?_ ) | (refine g_build rfl ?_; refine mx_build rfl rfl rfl rfl (b28_1 _) rfl ?_ ) ) | refine cw_seq ?_ | refine cw_line rfl ?_ | refine cw_ret ?_ | refine pw_then ?_ | refine pw_then_r ?_ ))
        exact pw_ret rfl rfl rfl rfl fun w hw => ⟨rfl, hw.keep, hw.holds 1 _ rfl⟩
      case neg =>
        rw [if_neg hw8]
        by_cases hs8 : size = 8
        · have hr0 : ¬ off.tmod 8 = 0 := fun e => hw8 ⟨hs8, hr8.1 e⟩
          (repeat (first | ((refine (?_ : MX _ _ _ _ _ _ _ _ _ _ _)); first | refine mx_end ?_ | (refine mx_mv _ rfl rfl (by conv => {lhs; whnf}) ?_) | (refine mx_as _ rfl rfl (by conv => {lhs; whnf}) ?_) | (refine mx_fa0 E rfl rfl rfl rfl ?_ ) | (refine g_load rfl ?_; refine mx_get E rfl rfl rfl rfl rfl (by exact rd_Vk _ ) rfl ?_ ) | (refine g_bin rfl ?_; first | (first | (refine mx_cmpl .eql rfl rfl rfl rfl rfl (by first | exact cmp_eq_t (by omega) | exact cmp_eq_f (by omega) ) ?_) | (refine mx_cmpl .neq rfl rfl rfl rfl rfl (by first | exact cmp_ne_t (by omega) | exact cmp_ne_f (by omega) ) ?_) ) | refine mx_dv rfl rfl rfl rfl rfl (by decide) rfl rfl rfl ?_ ) | (refine mx_not rfl rfl rfl ?_) | (refine g_pick rfl ?_; refine mx_or rfl rfl rfl rfl rfl rfl ?_ ) | (refine g_box rfl ?_; refine a_boxl rfl rfl rfl rfl rfl rfl (fun _ => ?_) ) | (refine g_call rfl ?_; first | (refine g_cf 69 rfl ?_; refine mx_call rfl rfl rfl Try.func69 rfl rfl rfl _ (fun w => sized69v _ _ (by assumption) w) rfl ?_) | (refine g_cf 70 rfl ?_; refine mx_call rfl rfl rfl Try.func70 rfl rfl rfl _ (fun w => part70v _ _ _ (by assumption) w) rfl ?_) )) | refine cw_seq ?_ | refine cw_line rfl ?_ | refine cw_cond_f rfl ?_ | refine cw_cond_t rfl ?_ | refine cw_skip ?_ | refine cw_ret ?_ | refine pw_then ?_ | refine pw_then_r ?_ ))
          exact pw_ret rfl rfl rfl rfl fun w hw => ⟨rfl, hw.keep, hw.holds 1 _ rfl⟩
        · (repeat (first | ((refine (?_ : MX _ _ _ _ _ _ _ _ _ _ _)); first | refine mx_end ?_ | (refine mx_mv _ rfl rfl (by conv => {lhs; whnf}) ?_) | (refine mx_as _ rfl rfl (by conv => {lhs; whnf}) ?_) | (refine mx_fa0 E rfl rfl rfl rfl ?_ ) | (refine g_load rfl ?_; refine mx_get E rfl rfl rfl rfl rfl (by exact rd_Vk _ ) rfl ?_ ) | (refine g_bin rfl ?_; (first | (refine mx_cmpl .eql rfl rfl rfl rfl rfl (by first | exact cmp_eq_t (by omega) | exact cmp_eq_f (by omega) ) ?_) | (refine mx_cmpl .neq rfl rfl rfl rfl rfl (by exact cmp_ne_t (by omega) ) ?_) ) ) | (refine mx_not rfl rfl rfl ?_) | (refine mx_skip rfl rfl rfl ?_) | (refine g_pick rfl ?_; first | refine mx_ort rfl rfl rfl rfl rfl ?_ | refine mx_or rfl rfl rfl rfl rfl rfl ?_ ) | (refine g_box rfl ?_; refine a_boxl rfl rfl rfl rfl rfl rfl (fun _ => ?_) ) | (refine g_call rfl ?_; first | (refine g_cf 69 rfl ?_; refine mx_call rfl rfl rfl Try.func69 rfl rfl rfl _ (fun w => sized69v _ _ (by assumption) w) rfl ?_) | (refine g_cf 70 rfl ?_; refine mx_call rfl rfl rfl Try.func70 rfl rfl rfl _ (fun w => part70v _ _ _ (by assumption) w) rfl ?_) )) | refine cw_seq ?_ | refine cw_line rfl ?_ | refine cw_cond_f rfl ?_ | refine cw_cond_t rfl ?_ | refine cw_skip ?_ | refine cw_ret ?_ | refine pw_then ?_ | refine pw_then_r ?_ ))
          exact pw_ret rfl rfl rfl rfl fun w hw => ⟨rfl, hw.keep, hw.holds 1 _ rfl⟩
def byOk (off n : Int) : Bool := decide (0 ≤ n) && decide (n ≤ 64) && onB off n
theorem byOk_spec {off n : Int} (h : byOk off n = true) : ∃ p m : Nat, off + 512 = p ∧ n = m ∧ p + m ≤ 512 ∧ m ≤ 64 ∧ onB off n = true ∧ (off + 512).toNat = p ∧ n.toNat = m := by
  unfold byOk at h
  simp only [Bool.and_eq_true, decide_eq_true_eq] at h
  have h2 := (onB_iff off n).1 h.2
  exact ⟨(off + 512).toNat, n.toNat, by omega, by omega, by omega, by omega, h.2, rfl, rfl⟩
theorem bytes35s (b : Nat) (f : Fr) (off n : Int) (hok : byOk off n = true) (cs : List Int) (hg : gat f (off + 512).toNat n.toNat = some cs) (w : World) (h : (row b 31 (cF f)).holds w) :
    Calls Try.prog 35 #[.pointer (some ⟨b, 0, none⟩), .int .i64 off, .int .i64 n] w fun e w' => ∃ a : Option Addr × Nat, e = .returned (.tuple #[.slice a.1 n.toNat a.2, .int .i64 0]) ∧ Grow w w' ∧ (ownd a.1 a.2 5 1 n.toNat (cs.flatMap cU)).holds w' ∧ ∀ b, (ownd a.1 a.2 5 1 n.toNat (cs.flatMap cU)).dom b → b < w'.heap.size ∧ ¬ b < w.heap.size := by
  obtain ⟨p, m, hp, hm, hpm, hm8, hon, e1, e2⟩ := byOk_spec hok
  rw [e1, e2] at hg
  rw [e2]
  subst hm
  refine enter3 (S := fun _ => False) 26 Try.func35 rfl rfl rfl (Ok.start w) ?_
  have hS0 : ¬ (fun _ : Nat => False) b := id
  (repeat (first | ((refine (?_ : MX _ _ _ _ _ _ _ _ _ _ _)); first | refine mx_end ?_ | (refine mx_mv _ rfl rfl (by conv => {lhs; whnf}) ?_) | (refine mx_as _ rfl rfl (by conv => {lhs; whnf}) ?_) | (refine g_bin rfl ?_; (first | (refine mx_cmpl .lss rfl rfl rfl rfl rfl (by first | exact cmp_lt_f (by omega) | rfl) ?_) | (refine mx_cmpl .gtr rfl rfl rfl rfl rfl (by exact cmp_gt_f (by omega) ) ?_) ) ) | (refine mx_not rfl rfl rfl ?_) | (refine g_pick rfl ?_; refine mx_or rfl rfl rfl rfl rfl rfl ?_ ) | (refine g_call rfl ?_; (refine g_cf 64 rfl ?_; refine mx_call rfl rfl rfl Try.func64 rfl rfl rfl _ (fun w => on64v _ _ _ (by assumption) w) rfl ?_) )) | refine cw_seq ?_ | refine cw_line rfl ?_ | refine cw_cond_f rfl ?_ | refine cw_skip ?_ | refine pw_then ?_ ))
  refine g_cf 67 rfl ?_
  refine a_calln rfl rfl rfl rfl Try.func67 rfl rfl rfl (fun a : Option Addr × Nat => .tuple #[.slice a.1 m a.2, .int .i64 0]) (fun a => ownd a.1 a.2 5 1 m (cs.flatMap cU)) (fun w' hw => read67s b f off p m hp hpm cs hg w' (hw.orow h hS0)) rfl (fun a => ?_)
  obtain ⟨a1, c1⟩ := a
  (repeat (first | ((refine (?_ : MX _ _ _ _ _ _ _ _ _ _ _)); first | refine mx_end ?_ | (refine mx_as _ rfl rfl (by conv => {lhs; whnf}) ?_) | (refine mx_ex _ rfl rfl rfl (by conv => {lhs; whnf}) ?_) ) | refine cw_ret ?_ | refine pw_then ?_ ))
  exact pw_rets rfl [_, _] ⟨rfl, rfl, trivial⟩ rfl fun w' hw => ⟨(a1, c1), rfl, hw.keep.grow, hw.holds 0 _ rfl, fun b hb => hw.fresh 0 rfl b hb⟩
theorem bytes35n (b : Nat) (f : Fr) (off n : Int) (hok : byOk off n = true) (hg : gat f (off + 512).toNat n.toNat = none) (w : World) (h : (row b 31 (cF f)).holds w) :
    Calls Try.prog 35 #[.pointer (some ⟨b, 0, none⟩), .int .i64 off, .int .i64 n] w fun e w' => e = .returned (.tuple #[.slice none 0 0, .int .i64 26]) ∧ Grow w w' := by
  obtain ⟨p, m, hp, hm, hpm, hm8, hon, e1, e2⟩ := byOk_spec hok
  rw [e1, e2] at hg
  subst hm
  refine enter3 (S := fun _ => False) 26 Try.func35 rfl rfl rfl (Ok.start w) ?_
  have hS0 : ¬ (fun _ : Nat => False) b := id
  (repeat (first | ((refine (?_ : MX _ _ _ _ _ _ _ _ _ _ _)); first | refine mx_end ?_ | (refine mx_mv _ rfl rfl (by conv => {lhs; whnf}) ?_) | (refine mx_as _ rfl rfl (by conv => {lhs; whnf}) ?_) | (refine g_bin rfl ?_; (first | (refine mx_cmpl .lss rfl rfl rfl rfl rfl (by first | exact cmp_lt_f (by omega) | rfl) ?_) | (refine mx_cmpl .gtr rfl rfl rfl rfl rfl (by exact cmp_gt_f (by omega) ) ?_) ) ) | (refine mx_not rfl rfl rfl ?_) | (refine g_pick rfl ?_; refine mx_or rfl rfl rfl rfl rfl rfl ?_ ) | (refine g_call rfl ?_; (refine g_cf 64 rfl ?_; refine mx_call rfl rfl rfl Try.func64 rfl rfl rfl _ (fun w => on64v _ _ _ (by assumption) w) rfl ?_) )) | refine cw_seq ?_ | refine cw_line rfl ?_ | refine cw_cond_f rfl ?_ | refine cw_skip ?_ | refine pw_then ?_ ))
  refine g_cf 67 rfl ?_
  refine a_callv rfl rfl rfl rfl Try.func67 rfl rfl rfl _ (fun w' hw => read67n b f off p m hp hpm hg w' (hw.orow h hS0)) rfl ?_
  (repeat (first | ((refine (?_ : MX _ _ _ _ _ _ _ _ _ _ _)); first | refine mx_end ?_ | (refine mx_as _ rfl rfl (by conv => {lhs; whnf}) ?_) | (refine mx_ex _ rfl rfl rfl (by conv => {lhs; whnf}) ?_) ) | refine cw_ret ?_ | refine pw_then ?_ ))
  exact pw_rets rfl [_, _] ⟨rfl, rfl, trivial⟩ rfl fun w' hw => ⟨rfl, hw.keep.grow⟩
theorem bytes35b (b : Nat) (off n : Int) (hok : byOk off n = false) (w : World) :
    Calls Try.prog 35 #[.pointer (some ⟨b, 0, none⟩), .int .i64 off, .int .i64 n] w fun e w' => e = .returned (.tuple #[.slice none 0 0, .int .i64 22]) ∧ Grow w w' := by
  unfold byOk at hok
  refine enter3 (S := fun _ => False) 26 Try.func35 rfl rfl rfl (Ok.start w) ?_
  by_cases h1 : 0 ≤ n
  case neg => ((repeat (first | ((refine (?_ : MX _ _ _ _ _ _ _ _ _ _ _)); first | refine mx_end ?_ | (refine mx_mv _ rfl rfl (by conv => {lhs; whnf}) ?_) | (refine mx_as _ rfl rfl (by conv => {lhs; whnf}) ?_) | (refine g_bin rfl ?_; ( (refine mx_cmpl .lss rfl rfl rfl rfl rfl (by first | exact cmp_lt_t (by omega) | rfl) ?_) ) ) | (refine mx_skip rfl rfl rfl ?_) | (refine g_pick rfl ?_; refine mx_ort rfl rfl rfl rfl rfl ?_ ) ) | refine cw_seq ?_ | refine cw_line rfl ?_ | refine cw_cond_t rfl ?_ | refine cw_ret ?_ | refine pw_then ?_ | refine pw_then_r ?_ )); exact pw_rets rfl [_, _] ⟨rfl, rfl, trivial⟩ rfl fun w' hw => ⟨rfl, hw.keep.grow⟩)
  by_cases h2 : n ≤ 64
  case neg => ((repeat (first | ((refine (?_ : MX _ _ _ _ _ _ _ _ _ _ _)); first | refine mx_end ?_ | (refine mx_mv _ rfl rfl (by conv => {lhs; whnf}) ?_) | (refine mx_as _ rfl rfl (by conv => {lhs; whnf}) ?_) | (refine g_bin rfl ?_; (first | (refine mx_cmpl .lss rfl rfl rfl rfl rfl (by exact cmp_lt_f (by omega) ) ?_) | (refine mx_cmpl .gtr rfl rfl rfl rfl rfl (by exact cmp_gt_t (by omega) ) ?_) ) ) | (refine mx_skip rfl rfl rfl ?_) | (refine g_pick rfl ?_; first | refine mx_ort rfl rfl rfl rfl rfl ?_ | refine mx_or rfl rfl rfl rfl rfl rfl ?_ ) ) | refine cw_seq ?_ | refine cw_line rfl ?_ | refine cw_cond_t rfl ?_ | refine cw_ret ?_ | refine pw_then ?_ | refine pw_then_r ?_ )); exact pw_rets rfl [_, _] ⟨rfl, rfl, trivial⟩ rfl fun w' hw => ⟨rfl, hw.keep.grow⟩)
  have hon : onB off n = false := by simpa [h1, h2] using hok
  (repeat (first | ((refine (?_ : MX _ _ _ _ _ _ _ _ _ _ _)); first | refine mx_end ?_ | (refine mx_mv _ rfl rfl (by conv => {lhs; whnf}) ?_) | (refine mx_as _ rfl rfl (by conv => {lhs; whnf}) ?_) | (refine g_bin rfl ?_; (first | (refine mx_cmpl .lss rfl rfl rfl rfl rfl (by exact cmp_lt_f (by omega) ) ?_) | (refine mx_cmpl .gtr rfl rfl rfl rfl rfl (by exact cmp_gt_f (by omega) ) ?_) ) ) | (refine mx_not rfl rfl rfl ?_) | (refine g_pick rfl ?_; refine mx_or rfl rfl rfl rfl rfl rfl ?_ ) | (refine g_call rfl ?_; (refine g_cf 64 rfl ?_; refine mx_call rfl rfl rfl Try.func64 rfl rfl rfl _ (fun w => on64v _ _ _ (by assumption) w) rfl ?_) )) | refine cw_seq ?_ | refine cw_line rfl ?_ | refine cw_cond_t rfl ?_ | refine cw_ret ?_ | refine pw_then ?_ | refine pw_then_r ?_ ))
  exact pw_rets rfl [_, _] ⟨rfl, rfl, trivial⟩ rfl fun w' hw => ⟨rfl, hw.keep.grow⟩
theorem bytes36s (b : Nat) (f : Fr) (hf : FrOk f) (off n : Int) (hok : byOk off n = true) (cs : List Int) (hg : gat f (off + 512).toNat n.toNat = some cs) (w : World) (h : (row b 31 (cF f)).holds w) :
    Calls Try.prog 36 #[.pointer (some ⟨b, 0, none⟩), .int .i64 off, .int .i64 n] w fun e w' => ∃ a : Option Addr × Nat, e = .returned (.tuple #[.slice a.1 n.toNat a.2, .int .i64 0]) ∧ Grow w w' ∧ (ownd a.1 a.2 5 1 n.toNat (cs.flatMap cU)).holds w' ∧ ∀ b, (ownd a.1 a.2 5 1 n.toNat (cs.flatMap cU)).dom b → b < w'.heap.size ∧ ¬ b < w.heap.size := by
  obtain ⟨p, m, hp, hm, hpm, hm8, hon, e1, e2⟩ := byOk_spec hok
  rw [e1, e2] at hg
  rw [e2]
  subst hm
  refine enter3 (S := fun _ => False) 32 Try.func36 rfl rfl rfl (Ok.start w) ?_
  have hS0 : ¬ (fun _ : Nat => False) b := id
  (repeat (first | ((refine (?_ : MX _ _ _ _ _ _ _ _ _ _ _)); first | refine mx_end ?_ | (refine mx_mv _ rfl rfl (by conv => {lhs; whnf}) ?_) | (refine mx_as _ rfl rfl (by conv => {lhs; whnf}) ?_) | (refine g_bin rfl ?_; (first | (refine mx_cmpl .lss rfl rfl rfl rfl rfl (by first | exact cmp_lt_f (by omega) | rfl) ?_) | (refine mx_cmpl .gtr rfl rfl rfl rfl rfl (by exact cmp_gt_f (by omega) ) ?_) ) ) | (refine mx_not rfl rfl rfl ?_) | (refine g_pick rfl ?_; refine mx_or rfl rfl rfl rfl rfl rfl ?_ ) | (refine g_call rfl ?_; (refine g_cf 70 rfl ?_; refine mx_call rfl rfl rfl Try.func70 rfl rfl rfl _ (fun w => part70v _ _ _ (by assumption) w) rfl ?_) )) | refine cw_seq ?_ | refine cw_line rfl ?_ | refine cw_cond_f rfl ?_ | refine cw_skip ?_ | refine pw_then ?_ ))
  refine g_cf 71 rfl ?_
  refine a_calln rfl rfl rfl rfl Try.func71 rfl rfl rfl (fun a : Option Addr × Nat => .tuple #[.slice a.1 m a.2, .bool true]) (fun a => ownd a.1 a.2 5 1 m (cs.flatMap cU)) (fun w' hw => gath71s b f hf off p m hp hpm cs hg w' (hw.orow h hS0)) rfl (fun a => ?_)
  obtain ⟨a1, c1⟩ := a
  (repeat (first | ((refine (?_ : MX _ _ _ _ _ _ _ _ _ _ _)); first | refine mx_end ?_ | (refine mx_mv _ rfl rfl (by conv => {lhs; whnf}) ?_) | (refine mx_as _ rfl rfl (by conv => {lhs; whnf}) ?_) | (refine mx_not rfl rfl rfl ?_) | (refine mx_ex _ rfl rfl rfl (by conv => {lhs; whnf}) ?_) ) | refine cw_seq ?_ | refine cw_line rfl ?_ | refine cw_cond_f rfl ?_ | refine cw_skip ?_ | refine cw_ret ?_ | refine pw_then ?_ ))
  exact pw_rets rfl [_, _] ⟨rfl, rfl, trivial⟩ rfl fun w' hw => ⟨(a1, c1), rfl, hw.keep.grow, hw.holds 0 _ rfl, fun b hb => hw.fresh 0 rfl b hb⟩
theorem bytes36n (b : Nat) (f : Fr) (hf : FrOk f) (off n : Int) (hok : byOk off n = true) (hg : gat f (off + 512).toNat n.toNat = none) (w : World) (h : (row b 31 (cF f)).holds w) :
    Calls Try.prog 36 #[.pointer (some ⟨b, 0, none⟩), .int .i64 off, .int .i64 n] w fun e w' => e = .returned (.tuple #[.slice none 0 0, .int .i64 26]) ∧ Grow w w' := by
  obtain ⟨p, m, hp, hm, hpm, hm8, hon, e1, e2⟩ := byOk_spec hok
  rw [e1, e2] at hg
  subst hm
  refine enter3 (S := fun _ => False) 32 Try.func36 rfl rfl rfl (Ok.start w) ?_
  have hS0 : ¬ (fun _ : Nat => False) b := id
  (repeat (first | ((refine (?_ : MX _ _ _ _ _ _ _ _ _ _ _)); first | refine mx_end ?_ | (refine mx_mv _ rfl rfl (by conv => {lhs; whnf}) ?_) | (refine mx_as _ rfl rfl (by conv => {lhs; whnf}) ?_) | (refine g_bin rfl ?_; (first | (refine mx_cmpl .lss rfl rfl rfl rfl rfl (by first | exact cmp_lt_f (by omega) | rfl) ?_) | (refine mx_cmpl .gtr rfl rfl rfl rfl rfl (by exact cmp_gt_f (by omega) ) ?_) ) ) | (refine mx_not rfl rfl rfl ?_) | (refine g_pick rfl ?_; refine mx_or rfl rfl rfl rfl rfl rfl ?_ ) | (refine g_call rfl ?_; (refine g_cf 70 rfl ?_; refine mx_call rfl rfl rfl Try.func70 rfl rfl rfl _ (fun w => part70v _ _ _ (by assumption) w) rfl ?_) )) | refine cw_seq ?_ | refine cw_line rfl ?_ | refine cw_cond_f rfl ?_ | refine cw_skip ?_ | refine pw_then ?_ ))
  refine g_cf 71 rfl ?_
  refine a_callv rfl rfl rfl rfl Try.func71 rfl rfl rfl _ (fun w' hw => gath71n b f hf off p m hp hpm hg w' (hw.orow h hS0)) rfl ?_
  (repeat (first | ((refine (?_ : MX _ _ _ _ _ _ _ _ _ _ _)); first | refine mx_end ?_ | (refine mx_mv _ rfl rfl (by conv => {lhs; whnf}) ?_) | (refine mx_as _ rfl rfl (by conv => {lhs; whnf}) ?_) | (refine mx_not rfl rfl rfl ?_) | (refine mx_ex _ rfl rfl rfl (by conv => {lhs; whnf}) ?_) ) | refine cw_seq ?_ | refine cw_line rfl ?_ | refine cw_cond_t rfl ?_ | refine cw_ret ?_ | refine pw_then ?_ | refine pw_then_r ?_ ))
  exact pw_rets rfl [_, _] ⟨rfl, rfl, trivial⟩ rfl fun w' hw => ⟨rfl, hw.keep.grow⟩
theorem bytes36b (b : Nat) (off n : Int) (hok : byOk off n = false) (w : World) :
    Calls Try.prog 36 #[.pointer (some ⟨b, 0, none⟩), .int .i64 off, .int .i64 n] w fun e w' => e = .returned (.tuple #[.slice none 0 0, .int .i64 22]) ∧ Grow w w' := by
  unfold byOk at hok
  refine enter3 (S := fun _ => False) 32 Try.func36 rfl rfl rfl (Ok.start w) ?_
  by_cases h1 : 0 ≤ n
  case neg => ((repeat (first | ((refine (?_ : MX _ _ _ _ _ _ _ _ _ _ _)); first | refine mx_end ?_ | (refine mx_mv _ rfl rfl (by conv => {lhs; whnf}) ?_) | (refine mx_as _ rfl rfl (by conv => {lhs; whnf}) ?_) | (refine g_bin rfl ?_; ( (refine mx_cmpl .lss rfl rfl rfl rfl rfl (by first | exact cmp_lt_t (by omega) | rfl) ?_) ) ) | (refine mx_skip rfl rfl rfl ?_) | (refine g_pick rfl ?_; refine mx_ort rfl rfl rfl rfl rfl ?_ ) ) | refine cw_seq ?_ | refine cw_line rfl ?_ | refine cw_cond_t rfl ?_ | refine cw_ret ?_ | refine pw_then ?_ | refine pw_then_r ?_ )); exact pw_rets rfl [_, _] ⟨rfl, rfl, trivial⟩ rfl fun w' hw => ⟨rfl, hw.keep.grow⟩)
  by_cases h2 : n ≤ 64
  case neg => ((repeat (first | ((refine (?_ : MX _ _ _ _ _ _ _ _ _ _ _)); first | refine mx_end ?_ | (refine mx_mv _ rfl rfl (by conv => {lhs; whnf}) ?_) | (refine mx_as _ rfl rfl (by conv => {lhs; whnf}) ?_) | (refine g_bin rfl ?_; (first | (refine mx_cmpl .lss rfl rfl rfl rfl rfl (by exact cmp_lt_f (by omega) ) ?_) | (refine mx_cmpl .gtr rfl rfl rfl rfl rfl (by exact cmp_gt_t (by omega) ) ?_) ) ) | (refine mx_skip rfl rfl rfl ?_) | (refine g_pick rfl ?_; first | refine mx_ort rfl rfl rfl rfl rfl ?_ | refine mx_or rfl rfl rfl rfl rfl rfl ?_ ) ) | refine cw_seq ?_ | refine cw_line rfl ?_ | refine cw_cond_t rfl ?_ | refine cw_ret ?_ | refine pw_then ?_ | refine pw_then_r ?_ )); exact pw_rets rfl [_, _] ⟨rfl, rfl, trivial⟩ rfl fun w' hw => ⟨rfl, hw.keep.grow⟩)
  have hon : onB off n = false := by simpa [h1, h2] using hok
  (repeat (first | ((refine (?_ : MX _ _ _ _ _ _ _ _ _ _ _)); first | refine mx_end ?_ | (refine mx_mv _ rfl rfl (by conv => {lhs; whnf}) ?_) | (refine mx_as _ rfl rfl (by conv => {lhs; whnf}) ?_) | (refine g_bin rfl ?_; (first | (refine mx_cmpl .lss rfl rfl rfl rfl rfl (by exact cmp_lt_f (by omega) ) ?_) | (refine mx_cmpl .gtr rfl rfl rfl rfl rfl (by exact cmp_gt_f (by omega) ) ?_) ) ) | (refine mx_not rfl rfl rfl ?_) | (refine g_pick rfl ?_; refine mx_or rfl rfl rfl rfl rfl rfl ?_ ) | (refine g_call rfl ?_; (refine g_cf 70 rfl ?_; refine mx_call rfl rfl rfl Try.func70 rfl rfl rfl _ (fun w => part70v _ _ _ (by assumption) w) rfl ?_) )) | refine cw_seq ?_ | refine cw_line rfl ?_ | refine cw_cond_t rfl ?_ | refine cw_ret ?_ | refine pw_then ?_ | refine pw_then_r ?_ ))
  exact pw_rets rfl [_, _] ⟨rfl, rfl, trivial⟩ rfl fun w' hw => ⟨rfl, hw.keep.grow⟩
def fiR (f : Fr) (off : Int) (cs : List Int) : Int × Fr := if byOk off cs.length = true then (0, layN f (off + 512).toNat cs) else (22, f)
theorem fill40 (b : Nat) (f : Fr) (off : Int) (ad : Option Addr) (m cap : Nat) (cs : List Int) (hm : cs.length = m) (hs : m ≤ 1000000) (w : World) (h : (row b 31 (cF f)).holds w) (hl : InL w ad 1 cU cs) (hne : cs ≠ [] → ∀ b' off, ad = some ⟨b', off, none⟩ → b' ≠ b) :
    Calls Try.prog 40 #[.pointer (some ⟨b, 0, none⟩), .int .i64 off, .slice ad m cap] w fun e w' => e = .returned (.int .i64 (fiR f off cs).1) ∧ Chg (row b 31 (cF f)).dom w w' ∧ (row b 31 (cF (fiR f off cs).2)).holds w' := by
  refine enter3 21 Try.func40 rfl rfl rfl (Ok.one h (row_lt h)) ?_
  unfold fiR
  cases hok : byOk off cs.length with
  | false =>
    rw [if_neg (by simp)]
    by_cases h2 : m ≤ 64
    case neg => ((repeat (first | ((refine (?_ : MX _ _ _ _ _ _ _ _ _ _ _)); first | refine mx_end ?_ | (refine mx_mv _ rfl rfl (by conv => {lhs; whnf}) ?_) | (refine mx_as _ rfl rfl (by conv => {lhs; whnf}) ?_) | (refine g_bin rfl ?_; ( (refine mx_cmpl .gtr rfl rfl rfl rfl rfl (by exact cmp_gt_t (by omega) ) ?_) ) ) | (refine g_bi .len rfl ?_; refine mx_len E rfl rfl rfl rfl ?_) | (refine mx_skip rfl rfl rfl ?_) | (refine g_pick rfl ?_; refine mx_ort rfl rfl rfl rfl rfl ?_ ) ) | refine cw_seq ?_ | refine cw_line rfl ?_ | refine cw_cond_t rfl ?_ | refine cw_ret ?_ | refine pw_then ?_ | refine pw_then_r ?_ )); exact pw_ret rfl rfl rfl rfl fun w' hw => ⟨rfl, hw.keep, hw.holds 0 _ rfl⟩)
    have hon : onB off (m : Int) = false := by unfold byOk at hok; rw [hm] at hok; simpa [h2, (show (m : Int) ≤ 64 by omega)] using hok
    (repeat (first | ((refine (?_ : MX _ _ _ _ _ _ _ _ _ _ _)); first | refine mx_end ?_ | (refine mx_mv _ rfl rfl (by conv => {lhs; whnf}) ?_) | (refine mx_as _ rfl rfl (by conv => {lhs; whnf}) ?_) | (refine g_bin rfl ?_; ( (refine mx_cmpl .gtr rfl rfl rfl rfl rfl (by exact cmp_gt_f (by omega) ) ?_) ) ) | (refine g_bi .len rfl ?_; refine mx_len E rfl rfl rfl rfl ?_) | (refine mx_not rfl rfl rfl ?_) | (refine g_pick rfl ?_; refine mx_or rfl rfl rfl rfl rfl rfl ?_ ) | (refine g_call rfl ?_; (refine g_cf 64 rfl ?_; refine mx_call rfl rfl rfl Try.func64 rfl rfl rfl _ (fun w => on64v _ _ _ (by assumption) w) rfl ?_) )) | refine cw_seq ?_ | refine cw_line rfl ?_ | refine cw_cond_t rfl ?_ | refine cw_ret ?_ | refine pw_then ?_ | refine pw_then_r ?_ ))
    exact pw_ret rfl rfl rfl rfl fun w' hw => ⟨rfl, hw.keep, hw.holds 0 _ rfl⟩
  | true =>
    rw [if_pos rfl]
    obtain ⟨p, m', hp, hm', hpm, hm8, hon, e1, e2⟩ := byOk_spec hok
    rw [e1]
    rw [hm] at hon
    (repeat (first | ((refine (?_ : MX _ _ _ _ _ _ _ _ _ _ _)); first | refine mx_end ?_ | (refine mx_mv _ rfl rfl (by conv => {lhs; whnf}) ?_) | (refine mx_as _ rfl rfl (by conv => {lhs; whnf}) ?_) | (refine g_bin rfl ?_; ( (refine mx_cmpl .gtr rfl rfl rfl rfl rfl (by exact cmp_gt_f (by omega) ) ?_) ) ) | (refine g_bi .len rfl ?_; refine mx_len E rfl rfl rfl rfl ?_) | (refine mx_not rfl rfl rfl ?_) | (refine g_pick rfl ?_; refine mx_or rfl rfl rfl rfl rfl rfl ?_ ) | (refine g_call rfl ?_; (refine g_cf 64 rfl ?_; refine mx_call rfl rfl rfl Try.func64 rfl rfl rfl _ (fun w => on64v _ _ _ (by assumption) w) rfl ?_) )) | refine cw_seq ?_ | refine cw_line rfl ?_ | refine cw_cond_f rfl ?_ | refine cw_skip ?_ | refine pw_then ?_ ))
    refine g_cf 65 rfl ?_
    refine a_callr rfl rfl rfl rfl Try.func65 rfl rfl rfl b (cF (layN f p cs)) (.tuple #[]) (fun w' hw h' => lay65 b f off p hp ad m cap cs hm (by omega) w' h' (by
      by_cases hc : cs = []
      · subst hc; exact fun h => absurd rfl h
      · exact hl.keep hw (fun b' o' e e' => hne hc b' o' e e')) hne) rfl ?_
    (repeat (first | ((refine (?_ : MX _ _ _ _ _ _ _ _ _ _ _)); first | refine mx_end ?_ | (refine mx_as _ rfl rfl (by conv => {lhs; whnf}) ?_) ) | refine cw_seq ?_ | refine cw_line rfl ?_ | refine cw_ret ?_ | refine pw_then ?_ ))
    exact pw_ret rfl rfl rfl rfl fun w hw => ⟨rfl, hw.keep, hw.holds 0 _ rfl⟩
theorem fill41 (b : Nat) (f : Fr) (off : Int) (ad : Option Addr) (m cap : Nat) (cs : List Int) (hm : cs.length = m) (hs : m ≤ 1000000) (w : World) (h : (row b 31 (cF f)).holds w) (hl : InL w ad 1 cU cs) (hne : cs ≠ [] → ∀ b' off, ad = some ⟨b', off, none⟩ → b' ≠ b) :
    Calls Try.prog 41 #[.pointer (some ⟨b, 0, none⟩), .int .i64 off, .slice ad m cap] w fun e w' => e = .returned (.int .i64 (fiR f off cs).1) ∧ Chg (row b 31 (cF f)).dom w w' ∧ (row b 31 (cF (fiR f off cs).2)).holds w' := by
  refine enter3 33 Try.func41 rfl rfl rfl (Ok.one h (row_lt h)) ?_
  unfold fiR
  cases hok : byOk off cs.length with
  | false =>
    rw [if_neg (by simp)]
    by_cases h2 : m ≤ 64
    case neg => ((repeat (first | ((refine (?_ : MX _ _ _ _ _ _ _ _ _ _ _)); first | refine mx_end ?_ | (refine mx_mv _ rfl rfl (by conv => {lhs; whnf}) ?_) | (refine mx_as _ rfl rfl (by conv => {lhs; whnf}) ?_) | (refine g_bin rfl ?_; ( (refine mx_cmpl .gtr rfl rfl rfl rfl rfl (by exact cmp_gt_t (by omega) ) ?_) ) ) | (refine g_bi .len rfl ?_; refine mx_len E rfl rfl rfl rfl ?_) | (refine mx_skip rfl rfl rfl ?_) | (refine g_pick rfl ?_; refine mx_ort rfl rfl rfl rfl rfl ?_ ) ) | refine cw_seq ?_ | refine cw_line rfl ?_ | refine cw_cond_t rfl ?_ | refine cw_ret ?_ | refine pw_then ?_ | refine pw_then_r ?_ )); exact pw_ret rfl rfl rfl rfl fun w' hw => ⟨rfl, hw.keep, hw.holds 0 _ rfl⟩)
    have hon : onB off (m : Int) = false := by unfold byOk at hok; rw [hm] at hok; simpa [h2, (show (m : Int) ≤ 64 by omega)] using hok
    (repeat (first | ((refine (?_ : MX _ _ _ _ _ _ _ _ _ _ _)); first | refine mx_end ?_ | (refine mx_mv _ rfl rfl (by conv => {lhs; whnf}) ?_) | (refine mx_as _ rfl rfl (by conv => {lhs; whnf}) ?_) | (refine g_bin rfl ?_; ( (refine mx_cmpl .gtr rfl rfl rfl rfl rfl (by exact cmp_gt_f (by omega) ) ?_) ) ) | (refine g_bi .len rfl ?_; refine mx_len E rfl rfl rfl rfl ?_) | (refine mx_not rfl rfl rfl ?_) | (refine g_pick rfl ?_; refine mx_or rfl rfl rfl rfl rfl rfl ?_ ) | (refine g_call rfl ?_; (refine g_cf 70 rfl ?_; refine mx_call rfl rfl rfl Try.func70 rfl rfl rfl _ (fun w => part70v _ _ _ (by assumption) w) rfl ?_) )) | refine cw_seq ?_ | refine cw_line rfl ?_ | refine cw_cond_t rfl ?_ | refine cw_ret ?_ | refine pw_then ?_ | refine pw_then_r ?_ ))
    exact pw_ret rfl rfl rfl rfl fun w' hw => ⟨rfl, hw.keep, hw.holds 0 _ rfl⟩
  | true =>
    rw [if_pos rfl]
    obtain ⟨p, m', hp, hm', hpm, hm8, hon, e1, e2⟩ := byOk_spec hok
    rw [e1]
    rw [hm] at hon
    (repeat (first | ((refine (?_ : MX _ _ _ _ _ _ _ _ _ _ _)); first | refine mx_end ?_ | (refine mx_mv _ rfl rfl (by conv => {lhs; whnf}) ?_) | (refine mx_as _ rfl rfl (by conv => {lhs; whnf}) ?_) | (refine g_bin rfl ?_; ( (refine mx_cmpl .gtr rfl rfl rfl rfl rfl (by exact cmp_gt_f (by omega) ) ?_) ) ) | (refine g_bi .len rfl ?_; refine mx_len E rfl rfl rfl rfl ?_) | (refine mx_not rfl rfl rfl ?_) | (refine g_pick rfl ?_; refine mx_or rfl rfl rfl rfl rfl rfl ?_ ) | (refine g_call rfl ?_; (refine g_cf 70 rfl ?_; refine mx_call rfl rfl rfl Try.func70 rfl rfl rfl _ (fun w => part70v _ _ _ (by assumption) w) rfl ?_) )) | refine cw_seq ?_ | refine cw_line rfl ?_ | refine cw_block ?_ | refine cw_cond_f rfl ?_ | refine cw_skip ?_ | refine pw_then ?_ ))
    refine cw_loop (fun i : Nat => [(7, .int .i64 i), (0, .pointer (some ⟨b, 0, none⟩)), (1, .int .i64 off), (2, .slice ad m cap)]) (fun i => [row b 31 (cF (layN f p (cs.take i)))]) (fun i => i ≤ m) (fun i => m - i) 0 (by omega) ⟨rfl, rfl, rfl, rfl, trivial⟩ (fun w h => h) ?_
    intro i jk hi
    by_cases h0 : (i : Int) < m
    case pos =>
      obtain ⟨x, hx⟩ := getElem_some (xs := cs) (i := i) (by omega)
      obtain ⟨b4, o4, e, hcc⟩ := inl_at hl hx
      subst e
      have hS : ¬ (row b 31 (cF f)).dom b4 := fun e => hne (by intro e; subst e; simp at hx) b4 o4 rfl e
      have hc0 : w.cell? ⟨b4, o4 + i * 1, none⟩ = some (.int .u8 x) := hcc 0 _ rfl
      have hst := layN_step f p cs hx
      (repeat (first | ((refine (?_ : MX _ _ _ _ _ _ _ _ _ _ _)); first | refine mx_end ?_ | (refine mx_mv _ rfl rfl (by conv => {lhs; whnf}) ?_) | (refine g_load rfl ?_; refine mx_old1 E rfl rfl rfl rfl rfl (by assumption) (by assumption) rfl ?_ ) | (refine g_bin rfl ?_; first | ( (refine mx_cmpl .lss rfl rfl rfl rfl rfl (by exact cmp_lt_t (by omega) ) ?_) ) | (refine mx_ar rfl rfl rfl rfl rfl rfl (IntWalk.i64_in _ (by omega)) rfl ?_ ) ) | (refine g_ix rfl ?_; refine mx_ixsn E rfl rfl rfl rfl rfl rfl (by omega) rfl ?_ ) | (refine g_bi .len rfl ?_; refine mx_len E rfl rfl rfl rfl ?_) ) | refine cw_seq ?_ | refine cw_line rfl ?_ | refine cw_block ?_ | refine cw_cond_t rfl ?_ | refine cw_skip ?_ | refine pw_then ?_ ))
      refine g_cf 73 rfl ?_
      refine a_callr rfl rfl rfl rfl Try.func73 rfl rfl rfl b (cF (layN f p (cs.take (i + 1)))) (.tuple #[]) (fun w' hw h => hst ▸ lay73 b (layN f p (cs.take i)) (off + (i : Int)) (p + i) (by omega) (by omega) x w' h) rfl ?_
      (repeat (first | ((refine (?_ : MX _ _ _ _ _ _ _ _ _ _ _)); first | refine mx_end ?_ | (refine mx_mv _ rfl rfl (by conv => {lhs; whnf}) ?_) | (refine mx_as _ rfl rfl (by conv => {lhs; whnf}) ?_) | (refine g_bin rfl ?_; (refine mx_ar rfl rfl rfl rfl rfl rfl (IntWalk.i64_in _ (by omega)) rfl ?_ ) ) ) | refine cw_line rfl ?_ | refine pw_then ?_ | refine pw_block ?_ ))
      refine pw_round (i + 1) (by omega) (by omega) ⟨rfl, rfl, rfl, rfl, trivial⟩ (fun w h => h)
    case neg =>
      obtain rfl : i = m := by omega
      rw [List.take_of_length_le (by omega)]
      (repeat (first | ((refine (?_ : MX _ _ _ _ _ _ _ _ _ _ _)); first | refine mx_end ?_ | (refine mx_mv _ rfl rfl (by conv => {lhs; whnf}) ?_) | (refine mx_as _ rfl rfl (by conv => {lhs; whnf}) ?_) | (refine g_bin rfl ?_; ( (refine mx_cmpl .lss rfl rfl rfl rfl rfl (by exact cmp_lt_f (by omega) ) ?_) ) ) | (refine g_bi .len rfl ?_; refine mx_len E rfl rfl rfl rfl ?_) ) | refine cw_seq ?_ | refine cw_line rfl ?_ | refine cw_cond_f rfl ?_ | refine cw_exit ?_ | refine cw_ret ?_ | refine pw_then ?_ | refine pw_then_x ?_ | refine pw_block_e ?_ ))
      exact pw_ret rfl rfl rfl rfl fun w hw => ⟨rfl, hw.keep, hw.holds 0 _ rfl⟩
end Go.Proofs.Ytdimcafdmaidpaa
