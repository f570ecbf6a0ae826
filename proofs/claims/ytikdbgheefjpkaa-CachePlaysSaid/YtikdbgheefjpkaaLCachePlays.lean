/- Whatever is done, calls and forms are what they must be: the walk of the law CachePlays. -/
import Derived.Test.YtikdbgheefjpkaaQt
set_option maxRecDepth 100000
set_option maxHeartbeats 8000000
set_option linter.unusedSimpArgs false
set_option linter.unusedVariables false
namespace Go.Proofs.Ytikdbgheefjpkaa
open Go Go.Sx Go.RowKit
theorem oldGr2 {w0 w1 w' : World} {L : List Res} (hw : Ok (fun _ => False) w0 L w1) (hc : Chg (domL L) w1 w') : Grow w0 w' :=
  (⟨hc.os.trans hw.keep.os, hc.tape.trans hw.keep.tape, hc.output.trans hw.keep.output, Nat.le_trans hw.keep.size hc.size, fun k hk _ => (hc.old k (Nat.lt_of_lt_of_le hk hw.keep.size) (fun ⟨j, r, hj, hr⟩ => (hw.own j r hj k hr).2 hk)).trans (hw.keep.old k hk id)⟩ : Chg (fun _ => False) w0 w').grow
theorem lawCachePlays (m0 : Int) (ad : Option Addr) (cap : Nat) (as' : List AC) (w : World) (hl : InL w ad 6 cAC as') (hp : ∀ a ∈ as', RdD w a.code ∧ wfI a.code.prog) :
    Calls Try.prog 9 #[.int .i64 m0, .slice ad as'.length cap] w fun e w' => e = .returned (.bool true) ∧ Grow w w' := by
  refine enter2 (S := fun _ => False) 89 Try.func9 rfl rfl rfl (Ok.start w) ?_
  obtain ⟨M, hM⟩ : ∃ M, max 0 m0 = M := ⟨_, rfl⟩
  have hM0 : 0 ≤ M := by omega
  (repeat (first | ((refine (?_ : MX _ _ _ _ _ _ _ _ _ _ _)); first | refine mx_end ?_ | (refine mx_mv _ rfl rfl (by conv => {lhs; whnf}) ?_) | (refine mx_as _ rfl rfl (by conv => {lhs; whnf}) ?_) ) | refine cw_seq ?_ | refine cw_line rfl ?_ | refine pw_then ?_ ))
  refine g_cf 32 rfl ?_
  refine a_callL rfl rfl rfl rfl Try.func32 rfl rfl rfl [] _ rfl (fun a : Nat × Nat × Nat => .pointer (some ⟨a.1, 0, none⟩)) (fun a => OCc a.1 a.2.1 a.2.2 M [] []) (fun w' hw _ => new32 m0 M hM w') (fun _ => rfl) (fun _ _ _ => trivial) (fun qn => ?_)
  obtain ⟨bx, fm, rm⟩ := qn
  refine mx_weak (H' := [star (OCc bx fm rm M [] [])]) (fun w h => Ok.star (H := []) h) (fun _ _ => trivial) ?_
  (repeat (first | ((refine (?_ : MX _ _ _ _ _ _ _ _ _ _ _)); first | refine mx_end ?_ | (refine mx_mv _ rfl rfl (by conv => {lhs; whnf}) ?_) | (refine mx_as _ rfl rfl (by conv => {lhs; whnf}) ?_) ) | refine cw_seq ?_ | refine cw_line rfl ?_ | refine pw_then ?_ ))
  refine g_cf 39 rfl ?_
  refine a_callL rfl rfl rfl rfl Try.func39 rfl rfl rfl [] _ rfl (fun a : Nat => .pointer (some ⟨a, 0, none⟩)) (fun a => RC a M none 0 [] none 0 []) (fun w' hw _ => new39 m0 M hM w') (fun _ => rfl) (fun _ _ _ => trivial) (fun rx => ?_)
  refine mx_weak (H' := [star (RC rx M none 0 [] none 0 []), star (OCc bx fm rm M [] [])]) (fun w h => Ok.star (H := [star (OCc bx fm rm M [] [])]) h) (fun _ _ => trivial) ?_
  (repeat (first | ((refine (?_ : MX _ _ _ _ _ _ _ _ _ _ _)); first | refine mx_end ?_ | (refine mx_mv _ rfl rfl (by conv => {lhs; whnf}) ?_) | (refine mx_as _ rfl rfl (by conv => {lhs; whnf}) ?_) | (refine mx_nilp rfl rfl false rfl (by kernel_rfl) rfl rfl rfl rfl ?_ ) ) | refine cw_seq ?_ | refine cw_line rfl ?_ | refine cw_block ?_ | refine cw_cond_f rfl ?_ | refine cw_skip ?_ | refine pw_then ?_ ))
  refine cw_loop (ι := Nat × CS) (fun q => [(7, .int .i64 q.1), (5, .pointer (some ⟨bx, 0, none⟩)), (6, .pointer (some ⟨rx, 0, none⟩)), (1, .slice ad as'.length cap)]) (fun q => [star (OCs bx fm rm q.2), star (RCs rx q.2)]) (fun q => q.1 ≤ as'.length ∧ q.1 ≤ 100 ∧ OkS q.2 q.1) (fun q => as'.length - q.1) (0, ⟨M, [], [], none, 0, [], none, 0, []⟩) ⟨Nat.zero_le _, Nat.zero_le _, ⟨⟨List.Perm.refl _, by simp, fun q => rfl, by simp⟩, hM0, OkC.nil, Nat.le_refl _⟩⟩ ⟨rfl, rfl, rfl, rfl, trivial⟩ (fun w h => h.pick [1, 0] (by simp) rfl) ?_
  rintro ⟨i, s⟩ jk ⟨hi, hi2, hS⟩
  dsimp only at hi hi2 hS ⊢
  by_cases hend : (i : Int) < as'.length ∧ (i : Int) < 100
  case pos =>
    obtain ⟨a, ha⟩ := getElem_some (xs := as') (i := i) (by omega)
    obtain ⟨hrd, hwf⟩ := hp a (List.mem_of_getElem? ha)
    obtain ⟨b4, off, e, hcc⟩ := inl_at hl ha
    subst e
    have hS4 : ¬ (fun _ : Nat => False) b4 := id
    have hc0 : ∀ (k : Nat) (v : Value), (cAC a)[k]? = some v → w.cell? ⟨b4, off + i * 6 + k, none⟩ = some v := hcc
    have hc2 : ∀ (k : Nat) (v : Value), (cCD a.code)[k]? = some v → w.cell? ⟨b4, off + i * 6 + 2 + k, none⟩ = some v := fun k v hk => by
      have := hcc (k + 2) v (by simpa using hk)
      rwa [show off + i * 6 + (k + 2) = off + i * 6 + 2 + k by omega] at this
    (repeat (first | ((refine (?_ : MX _ _ _ _ _ _ _ _ _ _ _)); first | refine mx_end ?_ | (refine mx_mv _ rfl rfl (by conv => {lhs; whnf}) ?_) | ( refine mx_fa E rfl rfl rfl rfl ?_) | (refine g_load rfl ?_; refine mx_oldn E rfl rfl rfl rfl rfl (by assumption) (by assumption) (rfl) rfl ?_ ) | (refine g_bin rfl ?_; ( (refine mx_cmpl .lss rfl rfl rfl rfl rfl (by exact cmp_lt_t (by omega) ) ?_) ) ) | (refine g_ix rfl ?_; refine mx_ixsn E rfl rfl rfl rfl rfl rfl (by omega) rfl ?_ ) | (refine g_bi .len rfl ?_; refine mx_len E rfl rfl rfl rfl ?_) | (refine g_pick rfl ?_; refine mx_and rfl rfl rfl rfl rfl rfl ?_ ) ) | refine cw_seq ?_ | refine cw_line rfl ?_ | refine cw_block ?_ | refine cw_cond_t rfl ?_ | refine cw_skip ?_ | refine pw_then ?_ ))
    refine g_cf 40 rfl ?_
    refine a_callv rfl rfl rfl rfl Try.func40 rfl rfl rfl (.bool (decide (a.code.ops.length ≤ 20 ∧ a.code.at'.length ≤ 100 ∧ a.code.evs.length ≤ 20))) (fun w' hw => small40 a.code w') rfl ?_
    by_cases sa : a.code.ops.length ≤ 20 ∧ a.code.at'.length ≤ 100 ∧ a.code.evs.length ≤ 20
    case neg =>
      rw [decide_eq_false sa]
      (repeat (first | ((refine (?_ : MX _ _ _ _ _ _ _ _ _ _ _)); first | refine mx_end ?_ | (refine mx_not rfl rfl rfl ?_) ) | refine cw_seq ?_ | refine cw_line rfl ?_ | refine cw_cond_t rfl ?_ | refine pw_then ?_ ))
      refine g_cf 38 rfl ?_
      refine a_callv rfl rfl rfl rfl Try.func38 rfl rfl rfl (.bool true) (fun w' hw => known38 w') rfl ?_
      (repeat (first | ((refine (?_ : MX _ _ _ _ _ _ _ _ _ _ _)); first | refine mx_end ?_ | (refine mx_as _ rfl rfl (by conv => {lhs; whnf}) ?_) ) | refine cw_ret ?_ | refine pw_then ?_ | refine pw_then_r ?_ | refine pw_block_r ?_))
      exact pw_ret rfl rfl rfl rfl fun w hw => ⟨rfl, hw.keep.grow⟩
    rw [decide_eq_true sa]
    have oa := okF_of hrd sa
    (repeat (first | ((refine (?_ : MX _ _ _ _ _ _ _ _ _ _ _)); first | refine mx_end ?_ | (refine mx_mv _ rfl rfl (by conv => {lhs; whnf}) ?_) | (refine g_load rfl ?_; refine mx_oldn E rfl rfl rfl rfl rfl (by assumption) (by assumption) (rfl) rfl ?_ ) | (refine g_ix rfl ?_; refine mx_ixsn E rfl rfl rfl rfl rfl rfl (by omega) rfl ?_ ) | (refine mx_not rfl rfl rfl ?_) ) | refine cw_seq ?_ | refine cw_line rfl ?_ | refine cw_cond_f rfl ?_ | refine cw_skip ?_ | refine pw_then ?_ ))
    refine g_cf 41 rfl ?_
    refine a_callL rfl rfl rfl rfl Try.func41 rfl rfl rfl [star (OCs bx fm rm s), star (RCs rx s)] [] rfl (fun _ : {s' : CS // OkS s' (i + 1)} => .bool true) (fun s' => [star (OCs bx fm rm s'.1), star (RCs rx s'.1)]) (fun w' hw h => does41 bx fm rm rx s i (by omega) hS a oa hwf w' (fun w2 hc => hrd.grow (oldGr2 hw hc)) h) (fun _ => rfl) (fun _ _ _ => trivial) (fun qs => ?_)
    obtain ⟨⟨M', fs, rs, oa1, oc1, gs, la, lc, rl⟩, hS1⟩ := qs
    have hA := hS1.a
    have hK : OkC (fs.map CD.vc) (i + 1) := hS1.k
    obtain ⟨P, hP⟩ : ∃ P, gs.map CD.prog = P := ⟨_, rfl⟩
    have hP1 : progsL (fs.map CD.vc) = P := (progs_eq hA.p hA.r).trans hP
    have hPl : P.length ≤ i + 1 := by rw [← hP1, progs_len]; exact hK.len
    have hgl : gs.length ≤ i + 1 := by rw [← hP, List.length_map] at hPl; exact hPl
    refine mx_weak (H' := [star (OCc bx fm rm M' fs rs), star (RC rx M' oa1 oc1 gs la lc rl)]) (fun w h => h) (fun _ _ => trivial) ?_
    (repeat (((refine (?_ : MX _ _ _ _ _ _ _ _ _ _ _)); first | (refine mx_mv _ rfl rfl (by conv => {lhs; whnf}) ?_) | (refine mx_not rfl rfl rfl ?_) ) ))
    refine g_cf 35 rfl ?_; refine a_co1 rfl rfl rfl rfl Try.func35 rfl rfl rfl (OCc bx fm rm M' fs rs) (fun a : Option Addr × Nat => .slice a.1 (P : List Int).length a.2) (fun a => ownd a.1 a.2 3 1 (P : List Int).length ((P : List Int).flatMap cI)) (fun _ => OCc bx fm rm M' fs rs) (fun w' hw h => progs35 bx fm rm M' fs rs (hK.le (by omega)) P (hP1) w' h) (fun _ => rfl) (fun _ _ _ => trivial) (fun qp => ?_)
    obtain ⟨a1, c1⟩ := qp
    refine mx_weak (H' := [ownd a1 c1 3 1 P.length (P.flatMap cI), star (OCc bx fm rm M' fs rs), star (RC rx M' oa1 oc1 gs la lc rl)]) (fun w h => h) (fun _ _ => trivial) ?_
    (repeat (((refine (?_ : MX _ _ _ _ _ _ _ _ _ _ _)); (refine mx_mv _ rfl rfl (by conv => {lhs; whnf}) ?_) ) ))
    refine g_cf 42 rfl ?_
    refine a_co1 rfl rfl rfl rfl Try.func42 rfl rfl rfl (RC rx M' oa1 oc1 gs la lc rl) (fun q : Option Addr × Nat => .slice q.1 P.length q.2) (fun q => ownd q.1 q.2 3 1 P.length (P.flatMap cI)) (fun _ => RC rx M' oa1 oc1 gs la lc rl) (fun w' hw h => progs42o rx M' oa1 oc1 gs la lc rl (by omega) P hP w' h) (fun _ => rfl) (fun _ _ _ => trivial) (fun qs => ?_)
    obtain ⟨a2, c2⟩ := qs
    refine mx_weak (H' := [ownd a2 c2 3 1 P.length (P.flatMap cI), ownd a1 c1 3 1 P.length (P.flatMap cI), star (OCc bx fm rm M' fs rs), star (RC rx M' oa1 oc1 gs la lc rl)]) (fun w h => h) (fun _ _ => trivial) ?_
    (repeat (first | ((refine (?_ : MX _ _ _ _ _ _ _ _ _ _ _)); first | refine mx_end ?_ | (refine mx_mv _ rfl rfl (by conv => {lhs; whnf}) ?_) | (refine mx_as _ rfl rfl (by conv => {lhs; whnf}) ?_) | (first | refine mx_fa0 E rfl rfl rfl rfl ?_ | refine mx_fa E rfl rfl rfl rfl ?_) | (refine g_load rfl ?_; first | refine mx_get E rfl rfl rfl rfl rfl (by first | assumption | rfl) rfl ?_ | refine mx_getn E rfl rfl rfl rfl rfl (by first | assumption | exact Vr.all rfl | exact ⟨⟨rfl⟩, rfl⟩) rfl ?_ | refine mx_oldn E rfl rfl rfl rfl rfl (by assumption) (by assumption) (rfl) rfl ?_ | refine mx_old1 E rfl rfl rfl rfl rfl (by assumption) (by assumption) rfl ?_ | refine mx_orow E rfl rfl rfl rfl rfl (by assumption) (by assumption) (by first | assumption | rfl) rfl ?_ | refine mx_orown E rfl rfl rfl rfl rfl (by assumption) (by assumption) (by first | assumption | exact Vr.all rfl | exact ⟨⟨rfl⟩, rfl⟩) rfl ?_ | refine mx_geta E rfl rfl rfl rfl rfl rfl (by first | assumption | rfl) rfl ?_ | refine mx_getna E rfl rfl rfl rfl rfl rfl (by first | assumption | exact Vr.all rfl | exact ⟨⟨rfl⟩, rfl⟩) rfl ?_) | (refine g_bin rfl ?_; first | (first | (refine mx_cmpl .eql rfl rfl rfl rfl rfl (by first | exact cmp_eq_t (by omega) | exact cmp_eq_f (by omega) | rfl) ?_) | (refine mx_cmpl .neq rfl rfl rfl rfl rfl (by first | exact cmp_ne_t (by omega) | exact cmp_ne_f (by omega) | rfl) ?_) | (refine mx_cmpl .lss rfl rfl rfl rfl rfl (by first | exact cmp_lt_t (by omega) | exact cmp_lt_f (by omega) | rfl) ?_) | (refine mx_cmpl .leq rfl rfl rfl rfl rfl (by first | exact cmp_le_t (by omega) | exact cmp_le_f (by omega) | rfl) ?_) | (refine mx_cmpl .gtr rfl rfl rfl rfl rfl (by first | exact cmp_gt_t (by omega) | exact cmp_gt_f (by omega) | rfl) ?_) | (refine mx_cmpl .geq rfl rfl rfl rfl rfl (by first | exact cmp_ge_t (by omega) | exact cmp_ge_f (by omega) | rfl) ?_)) | (first | refine mx_ar rfl rfl rfl rfl rfl rfl ((IntWalk.i64_in _ (by omega)).trans (by with_reducible assumption)) rfl ?_ | refine mx_ar rfl rfl rfl rfl rfl rfl (IntWalk.i64_in _ (by omega)) rfl ?_ | refine mx_ar rfl rfl rfl rfl rfl rfl (by with_reducible assumption) rfl ?_) | (first | refine mx_eqs rfl rfl rfl rfl rfl rfl ?_ | refine mx_nes rfl rfl rfl rfl rfl rfl ?_ | refine mx_eq rfl rfl rfl rfl rfl rfl ?_ | refine mx_ne rfl rfl rfl rfl rfl rfl ?_) | refine mx_bsame E rfl rfl rfl rfl rfl rfl rfl ?_ | refine mx_bnsame E rfl rfl rfl rfl rfl rfl rfl ?_ | refine mx_beq E rfl rfl rfl rfl rfl rfl rfl ?_ | refine mx_bne E rfl rfl rfl rfl rfl rfl rfl ?_ | refine mx_dv rfl rfl rfl rfl rfl (by decide) (congrArg some (by assumption)) rfl rfl ?_ | refine mx_dv rfl rfl rfl rfl rfl (by decide) rfl rfl rfl ?_ | refine mx_bit rfl rfl rfl rfl rfl (congrArg some (by assumption)) rfl rfl ?_ | refine mx_bit rfl rfl rfl rfl rfl rfl rfl rfl ?_ | refine mx_sh rfl rfl rfl rfl rfl (by omega) (congrArg some (by assumption)) rfl rfl ?_ | refine mx_sh rfl rfl rfl rfl rfl (by omega) rfl rfl rfl ?_) | (refine g_ix rfl ?_; first | refine mx_ixan E rfl rfl rfl rfl rfl rfl (by omega) rfl ?_ | refine mx_ixsn E rfl rfl rfl rfl rfl rfl (by omega) rfl ?_ | refine mx_ixsi E rfl rfl rfl rfl rfl rfl (by omega) (by omega) rfl ?_ | refine mx_ixa E rfl rfl rfl rfl rfl rfl (by omega) (by omega) rfl rfl ?_) | (refine mx_nc rfl rfl rfl ?_) | (refine g_bi .len rfl ?_; refine mx_len E rfl rfl rfl rfl ?_) | (refine mx_not rfl rfl rfl ?_) | (refine mx_ex _ rfl rfl rfl (by conv => {lhs; whnf}) ?_) | (refine mx_skip rfl rfl rfl ?_) | (refine g_pick rfl ?_; first | refine mx_andf rfl rfl rfl rfl rfl ?_ | refine mx_ort rfl rfl rfl rfl rfl ?_ | refine mx_and rfl rfl rfl rfl rfl rfl ?_ | refine mx_or rfl rfl rfl rfl rfl rfl ?_ | refine mx_pickt _ rfl rfl rfl rfl (by conv => {lhs; whnf}) rfl ?_ | refine mx_pickf _ rfl rfl rfl rfl (by conv => {lhs; whnf}) rfl ?_) | (refine g_store rfl ?_; first | refine s_l E rfl rfl rfl rfl rfl rfl rfl (by first | assumption | exact Sp.all rfl | exact Sp.lit rfl rfl) rfl ?_ | refine s_1 E rfl rfl rfl rfl rfl rfl rfl rfl (by first | assumption | exact sp0 | exact spS sp0 | exact spS (spS sp0) | exact Sp.lit rfl rfl) rfl ?_) | (refine g_build rfl ?_; first | refine mx_build rfl rfl rfl rfl (b59p 0) rfl ?_ | refine mx_build rfl rfl rfl rfl (b59p _) rfl ?_ | refine mx_build rfl rfl rfl rfl (b96 _ _ _) rfl ?_) | (refine a_new rfl rfl rfl rfl rfl (fun _ => ?_)) | (refine g_box rfl ?_; first | refine a_boxl rfl rfl rfl rfl rfl rfl (fun _ => ?_) | refine a_box1 rfl rfl rfl rfl rfl rfl rfl (fun _ => ?_)) | (first | refine mx_indexn E rfl rfl rfl rfl rfl rfl rfl rfl (by omega) (by first | exact vr_RR _ (by omega)) rfl ?_ | refine mx_index E rfl rfl rfl rfl rfl rfl rfl rfl (by omega) (by omega) (by first | exact vr_RR _ (by omega)) rfl ?_) | (refine g_bs rfl ?_; first | refine a_bs0 E rfl rfl rfl rfl rfl rfl (fun _ => ?_) | refine a_bsi E rfl rfl rfl rfl rfl (by (repeat (first | exact EvI.nil | (apply EvI.cons; rfl)))) (by rfl) (by rfl) (by rfl) rfl (fun _ => ?_)) | (refine g_conv rfl ?_; first | refine mx_cv E rfl rfl rfl rfl rfl rfl (by assumption) rfl ?_ | refine mx_cv E rfl rfl rfl rfl rfl rfl (IntWalk.i64_in _ (by omega)) rfl ?_ | refine mx_cv E rfl rfl rfl rfl rfl rfl (IntWalk.u64_in _ (by omega)) rfl ?_ | refine mx_cv E rfl rfl rfl rfl rfl rfl (IntWalk.u8_in _ (by omega)) rfl ?_ | refine mx_cv E rfl rfl rfl rfl rfl rfl rfl rfl ?_) | (first | (refine g_bi .max rfl ?_; refine mx_maxi rfl rfl rfl rfl rfl rfl rfl ?_) | (refine g_bi .min rfl ?_; refine mx_mini rfl rfl rfl rfl rfl rfl rfl ?_)) | (first | refine mx_nilp rfl rfl false rfl (by kernel_rfl) rfl rfl rfl rfl ?_ | (refine g_bi .len rfl ?_; refine mx_mlen mt93 rfl rfl rfl rfl rfl ?_) | refine mx_look mt93 rfl rfl rfl rfl rfl (by with_reducible assumption) rfl ?_ | refine mx_look1 mt94 rfl rfl rfl rfl rfl (by with_reducible assumption) rfl ?_ | refine mx_fn rfl rfl rfl rfl rfl rfl ?_) | (fail)) | refine cw_seq ?_ | refine cw_line rfl ?_ | (fail) | refine cw_block ?_ | refine cw_cond_f rfl ?_ | refine cw_cond_t rfl ?_ | refine cw_skip ?_ | refine cw_exit ?_ | refine cw_ret ?_ | refine pw_then ?_ | refine pw_then_x ?_ | refine pw_then_r ?_ | refine pw_block ?_ | refine pw_block_e ?_ | refine pw_block_n rfl ?_ | refine pw_block_r ?_))
    refine g_cf 21 rfl ?_
    refine a_callv rfl rfl rfl rfl Try.func21 rfl rfl rfl (.bool true) (fun w' hw => same21 a1 a2 c1 c2 P (by omega) w' (own_in len_I (hw.holds 1 _ rfl) (Nat.le_refl _)) (own_in len_I (hw.holds 0 _ rfl) (Nat.le_refl _))) rfl ?_
    (repeat (first | ((refine (?_ : MX _ _ _ _ _ _ _ _ _ _ _)); first | refine mx_end ?_ | (refine mx_mv _ rfl rfl (by conv => {lhs; whnf}) ?_) | (refine mx_as _ rfl rfl (by conv => {lhs; whnf}) ?_) | (refine g_bin rfl ?_; ( refine mx_ar rfl rfl rfl rfl rfl rfl (IntWalk.i64_in _ (by omega)) rfl ?_ ) ) | (refine mx_not rfl rfl rfl ?_) | (refine g_pick rfl ?_; refine mx_or rfl rfl rfl rfl rfl rfl ?_ ) ) | refine cw_line rfl ?_ | refine cw_cond_f rfl ?_ | refine cw_skip ?_ | refine pw_then ?_ | refine pw_block ?_ ))
    exact pw_round (i + 1, ⟨M', fs, rs, oa1, oc1, gs, la, lc, rl⟩) ⟨by show i + 1 ≤ as'.length; omega, by show i + 1 ≤ 100; omega, hS1⟩ (by show as'.length - (i + 1) < as'.length - i; omega) ⟨rfl, rfl, rfl, rfl, trivial⟩ (fun w h => h.pick [2, 3] (by simp) rfl)
  obtain ⟨M', fs, rs, oa1, oc1, gs, la, lc, rl⟩ := s
  have hA : AlkC fs rs gs rl := hS.a
  have hK : OkC (fs.map CD.vc) i := hS.k
  obtain ⟨P, hP⟩ : ∃ P, gs.map CD.prog = P := ⟨_, rfl⟩
  have hP1 : progsL (fs.map CD.vc) = P := (progs_eq hA.p hA.r).trans hP
  have hPl : P.length ≤ i := by rw [← hP1, progs_len]; exact hK.len
  have hgl : gs.length ≤ i := by rw [← hP, List.length_map] at hPl; exact hPl
  have hokg : ∀ c ∈ gs, OkF c.vc := fun c hc => hK.ok _ (hA.p.mem_iff.2 (List.mem_map.2 ⟨c, hc, rfl⟩))
  have hE : ¬ (i : Int) < as'.length ∨ ((i : Int) < as'.length ∧ ¬ (i : Int) < 100) := by omega
  refine cw_weak (H' := [star (OCc bx fm rm M' fs rs), star (RC rx M' oa1 oc1 gs la lc rl)]) (fun w h => h) ?_
  rcases hE with h0 | ⟨h0, h1⟩
  all_goals (
    (repeat (first | ((refine (?_ : MX _ _ _ _ _ _ _ _ _ _ _)); first | refine mx_end ?_ | (refine mx_mv _ rfl rfl (by conv => {lhs; whnf}) ?_) | (refine g_bin rfl ?_; ( (refine mx_cmpl .lss rfl rfl rfl rfl rfl (by first | exact cmp_lt_t (by omega) | exact cmp_lt_f (by omega) | rfl) ?_) ) ) | (refine g_bi .len rfl ?_; refine mx_len E rfl rfl rfl rfl ?_) | (refine mx_skip rfl rfl rfl ?_) | (refine g_pick rfl ?_; first | refine mx_andf rfl rfl rfl rfl rfl ?_ | refine mx_and rfl rfl rfl rfl rfl rfl ?_ ) ) | refine cw_seq ?_ | refine cw_line rfl ?_ | refine cw_cond_f rfl ?_ | refine cw_exit ?_ | refine pw_then ?_ | refine pw_then_x ?_ | refine pw_block_e ?_ ))
    refine g_cf 42 rfl ?_
    refine a_co1 rfl rfl rfl rfl Try.func42 rfl rfl rfl (RC rx M' oa1 oc1 gs la lc rl) (fun q : Option Addr × Nat => .slice q.1 P.length q.2) (fun q => ownd q.1 q.2 3 1 P.length (P.flatMap cI)) (fun _ => RC rx M' oa1 oc1 gs la lc rl) (fun w' hw h => progs42o rx M' oa1 oc1 gs la lc rl (by omega) P hP w' h) (fun _ => rfl) (fun _ _ _ => trivial) (fun qs => ?_)
    obtain ⟨a8, c8⟩ := qs
    refine mx_weak (H' := [ownd a8 c8 3 1 P.length (P.flatMap cI), star (OCc bx fm rm M' fs rs), star (RC rx M' oa1 oc1 gs la lc rl)]) (fun w h => h) (fun _ _ => trivial) ?_
    (repeat (first | ((refine (?_ : MX _ _ _ _ _ _ _ _ _ _ _)); first | refine mx_end ?_ | (refine mx_as _ rfl rfl (by conv => {lhs; whnf}) ?_) ) | refine cw_seq ?_ | refine cw_line rfl ?_ | refine cw_block ?_ | refine pw_then ?_ ))
    refine cw_loop (ι := Nat) (fun j => [(9, .int .i64 j), (8, .slice a8 P.length c8), (5, .pointer (some ⟨bx, 0, none⟩)), (6, .pointer (some ⟨rx, 0, none⟩))]) (fun j => [ownd a8 c8 3 1 P.length (P.flatMap cI), star (OCc bx fm rm M' fs rs), star (RC rx M' oa1 oc1 gs la lc rl)]) (fun j => j ≤ P.length) (fun j => P.length - j) 0 (Nat.zero_le _) ⟨rfl, rfl, rfl, rfl, trivial⟩ (fun w h => h) ?_
    intro j jk2 hj
    by_cases h2 : (j : Int) < P.length
    case neg =>
      (repeat (first | ((refine (?_ : MX _ _ _ _ _ _ _ _ _ _ _)); first | refine mx_end ?_ | (refine mx_mv _ rfl rfl (by conv => {lhs; whnf}) ?_) | (refine g_bin rfl ?_; ( (refine mx_cmpl .lss rfl rfl rfl rfl rfl (by exact cmp_lt_f (by omega) ) ?_) ) ) | (refine g_bi .len rfl ?_; refine mx_len E rfl rfl rfl rfl ?_) ) | refine cw_seq ?_ | refine cw_line rfl ?_ | refine cw_cond_f rfl ?_ | refine cw_exit ?_ | refine pw_then ?_ | refine pw_then_x ?_ | refine pw_block_e ?_ ))
      refine g_cf 38 rfl ?_
      refine a_callv rfl rfl rfl rfl Try.func38 rfl rfl rfl (.bool true) (fun w' hw => known38 w') rfl ?_
      (repeat (first | ((refine (?_ : MX _ _ _ _ _ _ _ _ _ _ _)); first | refine mx_end ?_ | (refine mx_as _ rfl rfl (by conv => {lhs; whnf}) ?_) ) | refine cw_ret ?_ | refine pw_then ?_ ))
      exact pw_ret rfl rfl rfl rfl fun w hw => ⟨rfl, hw.keep.grow⟩
    refine cw_know (p := ∃ b, a8 = some ⟨b, 0, none⟩) (fun w hw => by obtain ⟨b, e, _⟩ := (own_at (hw.holds 0 _ rfl)).2.1 (by omega); exact ⟨b, e⟩) (fun hb => ?_)
    obtain ⟨b, rfl⟩ := hb
    refine cw_ex (fun rest => [row b 3 (P.flatMap cI ++ rest), star (OCc bx fm rm M' fs rs), star (RC rx M' oa1 oc1 gs la lc rl)]) _ (fun w hw => (ok_open 0 rfl hw).imp fun rest h => ⟨h.1, h.2⟩) (fun rest he => ?_)
    obtain ⟨p, hpj⟩ := getElem_some (xs := P) (i := j) (by omega)
    have hrk : (P.flatMap cI ++ rest)[0 + j * 1]? = some (.int .i64 p) := rd_at len_I hpj (o := 0) (show 0 < 1 by omega) rfl rest (by omega)
    obtain ⟨gv, hgv⟩ : ∃ gv, getV p (fs.map CD.vc) = gv := ⟨_, rfl⟩
    have hgv2 := getV_eq hA.p hA.r p
    have hpm : p ∈ gs.map CD.prog := by rw [hP]; exact List.mem_of_getElem? hpj
    have hb2 : hasV p (gs.map CD.vc) = true := hasV_iff.2 (by rw [vp]; exact hpm)
    have hb1 : hasV p (fs.map CD.vc) = true := hgv2.2.trans hb2
    have ogv : OkF gv := by
      rw [← hgv, hgv2.1]
      obtain ⟨c, hc, hcp⟩ := List.mem_map.1 hpm
      rw [find_of (rise_nd hA.r) hc hcp]
      exact hokg c hc
    (repeat (first | ((refine (?_ : MX _ _ _ _ _ _ _ _ _ _ _)); first | refine mx_end ?_ | (refine mx_mv _ rfl rfl (by conv => {lhs; whnf}) ?_) | (refine g_load rfl ?_; refine mx_get E rfl rfl rfl rfl rfl (by assumption ) rfl ?_ ) | (refine g_bin rfl ?_; ( (refine mx_cmpl .lss rfl rfl rfl rfl rfl (by exact cmp_lt_t (by omega) ) ?_) ) ) | (refine g_ix rfl ?_; refine mx_ixsn E rfl rfl rfl rfl rfl rfl (by omega) rfl ?_ ) | (refine g_bi .len rfl ?_; refine mx_len E rfl rfl rfl rfl ?_) ) | refine cw_seq ?_ | refine cw_line rfl ?_ | refine cw_block ?_ | refine cw_cond_t rfl ?_ | refine cw_skip ?_ | refine pw_then ?_ ))
    refine g_cf 43 rfl ?_
    refine a_callo rfl rfl rfl rfl Try.func43 rfl rfl rfl 1 rfl (fun gg : {gg : CD // gg.vc = gv} => .tuple #[.agg (cCD gg.1).toArray, .bool true]) (fun gg => OCd gg.1) (fun _ => OCc bx fm rm M' fs rs) (fun w' hw h => get43v bx fm rm M' fs rs (hK.le (by omega)) p gv true ⟨hgv, hb1⟩ w' h) (fun _ => rfl) (fun _ _ _ => trivial) (fun qg => ?_)
    obtain ⟨g, hg⟩ := qg
    refine mx_weak (H' := [star (OCd g), row b 3 (P.flatMap cI ++ rest), star (OCc bx fm rm M' fs rs), star (RC rx M' oa1 oc1 gs la lc rl)]) (fun w h => Ok.star (L := OCd g) (H := [row b 3 (P.flatMap cI ++ rest), star (OCc bx fm rm M' fs rs), star (RC rx M' oa1 oc1 gs la lc rl)]) h) (fun _ _ => trivial) ?_
    (repeat (first | ((refine (?_ : MX _ _ _ _ _ _ _ _ _ _ _)); first | refine mx_end ?_ | (refine mx_mv _ rfl rfl (by conv => {lhs; whnf}) ?_) | (refine mx_as _ rfl rfl (by conv => {lhs; whnf}) ?_) | (refine g_load rfl ?_; refine mx_get E rfl rfl rfl rfl rfl (by assumption ) rfl ?_ ) | (refine g_ix rfl ?_; refine mx_ixsn E rfl rfl rfl rfl rfl rfl (by omega) rfl ?_ ) | (refine mx_ex _ rfl rfl rfl (by conv => {lhs; whnf}) ?_) | (refine g_store rfl ?_; refine s_l E rfl rfl rfl rfl rfl rfl rfl (by exact Sp.all rfl ) rfl ?_ ) | (refine a_new rfl rfl rfl rfl rfl (fun _ => ?_)) ) | refine cw_seq ?_ | refine cw_line rfl ?_ | refine pw_then ?_ ))
    rename_i b10
    refine g_cf 44 rfl ?_
    refine a_callo rfl rfl rfl rfl Try.func44 rfl rfl rfl 4 rfl (fun gg : {gg : CD // gg.vc = gv} => .tuple #[.agg (cCD gg.1).toArray, .bool true]) (fun gg => OCd gg.1) (fun _ => RC rx M' oa1 oc1 gs la lc rl) (fun w' hw h => get44o rx M' oa1 oc1 gs la lc rl (by omega) hokg p gv true ⟨hgv2.1.symm.trans hgv, hb2⟩ w' h) (fun _ => rfl) (fun _ _ _ => trivial) (fun qg => ?_)
    obtain ⟨h, hh⟩ := qg
    refine mx_weak (H' := [star (OCd h), row b10 59 (cCD g), star (OCd g), row b 3 (P.flatMap cI ++ rest), star (OCc bx fm rm M' fs rs), star (RC rx M' oa1 oc1 gs la lc rl)]) (fun w hw => Ok.star (L := OCd h) (H := [row b10 59 (cCD g), star (OCd g), row b 3 (P.flatMap cI ++ rest), star (OCc bx fm rm M' fs rs), star (RC rx M' oa1 oc1 gs la lc rl)]) hw) (fun _ _ => trivial) ?_
    (repeat (first | ((refine (?_ : MX _ _ _ _ _ _ _ _ _ _ _)); first | refine mx_end ?_ | (refine mx_mv _ rfl rfl (by conv => {lhs; whnf}) ?_) | (refine mx_as _ rfl rfl (by conv => {lhs; whnf}) ?_) | (refine g_load rfl ?_; refine mx_getn E rfl rfl rfl rfl rfl (by exact Vr.all rfl ) rfl ?_ ) | (refine mx_not rfl rfl rfl ?_) | (refine mx_ex _ rfl rfl rfl (by conv => {lhs; whnf}) ?_) | (refine g_store rfl ?_; refine s_l E rfl rfl rfl rfl rfl rfl rfl (by exact Sp.all rfl ) rfl ?_ ) | (refine a_new rfl rfl rfl rfl rfl (fun _ => ?_)) ) | refine cw_seq ?_ | refine cw_line rfl ?_ | refine pw_then ?_ ))
    have og : OkF g.vc := by rw [hg]; exact ogv
    have oh : OkF h.vc := by rw [hh]; exact ogv
    have lg : g.ops.length ≤ 1000 := by have := og.o; rwa [show g.vc.ops = g.ops.map _ from rfl, List.length_map] at this
    have lt : g.at'.length ≤ 1000 := og.t
    have le : g.evs.length ≤ 1000 := by have := og.e; rwa [show g.vc.evs = g.evs.map _ from rfl, List.length_map] at this
    refine g_cf 45 rfl ?_
    refine a_callv rfl rfl rfl rfl Try.func45 rfl rfl rfl (.bool true) (fun w' hw => same45 g h (hg.trans hh.symm) (by omega) w' (rd_own (hw.holds 3 _ rfl) (fun r hr => hr) og) (rd_own (hw.holds 1 _ rfl) (fun r hr => hr) oh)) rfl ?_
    (repeat (first | ((refine (?_ : MX _ _ _ _ _ _ _ _ _ _ _)); first | refine mx_end ?_ | (refine mx_mv _ rfl rfl (by conv => {lhs; whnf}) ?_) | (refine mx_as _ rfl rfl (by conv => {lhs; whnf}) ?_) | (refine g_bin rfl ?_; ( refine mx_ar rfl rfl rfl rfl rfl rfl (IntWalk.i64_in _ (by omega)) rfl ?_ ) ) | (refine mx_not rfl rfl rfl ?_) | (refine g_pick rfl ?_; refine mx_or rfl rfl rfl rfl rfl rfl ?_ ) ) | refine cw_line rfl ?_ | refine cw_cond_f rfl ?_ | refine cw_skip ?_ | refine pw_then ?_ | refine pw_block ?_ ))
    exact pw_round (j + 1) (by omega) (by omega) ⟨rfl, rfl, rfl, rfl, trivial⟩ (fun w h => ok_close (cap := c8) (z := 1) (len := P.length) (H := [row b 3 (P.flatMap cI ++ rest), star (OCc bx fm rm M' fs rs), star (RC rx M' oa1 oc1 gs la lc rl)]) 0 rfl he.1 he.2.1 he.2.2.1 he.2.2.2 (h.pick [4, 5, 6] (by simp) rfl)))
end Go.Proofs.Ytikdbgheefjpkaa
