/- The program's cache: Resize. -/
import Derived.Test.YtikdbgheefjpkaaQj
set_option maxRecDepth 100000
set_option maxHeartbeats 8000000
set_option linter.unusedSimpArgs false
set_option linter.unusedVariables false
namespace Go.Proofs.Ytikdbgheefjpkaa
open Go Go.Sx Go.RowKit
/-- What Resize answers, and leaves. -/
def resV (r : Int → Int) (most : Int) : Nat → List VC → List Int × List VC
  | 0, L => ([], L)
  | n + 1, L => if (L.length : Int) > most then (evV r (progsL L) :: (resV r most n (delV (evV r (progsL L)) L)).1, (resV r most n (delV (evV r (progsL L)) L)).2) else ([], L)
theorem del_len {p : Int} {fs : List CD} (hn : (fs.map CD.prog).Nodup) (hp : p ∈ fs.map CD.prog) : (fs.filter fun c => decide (c.prog ≠ p)).length + 1 = fs.length := by
  obtain ⟨x, hx, rfl⟩ := List.mem_map.1 hp
  obtain ⟨A, B, rfl⟩ := List.append_of_mem hx
  rw [List.map_append, List.map_cons] at hn
  have h2 := (List.perm_middle (a := x.prog) (l₁ := A.map CD.prog) (l₂ := B.map CD.prog)).nodup_iff.1 hn
  have h3 := (List.nodup_cons.1 h2).1
  have hA : ∀ y ∈ A, y.prog ≠ x.prog := fun y hy e2 => h3 (e2 ▸ List.mem_append_left _ (List.mem_map.2 ⟨y, hy, rfl⟩))
  have hB : ∀ y ∈ B, y.prog ≠ x.prog := fun y hy e2 => h3 (e2 ▸ List.mem_append_right _ (List.mem_map.2 ⟨y, hy, rfl⟩))
  rw [List.filter_append, List.filter_cons_of_neg (by simp), List.filter_eq_self.2 (fun y hy => by simpa using hA y hy), List.filter_eq_self.2 (fun y hy => by simpa using hB y hy)]
  simp
  omega
structure ZI where
  gs : List CD
  out : List Int
  a : Option Addr
  c : Nat
theorem resize37 (bx fm rm : Nat) (most : Int) (fs : List CD) (rs : List (Int × Int)) (hk : OkC (fs.map CD.vc) 1000) (hb : ∀ q, 0 ≤ runs q rs ∧ runs q rs ≤ 1000000) (n m : Int) (hm : max 0 n = m) (gone : List Int) (L' : List VC) (hres : resV (fun q => runs q rs) m fs.length (fs.map CD.vc) = (gone, L')) (w : World) (h0 : Ok (domL (OCc bx fm rm most fs rs)) w (OCc bx fm rm most fs rs) w) :
    Calls Try.prog 37 #[.pointer (some ⟨bx, 0, none⟩), .int .i64 n] w fun e w' => ∃ a : (Option Addr × Nat) × {fs' : List CD // fs'.map CD.vc = L'}, e = .returned (.slice a.1.1 gone.length a.1.2) ∧ Ok (domL (OCc bx fm rm most fs rs)) w (ownd a.1.1 a.1.2 3 1 gone.length (gone.flatMap cI) :: OCc bx fm rm m a.2.1 rs) w' := by
  have hlen : fs.length ≤ 1000 := by have := hk.len; simpa using this
  have hm0 : 0 ≤ m := by omega
  refine enter2 (S := domL (OCc bx fm rm most fs rs)) (H := [row bx 96 [.int .i64 most, .map (some fm), .map (some rm)], mapR fm (fs.map cV), mapR rm (rs.map rV), allD fs]) 29 Try.func37 rfl rfl rfl h0 ?_
  (repeat (first | ((refine (?_ : MX _ _ _ _ _ _ _ _ _ _ _)); first | refine mx_end ?_ | (refine mx_mv _ rfl rfl (by conv => {lhs; whnf}) ?_) | (refine mx_as _ rfl rfl (by conv => {lhs; whnf}) ?_) | (refine mx_fa0 E rfl rfl rfl rfl ?_ ) | (refine mx_nc rfl rfl rfl ?_) | (refine g_store rfl ?_; refine s_1 E rfl rfl rfl rfl rfl rfl rfl rfl (by exact sp0 ) rfl ?_) | ((refine g_bi .max rfl ?_; refine mx_maxi rfl rfl rfl rfl rfl rfl rfl ?_) ) ) | refine cw_seq ?_ | refine cw_line rfl ?_ | refine cw_block ?_ | refine pw_then ?_ ))
  subst hm
  generalize hm : max 0 n = m at *
  refine cw_loop (ι := ZI) (fun q => [(5, .slice q.a q.out.length q.c), (0, .pointer (some ⟨bx, 0, none⟩))]) (fun q => [row bx 96 [.int .i64 m, .map (some fm), .map (some rm)], mapR fm (q.gs.map cV), mapR rm (rs.map rV), allD q.gs, ownd q.a q.c 3 1 q.out.length (q.out.flatMap cI)]) (fun q => OkC (q.gs.map CD.vc) 1000 ∧ q.out.length + q.gs.length ≤ 1000 ∧ q.out ++ (resV (fun q => runs q rs) m q.gs.length (q.gs.map CD.vc)).1 = gone ∧ (resV (fun q => runs q rs) m q.gs.length (q.gs.map CD.vc)).2 = L') (fun q => q.gs.length) ⟨fs, [], none, 0⟩ ⟨hk, by simpa using hlen, by show [] ++ (resV _ m fs.length (fs.map CD.vc)).1 = gone; rw [hres]; rfl, by show (resV _ m fs.length (fs.map CD.vc)).2 = L'; rw [hres]⟩ ⟨rfl, rfl, trivial⟩ (fun w h => (h.own_nil 3 1).pick [1, 2, 3, 4, 0] (by simp) rfl) ?_
  rintro ⟨gs, out, a1, c1⟩ jk ⟨hg, hol, hr1, hr2⟩
  dsimp only at hg hol hr1 hr2 ⊢
  (repeat ( refine cw_seq ?_ ))
  refine cw_drawm [0, 1, 2, 3, 4, 5, 6, 7, 8, 9] (fun i => false) [row bx 96 [.int .i64 m, .map (some fm), .map (some rm)], mapR fm (gs.map cV)] mixed (by kernel_rfl) (fun w h => h.pick [0, 1] (by simp) rfl) ?_
  have hgm : ((gs.map cV).length : Int) = gs.length := by rw [List.length_map]
  by_cases hgt : ((gs.map cV).length : Int) > m
  case neg =>
    have hstop : resV (fun q => runs q rs) m gs.length (gs.map CD.vc) = ([], gs.map CD.vc) := by
      cases hgl : gs.length with
      | zero => rfl
      | succ k =>
        unfold resV
        rw [if_neg (by rw [List.length_map]; omega)]
    rw [hstop] at hr1 hr2
    rw [List.append_nil] at hr1
    subst hr1
    (repeat (first | ((refine (?_ : MX _ _ _ _ _ _ _ _ _ _ _)); first | refine mx_end ?_ | (refine mx_mv _ rfl rfl (by conv => {lhs; whnf}) ?_) | (refine mx_as _ rfl rfl (by conv => {lhs; whnf}) ?_) | (first | refine mx_fa0 E rfl rfl rfl rfl ?_ | refine mx_fa E rfl rfl rfl rfl ?_) | (refine g_load rfl ?_; refine mx_get E rfl rfl rfl rfl rfl (by rfl) rfl ?_ ) | (refine g_bin rfl ?_; ( (refine mx_cmpl .gtr rfl rfl rfl rfl rfl (by exact cmp_gt_f (by omega) ) ?_) ) ) | (refine mx_nc rfl rfl rfl ?_) | ((refine g_bi .len rfl ?_; refine mx_mlen mt93 rfl rfl rfl rfl rfl ?_) ) ) | refine cw_seq ?_ | refine cw_line rfl ?_ | refine cw_cond_f rfl ?_ | refine cw_exit ?_ | refine cw_ret ?_ | refine pw_then ?_ | refine pw_then_x ?_ | refine pw_block_e ?_ ))
    exact pw_ret rfl rfl rfl rfl fun w' hw => ⟨((a1, c1), ⟨gs, hr2⟩), rfl, hw.pick [4, 0, 1, 2, 3] (by simp) rfl⟩
  have hgpos : 0 < gs.length := by omega
  obtain ⟨k, hk1⟩ : ∃ k, gs.length = k + 1 := ⟨gs.length - 1, by omega⟩
  have hgo := progs_nd hg.nd
  have hpl : (progsL (gs.map CD.vc)).length = gs.length := by rw [progs_len, List.length_map]
  have hin : evV (fun q => runs q rs) (progsL (gs.map CD.vc)) ∈ gs.map CD.prog := by
    have h1 := evV_in (r := fun q => runs q rs) (l := progsL (gs.map CD.vc)) (fun e => by rw [e] at hpl; simp at hpl; omega)
    have h2 := progs_mem'.1 h1
    rw [List.map_map] at h2
    exact h2
  have hstep : resV (fun q => runs q rs) m gs.length (gs.map CD.vc) = (evV (fun q => runs q rs) (progsL (gs.map CD.vc)) :: (resV (fun q => runs q rs) m k (delV (evV (fun q => runs q rs) (progsL (gs.map CD.vc))) (gs.map CD.vc))).1, (resV (fun q => runs q rs) m k (delV (evV (fun q => runs q rs) (progsL (gs.map CD.vc))) (gs.map CD.vc))).2) := by
    rw [hk1]
    conv => lhs; unfold resV
    rw [if_pos (by rw [List.length_map]; omega)]
  rw [hstep] at hr1 hr2
  dsimp only at hr1 hr2
  generalize hP : progsL (gs.map CD.vc) = P at *
  obtain ⟨p, hp⟩ : ∃ p, evV (fun q => runs q rs) P = p := ⟨_, rfl⟩
  rw [hp] at hr1 hr2 hin
  have hdl := del_len (nd_prog hg) hin
  have hfin : (gs.filter fun c => decide (c.prog ≠ p)).length = k := by omega
  have hfin2 : (gs.filter fun c => decide (c.prog ≠ p)).map CD.vc = delV p (gs.map CD.vc) := del_vc _ _
  have hokd := hg.del p
  rw [← hfin2] at hr1 hr2 hokd
  rw [← hfin] at hr1 hr2
  (repeat (first | ((refine (?_ : MX _ _ _ _ _ _ _ _ _ _ _)); first | refine mx_end ?_ | (refine mx_mv _ rfl rfl (by conv => {lhs; whnf}) ?_) | (first | refine mx_fa0 E rfl rfl rfl rfl ?_ | refine mx_fa E rfl rfl rfl rfl ?_) | (refine g_load rfl ?_; refine mx_get E rfl rfl rfl rfl rfl (by rfl) rfl ?_ ) | (refine g_bin rfl ?_; ( (refine mx_cmpl .gtr rfl rfl rfl rfl rfl (by exact cmp_gt_t (by omega) ) ?_) ) ) | (refine mx_nc rfl rfl rfl ?_) | ((refine g_bi .len rfl ?_; refine mx_mlen mt93 rfl rfl rfl rfl rfl ?_) ) ) | refine cw_line rfl ?_ | refine cw_block ?_ | refine cw_cond_t rfl ?_ | refine cw_skip ?_ | refine pw_then ?_ ))
  refine g_cf 35 rfl ?_
  refine a_calls rfl rfl rfl rfl Try.func35 rfl rfl rfl (OCc bx fm rm m gs rs) [ownd a1 c1 3 1 out.length (out.flatMap cI)] (fun w h => h) (fun a : Option Addr × Nat => .slice a.1 P.length a.2) (fun a => ownd a.1 a.2 3 1 P.length (P.flatMap cI) :: OCc bx fm rm m gs rs) (fun w' hw h => progs35 bx fm rm m gs rs hg P hP w' h) (fun _ => rfl) (fun _ _ _ => trivial) (fun qa => ?_)
  obtain ⟨a2, c2⟩ := qa
  refine mx_weak (H' := OCc bx fm rm m gs rs ++ [ownd a2 c2 3 1 P.length (P.flatMap cI), ownd a1 c1 3 1 out.length (out.flatMap cI)]) (fun w h => (show Ok _ _ (ownd a2 c2 3 1 P.length (P.flatMap cI) :: (OCc bx fm rm m gs rs ++ [ownd a1 c1 3 1 out.length (out.flatMap cI)])) w from h).perm (List.perm_middle (l₁ := OCc bx fm rm m gs rs) (a := ownd a2 c2 3 1 P.length (P.flatMap cI)) (l₂ := [ownd a1 c1 3 1 out.length (out.flatMap cI)])).symm) (fun _ _ => trivial) ?_
  (repeat (first | ((refine (?_ : MX _ _ _ _ _ _ _ _ _ _ _)); first | refine mx_end ?_ | (refine mx_mv _ rfl rfl (by conv => {lhs; whnf}) ?_) | (refine mx_as _ rfl rfl (by conv => {lhs; whnf}) ?_) | (first | refine mx_fa0 E rfl rfl rfl rfl ?_ | refine mx_fa E rfl rfl rfl rfl ?_) | (refine g_load rfl ?_; first | refine mx_get E rfl rfl rfl rfl rfl (by first | assumption | rfl) rfl ?_ | refine mx_getn E rfl rfl rfl rfl rfl (by first | assumption | exact Vr.all rfl | exact ⟨⟨rfl⟩, rfl⟩) rfl ?_ | refine mx_oldn E rfl rfl rfl rfl rfl (by assumption) (by assumption) (rfl) rfl ?_ | refine mx_old1 E rfl rfl rfl rfl rfl (by assumption) (by assumption) rfl ?_ | refine mx_orow E rfl rfl rfl rfl rfl (by assumption) (by assumption) (by first | assumption | rfl) rfl ?_ | refine mx_orown E rfl rfl rfl rfl rfl (by assumption) (by assumption) (by first | assumption | exact Vr.all rfl | exact ⟨⟨rfl⟩, rfl⟩) rfl ?_ | refine mx_geta E rfl rfl rfl rfl rfl rfl (by first | assumption | rfl) rfl ?_ | refine mx_getna E rfl rfl rfl rfl rfl rfl (by first | assumption | exact Vr.all rfl | exact ⟨⟨rfl⟩, rfl⟩) rfl ?_) | (refine g_bin rfl ?_; first | (first | (refine mx_cmpl .eql rfl rfl rfl rfl rfl (by first | exact cmp_eq_t (by omega) | exact cmp_eq_f (by omega) | rfl) ?_) | (refine mx_cmpl .neq rfl rfl rfl rfl rfl (by first | exact cmp_ne_t (by omega) | exact cmp_ne_f (by omega) | rfl) ?_) | (refine mx_cmpl .lss rfl rfl rfl rfl rfl (by first | exact cmp_lt_t (by omega) | exact cmp_lt_f (by omega) | rfl) ?_) | (refine mx_cmpl .leq rfl rfl rfl rfl rfl (by first | exact cmp_le_t (by omega) | exact cmp_le_f (by omega) | rfl) ?_) | (refine mx_cmpl .gtr rfl rfl rfl rfl rfl (by first | exact cmp_gt_t (by omega) | exact cmp_gt_f (by omega) | rfl) ?_) | (refine mx_cmpl .geq rfl rfl rfl rfl rfl (by first | exact cmp_ge_t (by omega) | exact cmp_ge_f (by omega) | rfl) ?_)) | (first | refine mx_ar rfl rfl rfl rfl rfl rfl ((IntWalk.i64_in _ (by omega)).trans (by with_reducible assumption)) rfl ?_ | refine mx_ar rfl rfl rfl rfl rfl rfl (IntWalk.i64_in _ (by omega)) rfl ?_ | refine mx_ar rfl rfl rfl rfl rfl rfl (by with_reducible assumption) rfl ?_) | (first | refine mx_eqs rfl rfl rfl rfl rfl rfl ?_ | refine mx_nes rfl rfl rfl rfl rfl rfl ?_ | refine mx_eq rfl rfl rfl rfl rfl rfl ?_ | refine mx_ne rfl rfl rfl rfl rfl rfl ?_) | refine mx_bsame E rfl rfl rfl rfl rfl rfl rfl ?_ | refine mx_bnsame E rfl rfl rfl rfl rfl rfl rfl ?_ | refine mx_beq E rfl rfl rfl rfl rfl rfl rfl ?_ | refine mx_bne E rfl rfl rfl rfl rfl rfl rfl ?_ | refine mx_dv rfl rfl rfl rfl rfl (by decide) (congrArg some (by assumption)) rfl rfl ?_ | refine mx_dv rfl rfl rfl rfl rfl (by decide) rfl rfl rfl ?_ | refine mx_bit rfl rfl rfl rfl rfl (congrArg some (by assumption)) rfl rfl ?_ | refine mx_bit rfl rfl rfl rfl rfl rfl rfl rfl ?_ | refine mx_sh rfl rfl rfl rfl rfl (by omega) (congrArg some (by assumption)) rfl rfl ?_ | refine mx_sh rfl rfl rfl rfl rfl (by omega) rfl rfl rfl ?_) | (refine g_ix rfl ?_; first | refine mx_ixan E rfl rfl rfl rfl rfl rfl (by omega) rfl ?_ | refine mx_ixsn E rfl rfl rfl rfl rfl rfl (by omega) rfl ?_ | refine mx_ixsi E rfl rfl rfl rfl rfl rfl (by omega) (by omega) rfl ?_ | refine mx_ixa E rfl rfl rfl rfl rfl rfl (by omega) (by omega) rfl rfl ?_) | (refine mx_nc rfl rfl rfl ?_) | (refine g_bi .len rfl ?_; refine mx_len E rfl rfl rfl rfl ?_) | (refine mx_not rfl rfl rfl ?_) | (refine mx_ex _ rfl rfl rfl (by conv => {lhs; whnf}) ?_) | (refine mx_skip rfl rfl rfl ?_) | (refine g_pick rfl ?_; first | refine mx_andf rfl rfl rfl rfl rfl ?_ | refine mx_ort rfl rfl rfl rfl rfl ?_ | refine mx_and rfl rfl rfl rfl rfl rfl ?_ | refine mx_or rfl rfl rfl rfl rfl rfl ?_ | refine mx_pickt _ rfl rfl rfl rfl (by conv => {lhs; whnf}) rfl ?_ | refine mx_pickf _ rfl rfl rfl rfl (by conv => {lhs; whnf}) rfl ?_) | (refine g_store rfl ?_; first | refine s_l E rfl rfl rfl rfl rfl rfl rfl (by first | assumption | exact Sp.all rfl | exact Sp.lit rfl rfl) rfl ?_ | refine s_1 E rfl rfl rfl rfl rfl rfl rfl rfl (by first | assumption | exact sp0 | exact spS sp0 | exact spS (spS sp0) | exact Sp.lit rfl rfl) rfl ?_) | (refine g_build rfl ?_; first | refine mx_build rfl rfl rfl rfl (b96 _ _ _) rfl ?_) | (refine a_new rfl rfl rfl rfl rfl (fun _ => ?_)) | (refine g_box rfl ?_; first | refine a_boxl rfl rfl rfl rfl rfl rfl (fun _ => ?_) | refine a_box1 rfl rfl rfl rfl rfl rfl rfl (fun _ => ?_)) | (first | refine mx_indexn E rfl rfl rfl rfl rfl rfl rfl rfl (by omega) (by first | exact vr_RR _ (by omega)) rfl ?_ | refine mx_index E rfl rfl rfl rfl rfl rfl rfl rfl (by omega) (by omega) (by first | exact vr_RR _ (by omega)) rfl ?_) | (refine g_bs rfl ?_; first | refine a_bs0 E rfl rfl rfl rfl rfl rfl (fun _ => ?_) | refine a_bsi E rfl rfl rfl rfl rfl (by (repeat (first | exact EvI.nil | (apply EvI.cons; rfl)))) (by rfl) (by rfl) (by rfl) rfl (fun _ => ?_)) | (refine g_conv rfl ?_; first | refine mx_cv E rfl rfl rfl rfl rfl rfl (by assumption) rfl ?_ | refine mx_cv E rfl rfl rfl rfl rfl rfl (IntWalk.i64_in _ (by omega)) rfl ?_ | refine mx_cv E rfl rfl rfl rfl rfl rfl (IntWalk.u64_in _ (by omega)) rfl ?_ | refine mx_cv E rfl rfl rfl rfl rfl rfl (IntWalk.u8_in _ (by omega)) rfl ?_ | refine mx_cv E rfl rfl rfl rfl rfl rfl rfl rfl ?_) | (first | (refine g_bi .max rfl ?_; refine mx_maxi rfl rfl rfl rfl rfl rfl rfl ?_) | (refine g_bi .min rfl ?_; refine mx_mini rfl rfl rfl rfl rfl rfl rfl ?_)) | (first | (refine g_bi .len rfl ?_; refine mx_mlen mt93 rfl rfl rfl rfl rfl ?_) | refine mx_look mt93 rfl rfl rfl rfl rfl (by with_reducible assumption) rfl ?_ | refine mx_look1 mt94 rfl rfl rfl rfl rfl (by with_reducible assumption) rfl ?_ | refine mx_fn rfl rfl rfl rfl rfl rfl ?_) | (fail)) | refine cw_seq ?_ | refine cw_line rfl ?_ | (fail) | refine cw_block ?_ | refine cw_cond_f rfl ?_ | refine cw_cond_t rfl ?_ | refine cw_skip ?_ | refine cw_exit ?_ | refine cw_ret ?_ | refine pw_then ?_ | refine pw_then_x ?_ | refine pw_then_r ?_ | refine pw_block ?_ | refine pw_block_e ?_ | refine pw_block_n rfl ?_ | refine pw_block_r ?_))
  refine g_cf 65 rfl ?_
  refine a_calls rfl rfl rfl rfl Try.func65 rfl rfl rfl (OCc bx fm rm m gs rs) [ownd a2 c2 3 1 P.length (P.flatMap cI), ownd a1 c1 3 1 out.length (out.flatMap cI)] (fun w h => h) (fun _ : Unit => .int .i64 p) (fun _ => OCc bx fm rm m (gs.filter fun c => decide (c.prog ≠ p)) rs) (fun w' hw h => evict65 bx fm rm m gs rs (nd_prog hg) hb a2 c2 P.length P rfl (fun e => by rw [e] at hpl; simp at hpl; omega) (by omega) p hp w' (fun w2 hc => own_in len_I (staySplit hw 0 rfl hc) (Nat.le_refl _)) h) (fun _ => rfl) (fun _ _ _ => trivial) (fun _ => ?_)
  refine mx_weak (H' := [row bx 96 [.int .i64 m, .map (some fm), .map (some rm)], mapR fm ((gs.filter fun c => decide (c.prog ≠ p)).map cV), mapR rm (rs.map rV), allD (gs.filter fun c => decide (c.prog ≠ p)), ownd a1 c1 3 1 out.length (out.flatMap cI)]) (fun w h => h.pick [0, 1, 2, 3, 5] (by simp) rfl) (fun _ _ => trivial) ?_
  (repeat (((refine (?_ : MX _ _ _ _ _ _ _ _ _ _ _)); (refine g_bs rfl ?_; refine a_bsi E rfl rfl rfl rfl rfl (by (repeat (first | exact EvI.nil | (apply EvI.cons; rfl)))) (by rfl) (by rfl) (by rfl) rfl (fun _ => ?_)) ) ))
  rename_i b9
  refine g_bi .append rfl ?_
  refine a_app E rfl rfl rfl rfl rfl rfl rfl rfl [.int .i64 p] rfl (fun w hw => fun _ => ⟨b9, 0, rfl, fun j u hj => by rw [add_at, Nat.zero_add]; exact row_cell (hw.holds 0 _ rfl) hj⟩) rfl (by omega) rfl (fun _ _ _ _ => trivial) (fun a3 c3 => ?_)
  have e3 : out.flatMap cI ++ [.int .i64 p] = (out ++ [p]).flatMap cI := by rw [List.flatMap_append]; simp
  have e4 : out.length + 1 = (out ++ [p]).length := by simp
  rw [e3, e4]
  (repeat (first | ((refine (?_ : MX _ _ _ _ _ _ _ _ _ _ _)); first | refine mx_end ?_ | (refine mx_as _ rfl rfl (by conv => {lhs; whnf}) ?_) ) | refine pw_block ?_ ))
  exact pw_round ⟨gs.filter fun c => decide (c.prog ≠ p), out ++ [p], a3, c3⟩ ⟨hokd, by show (out ++ [p]).length + (gs.filter fun c => decide (c.prog ≠ p)).length ≤ 1000; rw [← e4]; omega, by
    show (out ++ [p]) ++ _ = gone
    rw [List.append_assoc]
    exact hr1, hr2⟩ (by show (gs.filter fun c => decide (c.prog ≠ p)).length < gs.length; omega) ⟨rfl, rfl, trivial⟩ (fun w h => h.pick [1, 2, 3, 4, 5] (by simp) rfl)
end Go.Proofs.Ytikdbgheefjpkaa
