/- The program's cache: Drop, Forget, Progs, Get. -/
import Derived.Test.YtikdbgheefjpkaaQf
set_option maxRecDepth 100000
set_option maxHeartbeats 8000000
set_option linter.unusedSimpArgs false
set_option linter.unusedVariables false
namespace Go.Proofs.Ytikdbgheefjpkaa
open Go Go.Sx Go.RowKit
theorem pw_retcs {n : Nat} {st : Slots} {S : Nat → Prop} {w0 : World} {H : List Res} {P : Program} (E : Env P) {fn : Func} {e : Exit} {R : Ending → World → Prop} (hn : (match e with | .normal | .ret => true | _ => false) = true) {p ty t : Nat} (hr : fn.results = #[.cell p ty, .tmp t]) {b : Nat} (hp : ev n st (.tmp p) = .pointer (some ⟨b, 0, none⟩)) {m : Nat} (ht : at0 E.agg ty = some m) {j T : Nat} {vs : List Value} (hj : H[j]? = some (row b T vs)) (hl : vs.length = m) {v : Value} (hv : ev n st (.tmp t) = v)
    (h : ∀ w, Ok S w0 H w → R (.returned (.tuple #[.agg vs.toArray, v])) w) : PW (bodyPost P fn R) e n st S w0 H := by
  refine pw_rets (st := st) hn [.agg vs.toArray, v] ?_ rfl h
  rw [hr]
  refine ⟨⟨⟨b, 0, none⟩, hp, fun w hw => ?_⟩, hv, trivial⟩
  have h1 := E.agg_load ht ⟨b, 0, none⟩ vs hl (hw.at' j hj (Vw.all vs))
  simpa [Instr.loadAt, Instr.sureAddr] using h1
def delV (p : Int) (L : List VC) : List VC := L.filter fun v => decide (v.prog ≠ p)
def hasV (p : Int) (L : List VC) : Bool := L.any fun v => decide (v.prog = p)
@[reducible] def zeroV : VC := ⟨0, [], [], []⟩
@[reducible] def zeroC : CD := ⟨0, none, 0, [], none, 0, [], none, 0, []⟩
def getV (p : Int) (L : List VC) : VC := (L.find? fun v => decide (v.prog = p)).getD zeroV
theorem del_vc (p : Int) (fs : List CD) : (fs.filter fun c => decide (c.prog ≠ p)).map CD.vc = delV p (fs.map CD.vc) := by
  unfold delV
  rw [List.filter_map]
  rfl
/-- Forms, none twice. -/
structure OkC (L : List VC) (n : Nat) : Prop where
  len : L.length ≤ n
  nd : (L.map VC.prog).Nodup
  wf : ∀ v ∈ L, wfI v.prog
  ok : ∀ v ∈ L, OkF v
theorem OkC.nil : OkC [] 0 := ⟨by simp, by simp, by simp, by simp⟩
theorem OkC.le {L : List VC} {n m : Nat} (h : OkC L n) (hm : n ≤ m) : OkC L m := ⟨Nat.le_trans h.len hm, h.nd, h.wf, h.ok⟩
theorem OkC.del {L : List VC} {n : Nat} (h : OkC L n) (p : Int) : OkC (delV p L) n := ⟨Nat.le_trans (List.length_filter_le ..) h.len, h.nd.sublist (List.filter_sublist.map _), fun v hv => h.wf v (List.mem_filter.1 hv).1, fun v hv => h.ok v (List.mem_filter.1 hv).1⟩
theorem nd_prog {fs : List CD} {n : Nat} (h : OkC (fs.map CD.vc) n) : (fs.map CD.prog).Nodup := by
  have := h.nd
  rw [List.map_map] at this
  exact this
/-- What is found. -/
theorem look_some {p : Int} {fs : List CD} {j : Nat} {v : Value} (hf : fnd p (fs.map cV) 0 = some (j, v)) : ∃ c ∈ fs, c.prog = p ∧ lookV zC p (fs.map cV) = .tuple #[.agg (cCD c).toArray, .bool true] ∧ hasV p (fs.map CD.vc) = true := by
  obtain ⟨c, h1, h2, h3⟩ := fndg_some CD.prog (fun c => .agg (cCD c).toArray) hf
  refine ⟨c, List.mem_of_getElem? h1, h2, ?_, ?_⟩
  · unfold lookV
    rw [hf, h3]
  · unfold hasV
    exact List.any_eq_true.2 ⟨c.vc, List.mem_map.2 ⟨c, List.mem_of_getElem? h1, rfl⟩, decide_eq_true h2⟩
theorem look_none {p : Int} {fs : List CD} (hf : fnd p (fs.map cV) 0 = none) : lookV zC p (fs.map cV) = .tuple #[.agg (cCD zeroC).toArray, .bool false] ∧ hasV p (fs.map CD.vc) = false ∧ ∀ c ∈ fs, c.prog ≠ p := by
  have h := fndg_none CD.prog (fun c => .agg (cCD c).toArray) hf
  refine ⟨?_, ?_, h⟩
  · unfold lookV
    rw [hf]
    rfl
  · unfold hasV
    exact List.any_eq_false.2 fun v hv => by
      obtain ⟨c, hc, rfl⟩ := List.mem_map.1 hv
      simp only [decide_eq_true_eq]
      exact h c hc
theorem drop48 (bx fm rm : Nat) (most : Int) (fs : List CD) (rs : List (Int × Int)) (hn : (fs.map CD.prog).Nodup) (p : Int) (w : World) (h0 : Ok (domL (OCc bx fm rm most fs rs)) w (OCc bx fm rm most fs rs) w) :
    Calls Try.prog 48 #[.pointer (some ⟨bx, 0, none⟩), .int .i64 p] w fun e w' => ∃ u : Unit, e = .returned (.bool (hasV p (fs.map CD.vc))) ∧ Ok (domL (OCc bx fm rm most fs rs)) w (OCc bx fm rm most (fs.filter fun c => decide (c.prog ≠ p)) rs) w' := by
  refine enter2 (S := domL (OCc bx fm rm most fs rs)) (H := [row bx 96 [.int .i64 most, .map (some fm), .map (some rm)], mapR fm (fs.map cV), mapR rm (rs.map rV), allD fs]) 22 Try.func48 rfl rfl rfl h0 ?_
  have hdel := delKg CD.prog (fun c => .agg (cCD c).toArray) (k := p) fs hn
  cases hf : fnd p (fs.map cV) 0 with
  | none =>
    obtain ⟨hlk, hh, _⟩ := look_none hf
    rw [hh]
    (repeat (first | ((refine (?_ : MX _ _ _ _ _ _ _ _ _ _ _)); first | refine mx_end ?_ | (refine mx_mv _ rfl rfl (by conv => {lhs; whnf}) ?_) | (refine mx_as _ rfl rfl (by conv => {lhs; whnf}) ?_) | ( refine mx_fa E rfl rfl rfl rfl ?_) | (refine g_load rfl ?_; refine mx_get E rfl rfl rfl rfl rfl (by rfl) rfl ?_ ) | (refine mx_nc rfl rfl rfl ?_) | (refine mx_ex _ rfl rfl rfl (by conv => {lhs; whnf}) ?_) | (refine g_store rfl ?_; refine s_l E rfl rfl rfl rfl rfl rfl rfl (by exact Sp.all rfl ) rfl ?_ ) | (refine a_new rfl rfl rfl rfl rfl (fun _ => ?_)) | (refine mx_look mt93 rfl rfl rfl rfl rfl (by with_reducible assumption) rfl ?_ ) ) | refine cw_seq ?_ | refine cw_line rfl ?_ | refine pw_then ?_ ))
    refine g_bi .delete rfl ?_
    refine a_mdel mt93 rfl rfl rfl rfl rfl rfl (fun _ _ => trivial) rfl ?_
    rw [hdel]
    (repeat (first | ((refine (?_ : MX _ _ _ _ _ _ _ _ _ _ _)); first | refine mx_end ?_ | (refine mx_mv _ rfl rfl (by conv => {lhs; whnf}) ?_) | (refine mx_as _ rfl rfl (by conv => {lhs; whnf}) ?_) ) | refine cw_seq ?_ | refine cw_line rfl ?_ | refine cw_ret ?_ | refine pw_then ?_ ))
    exact pw_ret rfl rfl rfl rfl fun w' hw => ⟨(), rfl, (allD_sub (l' := fs.filter fun c => decide (c.prog ≠ p)) List.filter_sublist (hw.pick (H' := [allD fs, row bx 96 [.int .i64 most, .map (some fm), .map (some rm)], mapR fm ((fs.filter fun c => decide (c.prog ≠ p)).map cV), mapR rm (rs.map rV)]) [4, 1, 2, 3] (by simp) rfl)).pick [1, 2, 3, 0] (by simp) rfl⟩
  | some qv =>
    obtain ⟨j, v0⟩ := qv
    obtain ⟨c, hc, hcp, hlk, hh⟩ := look_some hf
    rw [hh]
    (repeat (first | ((refine (?_ : MX _ _ _ _ _ _ _ _ _ _ _)); first | refine mx_end ?_ | (refine mx_mv _ rfl rfl (by conv => {lhs; whnf}) ?_) | (refine mx_as _ rfl rfl (by conv => {lhs; whnf}) ?_) | ( refine mx_fa E rfl rfl rfl rfl ?_) | (refine g_load rfl ?_; refine mx_get E rfl rfl rfl rfl rfl (by rfl) rfl ?_ ) | (refine mx_nc rfl rfl rfl ?_) | (refine mx_ex _ rfl rfl rfl (by conv => {lhs; whnf}) ?_) | (refine g_store rfl ?_; refine s_l E rfl rfl rfl rfl rfl rfl rfl (by exact Sp.all rfl ) rfl ?_ ) | (refine a_new rfl rfl rfl rfl rfl (fun _ => ?_)) | (refine mx_look mt93 rfl rfl rfl rfl rfl (by with_reducible assumption) rfl ?_ ) ) | refine cw_seq ?_ | refine cw_line rfl ?_ | refine pw_then ?_ ))
    refine g_bi .delete rfl ?_
    refine a_mdel mt93 rfl rfl rfl rfl rfl rfl (fun _ _ => trivial) rfl ?_
    rw [hdel]
    (repeat (first | ((refine (?_ : MX _ _ _ _ _ _ _ _ _ _ _)); first | refine mx_end ?_ | (refine mx_mv _ rfl rfl (by conv => {lhs; whnf}) ?_) | (refine mx_as _ rfl rfl (by conv => {lhs; whnf}) ?_) ) | refine cw_seq ?_ | refine cw_line rfl ?_ | refine cw_ret ?_ | refine pw_then ?_ ))
    exact pw_ret rfl rfl rfl rfl fun w' hw => ⟨(), rfl, (allD_sub (l' := fs.filter fun c => decide (c.prog ≠ p)) List.filter_sublist (hw.pick (H' := [allD fs, row bx 96 [.int .i64 most, .map (some fm), .map (some rm)], mapR fm ((fs.filter fun c => decide (c.prog ≠ p)).map cV), mapR rm (rs.map rV)]) [4, 1, 2, 3] (by simp) rfl)).pick [1, 2, 3, 0] (by simp) rfl⟩
theorem forget49 (bx fm rm : Nat) (most : Int) (fs : List CD) (rs : List (Int × Int)) (hn : (fs.map CD.prog).Nodup) (hr : (rs.map (·.1)).Nodup) (p : Int) (w : World) (h0 : Ok (domL (OCc bx fm rm most fs rs)) w (OCc bx fm rm most fs rs) w) :
    Calls Try.prog 49 #[.pointer (some ⟨bx, 0, none⟩), .int .i64 p] w fun e w' => ∃ u : Unit, e = .returned (.tuple #[]) ∧ Ok (domL (OCc bx fm rm most fs rs)) w (OCc bx fm rm most (fs.filter fun c => decide (c.prog ≠ p)) (rs.filter fun e => decide (e.1 ≠ p))) w' := by
  refine enter2 (S := domL (OCc bx fm rm most fs rs)) (H := [row bx 96 [.int .i64 most, .map (some fm), .map (some rm)], mapR fm (fs.map cV), mapR rm (rs.map rV), allD fs]) 14 Try.func49 rfl rfl rfl h0 ?_
  have hdel := delKg CD.prog (fun c => .agg (cCD c).toArray) (k := p) fs hn
  have hder := delKg (fun q : Int × Int => q.1) (fun q => .int .i64 q.2) (k := p) rs hr
  (repeat (first | ((refine (?_ : MX _ _ _ _ _ _ _ _ _ _ _)); first | (refine mx_mv _ rfl rfl (by conv => {lhs; whnf}) ?_) | ( refine mx_fa E rfl rfl rfl rfl ?_) | (refine g_load rfl ?_; refine mx_get E rfl rfl rfl rfl rfl (by rfl) rfl ?_ ) | (refine mx_nc rfl rfl rfl ?_) ) | refine cw_seq ?_ | refine cw_line rfl ?_ ))
  refine g_bi .delete rfl ?_
  refine a_mdel mt93 rfl rfl rfl rfl rfl rfl (fun _ _ => trivial) rfl ?_
  rw [hdel]
  (repeat (first | ((refine (?_ : MX _ _ _ _ _ _ _ _ _ _ _)); first | refine mx_end ?_ | (refine mx_mv _ rfl rfl (by conv => {lhs; whnf}) ?_) | ( refine mx_fa E rfl rfl rfl rfl ?_) | (refine g_load rfl ?_; refine mx_get E rfl rfl rfl rfl rfl (by rfl) rfl ?_ ) | (refine mx_nc rfl rfl rfl ?_) ) | refine cw_line rfl ?_ | refine pw_then ?_ ))
  refine g_bi .delete rfl ?_
  refine a_mdel mt94 rfl rfl rfl rfl rfl rfl (fun _ _ => trivial) rfl ?_
  rw [hder]
  (repeat (((refine (?_ : MX _ _ _ _ _ _ _ _ _ _ _)); refine mx_end ?_ ) ))
  exact pw_ret0 rfl rfl fun w' hw => ⟨(), rfl, (allD_sub (l' := fs.filter fun c => decide (c.prog ≠ p)) List.filter_sublist (hw.pick (H' := [allD fs, row bx 96 [.int .i64 most, .map (some fm), .map (some rm)], mapR fm ((fs.filter fun c => decide (c.prog ≠ p)).map cV), mapR rm ((rs.filter fun e => decide (e.1 ≠ p)).map rV)]) [3, 0, 1, 2] (by simp) rfl)).pick [1, 2, 3, 0] (by simp) rfl⟩
/-- The programs whose forms are kept, rising. -/
def progsL (L : List VC) : List Int := srt (L.map VC.prog)
theorem progs35 (bx fm rm : Nat) (most : Int) (fs : List CD) (rs : List (Int × Int)) (hk : OkC (fs.map CD.vc) 1000) (out : List Int) (hout : progsL (fs.map CD.vc) = out) (w : World) (h0 : Ok (domL (OCc bx fm rm most fs rs)) w (OCc bx fm rm most fs rs) w) :
    Calls Try.prog 35 #[.pointer (some ⟨bx, 0, none⟩)] w fun e w' => ∃ a : Option Addr × Nat, e = .returned (.slice a.1 out.length a.2) ∧ Ok (domL (OCc bx fm rm most fs rs)) w (ownd a.1 a.2 3 1 out.length (out.flatMap cI) :: OCc bx fm rm most fs rs) w' := by
  have hlen : fs.length ≤ 1000 := by have := hk.len; simpa using this
  have hm1 : (fs.map cV).map (·.1) = fs.map CD.prog := by rw [List.map_map]; rfl
  have hs : srt ((fs.map cV).map (·.1)) = out := by rw [hm1, ← hout]; unfold progsL; rw [List.map_map]; rfl
  have hol : out.length = (fs.map cV).length := by rw [← hs, srt_len, List.length_map]
  refine enter1 (S := domL (OCc bx fm rm most fs rs)) (H := [row bx 96 [.int .i64 most, .map (some fm), .map (some rm)], mapR fm (fs.map cV), mapR rm (rs.map rV), allD fs]) 9 Try.func35 rfl rfl rfl h0 ?_
  (repeat (first | ((refine (?_ : MX _ _ _ _ _ _ _ _ _ _ _)); first | refine mx_end ?_ | (refine mx_mv _ rfl rfl (by conv => {lhs; whnf}) ?_) | (refine mx_as _ rfl rfl (by conv => {lhs; whnf}) ?_) | ( refine mx_fa E rfl rfl rfl rfl ?_) | (refine g_load rfl ?_; refine mx_get E rfl rfl rfl rfl rfl (by rfl) rfl ?_ ) | (refine mx_nc rfl rfl rfl ?_) ) | refine cw_seq ?_ | refine cw_line rfl ?_ | refine pw_then ?_ ))
  refine g_cf 69 rfl ?_
  refine a_cn1 rfl rfl rfl rfl Try.func69 rfl rfl rfl (fun c : Nat => .func (.func 92) #[] #[.pointer (some ⟨c, 0, none⟩)]) (fun c => row c 93 [.map (some fm)]) (fun w' hw => keys69 fm w') (fun _ => rfl) (fun _ _ _ => trivial) (fun c => ?_)
  (repeat (first | ((refine (?_ : MX _ _ _ _ _ _ _ _ _ _ _)); first | refine mx_end ?_ | (refine mx_mv _ rfl rfl (by conv => {lhs; whnf}) ?_) | (refine mx_as _ rfl rfl (by conv => {lhs; whnf}) ?_) | (first | refine mx_fa0 E rfl rfl rfl rfl ?_ | refine mx_fa E rfl rfl rfl rfl ?_) | (refine g_load rfl ?_; first | refine mx_get E rfl rfl rfl rfl rfl (by first | assumption | rfl) rfl ?_ | refine mx_getn E rfl rfl rfl rfl rfl (by first | assumption | exact Vr.all rfl | exact ⟨⟨rfl⟩, rfl⟩) rfl ?_ | refine mx_oldn E rfl rfl rfl rfl rfl (by assumption) (by assumption) (rfl) rfl ?_ | refine mx_old1 E rfl rfl rfl rfl rfl (by assumption) (by assumption) rfl ?_ | refine mx_orow E rfl rfl rfl rfl rfl (by assumption) (by assumption) (by first | assumption | rfl) rfl ?_ | refine mx_orown E rfl rfl rfl rfl rfl (by assumption) (by assumption) (by first | assumption | exact Vr.all rfl | exact ⟨⟨rfl⟩, rfl⟩) rfl ?_ | refine mx_geta E rfl rfl rfl rfl rfl rfl (by first | assumption | rfl) rfl ?_ | refine mx_getna E rfl rfl rfl rfl rfl rfl (by first | assumption | exact Vr.all rfl | exact ⟨⟨rfl⟩, rfl⟩) rfl ?_) | (refine g_bin rfl ?_; first | (first | (refine mx_cmpl .eql rfl rfl rfl rfl rfl (by first | exact cmp_eq_t (by omega) | exact cmp_eq_f (by omega) | rfl) ?_) | (refine mx_cmpl .neq rfl rfl rfl rfl rfl (by first | exact cmp_ne_t (by omega) | exact cmp_ne_f (by omega) | rfl) ?_) | (refine mx_cmpl .lss rfl rfl rfl rfl rfl (by first | exact cmp_lt_t (by omega) | exact cmp_lt_f (by omega) | rfl) ?_) | (refine mx_cmpl .leq rfl rfl rfl rfl rfl (by first | exact cmp_le_t (by omega) | exact cmp_le_f (by omega) | rfl) ?_) | (refine mx_cmpl .gtr rfl rfl rfl rfl rfl (by first | exact cmp_gt_t (by omega) | exact cmp_gt_f (by omega) | rfl) ?_) | (refine mx_cmpl .geq rfl rfl rfl rfl rfl (by first | exact cmp_ge_t (by omega) | exact cmp_ge_f (by omega) | rfl) ?_)) | (first | refine mx_ar rfl rfl rfl rfl rfl rfl ((IntWalk.i64_in _ (by omega)).trans (by with_reducible assumption)) rfl ?_ | refine mx_ar rfl rfl rfl rfl rfl rfl (IntWalk.i64_in _ (by omega)) rfl ?_ | refine mx_ar rfl rfl rfl rfl rfl rfl (by with_reducible assumption) rfl ?_) | (first | refine mx_eqs rfl rfl rfl rfl rfl rfl ?_ | refine mx_nes rfl rfl rfl rfl rfl rfl ?_ | refine mx_eq rfl rfl rfl rfl rfl rfl ?_ | refine mx_ne rfl rfl rfl rfl rfl rfl ?_) | refine mx_bsame E rfl rfl rfl rfl rfl rfl rfl ?_ | refine mx_bnsame E rfl rfl rfl rfl rfl rfl rfl ?_ | refine mx_beq E rfl rfl rfl rfl rfl rfl rfl ?_ | refine mx_bne E rfl rfl rfl rfl rfl rfl rfl ?_ | refine mx_dv rfl rfl rfl rfl rfl (by decide) (congrArg some (by assumption)) rfl rfl ?_ | refine mx_dv rfl rfl rfl rfl rfl (by decide) rfl rfl rfl ?_ | refine mx_bit rfl rfl rfl rfl rfl (congrArg some (by assumption)) rfl rfl ?_ | refine mx_bit rfl rfl rfl rfl rfl rfl rfl rfl ?_ | refine mx_sh rfl rfl rfl rfl rfl (by omega) (congrArg some (by assumption)) rfl rfl ?_ | refine mx_sh rfl rfl rfl rfl rfl (by omega) rfl rfl rfl ?_) | (refine g_ix rfl ?_; first | refine mx_ixan E rfl rfl rfl rfl rfl rfl (by omega) rfl ?_ | refine mx_ixsn E rfl rfl rfl rfl rfl rfl (by omega) rfl ?_ | refine mx_ixsi E rfl rfl rfl rfl rfl rfl (by omega) (by omega) rfl ?_ | refine mx_ixa E rfl rfl rfl rfl rfl rfl (by omega) (by omega) rfl rfl ?_) | (refine mx_nc rfl rfl rfl ?_) | (refine g_bi .len rfl ?_; refine mx_len E rfl rfl rfl rfl ?_) | (refine mx_not rfl rfl rfl ?_) | (refine mx_ex _ rfl rfl rfl (by conv => {lhs; whnf}) ?_) | (refine mx_skip rfl rfl rfl ?_) | (refine g_pick rfl ?_; first | refine mx_andf rfl rfl rfl rfl rfl ?_ | refine mx_ort rfl rfl rfl rfl rfl ?_ | refine mx_and rfl rfl rfl rfl rfl rfl ?_ | refine mx_or rfl rfl rfl rfl rfl rfl ?_ | refine mx_pickt _ rfl rfl rfl rfl (by conv => {lhs; whnf}) rfl ?_ | refine mx_pickf _ rfl rfl rfl rfl (by conv => {lhs; whnf}) rfl ?_) | (refine g_store rfl ?_; first | refine s_l E rfl rfl rfl rfl rfl rfl rfl (by first | assumption | exact Sp.all rfl | exact Sp.lit rfl rfl) rfl ?_ | refine s_1 E rfl rfl rfl rfl rfl rfl rfl rfl (by first | assumption | exact sp0 | exact spS sp0 | exact spS (spS sp0) | exact Sp.lit rfl rfl) rfl ?_) | (refine g_build rfl ?_; first | refine mx_build rfl rfl rfl rfl (b96 _ _ _) rfl ?_) | (refine a_new rfl rfl rfl rfl rfl (fun _ => ?_)) | (refine g_box rfl ?_; first | refine a_boxl rfl rfl rfl rfl rfl rfl (fun _ => ?_) | refine a_box1 rfl rfl rfl rfl rfl rfl rfl (fun _ => ?_)) | (first | refine mx_indexn E rfl rfl rfl rfl rfl rfl rfl rfl (by omega) (by first | exact vr_RR _ (by omega)) rfl ?_ | refine mx_index E rfl rfl rfl rfl rfl rfl rfl rfl (by omega) (by omega) (by first | exact vr_RR _ (by omega)) rfl ?_) | (refine g_bs rfl ?_; first | refine a_bs0 E rfl rfl rfl rfl rfl rfl (fun _ => ?_) | refine a_bsi E rfl rfl rfl rfl rfl (by (repeat (first | exact EvI.nil | (apply EvI.cons; rfl)))) (by rfl) (by rfl) (by rfl) rfl (fun _ => ?_)) | (refine g_conv rfl ?_; first | refine mx_cv E rfl rfl rfl rfl rfl rfl (by assumption) rfl ?_ | refine mx_cv E rfl rfl rfl rfl rfl rfl (IntWalk.i64_in _ (by omega)) rfl ?_ | refine mx_cv E rfl rfl rfl rfl rfl rfl (IntWalk.u64_in _ (by omega)) rfl ?_ | refine mx_cv E rfl rfl rfl rfl rfl rfl (IntWalk.u8_in _ (by omega)) rfl ?_ | refine mx_cv E rfl rfl rfl rfl rfl rfl rfl rfl ?_) | (first | (refine g_bi .max rfl ?_; refine mx_maxi rfl rfl rfl rfl rfl rfl rfl ?_) | (refine g_bi .min rfl ?_; refine mx_mini rfl rfl rfl rfl rfl rfl rfl ?_)) | (first | refine mx_look mt93 rfl rfl rfl rfl rfl (by with_reducible assumption) rfl ?_ | refine mx_look1 mt94 rfl rfl rfl rfl rfl (by with_reducible assumption) rfl ?_ | refine mx_fn rfl rfl rfl rfl rfl rfl ?_) | (fail)) | refine cw_seq ?_ | refine cw_line rfl ?_ | (fail) | refine cw_block ?_ | refine cw_cond_f rfl ?_ | refine cw_cond_t rfl ?_ | refine cw_skip ?_ | refine cw_exit ?_ | refine cw_ret ?_ | refine pw_then ?_ | refine pw_then_x ?_ | refine pw_then_r ?_ | refine pw_block ?_ | refine pw_block_e ?_ | refine pw_block_n rfl ?_ | refine pw_block_r ?_))
  refine g_cf 68 rfl ?_
  refine a_cn1 rfl rfl rfl rfl Try.func68 rfl rfl rfl (fun a : Option Addr × Nat => .slice a.1 out.length a.2) (fun a => ownd a.1 a.2 3 1 out.length (out.flatMap cI)) (fun w' hw => (by
    have h := sorted68 c fm (fs.map cV) (by rw [hm1]; exact nd_prog hk) (fun q hq => by obtain ⟨x, hx, rfl⟩ := List.mem_map.1 hq; exact hk.wf x.vc (List.mem_map.2 ⟨x, hx, rfl⟩)) (by rw [List.length_map]; omega) w' (hw.holds 0 _ rfl) (hw.holds 2 _ rfl)
    rw [hs, ← hol] at h
    exact h)) (fun _ => rfl) (fun _ _ _ => trivial) (fun a => ?_)
  (repeat (first | ((refine (?_ : MX _ _ _ _ _ _ _ _ _ _ _)); first | refine mx_end ?_ | (refine mx_as _ rfl rfl (by conv => {lhs; whnf}) ?_) ) | refine cw_ret ?_ | refine pw_then ?_ ))
  exact pw_ret rfl rfl rfl rfl fun w' hw => ⟨a, rfl, hw.pick [0, 2, 3, 4, 5] (by simp) rfl⟩
theorem find_of {p : Int} {c : CD} {fs : List CD} (hn : (fs.map CD.prog).Nodup) (hc : c ∈ fs) (hp : c.prog = p) : getV p (fs.map CD.vc) = c.vc := by
  unfold getV
  have : (fs.map CD.vc).find? (fun v => decide (v.prog = p)) = some c.vc := by
    induction fs with
    | nil => cases hc
    | cons x fs ih =>
      have hn' := List.nodup_cons.1 hn
      rw [List.map_cons, List.find?_cons]
      rcases List.mem_cons.1 hc with rfl | hc'
      · rw [decide_eq_true (show c.vc.prog = p from hp)]
      · have hx : x.vc.prog ≠ p := fun e => hn'.1 (List.mem_map.2 ⟨c, hc', hp.trans e.symm⟩)
        rw [decide_eq_false hx]
        exact ih hn'.2 hc'
  rw [this]
  rfl
theorem find_no {p : Int} {fs : List CD} (h : ∀ c ∈ fs, c.prog ≠ p) : getV p (fs.map CD.vc) = zeroV := by
  unfold getV
  have : (fs.map CD.vc).find? (fun v => decide (v.prog = p)) = none := List.find?_eq_none.2 fun v hv => by
    obtain ⟨c, hc, rfl⟩ := List.mem_map.1 hv
    simp only [decide_eq_true_eq]
    exact h c hc
  rw [this]
  rfl
theorem rd_zero (w : World) : RdD w zeroC := ⟨fun h => absurd rfl h, fun x hx => (by cases hx), fun h => absurd rfl h, fun h => absurd rfl h, fun x hx => (by cases hx)⟩
theorem get43 (bx fm rm : Nat) (most : Int) (fs : List CD) (rs : List (Int × Int)) (hk : OkC (fs.map CD.vc) 1000) (p : Int) (w : World) (h0 : Ok (domL (OCc bx fm rm most fs rs)) w (OCc bx fm rm most fs rs) w) :
    Calls Try.prog 43 #[.pointer (some ⟨bx, 0, none⟩), .int .i64 p] w fun e w' => ∃ a : {a : CD // a.vc = getV p (fs.map CD.vc)}, e = .returned (.tuple #[.agg (cCD a.1).toArray, .bool (hasV p (fs.map CD.vc))]) ∧ Ok (domL (OCc bx fm rm most fs rs)) w (OCd a.1 ++ OCc bx fm rm most fs rs) w' := by
  refine enter2 (S := domL (OCc bx fm rm most fs rs)) (H := [row bx 96 [.int .i64 most, .map (some fm), .map (some rm)], mapR fm (fs.map cV), mapR rm (rs.map rV), allD fs]) 20 Try.func43 rfl rfl rfl h0 ?_
  cases hf : fnd p (fs.map cV) 0 with
  | none =>
    obtain ⟨hlk, hh, hno⟩ := look_none hf
    rw [hh, find_no hno]
    (repeat (first | ((refine (?_ : MX _ _ _ _ _ _ _ _ _ _ _)); first | refine mx_end ?_ | (refine mx_mv _ rfl rfl (by conv => {lhs; whnf}) ?_) | (refine mx_as _ rfl rfl (by conv => {lhs; whnf}) ?_) | ( refine mx_fa E rfl rfl rfl rfl ?_) | (refine g_load rfl ?_; first | refine mx_get E rfl rfl rfl rfl rfl (by rfl) rfl ?_ | refine mx_getn E rfl rfl rfl rfl rfl (by exact Vr.all rfl ) rfl ?_ ) | (refine mx_nc rfl rfl rfl ?_) | (refine mx_ex _ rfl rfl rfl (by conv => {lhs; whnf}) ?_) | (refine g_store rfl ?_; refine s_l E rfl rfl rfl rfl rfl rfl rfl (by exact Sp.all rfl ) rfl ?_ ) | (refine a_new rfl rfl rfl rfl rfl (fun _ => ?_)) | (refine mx_look mt93 rfl rfl rfl rfl rfl (by with_reducible assumption) rfl ?_ ) ) | refine cw_seq ?_ | refine cw_line rfl ?_ | refine pw_then ?_ ))
    refine g_cf 64 rfl ?_
    refine a_callL rfl rfl rfl rfl Try.func64 rfl rfl rfl [] _ rfl (fun a : {a : CD // a.vc = zeroC.vc} => .agg (cCD a.1).toArray) (fun a => OCd a.1) (fun w' hw _ => clone64 zeroC (by simp) w' (rd_zero w')) (fun _ => rfl) (fun _ _ _ => trivial) (fun qa => ?_)
    obtain ⟨a, ha⟩ := qa
    unfold OCd
    dsimp only [List.cons_append, List.nil_append]
    (repeat (first | ((refine (?_ : MX _ _ _ _ _ _ _ _ _ _ _)); first | refine mx_end ?_ | (refine mx_mv _ rfl rfl (by conv => {lhs; whnf}) ?_) | (refine mx_as _ rfl rfl (by conv => {lhs; whnf}) ?_) | (refine g_store rfl ?_; refine s_l E rfl rfl rfl rfl rfl rfl rfl (by exact Sp.all rfl ) rfl ?_ ) ) | refine cw_ret ?_ | refine pw_then ?_ ))
    exact pw_retcs E (j := 6) rfl rfl rfl rfl rfl rfl rfl fun w' hw => ⟨⟨a, ha⟩, rfl, hw.pick [0, 1, 2, 3, 4, 7, 8, 9, 10] (by simp) rfl⟩
  | some qv =>
    obtain ⟨j, v0⟩ := qv
    obtain ⟨c, hc, hcp, hlk, hh⟩ := look_some hf
    rw [hh, find_of (nd_prog hk) hc hcp]
    have hok := hk.ok c.vc (List.mem_map.2 ⟨c, hc, rfl⟩)
    (repeat (first | ((refine (?_ : MX _ _ _ _ _ _ _ _ _ _ _)); first | refine mx_end ?_ | (refine mx_mv _ rfl rfl (by conv => {lhs; whnf}) ?_) | (refine mx_as _ rfl rfl (by conv => {lhs; whnf}) ?_) | ( refine mx_fa E rfl rfl rfl rfl ?_) | (refine g_load rfl ?_; first | refine mx_get E rfl rfl rfl rfl rfl (by rfl) rfl ?_ | refine mx_getn E rfl rfl rfl rfl rfl (by exact Vr.all rfl ) rfl ?_ ) | (refine mx_nc rfl rfl rfl ?_) | (refine mx_ex _ rfl rfl rfl (by conv => {lhs; whnf}) ?_) | (refine g_store rfl ?_; refine s_l E rfl rfl rfl rfl rfl rfl rfl (by exact Sp.all rfl ) rfl ?_ ) | (refine a_new rfl rfl rfl rfl rfl (fun _ => ?_)) | (refine mx_look mt93 rfl rfl rfl rfl rfl (by with_reducible assumption) rfl ?_ ) ) | refine cw_seq ?_ | refine cw_line rfl ?_ | refine pw_then ?_ ))
    refine g_cf 64 rfl ?_
    refine a_callL rfl rfl rfl rfl Try.func64 rfl rfl rfl [] _ rfl (fun a : {a : CD // a.vc = c.vc} => .agg (cCD a.1).toArray) (fun a => OCd a.1) (fun w' hw _ => clone64 c ⟨by have := hok.o; rw [show c.vc.ops.length = c.ops.length from List.length_map ..] at this; exact this, hok.t, by have := hok.e; rw [show c.vc.evs.length = c.evs.length from List.length_map ..] at this; exact this⟩ w' (rd_all (hw.holds 5 _ rfl) hc hok)) (fun _ => rfl) (fun _ _ _ => trivial) (fun qa => ?_)
    obtain ⟨a, ha⟩ := qa
    unfold OCd
    dsimp only [List.cons_append, List.nil_append]
    (repeat (first | ((refine (?_ : MX _ _ _ _ _ _ _ _ _ _ _)); first | refine mx_end ?_ | (refine mx_mv _ rfl rfl (by conv => {lhs; whnf}) ?_) | (refine mx_as _ rfl rfl (by conv => {lhs; whnf}) ?_) | (refine g_store rfl ?_; refine s_l E rfl rfl rfl rfl rfl rfl rfl (by exact Sp.all rfl ) rfl ?_ ) ) | refine cw_ret ?_ | refine pw_then ?_ ))
    exact pw_retcs E (j := 6) rfl rfl rfl rfl rfl rfl rfl fun w' hw => ⟨⟨a, ha⟩, rfl, hw.pick [0, 1, 2, 3, 4, 7, 8, 9, 10] (by simp) rfl⟩
end Go.Proofs.Ytikdbgheefjpkaa
