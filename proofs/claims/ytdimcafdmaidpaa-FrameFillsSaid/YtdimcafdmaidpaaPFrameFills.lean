/- Whatever the input, the law FrameFills returns true, and each argument reads afterwards as it read before. -/
import Derived.Test.YtdimcafdmaidpaaRows
import Derived.Test.YtdimcafdmaidpaaLFrameFills
import Derived.Test.YtdimcafdmaidpaaOpen
set_option linter.unusedVariables false
namespace Go.Proofs.Ytdimcafdmaidpaa
open Go Go.Sx Go.ChangeShapes Go.WideShapes Go.ChangeAt Go.RowKit
theorem own0FrameFills : ownKnob Try.prog.godebug = none := by kernel_rfl
theorem laidFrameFills : laidOutB Try.prog = true := by kernel_rfl
set_option maxRecDepth 100000 in
theorem liftedFrameFills (os : Os) (started : os.Started) (H : Type) (enc : TypeId × Value → H) :
    ReturnsInHanded {} Try.checked os 4 .any (Rows.frameFillsSpec.pre6 enc Try.prog Try.f4 Rows.frameFillsRow.domain false) (Rows.frameFillsSpec.post enc Try.prog Try.f4 false true false false) := by
  refine returnsInHanded_of_change (C := Try.checked) own0FrameFills started (by kernel_rfl) Try.func4
    (witnessL (enc := enc) (C := Try.checked) false ⟨#[], #[.agg zF.toArray, .slice none 0 0], []⟩ 12 (by kernel_rfl) (by kernel_rfl) (by kernel_rfl) (by kernel_rfl) (by kernel_rfl)) ?_
  intro W base args ds gs before hval0 hW hcnd _
  have hval : ∀ (j : Nat) t v, Try.f4.params[j]? = some t → args[j]? = some v → Value.okWide Try.prog W .any base t v := hval0
  have hW' := hW
  obtain ⟨p, q, hA0, hV, rfl, hfz, hnd⟩ := hW
  have hA : DataW.TrodAll enc Try.prog W 0 (fun _ => true) true Try.f4.params.toList args.toList ds p := hA0
  have hpar : Try.f4.params = #[31, 35] := by kernel_rfl
  rw [hpar] at hA hval
  obtain ⟨v0, vs0, d0, ds0, p0, q0, hargs, rfl, rfl, h0, r0⟩ := trodAll_cons hA
  obtain ⟨v1, vs1, d1, ds1, p1, q1, rfl, rfl, rfl, h1, r1⟩ := trodAll_cons r0
  obtain ⟨rfl, rfl, rfl⟩ := trodAll_nil r1
  obtain rfl : args = #[v0, v1] := by cases args; simp_all
  obtain ⟨rfl, rfl⟩ := trodVars_none hV
  have k0 := h0
  have lt0 : ∀ x ∈ p0, x.block < W.heap.size := by obtain ⟨m, hm⟩ := k0; exact DataW.trod_lt m _ _ _ hm
  have k1 := h1
  have lt1 : ∀ x ∈ p1, x.block < W.heap.size := by obtain ⟨m, hm⟩ := k1; exact DataW.trod_lt m _ _ _ hm
  obtain ⟨c0, rfl, fw0⟩ := open_flat (FlatT.flat (P := Try.prog) (t := 31)) (hval 0 31 v0 rfl rfl) h0
  obtain ⟨a0, rfl⟩ := of_F c0 fw0.1
  obtain ⟨ad1, cap1, a1, rfl, hc1, hm1, hl1, hw1⟩ := open_in (c := cL) of_L (t := 35) (e := 39) (z := 2) (by kernel_rfl) (FlatT.flat (P := Try.prog) (t := 39)).flat (by kernel_rfl) (by omega) (hval 1 35 v1 rfl rfl) h1
  clear hA0 hval0
  refine (lawFrameFills a0 ad1 cap1 a1 W hl1 hm1 hc1).mono fun e W' ⟨he, bel⟩ => ?_
  subst he
  exact ⟨_, rfl, _, _, _, [], _, [], hW', trodAll_mk1 (shut_bool (by kernel_rfl) _), (trodAll_cons_mk (Below.trod laidFrameFills (by kernel_rfl) (of_decide_eq_true (by kernel_rfl)) k0 bel lt0) (trodAll_cons_mk (Below.trod laidFrameFills (by kernel_rfl) (of_decide_eq_true (by kernel_rfl)) k1 bel lt1) trodAll_mk0)), rfl, bel.frame _, fun h => by cases h⟩
theorem overFrameFills : Rows.frameFillsRow.holds Try.pinned (OpenSpec.ofChange Rows.frameFillsSpec) :=
  OpenClaim.holds_of_wide 4 Try.f4 rfl rfl rfl rfl rfl rfl rfl ⟨rfl, rfl, rfl, rfl, rfl⟩ rfl rfl rfl rfl rfl (by kernel_rfl) Try.func4 (by kernel_rfl)
    (of_decide_eq_true (by kernel_rfl)) (by unfold Func.isWrapper; first | (rw [if_pos (by decide +kernel)]; kernel_rfl) | (rw [if_neg (by decide +kernel)]; exact ⟨rfl, rfl⟩))
    (fun os started H enc _ => liftedFrameFills os started H enc)
theorem frameFills_holds : Rows.FrameFillsSaid := overFrameFills
#print axioms frameFills_holds
end Go.Proofs.Ytdimcafdmaidpaa
