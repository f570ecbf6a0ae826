/- Whatever the input, the law MemStacks returns true, and each argument reads afterwards as it read before. -/
import Derived.Test.YtdimcafdmaidpaaRows
import Derived.Test.YtdimcafdmaidpaaLMemStacks
import Derived.Test.YtdimcafdmaidpaaOpA
import Derived.Test.YtdimcafdmaidpaaOpen
set_option linter.unusedVariables false
namespace Go.Proofs.Ytdimcafdmaidpaa
open Go Go.Sx Go.ChangeShapes Go.WideShapes Go.ChangeAt Go.RowKit
theorem own0MemStacks : ownKnob Try.prog.godebug = none := by kernel_rfl
theorem laidMemStacks : laidOutB Try.prog = true := by kernel_rfl
set_option maxRecDepth 100000 in
theorem liftedMemStacks (os : Os) (started : os.Started) (H : Type) (enc : TypeId × Value → H) :
    ReturnsInHanded {} Try.checked os 9 .any (Rows.memStacksSpec.pre6 enc Try.prog Try.f9 Rows.memStacksRow.domain false) (Rows.memStacksSpec.post enc Try.prog Try.f9 false true false false) := by
  refine returnsInHanded_of_change (C := Try.checked) own0MemStacks started (by kernel_rfl) Try.func9
    (witnessL (enc := enc) (C := Try.checked) false ⟨#[], #[.agg zF.toArray, .slice none 0 0], []⟩ 12 (by kernel_rfl) (by kernel_rfl) (by kernel_rfl) (by kernel_rfl) (by kernel_rfl)) ?_
  intro W base args ds gs before hval0 hW hcnd _
  have hval : ∀ (j : Nat) t v, Try.f9.params[j]? = some t → args[j]? = some v → Value.okWide Try.prog W .any base t v := hval0
  have hW' := hW
  obtain ⟨p, q, hA0, hV, rfl, hfz, hnd⟩ := hW
  have hA : DataW.TrodAll enc Try.prog W 0 (fun _ => true) true Try.f9.params.toList args.toList ds p := hA0
  have hpar : Try.f9.params = #[31, 57] := by kernel_rfl
  rw [hpar] at hA hval
  obtain ⟨v0, vs0, d0, ds0, p0, q0, hargs, rfl, rfl, h0, r0⟩ := trodAll_cons hA
  obtain ⟨v1, vs1, d1, ds1, p1, q1, rfl, rfl, rfl, h1, r1⟩ := trodAll_cons r0
  obtain ⟨rfl, rfl, rfl⟩ := trodAll_nil r1
  obtain rfl : args = #[v0, v1] := by cases args; simp_all
  obtain ⟨rfl, rfl⟩ := trodVars_none hV
  have k0 := h0
  have lt0 : ∀ x ∈ p0, x.block < W.heap.size := by obtain ⟨m, hm⟩ := k0; exact DataW.trod_lt m _ _ _ hm
  have k1 := h1
  have lt1 : ∀ x ∈ p1, x.block < W.heap.size := by obtain ⟨m, hm⟩ := k1; exact DataW.trod_lt m _ _ _ hm
  obtain ⟨c0, rfl, fw0⟩ := open_flat (FlatT.flat (P := Try.prog) (t := 31)) (hval 0 31 v0 rfl rfl) h0
  obtain ⟨a0, rfl⟩ := of_F c0 fw0.1
  obtain ⟨ad1, cap1, a1, rfl, hc1, hm1, hl1, hp1⟩ := open_list (c := cA) (p := actP W) (t := 57) (e := 60) (z := 8) (by kernel_rfl) (by kernel_rfl) (by omega) open_act (hval 1 57 v1 rfl rfl) h1
  clear hA0 hval0
  refine (lawMemStacks a0 (frok_of fw0.2) ad1 cap1 a1 W hl1 hc1 hm1 hp1).mono fun e W' ⟨he, bel⟩ => ?_
  subst he
  exact ⟨_, rfl, _, _, _, [], _, [], hW', trodAll_mk1 (shut_bool (by kernel_rfl) _), (trodAll_cons_mk (Below.trod laidMemStacks (by kernel_rfl) (of_decide_eq_true (by kernel_rfl)) k0 bel lt0) (trodAll_cons_mk (Below.trod laidMemStacks (by kernel_rfl) (of_decide_eq_true (by kernel_rfl)) k1 bel lt1) trodAll_mk0)), rfl, bel.frame _, fun h => by cases h⟩
theorem overMemStacks : Rows.memStacksRow.holds Try.pinned (OpenSpec.ofChange Rows.memStacksSpec) :=
  OpenClaim.holds_of_wide 9 Try.f9 rfl rfl rfl rfl rfl rfl rfl ⟨rfl, rfl, rfl, rfl, rfl⟩ rfl rfl rfl rfl rfl (by kernel_rfl) Try.func9 (by kernel_rfl)
    (of_decide_eq_true (by kernel_rfl)) (by unfold Func.isWrapper; first | (rw [if_pos (by decide +kernel)]; kernel_rfl) | (rw [if_neg (by decide +kernel)]; exact ⟨rfl, rfl⟩))
    (fun os started H enc _ => liftedMemStacks os started H enc)
theorem memStacks_holds : Rows.MemStacksSaid := overMemStacks
#print axioms memStacks_holds
end Go.Proofs.Ytdimcafdmaidpaa
