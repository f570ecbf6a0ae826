/- Whatever the input, the law LruGoes returns true, and each argument reads afterwards as it read before. -/
import Derived.Test.YtminmbkhlnaabaaRows
import Derived.Test.YtminmbkhlnaabaaLLruGoes
import Derived.Test.YtminmbkhlnaabaaOpU
import Derived.Test.YtminmbkhlnaabaaOpen
set_option linter.unusedVariables false
namespace Go.Proofs.Ytminmbkhlnaabaa
open Go Go.Sx Go.ChangeShapes Go.WideShapes Go.ChangeAt Go.RowKit
theorem own0LruGoes : ownKnob Try.prog.godebug = none := by kernel_rfl
theorem laidLruGoes : laidOutB Try.prog = true := by kernel_rfl
set_option maxRecDepth 100000 in
theorem liftedLruGoes (os : Os) (started : os.Started) (H : Type) (enc : TypeId × Value → H) :
    ReturnsInHanded {} Try.checked os 3 .any (Rows.lruGoesSpec.pre6 enc Try.prog Try.f3 Rows.lruGoesRow.domain false) (Rows.lruGoesSpec.post enc Try.prog Try.f3 false true false false) := by
  refine returnsInHanded_of_change (C := Try.checked) own0LruGoes started (by kernel_rfl) Try.func3
    (witnessL (enc := enc) (C := Try.checked) false ⟨#[], #[.int .i64 0, .slice none 0 0, .int .u8 0], []⟩ 12 (by kernel_rfl) (by kernel_rfl) (by kernel_rfl) (by kernel_rfl) (by kernel_rfl)) ?_
  intro W base args ds gs before hval0 hW hcnd _
  have hval : ∀ (j : Nat) t v, Try.f3.params[j]? = some t → args[j]? = some v → Value.okWide Try.prog W .any base t v := hval0
  have hW' := hW
  obtain ⟨p, q, hA0, hV, rfl, hfz, hnd⟩ := hW
  have hA : DataW.TrodAll enc Try.prog W 0 (fun _ => true) true Try.f3.params.toList args.toList ds p := hA0
  have hpar : Try.f3.params = #[3, 22, 5] := by kernel_rfl
  rw [hpar] at hA hval
  obtain ⟨v0, vs0, d0, ds0, p0, q0, hargs, rfl, rfl, h0, r0⟩ := trodAll_cons hA
  obtain ⟨v1, vs1, d1, ds1, p1, q1, rfl, rfl, rfl, h1, r1⟩ := trodAll_cons r0
  obtain ⟨v2, vs2, d2, ds2, p2, q2, rfl, rfl, rfl, h2, r2⟩ := trodAll_cons r1
  obtain ⟨rfl, rfl, rfl⟩ := trodAll_nil r2
  obtain rfl : args = #[v0, v1, v2] := by cases args; simp_all
  obtain ⟨rfl, rfl⟩ := trodVars_none hV
  have k0 := h0
  have lt0 : ∀ x ∈ p0, x.block < W.heap.size := by obtain ⟨m, hm⟩ := k0; exact DataW.trod_lt m _ _ _ hm
  have k1 := h1
  have lt1 : ∀ x ∈ p1, x.block < W.heap.size := by obtain ⟨m, hm⟩ := k1; exact DataW.trod_lt m _ _ _ hm
  have k2 := h2
  have lt2 : ∀ x ∈ p2, x.block < W.heap.size := by obtain ⟨m, hm⟩ := k2; exact DataW.trod_lt m _ _ _ hm
  obtain ⟨a0, rfl, rfl, rfl, w0⟩ := open_int (k := .i64) (by kernel_rfl) (hval 0 3 v0 rfl rfl) h0
  have wa0 : -9223372036854775808 ≤ a0 ∧ a0 ≤ 9223372036854775807 := by have e5 : IntKind.i64.min = -9223372036854775808 := rfl; have e6 : IntKind.i64.max = 9223372036854775807 := rfl; have h' := w0; simp [Lit.wf, e5, e6] at h'; omega
  obtain ⟨ad1, cap1, a1, rfl, hc1, hm1, hl1, hp1⟩ := open_list (c := cU) (p := fun a => 0 ≤ a ∧ a < 256) (t := 22) (e := 5) (z := 1) (by kernel_rfl) (by kernel_rfl) (by omega) open_byte (hval 1 22 v1 rfl rfl) h1
  obtain ⟨a2, rfl, rfl, rfl, w2⟩ := open_int (k := .u8) (by kernel_rfl) (hval 2 5 v2 rfl rfl) h2
  have wa2 : 0 ≤ a2 ∧ a2 < 256 := by have e5 : IntKind.u8.min = 0 := rfl; have e6 : IntKind.u8.max = 255 := rfl; have h' := w2; simp [Lit.wf, e5, e6] at h'; omega
  clear hA0 hval0
  refine (lawLruGoes a0 wa0.1 wa0.2 ad1 cap1 a1 hp1 a2 wa2 W hl1 hc1 hm1).mono fun e W' ⟨he, bel⟩ => ?_
  subst he
  exact ⟨_, rfl, _, _, _, [], _, [], hW', trodAll_mk1 (shut_bool (by kernel_rfl) _), (trodAll_cons_mk (Below.trod laidLruGoes (by kernel_rfl) (of_decide_eq_true (by kernel_rfl)) k0 bel lt0) (trodAll_cons_mk (Below.trod laidLruGoes (by kernel_rfl) (of_decide_eq_true (by kernel_rfl)) k1 bel lt1) (trodAll_cons_mk (Below.trod laidLruGoes (by kernel_rfl) (of_decide_eq_true (by kernel_rfl)) k2 bel lt2) trodAll_mk0))), rfl, bel.frame _, fun h => by cases h⟩
theorem overLruGoes : Rows.lruGoesRow.holds Try.pinned (OpenSpec.ofChange Rows.lruGoesSpec) :=
  OpenClaim.holds_of_wide 3 Try.f3 rfl rfl rfl rfl rfl rfl rfl ⟨rfl, rfl, rfl, rfl, rfl⟩ rfl rfl rfl rfl rfl (by kernel_rfl) Try.func3 (by kernel_rfl)
    (of_decide_eq_true (by kernel_rfl)) (by unfold Func.isWrapper; first | (rw [if_pos (by decide +kernel)]; kernel_rfl) | (rw [if_neg (by decide +kernel)]; exact ⟨rfl, rfl⟩))
    (fun os started H enc _ => liftedLruGoes os started H enc)
theorem lruGoes_holds : Rows.LruGoesSaid := overLruGoes
#print axioms lruGoes_holds
end Go.Proofs.Ytminmbkhlnaabaa
