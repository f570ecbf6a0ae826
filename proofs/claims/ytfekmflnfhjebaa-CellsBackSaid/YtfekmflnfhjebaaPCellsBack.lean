/- Whatever the input, the law CellsBack returns true, and each argument reads afterwards as it read before. -/
import Derived.Test.YtfekmflnfhjebaaRows
import Derived.Test.YtfekmflnfhjebaaLCellsBack
import Derived.Test.YtfekmflnfhjebaaOpU
import Derived.Test.YtfekmflnfhjebaaOpen
set_option linter.unusedVariables false
namespace Go.Proofs.Ytfekmflnfhjebaa
open Go Go.Sx Go.ChangeShapes Go.WideShapes Go.ChangeAt Go.RowKit
theorem own0CellsBack : ownKnob Try.prog.godebug = none := by kernel_rfl
theorem laidCellsBack : laidOutB Try.prog = true := by kernel_rfl
set_option maxRecDepth 100000 in
theorem liftedCellsBack (os : Os) (started : os.Started) (H : Type) (enc : TypeId × Value → H) :
    ReturnsInHanded {} Try.checked os 10 .any (Rows.cellsBackSpec.pre6 enc Try.prog Try.f10 Rows.cellsBackRow.domain false) (Rows.cellsBackSpec.post enc Try.prog Try.f10 false true false false) := by
  refine returnsInHanded_of_change (C := Try.checked) own0CellsBack started (by kernel_rfl) Try.func10
    (witnessL (enc := enc) (C := Try.checked) false ⟨#[], #[.slice none 0 0, .int .i64 0, .int .i64 0, .int .u64 0], []⟩ 12 (by kernel_rfl) (by kernel_rfl) (by kernel_rfl) (by kernel_rfl) (by kernel_rfl)) ?_
  intro W base args ds gs before hval0 hW hcnd _
  have hval : ∀ (j : Nat) t v, Try.f10.params[j]? = some t → args[j]? = some v → Value.okWide Try.prog W .any base t v := hval0
  have hW' := hW
  obtain ⟨p, q, hA0, hV, rfl, hfz, hnd⟩ := hW
  have hA : DataW.TrodAll enc Try.prog W 0 (fun _ => true) true Try.f10.params.toList args.toList ds p := hA0
  have hpar : Try.f10.params = #[54, 3, 3, 61] := by kernel_rfl
  rw [hpar] at hA hval
  obtain ⟨v0, vs0, d0, ds0, p0, q0, hargs, rfl, rfl, h0, r0⟩ := trodAll_cons hA
  obtain ⟨v1, vs1, d1, ds1, p1, q1, rfl, rfl, rfl, h1, r1⟩ := trodAll_cons r0
  obtain ⟨v2, vs2, d2, ds2, p2, q2, rfl, rfl, rfl, h2, r2⟩ := trodAll_cons r1
  obtain ⟨v3, vs3, d3, ds3, p3, q3, rfl, rfl, rfl, h3, r3⟩ := trodAll_cons r2
  obtain ⟨rfl, rfl, rfl⟩ := trodAll_nil r3
  obtain rfl : args = #[v0, v1, v2, v3] := by cases args; simp_all
  obtain ⟨rfl, rfl⟩ := trodVars_none hV
  have k0 := h0
  have lt0 : ∀ x ∈ p0, x.block < W.heap.size := by obtain ⟨m, hm⟩ := k0; exact DataW.trod_lt m _ _ _ hm
  have k1 := h1
  have lt1 : ∀ x ∈ p1, x.block < W.heap.size := by obtain ⟨m, hm⟩ := k1; exact DataW.trod_lt m _ _ _ hm
  have k2 := h2
  have lt2 : ∀ x ∈ p2, x.block < W.heap.size := by obtain ⟨m, hm⟩ := k2; exact DataW.trod_lt m _ _ _ hm
  have k3 := h3
  have lt3 : ∀ x ∈ p3, x.block < W.heap.size := by obtain ⟨m, hm⟩ := k3; exact DataW.trod_lt m _ _ _ hm
  obtain ⟨ad0, cap0, a0, rfl, hc0, hm0, hl0, hp0⟩ := open_list (c := cU) (p := fun a => 0 ≤ a ∧ a < 256) (t := 54) (e := 5) (z := 1) (by kernel_rfl) (by kernel_rfl) (by omega) open_byte (hval 0 54 v0 rfl rfl) h0
  obtain ⟨a1, rfl, rfl, rfl, w1⟩ := open_int (k := .i64) (by kernel_rfl) (hval 1 3 v1 rfl rfl) h1
  have wa1 : -9223372036854775808 ≤ a1 ∧ a1 ≤ 9223372036854775807 := by have e5 : IntKind.i64.min = -9223372036854775808 := rfl; have e6 : IntKind.i64.max = 9223372036854775807 := rfl; have h' := w1; simp [Lit.wf, e5, e6] at h'; omega
  obtain ⟨a2, rfl, rfl, rfl, w2⟩ := open_int (k := .i64) (by kernel_rfl) (hval 2 3 v2 rfl rfl) h2
  have wa2 : -9223372036854775808 ≤ a2 ∧ a2 ≤ 9223372036854775807 := by have e5 : IntKind.i64.min = -9223372036854775808 := rfl; have e6 : IntKind.i64.max = 9223372036854775807 := rfl; have h' := w2; simp [Lit.wf, e5, e6] at h'; omega
  obtain ⟨a3, rfl, rfl, rfl, w3⟩ := open_int (k := .u64) (by kernel_rfl) (hval 3 61 v3 rfl rfl) h3
  have wa3 : 0 ≤ a3 ∧ a3 < 18446744073709551616 := by have e5 : IntKind.u64.min = 0 := rfl; have e6 : IntKind.u64.max = 18446744073709551615 := rfl; have h' := w3; simp [Lit.wf, e5, e6] at h'; omega
  clear hA0 hval0
  refine (lawCellsBack ad0 cap0 a0 a1 a2 a3 hp0 ⟨wa1.1, by omega⟩ ⟨wa2.1, by omega⟩ wa3 hc0 W hl0).mono fun e W' ⟨he, bel⟩ => ?_
  subst he
  exact ⟨_, rfl, _, _, _, [], _, [], hW', trodAll_mk1 (shut_bool (by kernel_rfl) _), (trodAll_cons_mk (Below.trod laidCellsBack (by kernel_rfl) (of_decide_eq_true (by kernel_rfl)) k0 bel lt0) (trodAll_cons_mk (Below.trod laidCellsBack (by kernel_rfl) (of_decide_eq_true (by kernel_rfl)) k1 bel lt1) (trodAll_cons_mk (Below.trod laidCellsBack (by kernel_rfl) (of_decide_eq_true (by kernel_rfl)) k2 bel lt2) (trodAll_cons_mk (Below.trod laidCellsBack (by kernel_rfl) (of_decide_eq_true (by kernel_rfl)) k3 bel lt3) trodAll_mk0)))), rfl, bel.frame _, fun h => by cases h⟩
theorem overCellsBack : Rows.cellsBackRow.holds Try.pinned (OpenSpec.ofChange Rows.cellsBackSpec) :=
  OpenClaim.holds_of_wide 10 Try.f10 rfl rfl rfl rfl rfl rfl rfl ⟨rfl, rfl, rfl, rfl, rfl⟩ rfl rfl rfl rfl rfl (by kernel_rfl) Try.func10 (by kernel_rfl)
    (of_decide_eq_true (by kernel_rfl)) (by unfold Func.isWrapper; first | (rw [if_pos (by decide +kernel)]; kernel_rfl) | (rw [if_neg (by decide +kernel)]; exact ⟨rfl, rfl⟩))
    (fun os started H enc _ => liftedCellsBack os started H enc)
theorem cellsBack_holds : Rows.CellsBackSaid := overCellsBack
#print axioms cellsBack_holds
end Go.Proofs.Ytfekmflnfhjebaa
