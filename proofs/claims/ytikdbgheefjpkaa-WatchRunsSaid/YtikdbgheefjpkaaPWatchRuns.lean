/- Whatever the input, the law WatchRuns returns true, and each argument reads afterwards as it read before. -/
import Derived.Test.YtikdbgheefjpkaaRows
import Derived.Test.YtikdbgheefjpkaaLWatchRuns
import Derived.Test.YtikdbgheefjpkaaOpW
import Derived.Test.YtikdbgheefjpkaaOpen
set_option linter.unusedVariables false
namespace Go.Proofs.Ytikdbgheefjpkaa
open Go Go.Sx Go.ChangeShapes Go.WideShapes Go.ChangeAt Go.RowKit
theorem own0WatchRuns : ownKnob Try.prog.godebug = none := by kernel_rfl
theorem laidWatchRuns : laidOutB Try.prog = true := by kernel_rfl
set_option maxRecDepth 100000 in
theorem liftedWatchRuns (os : Os) (started : os.Started) (H : Type) (enc : TypeId × Value → H) :
    ReturnsInHanded {} Try.checked os 3 .any (Rows.watchRunsSpec.pre6 enc Try.prog Try.f3 Rows.watchRunsRow.domain false) (Rows.watchRunsSpec.post enc Try.prog Try.f3 false true false false) := by
  refine returnsInHanded_of_change (C := Try.checked) own0WatchRuns started (by kernel_rfl) Try.func3
    (witnessL (enc := enc) (C := Try.checked) false ⟨#[], #[.slice none 0 0], []⟩ 12 (by kernel_rfl) (by kernel_rfl) (by kernel_rfl) (by kernel_rfl) (by kernel_rfl)) ?_
  intro W base args ds gs before hval0 hW hcnd _
  have hval : ∀ (j : Nat) t v, Try.f3.params[j]? = some t → args[j]? = some v → Value.okWide Try.prog W .any base t v := hval0
  have hW' := hW
  obtain ⟨p, q, hA0, hV, rfl, hfz, hnd⟩ := hW
  have hA : DataW.TrodAll enc Try.prog W 0 (fun _ => true) true Try.f3.params.toList args.toList ds p := hA0
  have hpar : Try.f3.params = #[22] := by kernel_rfl
  rw [hpar] at hA hval
  obtain ⟨v0, vs0, d0, ds0, p0, q0, hargs, rfl, rfl, h0, r0⟩ := trodAll_cons hA
  obtain ⟨rfl, rfl, rfl⟩ := trodAll_nil r0
  obtain rfl : args = #[v0] := by cases args; simp_all
  obtain ⟨rfl, rfl⟩ := trodVars_none hV
  have k0 := h0
  have lt0 : ∀ x ∈ p0, x.block < W.heap.size := by obtain ⟨m, hm⟩ := k0; exact DataW.trod_lt m _ _ _ hm
  obtain ⟨ad0, cap0, a0, rfl, hc0, hm0, hl0, hp0⟩ := open_list (c := cOW) (p := OwP W) (t := 22) (e := 32) (z := 3) (by kernel_rfl) (by kernel_rfl) (by omega) open_ow (hval 0 22 v0 rfl rfl) h0
  clear hA0 hval0
  refine (lawWatchRuns ad0 cap0 a0 W (opsR_of hl0 hp0)).mono fun e W' ⟨he, bel⟩ => ?_
  subst he
  exact ⟨_, rfl, _, _, _, [], _, [], hW', trodAll_mk1 (shut_bool (by kernel_rfl) _), (trodAll_cons_mk (Below.trod laidWatchRuns (by kernel_rfl) (of_decide_eq_true (by kernel_rfl)) k0 bel lt0) trodAll_mk0), rfl, bel.frame _, fun h => by cases h⟩
theorem overWatchRuns : Rows.watchRunsRow.holds Try.pinned (OpenSpec.ofChange Rows.watchRunsSpec) :=
  OpenClaim.holds_of_wide 3 Try.f3 rfl rfl rfl rfl rfl rfl rfl ⟨rfl, rfl, rfl, rfl, rfl⟩ rfl rfl rfl rfl rfl (by kernel_rfl) Try.func3 (by kernel_rfl)
    (of_decide_eq_true (by kernel_rfl)) (by unfold Func.isWrapper; first | (rw [if_pos (by decide +kernel)]; kernel_rfl) | (rw [if_neg (by decide +kernel)]; exact ⟨rfl, rfl⟩))
    (fun os started H enc _ => liftedWatchRuns os started H enc)
theorem watchRuns_holds : Rows.WatchRunsSaid := overWatchRuns
#print axioms watchRuns_holds
end Go.Proofs.Ytikdbgheefjpkaa
