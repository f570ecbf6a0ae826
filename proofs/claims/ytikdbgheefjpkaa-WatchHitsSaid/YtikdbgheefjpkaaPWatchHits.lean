/- Whatever the input, the law WatchHits returns true, and each argument reads afterwards as it read before. -/
import Derived.Test.YtikdbgheefjpkaaRows
import Derived.Test.YtikdbgheefjpkaaLWatchHits
import Derived.Test.YtikdbgheefjpkaaOpW
import Derived.Test.YtikdbgheefjpkaaOpen
set_option linter.unusedVariables false
namespace Go.Proofs.Ytikdbgheefjpkaa
open Go Go.Sx Go.ChangeShapes Go.WideShapes Go.ChangeAt Go.RowKit
theorem own0WatchHits : ownKnob Try.prog.godebug = none := by kernel_rfl
theorem laidWatchHits : laidOutB Try.prog = true := by kernel_rfl
set_option maxRecDepth 100000 in
theorem liftedWatchHits (os : Os) (started : os.Started) (H : Type) (enc : TypeId × Value → H) :
    ReturnsInHanded {} Try.checked os 4 .any (Rows.watchHitsSpec.pre6 enc Try.prog Try.f4 Rows.watchHitsRow.domain false) (Rows.watchHitsSpec.post enc Try.prog Try.f4 false true false false) := by
  refine returnsInHanded_of_change (C := Try.checked) own0WatchHits started (by kernel_rfl) Try.func4
    (witnessL (enc := enc) (C := Try.checked) false ⟨#[], #[.slice none 0 0, .slice none 0 0], []⟩ 12 (by kernel_rfl) (by kernel_rfl) (by kernel_rfl) (by kernel_rfl) (by kernel_rfl)) ?_
  intro W base args ds gs before hval0 hW hcnd _
  have hval : ∀ (j : Nat) t v, Try.f4.params[j]? = some t → args[j]? = some v → Value.okWide Try.prog W .any base t v := hval0
  have hW' := hW
  obtain ⟨p, q, hA0, hV, rfl, hfz, hnd⟩ := hW
  have hA : DataW.TrodAll enc Try.prog W 0 (fun _ => true) true Try.f4.params.toList args.toList ds p := hA0
  have hpar : Try.f4.params = #[22, 29] := by kernel_rfl
  rw [hpar] at hA hval
  obtain ⟨v0, vs0, d0, ds0, p0, q0, hargs, rfl, rfl, h0, r0⟩ := trodAll_cons hA
  obtain ⟨v1, vs1, d1, ds1, p1, q1, rfl, rfl, rfl, h1, r1⟩ := trodAll_cons r0
  obtain ⟨rfl, rfl, rfl⟩ := trodAll_nil r1
  obtain rfl : args = #[v0, v1] := by cases args; simp_all
  obtain ⟨rfl, rfl⟩ := trodVars_none hV
  have k0 := h0
  have lt0 : ∀ x ∈ p0, x.block < W.heap.size := by obtain ⟨m, hm⟩ := k0; exact DataW.trod_lt m _ _ _ hm
  have k1 := h1
  have lt1 : ∀ x ∈ p1, x.block < W.heap.size := by obtain ⟨m, hm⟩ := k1; exact DataW.trod_lt m _ _ _ hm
  obtain ⟨ad0, cap0, a0, rfl, hc0, hm0, hl0, hp0⟩ := open_list (c := cOW) (p := OwP W) (t := 22) (e := 32) (z := 3) (by kernel_rfl) (by kernel_rfl) (by omega) open_ow (hval 0 22 v0 rfl rfl) h0
  obtain ⟨ad1, cap1, a1, rfl, hc1, hm1, hl1, hp1⟩ := open_list (c := cEV) (p := evP W) (t := 29) (e := 49) (z := 5) (by kernel_rfl) (by kernel_rfl) (by omega) open_ev (hval 1 29 v1 rfl rfl) h1
  clear hA0 hval0
  refine (lawWatchHits ad0 cap0 a0 ad1 cap1 a1 W (opsR_of hl0 hp0) (evL_of hl1 hp1)).mono fun e W' ⟨he, bel⟩ => ?_
  subst he
  exact ⟨_, rfl, _, _, _, [], _, [], hW', trodAll_mk1 (shut_bool (by kernel_rfl) _), (trodAll_cons_mk (Below.trod laidWatchHits (by kernel_rfl) (of_decide_eq_true (by kernel_rfl)) k0 bel lt0) (trodAll_cons_mk (Below.trod laidWatchHits (by kernel_rfl) (of_decide_eq_true (by kernel_rfl)) k1 bel lt1) trodAll_mk0)), rfl, bel.frame _, fun h => by cases h⟩
theorem overWatchHits : Rows.watchHitsRow.holds Try.pinned (OpenSpec.ofChange Rows.watchHitsSpec) :=
  OpenClaim.holds_of_wide 4 Try.f4 rfl rfl rfl rfl rfl rfl rfl ⟨rfl, rfl, rfl, rfl, rfl⟩ rfl rfl rfl rfl rfl (by kernel_rfl) Try.func4 (by kernel_rfl)
    (of_decide_eq_true (by kernel_rfl)) (by unfold Func.isWrapper; first | (rw [if_pos (by decide +kernel)]; kernel_rfl) | (rw [if_neg (by decide +kernel)]; exact ⟨rfl, rfl⟩))
    (fun os started H enc _ => liftedWatchHits os started H enc)
theorem watchHits_holds : Rows.WatchHitsSaid := overWatchHits
#print axioms watchHits_holds
end Go.Proofs.Ytikdbgheefjpkaa
