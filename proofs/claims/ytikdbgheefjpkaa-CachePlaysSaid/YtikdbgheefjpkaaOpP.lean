/- What is done to both caches, as it came in, opened. -/
import Derived.Test.YtikdbgheefjpkaaQt
import Derived.Test.YtikdbgheefjpkaaOpZ
set_option maxRecDepth 100000
set_option linter.unusedVariables false
set_option linter.unusedSimpArgs false
namespace Go.Proofs.Ytikdbgheefjpkaa
open Go Go.Sx Go.RowKit Go.ChangeShapes Go.WideShapes Go.ChangeAt
section
variable {H : Type} {enc : TypeId × Value → H} {w : World} {base : Nat} {sp : Nat → Bool} {held : Bool}
theorem open_act (n : Nat) (cs : List Value) (x : DataW H × List MemPlace) (h : DataW.trod enc Try.prog w base sp held n 68 cs = some x) (hW : Wt Try.prog 68 x.1) : ∃ a : AC, cs = cAC a ∧ RdD w a.code ∧ wfI a.code.prog := by
  obtain ⟨hl, hf⟩ := open_fieldsw (fl := [(3, 0), (3, 1), (59, 2)]) (by kernel_rfl) h hW
  have hc : Try.prog.cellsOf 68 = 6 := by kernel_rfl
  rw [hc] at hl
  obtain ⟨n0, x0, h0, W0⟩ := hf 0 3 0 rfl
  obtain ⟨n1, x1, h1, W1⟩ := hf 1 3 1 rfl
  obtain ⟨n2, x2, h2, W2⟩ := hf 2 59 2 rfl
  have c3 : Try.prog.cellsOf 3 = 1 := by kernel_rfl
  have c59 : Try.prog.cellsOf 59 = 4 := by kernel_rfl
  rw [c3] at h0 h1
  rw [c59] at h2
  match cs, hl with
  | [v0, v1, v2, v3, v4, v5], _ =>
    simp only [List.drop_succ_cons, List.drop_zero, List.take_succ_cons, List.take_zero] at h0 h1 h2
    obtain ⟨k0, e0⟩ := open_i h0
    obtain ⟨k1, e1⟩ := open_i h1
    obtain ⟨c, e2, hrd, hwf⟩ := open_code n2 _ _ h2 W2
    refine ⟨⟨k0, k1, c⟩, ?_, hrd, hwf⟩
    simp only [cI, List.cons.injEq, and_true] at e0 e1
    subst e0 e1
    show [_, _, v2, v3, v4, v5] = _ :: _ :: cCD c
    rw [e2]
end
end Go.Proofs.Ytikdbgheefjpkaa
