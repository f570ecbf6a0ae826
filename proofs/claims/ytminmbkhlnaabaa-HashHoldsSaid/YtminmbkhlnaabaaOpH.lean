/- Acts that came in, opened. -/
import Derived.Test.YtminmbkhlnaabaaHl
import Derived.Test.YtminmbkhlnaabaaOpU
set_option maxRecDepth 100000
set_option linter.unusedVariables false
set_option linter.unusedSimpArgs false
namespace Go.Proofs.Ytminmbkhlnaabaa
open Go Go.Sx Go.RowKit Go.ChangeShapes Go.WideShapes Go.ChangeAt
section
variable {H : Type} {enc : TypeId × Value → H} {w : World} {base : Nat} {sp : Nat → Bool} {held : Bool}
def actH (w : World) (a : AH) : Prop := InL w a.ad 1 cU a.data ∧ a.data.length ≤ a.cap ∧ a.cap ≤ maxLen ∧ ∀ x ∈ a.data, 0 ≤ x ∧ x < 256
theorem open_actH (n : Nat) (cs : List Value) (x : DataW H × List MemPlace) (h : DataW.trod enc Try.prog w base sp held n 63 cs = some x) : ∃ a : AH, cs = cAH a ∧ actH w a := by
  obtain ⟨hl, hf⟩ := open_fields (fl := [(3, 0), (3, 1), (22, 2)]) (by kernel_rfl) h
  have hc : Try.prog.cellsOf 63 = 3 := by kernel_rfl
  rw [hc] at hl
  obtain ⟨n0, x0, h0⟩ := hf 0 3 0 rfl
  obtain ⟨n1, x1, h1⟩ := hf 1 3 1 rfl
  obtain ⟨n2, x2, h2⟩ := hf 2 22 2 rfl
  have c3 : Try.prog.cellsOf 3 = 1 := by kernel_rfl
  have c22 : Try.prog.cellsOf 22 = 1 := by kernel_rfl
  rw [c3] at h0 h1
  rw [c22] at h2
  match cs, hl with
  | [v0, v1, v2], _ =>
    simp only [List.drop_succ_cons, List.drop_zero, List.take_succ_cons, List.take_zero] at h0 h1 h2
    obtain ⟨k0, e0, _⟩ := DataW.trod_int (P := Try.prog) (t := 3) (k := .i64) (by kernel_rfl) h0
    obtain ⟨k1, e1, _⟩ := DataW.trod_int (P := Try.prog) (t := 3) (k := .i64) (by kernel_rfl) h1
    obtain ⟨ad, cap, data, e2, q1, q2, q3, q4⟩ := open_listc (c := cU) (p := fun a => 0 ≤ a ∧ a < 256) (t := 22) (e := 5) (z := 1) (by kernel_rfl) (by kernel_rfl) (by omega) open_byte h2
    refine ⟨⟨k0, k1, ad, cap, data⟩, ?_, q3, q1, q2, q4⟩
    simp only [List.cons.injEq, and_true] at e0 e1 e2
    subst e0 e1 e2
    rfl
end
end Go.Proofs.Ytminmbkhlnaabaa
