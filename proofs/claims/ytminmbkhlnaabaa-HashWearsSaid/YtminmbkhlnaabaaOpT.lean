/- Lists of bytes that came in, opened. -/
import Derived.Test.YtminmbkhlnaabaaTx
import Derived.Test.YtminmbkhlnaabaaOpU
set_option maxRecDepth 100000
set_option linter.unusedVariables false
set_option linter.unusedSimpArgs false
namespace Go.Proofs.Ytminmbkhlnaabaa
open Go Go.Sx Go.RowKit Go.ChangeShapes Go.WideShapes Go.ChangeAt
section
variable {H : Type} {enc : TypeId × Value → H} {w : World} {base : Nat} {sp : Nat → Bool} {held : Bool}
def txtH (w : World) (t : TX) : Prop := InL w t.ad 1 cU t.k ∧ t.k.length ≤ t.cap ∧ t.cap ≤ maxLen ∧ ∀ x ∈ t.k, 0 ≤ x ∧ x < 256
theorem open_txt (n : Nat) (cs : List Value) (x : DataW H × List MemPlace) (h : DataW.trod enc Try.prog w base sp held n 22 cs = some x) : ∃ t : TX, cs = cT t ∧ txtH w t := by
  obtain ⟨ad, cap, data, e2, q1, q2, q3, q4⟩ := open_listc (c := cU) (p := fun a => 0 ≤ a ∧ a < 256) (t := 22) (e := 5) (z := 1) (by kernel_rfl) (by kernel_rfl) (by omega) open_byte h
  exact ⟨⟨ad, cap, data⟩, e2, q3, q1, q2, q4⟩
end
end Go.Proofs.Ytminmbkhlnaabaa
