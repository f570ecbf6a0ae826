/- Bytes that came in, opened. -/
import Derived.Test.YtikdbgheefjpkaaBy
import Derived.Test.YtikdbgheefjpkaaOp2
set_option maxRecDepth 100000
set_option linter.unusedVariables false
set_option linter.unusedSimpArgs false
namespace Go.Proofs.Ytikdbgheefjpkaa
open Go Go.Sx Go.RowKit Go.ChangeShapes Go.WideShapes Go.ChangeAt
theorem of_1u (vs : List Value) (h : allFit [.int .u8] vs = true) : ∃ a : Int, vs = [.int .u8 a] := by
  match vs with
  | [.int .u8 a] => exact ⟨a, rfl⟩
  | [] => simp [allFit] at h
  | [v] => cases v <;> simp_all [allFit, LK.fits]
  | v :: u :: l => simp [allFit] at h
theorem okv_u8 {a : Int} (h : (cU a).all okv = true) : 0 ≤ a ∧ a < 256 := by
  have e5 : IntKind.u8.min = 0 := rfl
  have e6 : IntKind.u8.max = 255 := rfl
  simp [okv, Lit.wf, e5, e6] at h
  omega
section
variable {H : Type} {enc : TypeId × Value → H} {w : World} {base : Nat} {sp : Nat → Bool} {held : Bool}
theorem open_byte (n : Nat) (cs : List Value) (x : DataW H × List MemPlace) (h : DataW.trod enc Try.prog w base sp held n 5 cs = some x) : ∃ a : Int, cs = cU a ∧ (0 ≤ a ∧ a < 256) := by
  obtain ⟨h1, h2⟩ := trod_flat 40 5 [.int .u8] (by kernel_rfl) n cs x h
  obtain ⟨a, rfl⟩ := of_1u cs h1
  exact ⟨a, rfl, okv_u8 h2⟩
end
end Go.Proofs.Ytikdbgheefjpkaa
