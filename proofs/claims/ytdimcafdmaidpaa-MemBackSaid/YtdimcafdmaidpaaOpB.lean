/- Bytes and frames that came in, opened. -/
import Derived.Test.YtdimcafdmaidpaaMz
import Derived.Test.YtdimcafdmaidpaaOp2
set_option maxRecDepth 100000
set_option linter.unusedVariables false
set_option linter.unusedSimpArgs false
namespace Go.Proofs.Ytdimcafdmaidpaa
open Go Go.Sx Go.RowKit Go.ChangeShapes Go.WideShapes Go.ChangeAt
theorem okv_u8 {a : Int} (h : (cU a).all okv = true) : 0 ≤ a ∧ a < 256 := by
  have e5 : IntKind.u8.min = 0 := rfl
  have e6 : IntKind.u8.max = 255 := rfl
  simp [okv, Lit.wf, e5, e6] at h
  omega
theorem okn {v : V3} (h : (cV v).all okv = true) : 0 ≤ v.n ∧ v.n < 18446744073709551616 := by
  have e1 : IntKind.i64.min = -9223372036854775808 := rfl
  have e2 : IntKind.i64.max = 9223372036854775807 := rfl
  have e5 : IntKind.u64.min = 0 := rfl
  have e6 : IntKind.u64.max = 18446744073709551615 := rfl
  unfold cV at h
  simp [okv, Lit.wf, e1, e2, e5, e6] at h
  omega
theorem frok_of {f : Fr} (h : (cF f).all okv = true) : FrOk f := fun i hi => by
  have e5 : IntKind.u8.min = 0 := rfl
  have e6 : IntKind.u8.max = 255 := rfl
  unfold cF cSs at h
  rw [List.all_append, List.all_append] at h
  simp only [Bool.and_eq_true] at h
  obtain ⟨_, _, h⟩ := h
  have h1 : (cS (f.S i)).all okv = true := by
    unfold tab at h
    rw [List.all_flatMap, List.all_eq_true] at h
    exact h i (by simpa using hi)
  unfold cS cB at h1
  rw [List.all_append, List.all_append] at h1
  simp only [Bool.and_eq_true] at h1
  obtain ⟨_, h2, h3⟩ := h1
  refine ⟨?_, fun k hk => ?_⟩
  · simp [okv, Lit.wf, e5, e6] at h3
    omega
  · unfold tab at h2
    rw [List.all_flatMap, List.all_eq_true] at h2
    have h4 := h2 k (by simpa using hk)
    simp [okv, Lit.wf, e5, e6] at h4
    omega
section
variable {H : Type} {enc : TypeId × Value → H} {w : World} {base : Nat} {sp : Nat → Bool} {held : Bool}
theorem open_byte (n : Nat) (cs : List Value) (x : DataW H × List MemPlace) (h : DataW.trod enc Try.prog w base sp held n 5 cs = some x) : ∃ a : Int, cs = cU a ∧ (0 ≤ a ∧ a < 256) := by
  obtain ⟨h1, h2⟩ := trod_flat 40 5 [.int .u8] (by kernel_rfl) n cs x h
  obtain ⟨a, rfl⟩ := of_1 cs h1
  exact ⟨a, rfl, okv_u8 h2⟩
end
end Go.Proofs.Ytdimcafdmaidpaa
