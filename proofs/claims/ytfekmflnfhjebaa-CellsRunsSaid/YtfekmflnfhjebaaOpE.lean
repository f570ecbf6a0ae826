/- Calls of chapter 8 that came in, opened, with their numbers. -/
import Derived.Test.YtfekmflnfhjebaaCl
import Derived.Test.YtfekmflnfhjebaaNb
import Derived.Test.YtfekmflnfhjebaaOpU
set_option maxRecDepth 100000
set_option linter.unusedVariables false
set_option linter.unusedSimpArgs false
namespace Go.Proofs.Ytfekmflnfhjebaa
open Go Go.Sx Go.RowKit Go.ChangeShapes Go.WideShapes Go.ChangeAt
section
variable {H : Type} {enc : TypeId × Value → H} {w : World} {base : Nat} {sp : Nat → Bool} {held : Bool}
def coQ (W : World) (o : CO) : Prop := InL W o.ad 1 cU o.bs ∧ o.bs.length ≤ o.cap ∧ Byts o.bs ∧ (-9223372036854775808 ≤ o.off ∧ o.off < 9223372036854775808) ∧ (0 ≤ o.v ∧ o.v < 18446744073709551616)
theorem open_coq (n : Nat) (cs : List Value) (x : DataW H × List MemPlace) (h : DataW.trod enc Try.prog w base sp held n 71 cs = some x) : ∃ a : CO, cs = cCO a ∧ coQ w a := by
  obtain ⟨hl, hf⟩ := open_fields (fl := [(3, 0), (3, 1), (3, 2), (3, 3), (3, 4), (61, 5), (54, 6)]) (by kernel_rfl) h
  have hc : Try.prog.cellsOf 71 = 7 := by kernel_rfl
  rw [hc] at hl
  obtain ⟨n0, x0, h0⟩ := hf 0 3 0 rfl
  obtain ⟨n1, x1, h1⟩ := hf 1 3 1 rfl
  obtain ⟨n2, x2, h2⟩ := hf 2 3 2 rfl
  obtain ⟨n3, x3, h3⟩ := hf 3 3 3 rfl
  obtain ⟨n4, x4, h4⟩ := hf 4 3 4 rfl
  obtain ⟨n5, x5, h5⟩ := hf 5 61 5 rfl
  obtain ⟨n6, x6, h6⟩ := hf 6 54 6 rfl
  have c3 : Try.prog.cellsOf 3 = 1 := by kernel_rfl
  have c61 : Try.prog.cellsOf 61 = 1 := by kernel_rfl
  have c54 : Try.prog.cellsOf 54 = 1 := by kernel_rfl
  rw [c3] at h0 h1 h2 h3 h4
  rw [c61] at h5
  rw [c54] at h6
  match cs, hl with
  | [v0, v1, v2, v3, v4, v5, v6], _ =>
    simp only [List.drop_succ_cons, List.drop_zero, List.take_succ_cons, List.take_zero] at h0 h1 h2 h3 h4 h5 h6
    obtain ⟨k0, e0, _⟩ := DataW.trod_int (P := Try.prog) (t := 3) (k := .i64) (by kernel_rfl) h0
    obtain ⟨k1, e1, _⟩ := DataW.trod_int (P := Try.prog) (t := 3) (k := .i64) (by kernel_rfl) h1
    obtain ⟨k2, e2, w2⟩ := DataW.trod_int (P := Try.prog) (t := 3) (k := .i64) (by kernel_rfl) h2
    obtain ⟨k3, e3, _⟩ := DataW.trod_int (P := Try.prog) (t := 3) (k := .i64) (by kernel_rfl) h3
    obtain ⟨k4, e4, _⟩ := DataW.trod_int (P := Try.prog) (t := 3) (k := .i64) (by kernel_rfl) h4
    obtain ⟨k5, e5, w5⟩ := DataW.trod_int (P := Try.prog) (t := 61) (k := .u64) (by kernel_rfl) h5
    obtain ⟨ad, cap, data, e6, q1, q2, q3, q4⟩ := open_listc (c := cU) (p := fun a => 0 ≤ a ∧ a < 256) (t := 54) (e := 5) (z := 1) (by kernel_rfl) (by kernel_rfl) (by omega) open_byte h6
    refine ⟨⟨k0, k1, k2, k3, k4, k5, ad, cap, data⟩, ?_, q3, q1, q4, ?_, ?_⟩
    · simp only [List.cons.injEq, and_true] at e0 e1 e2 e3 e4 e5 e6
      subst e0 e1 e2 e3 e4 e5 e6
      rfl
    · have e5' : IntKind.i64.min = -9223372036854775808 := rfl
      have e6' : IntKind.i64.max = 9223372036854775807 := rfl
      have h' := w2
      simp [Lit.wf, e5', e6'] at h'
      dsimp only
      omega
    · have e5' : IntKind.u64.min = 0 := rfl
      have e6' : IntKind.u64.max = 18446744073709551615 := rfl
      have h' := w5
      simp [Lit.wf, e5', e6'] at h'
      dsimp only
      omega
end
end Go.Proofs.Ytfekmflnfhjebaa
