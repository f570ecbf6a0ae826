/- Acts that came in, opened. -/
import Derived.Test.YtdimcafdmaidpaaLMemStacks
import Derived.Test.YtdimcafdmaidpaaOp2
set_option maxRecDepth 100000
set_option linter.unusedVariables false
set_option linter.unusedSimpArgs false
namespace Go.Proofs.Ytdimcafdmaidpaa
open Go Go.Sx Go.RowKit Go.ChangeShapes Go.WideShapes Go.ChangeAt
theorem okv_u8 {a : Int} (h : (cU a).all okv = true) : 0 ≤ a ∧ a < 256 := by
  have e5 : IntKind.u8.min = 0 := rfl
  have e6 : IntKind.u8.max = 255 := rfl
  simp [okv, Lit.wf, e5, e6] at h
  omega
theorem frok_of {f : Fr} (h : (cF f).all okv = true) : FrOk f := fun i hi => by
  have e5 : IntKind.u8.min = 0 := rfl
  have e6 : IntKind.u8.max = 255 := rfl
  unfold cF cSs at h
  rw [List.all_append, List.all_append] at h
  simp only [Bool.and_eq_true] at h
  obtain ⟨_, _, h⟩ := h
  have h1 : (cS (f.S i)).all okv = true := by
    unfold tab at h
    rw [List.all_flatMap, List.all_eq_true] at h
    exact h i (by simpa using hi)
  unfold cS cB at h1
  rw [List.all_append, List.all_append] at h1
  simp only [Bool.and_eq_true] at h1
  obtain ⟨_, h2, h3⟩ := h1
  refine ⟨?_, fun k hk => ?_⟩
  · simp [okv, Lit.wf, e5, e6] at h3
    omega
  · unfold tab at h2
    rw [List.all_flatMap, List.all_eq_true] at h2
    have h4 := h2 k (by simpa using hk)
    simp [okv, Lit.wf, e5, e6] at h4
    omega
section
variable {H : Type} {enc : TypeId × Value → H} {w : World} {base : Nat} {sp : Nat → Bool} {held : Bool}
theorem open_byte (n : Nat) (cs : List Value) (x : DataW H × List MemPlace) (h : DataW.trod enc Try.prog w base sp held n 5 cs = some x) : ∃ a : Int, cs = cU a ∧ (0 ≤ a ∧ a < 256) := by
  obtain ⟨h1, h2⟩ := trod_flat 40 5 [.int .u8] (by kernel_rfl) n cs x h
  obtain ⟨a, rfl⟩ := of_1 cs h1
  exact ⟨a, rfl, okv_u8 h2⟩
def actP (w : World) (a : AC) : Prop := InL w a.ad 1 cU a.data ∧ a.data.length ≤ a.cap ∧ a.cap ≤ maxLen ∧ Byts a.data
theorem open_act (n : Nat) (cs : List Value) (x : DataW H × List MemPlace) (h : DataW.trod enc Try.prog w base sp held n 60 cs = some x) : ∃ a : AC, cs = cA a ∧ actP w a := by
  obtain ⟨hl, hf⟩ := open_fields (fl := [(3, 0), (3, 1), (3, 2), (22, 3), (24, 4), (58, 7)]) (by kernel_rfl) h
  have hc : Try.prog.cellsOf 60 = 8 := by kernel_rfl
  rw [hc] at hl
  obtain ⟨n0, x0, h0⟩ := hf 0 3 0 rfl
  obtain ⟨n1, x1, h1⟩ := hf 1 3 1 rfl
  obtain ⟨n2, x2, h2⟩ := hf 2 3 2 rfl
  obtain ⟨n3, x3, h3⟩ := hf 3 22 3 rfl
  obtain ⟨n4, x4, h4⟩ := hf 4 24 4 rfl
  obtain ⟨n5, x5, h5⟩ := hf 5 58 7 rfl
  have c3 : Try.prog.cellsOf 3 = 1 := by kernel_rfl
  have c22 : Try.prog.cellsOf 22 = 1 := by kernel_rfl
  have c24 : Try.prog.cellsOf 24 = 3 := by kernel_rfl
  have c58 : Try.prog.cellsOf 58 = 1 := by kernel_rfl
  rw [c3] at h0 h1 h2
  rw [c22] at h3
  rw [c24] at h4
  rw [c58] at h5
  match cs, hl with
  | [v0, v1, v2, v3, v4, v5, v6, v7], _ =>
    simp only [List.drop_succ_cons, List.drop_zero, List.take_succ_cons, List.take_zero] at h0 h1 h2 h3 h4 h5
    obtain ⟨k0, e0, _⟩ := DataW.trod_int (P := Try.prog) (t := 3) (k := .i64) (by kernel_rfl) h0
    obtain ⟨k1, e1, _⟩ := DataW.trod_int (P := Try.prog) (t := 3) (k := .i64) (by kernel_rfl) h1
    obtain ⟨k2, e2, _⟩ := DataW.trod_int (P := Try.prog) (t := 3) (k := .i64) (by kernel_rfl) h2
    obtain ⟨k3, e3, _⟩ := DataW.trod_int (P := Try.prog) (t := 22) (k := .u64) (by kernel_rfl) h3
    obtain ⟨f1, _⟩ := trod_flat 40 24 kV (by kernel_rfl) n4 _ x4 h4
    obtain ⟨v, hv⟩ := of_V _ f1
    obtain ⟨ad, cap, data, e5, q1, q2, q3, q4⟩ := open_listc (c := cU) (p := fun a => 0 ≤ a ∧ a < 256) (t := 58) (e := 5) (z := 1) (by kernel_rfl) (by kernel_rfl) (by omega) open_byte h5
    refine ⟨⟨k0, k1, k2, k3, v, ad, cap, data⟩, ?_, q3, q1, q2, q4⟩
    simp only [List.cons.injEq, and_true] at e0 e1 e2 e3 e5
    subst e0 e1 e2 e3 e5
    rw [cA_eq]
    simp only [List.cons_append, List.nil_append, ← hv]
end
end Go.Proofs.Ytdimcafdmaidpaa
