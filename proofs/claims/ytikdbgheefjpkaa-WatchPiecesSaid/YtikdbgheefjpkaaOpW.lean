/- Calls and events that came in, opened. -/
import Derived.Test.YtikdbgheefjpkaaKo
import Derived.Test.YtikdbgheefjpkaaOpU
set_option maxRecDepth 100000
set_option linter.unusedVariables false
set_option linter.unusedSimpArgs false
namespace Go.Proofs.Ytikdbgheefjpkaa
open Go Go.Sx Go.RowKit Go.ChangeShapes Go.WideShapes Go.ChangeAt
section
variable {H : Type} {enc : TypeId × Value → H} {w : World} {base : Nat} {sp : Nat → Bool} {held : Bool}
def evP (W : World) (e : EV) : Prop := InL W e.ka 1 cU e.v.key ∧ e.v.key.length ≤ maxLen ∧ BytK e.v.key
structure OwP (W : World) (o : OPW) : Prop where
  e : InL W o.la 5 cEV o.evs
  el : o.evs.length ≤ maxLen
  es : ∀ x ∈ o.evs, evP W x
theorem open_i {n : Nat} {cs : List Value} {x : DataW H × List MemPlace} (h : DataW.trod enc Try.prog w base sp held n 3 cs = some x) : ∃ a : Int, cs = cI a := by
  obtain ⟨k0, e0, _⟩ := DataW.trod_int (P := Try.prog) (t := 3) (k := .i64) (by kernel_rfl) h
  exact ⟨k0, e0⟩
theorem open_ev (n : Nat) (cs : List Value) (x : DataW H × List MemPlace) (h : DataW.trod enc Try.prog w base sp held n 49 cs = some x) : ∃ a : EV, cs = cEV a ∧ evP w a := by
  obtain ⟨hl, hf⟩ := open_fields (fl := [(3, 0), (3, 1), (3, 2), (3, 3), (47, 4)]) (by kernel_rfl) h
  have hc : Try.prog.cellsOf 49 = 5 := by kernel_rfl
  rw [hc] at hl
  obtain ⟨n0, x0, h0⟩ := hf 0 3 0 rfl
  obtain ⟨n1, x1, h1⟩ := hf 1 3 1 rfl
  obtain ⟨n2, x2, h2⟩ := hf 2 3 2 rfl
  obtain ⟨n3, x3, h3⟩ := hf 3 3 3 rfl
  obtain ⟨n4, x4, h4⟩ := hf 4 47 4 rfl
  have c3 : Try.prog.cellsOf 3 = 1 := by kernel_rfl
  have c47 : Try.prog.cellsOf 47 = 1 := by kernel_rfl
  rw [c3] at h0 h1 h2 h3
  rw [c47] at h4
  match cs, hl with
  | [v0, v1, v2, v3, v4], _ =>
    simp only [List.drop_succ_cons, List.drop_zero, List.take_succ_cons, List.take_zero] at h0 h1 h2 h3 h4
    obtain ⟨k0, e0⟩ := open_i h0
    obtain ⟨k1, e1⟩ := open_i h1
    obtain ⟨k2, e2⟩ := open_i h2
    obtain ⟨k3, e3⟩ := open_i h3
    obtain ⟨ad, cap, d, e4, q1, q2, q3, q4⟩ := open_listc (c := cU) (p := fun a => 0 ≤ a ∧ a < 256) (t := 47) (e := 5) (z := 1) (by kernel_rfl) (by kernel_rfl) (by omega) open_byte h4
    refine ⟨⟨⟨k0, k1, k2, k3, d⟩, ad, cap⟩, ?_, q3, Nat.le_trans q1 q2, q4⟩
    simp only [cI, List.cons.injEq, and_true] at e0 e1 e2 e3 e4
    subst e0 e1 e2 e3 e4
    rfl
theorem open_ow (n : Nat) (cs : List Value) (x : DataW H × List MemPlace) (h : DataW.trod enc Try.prog w base sp held n 32 cs = some x) : ∃ a : OPW, cs = cOW a ∧ OwP w a := by
  obtain ⟨hl, hf⟩ := open_fields (fl := [(3, 0), (3, 1), (29, 2)]) (by kernel_rfl) h
  have hc : Try.prog.cellsOf 32 = 3 := by kernel_rfl
  rw [hc] at hl
  obtain ⟨n0, x0, h0⟩ := hf 0 3 0 rfl
  obtain ⟨n1, x1, h1⟩ := hf 1 3 1 rfl
  obtain ⟨n2, x2, h2⟩ := hf 2 29 2 rfl
  have c3 : Try.prog.cellsOf 3 = 1 := by kernel_rfl
  have c29 : Try.prog.cellsOf 29 = 1 := by kernel_rfl
  rw [c3] at h0 h1
  rw [c29] at h2
  match cs, hl with
  | [v0, v1, v2], _ =>
    simp only [List.drop_succ_cons, List.drop_zero, List.take_succ_cons, List.take_zero] at h0 h1 h2
    obtain ⟨k0, e0⟩ := open_i h0
    obtain ⟨k1, e1⟩ := open_i h1
    obtain ⟨ad, cap, d, e4, q1, q2, q3, q4⟩ := open_listc (c := cEV) (p := evP w) (t := 29) (e := 49) (z := 5) (by kernel_rfl) (by kernel_rfl) (by omega) open_ev h2
    refine ⟨⟨k0, k1, ad, cap, d⟩, ?_, q3, Nat.le_trans q1 q2, q4⟩
    simp only [cI, List.cons.injEq, and_true] at e0 e1 e4
    subst e0 e1 e4
    rfl
theorem opsR_of {W : World} {ad : Option Addr} {ops : List OPW} (h : InL W ad 3 cOW ops) (hp : ∀ o ∈ ops, OwP W o) : OpsR W ad ops := ⟨h, fun o ho => (hp o ho).e, fun o ho x hx => ⟨((hp o ho).es x hx).1, ((hp o ho).es x hx).2.2⟩⟩
theorem evL_of {W : World} {ad : Option Addr} {xs : List EV} (h : InL W ad 5 cEV xs) (hp : ∀ x ∈ xs, evP W x) : EvL W ad xs := ⟨h, fun x hx => ⟨(hp x hx).1, (hp x hx).2.2⟩⟩
end
end Go.Proofs.Ytikdbgheefjpkaa
