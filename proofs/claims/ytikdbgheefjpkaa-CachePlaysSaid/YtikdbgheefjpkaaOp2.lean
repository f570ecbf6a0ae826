/- What came in, opened further: lists of any elements, structs field by field. Plain theorems over any program. -/
import Derived.Test.YtikdbgheefjpkaaOpen
set_option linter.unusedVariables false
set_option linter.unusedSimpArgs false
namespace Go.Sx
open Go.ChangeShapes Go.WideShapes Go.ChangeAt Go.RowKit
section
variable {H : Type} {enc : TypeId × Value → H} {P : Program} {w : World} {base : Nat} {sp : Nat → Bool} {held : Bool}
theorem open_listc {α : Type} [Inhabited α] {c : α → List Value} {p : α → Prop} {t e z : Nat} (ht : P.underlying t = some (.slice e)) (hz : P.cellsOf e = z) (hz0 : 0 < z) (hel : ∀ n cs x, DataW.trod enc P w base sp held n e cs = some x → ∃ a : α, cs = c a ∧ p a)
    {n : Nat} {cs : List Value} {x : DataW H × List MemPlace} (hx : DataW.trod enc P w base sp held n t cs = some x) :
    ∃ (ad : Option Addr) (cap : Nat) (l : List α), cs = [.slice ad l.length cap] ∧ l.length ≤ cap ∧ cap ≤ maxLen ∧ InL w ad z c l ∧ ∀ x ∈ l, p x := by
  subst hz
  rcases Go.Deep.open_slice ht hx with ⟨h1, _⟩ | ⟨a, len', cap', m, n, D, Pl, h1, _, hl, hm, hmm, _, hel'⟩
  · exact ⟨none, 0, [], h1, by simp, by simp, fun h => absurd rfl h, by simp⟩
  · have hlm : len' ≤ m := by rw [hmm]; split <;> omega
    have hch : ∀ i, ∃ x : α, i < len' → (∀ k v, (c x)[k]? = some v → w.cell? ((a.add (i * P.cellsOf e)).add k) = some v) ∧ p x ∧ (c x).length = P.cellsOf e := fun i => by
      by_cases hi : i < len'
      · obtain ⟨cs, hc, htr⟩ := hel' i (by omega)
        obtain ⟨x, rfl, hp⟩ := hel _ _ _ htr
        obtain ⟨_, h3, h4⟩ := World.cells?_some hc
        refine ⟨x, fun _ => ⟨fun k v hk => ?_, hp, h3⟩⟩
        rw [h4 k (by rw [← h3]; exact (List.getElem?_eq_some_iff.1 hk).1), hk]
      · exact ⟨default, fun h => absurd h hi⟩
    let f : Nat → α := fun i => Classical.choose (hch i)
    have hsp : ∀ i, i < len' → _ := fun i => Classical.choose_spec (hch i)
    refine ⟨some a, cap', (List.range len').map f, by simpa using h1, by simpa using hl, hm, fun hne => ?_, fun x hx => ?_⟩
    · have hlen : 0 < len' := by
        cases len' with
        | zero => simp at hne
        | succ k => omega
      obtain ⟨h1, _, h3⟩ := hsp 0 hlen
      have hspot : a.spot = none := by
        have h4 : 0 < (c (Classical.choose (hch 0))).length := by omega
        have h5 := h1 0 _ (List.getElem?_eq_getElem h4)
        have e0 : (a.add (0 * P.cellsOf e)).add 0 = a := by simp [Addr.add]
        have h6 := World.cell?_spot h5
        rwa [e0] at h6
      obtain ⟨b, off, spot⟩ := a
      have hspot : spot = none := hspot
      subst hspot
      refine ⟨b, off, rfl, fun i x hx k v hk => ?_⟩
      have hi : i < len' := by have := (List.getElem?_eq_some_iff.1 hx).1; simpa using this
      have hxe : x = f i := by simp [hi] at hx; exact hx.symm
      subst hxe
      have := (hsp i hi).1 k v hk
      simpa only [Addr.add_lit] using this
    · obtain ⟨i, hi, rfl⟩ := List.mem_map.1 hx
      exact (hsp i (by simpa using hi)).2.1
theorem open_list {α : Type} [Inhabited α] {c : α → List Value} {p : α → Prop} {r : Reach} {b0 : Nat} {t e z : Nat} (ht : P.underlying t = some (.slice e)) (hz : P.cellsOf e = z) (hz0 : 0 < z) (hel : ∀ n cs x, DataW.trod enc P w base sp held n e cs = some x → ∃ a : α, cs = c a ∧ p a)
    {v : Value} {dd : DataW H} {ps : List MemPlace} (hval : Value.okWide P w r b0 t v) (hd : DataW.Trod enc P w base sp held t v dd ps) :
    ∃ (ad : Option Addr) (cap : Nat) (l : List α), v = .slice ad l.length cap ∧ l.length ≤ cap ∧ cap ≤ maxLen ∧ InL w ad z c l ∧ ∀ x ∈ l, p x := by
  obtain ⟨ad, len, cap, rfl⟩ := okWide_slice ht hval
  obtain ⟨fuel, hx⟩ := hd
  obtain ⟨ad', cap', l, h1, h2⟩ := open_listc ht hz hz0 hel hx
  simp [Value.cells] at h1
  obtain ⟨rfl, rfl, rfl⟩ := h1
  exact ⟨_, _, l, rfl, h2⟩
/-- The fields of a struct: types and places. -/
def fldOk (P : Program) (t : TypeId) (fl : List (Nat × Nat)) : Bool := match P.underlying t with
  | some (.struct fs) => (fs.toList.map fun f => (f.type, f.offset)) == fl
  | _ => false
theorem open_fields {t : TypeId} {fl : List (Nat × Nat)} (h : fldOk P t fl = true) {n : Nat} {cs : List Value} {x : DataW H × List MemPlace} (hx : DataW.trod enc P w base sp held n t cs = some x) :
    cs.length = P.cellsOf t ∧ ∀ (i ty off : Nat), fl[i]? = some (ty, off) → ∃ n' x', DataW.trod enc P w base sp held n' ty ((cs.drop off).take (P.cellsOf ty)) = some x' := by
  unfold fldOk at h
  split at h
  · rename_i fs hu
    obtain ⟨xs, m, rfl, _, hl, hxl, hf⟩ := DataW.trod_struct hu hx
    refine ⟨hl, fun i ty off hi => ?_⟩
    have h' : (fs.toList.map fun f => (f.type, f.offset)) = fl := by simpa using h
    rw [← h'] at hi
    simp only [List.getElem?_map, Option.map_eq_some_iff] at hi
    obtain ⟨f, hf1, hf2⟩ := hi
    simp only [Prod.mk.injEq] at hf2
    obtain ⟨rfl, rfl⟩ := hf2
    have h1 := hf i f (by simpa using hf1)
    have hil : i < xs.length := by
      have := (List.getElem?_eq_some_iff.1 hf1).1
      simp at this
      omega
    rw [List.getElem?_eq_getElem hil] at h1
    exact ⟨m, _, h1⟩
  · cases h
end
end Go.Sx
