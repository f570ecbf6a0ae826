/- What is known of memory: a list of resources, apart from each other, over a base world; the steps of a walk that read, write and make memory. Plain theorems over any program. -/
import Derived.Test.YtikdbgheefjpkaaSt
set_option linter.unusedVariables false
set_option linter.unusedSimpArgs false
namespace Go.Sx
open Go.RowKit

/-- Only blocks of D, and new ones, may be other than they were. -/
structure Chg (D : Nat → Prop) (w w' : World) : Prop where
  os : w'.os = w.os
  tape : w'.tape = w.tape
  output : w'.output = w.output
  size : w.heap.size ≤ w'.heap.size
  old : ∀ k, k < w.heap.size → ¬ D k → w'.heap[k]? = w.heap[k]?
theorem Chg.rfl' (D : Nat → Prop) (w : World) : Chg D w w := ⟨rfl, rfl, rfl, Nat.le_refl _, fun _ _ _ => rfl⟩
theorem Chg.of_grow {D : Nat → Prop} {w w' : World} (h : Grow w w') : Chg D w w' := ⟨h.os, h.tape, h.output, h.size, fun k hk _ => h.block k hk⟩
theorem Chg.grow {w w' : World} (h : Chg (fun _ => False) w w') : Grow w w' := ⟨h.os, h.tape, h.output, h.size, fun k hk => h.old k hk id⟩
theorem Chg.trans {D : Nat → Prop} {a b c : World} (h : Chg D a b) (k : Chg D b c) : Chg D a c :=
  ⟨k.os.trans h.os, k.tape.trans h.tape, k.output.trans h.output, Nat.le_trans h.size k.size, fun i hi hd => (k.old i (Nat.lt_of_lt_of_le hi h.size) hd).trans (h.old i hi hd)⟩
theorem Chg.mono {D D' : Nat → Prop} {a b : World} (h : Chg D a b) (hd : ∀ k, k < a.heap.size → D k → D' k) : Chg D' a b :=
  ⟨h.os, h.tape, h.output, h.size, fun i hi hn => h.old i hi fun hx => hn (hd i hi hx)⟩
theorem Chg.alloc (D : Nat → Prop) (w : World) (o : Obj) : Chg D w (w.alloc o) := ⟨rfl, rfl, rfl, by simp, fun k hk _ => Below.heap_alloc w o k hk⟩
theorem Chg.setRow {D : Nat → Prop} {w : World} {b : Nat} {cs : Array Value} (h : D b) : Chg D w (w.setRow b cs) :=
  ⟨rfl, rfl, rfl, by simp, fun k _ hd => setRow_other w b k cs fun e => hd (e ▸ h)⟩

structure Res where
  dom : Nat → Prop
  holds : World → Prop
  loc : ∀ w w', (∀ b, dom b → w'.heap[b]? = w.heap[b]?) → holds w → holds w'

structure Ok (S : Nat → Prop) (w0 : World) (H : List Res) (w : World) : Prop where
  keep : Chg S w0 w
  holds : ∀ (i : Nat) (r : Res), H[i]? = some r → r.holds w
  own : ∀ (i : Nat) (r : Res), H[i]? = some r → ∀ b, r.dom b → b < w.heap.size ∧ (b < w0.heap.size → S b)
  sep : ∀ (i j : Nat) (r r' : Res), H[i]? = some r → H[j]? = some r' → i ≠ j → ∀ b, r.dom b → ¬ r'.dom b

section
variable {S : Nat → Prop} {w0 w w' : World} {H : List Res}
theorem Ok.start (w : World) : Ok S w [] w := ⟨Chg.rfl' _ _, by simp, by simp, by simp⟩
theorem Ok.grow (h : Ok S w0 H w) (g : Grow w w') : Ok S w0 H w' :=
  ⟨h.keep.trans (Chg.of_grow g), fun i r hi => r.loc w w' (fun b hb => g.block b (h.own i r hi b hb).1) (h.holds i r hi), fun i r hi b hb => ⟨Nat.lt_of_lt_of_le (h.own i r hi b hb).1 g.size, (h.own i r hi b hb).2⟩, h.sep⟩
theorem stb_ok : Stb (Ok S w0 H) := fun _ _ h g => h.grow g
/-- One resource turns into another one. -/
theorem Ok.upd (h : Ok S w0 H w) (i : Nat) {r : Res} (hi : H[i]? = some r) {D : Nat → Prop} (hc : Chg D w w') (hD : ∀ b, b < w.heap.size → D b → r.dom b) (r' : Res) (hh : r'.holds w')
    (ho : ∀ b, r'.dom b → b < w'.heap.size ∧ (b < w.heap.size → r.dom b)) : Ok S w0 (H.set i r') w' := by
  have hil : i < H.length := (List.getElem?_eq_some_iff.1 hi).1
  have key : ∀ j x, (H.set i r')[j]? = some x → (j = i ∧ x = r') ∨ (j ≠ i ∧ H[j]? = some x) := by
    intro j x hx
    rw [List.getElem?_set] at hx
    by_cases e : i = j
    · subst e
      simp [hil] at hx
      exact .inl ⟨rfl, hx.symm⟩
    · simp [e] at hx
      exact .inr ⟨fun h => e h.symm, hx⟩
  have hS : ∀ b, b < w0.heap.size → D b → S b := fun b hb hd => (h.own i r hi b (hD b (Nat.lt_of_lt_of_le hb h.keep.size) hd)).2 hb
  refine ⟨⟨hc.os.trans h.keep.os, hc.tape.trans h.keep.tape, hc.output.trans h.keep.output, Nat.le_trans h.keep.size hc.size, fun k hk hn => (hc.old k (Nat.lt_of_lt_of_le hk h.keep.size) fun hd => hn (hS k hk hd)).trans (h.keep.old k hk hn)⟩, fun j x hx => ?_, fun j x hx b hb => ?_, fun j k x y hx hy hjk b hb hb' => ?_⟩
  · rcases key j x hx with ⟨_, rfl⟩ | ⟨hj, hx⟩
    · exact hh
    · refine x.loc w w' (fun b hb => hc.old b (h.own j x hx b hb).1 fun hd => ?_) (h.holds j x hx)
      exact h.sep j i x r hx hi hj b hb (hD b (h.own j x hx b hb).1 hd)
  · rcases key j x hx with ⟨_, rfl⟩ | ⟨hj, hx⟩
    · refine ⟨(ho b hb).1, fun hl => (h.own i r hi b ((ho b hb).2 (Nat.lt_of_lt_of_le hl h.keep.size))).2 hl⟩
    · exact ⟨Nat.lt_of_lt_of_le (h.own j x hx b hb).1 hc.size, (h.own j x hx b hb).2⟩
  · rcases key j x hx with ⟨ej, rfl⟩ | ⟨hj, hx⟩
    · rcases key k y hy with ⟨ek, _⟩ | ⟨hk, hy⟩
      · exact hjk (ej.trans ek.symm)
      · exact h.sep i k r y hi hy (fun e => hk e.symm) b ((ho b hb).2 (h.own k y hy b hb').1) hb'
    · rcases key k y hy with ⟨ek, ey⟩ | ⟨hk, hy⟩
      · rw [ey] at hb'
        exact h.sep j i x r hx hi hj b hb ((ho b hb').2 (h.own j x hx b hb).1)
      · exact h.sep j k x y hx hy hjk b hb hb'
/-- A new one. -/
theorem Ok.push (h : Ok S w0 H w) {D : Nat → Prop} (hc : Chg D w w') (hD : ∀ b, b < w.heap.size → ¬ D b) (r : Res) (hh : r.holds w') (ho : ∀ b, r.dom b → b < w'.heap.size ∧ ¬ b < w.heap.size) : Ok S w0 (r :: H) w' := by
  have hg : Grow w w' := (hc.mono (D' := fun _ => False) fun k hk hd => hD k hk hd).grow
  have h' := h.grow hg
  have key : ∀ j x, (r :: H)[j]? = some x → (j = 0 ∧ x = r) ∨ (∃ j', j = j' + 1 ∧ H[j']? = some x) := by
    intro j x hx
    cases j with
    | zero => simp at hx; exact .inl ⟨rfl, hx.symm⟩
    | succ j => simp at hx; exact .inr ⟨j, rfl, hx⟩
  refine ⟨h'.keep, fun j x hx => ?_, fun j x hx b hb => ?_, fun j k x y hx hy hjk b hb hb' => ?_⟩
  · rcases key j x hx with ⟨_, rfl⟩ | ⟨_, _, hx⟩
    · exact hh
    · exact h'.holds _ x hx
  · rcases key j x hx with ⟨_, rfl⟩ | ⟨_, _, hx⟩
    · exact ⟨(ho b hb).1, fun hl => absurd (Nat.lt_of_lt_of_le hl h.keep.size) (ho b hb).2⟩
    · exact h'.own _ x hx b hb
  · rcases key j x hx with ⟨ej, rfl⟩ | ⟨j', ej, hx⟩
    · rcases key k y hy with ⟨ek, _⟩ | ⟨k', ek, hy⟩
      · exact hjk (ej.trans ek.symm)
      · exact (ho b hb).2 (h.own _ y hy b hb').1
    · rcases key k y hy with ⟨ek, ey⟩ | ⟨k', ek, hy⟩
      · rw [ey] at hb'
        exact (ho b hb').2 (h.own _ x hx b hb).1
      · exact h'.sep _ _ x y hx hy (fun e => hjk (by omega)) b hb hb'
/-- Fewer, or in another order. -/
theorem Ok.pick (h : Ok S w0 H w) (is : List Nat) (hn : is.Nodup) {H' : List Res} (hH : H'.map some = is.map fun i => H[i]?) : Ok S w0 H' w := by
  have key : ∀ (j : Nat) (x : Res), H'[j]? = some x → ∃ i, is[j]? = some i ∧ H[i]? = some x := by
    intro j x hx
    have h1 : (H'.map some)[j]? = some (some x) := by simp [hx]
    rw [hH] at h1
    simp only [List.getElem?_map, Option.map_eq_some_iff] at h1
    obtain ⟨i, hi, hx'⟩ := h1
    exact ⟨i, hi, hx'⟩
  refine ⟨h.keep, fun j x hx => ?_, fun j x hx => ?_, fun j k x y hx hy hjk => ?_⟩
  · obtain ⟨i, _, hi⟩ := key j x hx; exact h.holds i x hi
  · obtain ⟨i, _, hi⟩ := key j x hx; exact h.own i x hi
  · obtain ⟨i, hi0, hi⟩ := key j x hx
    obtain ⟨i', hi0', hi'⟩ := key k y hy
    refine h.sep i i' x y hi hi' fun e => hjk ?_
    subst e
    have h1 := List.getElem?_inj (List.getElem?_eq_some_iff.1 hi0).1 hn |>.1 (hi0.trans hi0'.symm)
    exact h1
/-- What is old and not written reads as it did. -/
theorem Ok.old (h : Ok S w0 H w) {a : Addr} {v : Value} (hc : w0.cell? a = some v) (hs : ¬ S a.block) : w.cell? a = some v :=
  (World.cell?_of_block (h.keep.old a.block (World.block_lt_of_cell? w0 a hc) hs)).trans hc
end

/-! ### A block of cells -/
def row (b : Nat) (T : TypeId) (vs : List Value) : Res where
  dom := fun k => k = b
  holds := fun w => w.heap[b]? = some (.cells vs.toArray T (0, 0))
  loc := fun w w' h hh => (h b rfl).trans hh
section
variable {S : Nat → Prop} {w0 w w' : World} {H : List Res}
theorem row_cell {b T : Nat} {vs : List Value} (h : (row b T vs).holds w) {off : Nat} {v : Value} (hv : vs[off]? = some v) : w.cell? ⟨b, off, none⟩ = some v := by
  have h' : w.heap[b]? = some (.cells vs.toArray T (0, 0)) := h
  simp [World.cell?, h', hv]
theorem Ok.cell (h : Ok S w0 H w) (i : Nat) {b T : Nat} {vs : List Value} (hi : H[i]? = some (row b T vs)) {off : Nat} {v : Value} (hv : vs[off]? = some v) : w.cell? ⟨b, off, none⟩ = some v := row_cell (h.holds i _ hi) hv
theorem Ok.row_lt (h : Ok S w0 H w) (i : Nat) {b T : Nat} {vs : List Value} (hi : H[i]? = some (row b T vs)) : b < w.heap.size := (h.own i _ hi b rfl).1
/-- What a store at a place makes of cells. -/
def splice (vs : List Value) (off : Nat) (us : List Value) : List Value := vs.take off ++ us ++ vs.drop (off + us.length)
theorem Ok.store (h : Ok S w0 H w) (i : Nat) {b T : Nat} {vs : List Value} (hi : H[i]? = some (row b T vs)) {off : Nat} {us : List Value} (hl : off + us.length ≤ vs.length) (P : Program) (h1 : ∀ v ∈ us, v.oneCell' = true) :
    ∃ w', (storeCells ⟨b, off, none⟩ us).run P w = .ok () w' ∧ Ok S w0 (H.set i (row b T (splice vs off us))) w' := by
  have hb : w.heap[b]? = some (.cells vs.toArray T (0, 0)) := h.holds i _ hi
  have hr := run_storeCells_at P b off T us 0 vs.toArray w hb (by simpa using hl) h1
  refine ⟨_, hr, h.upd i hi (D := fun k => k = b) (Chg.setRow rfl) (fun k _ hk => hk) _ ?_ fun k hk => ?_⟩
  · have := setRow_heap w b vs.toArray (splice vs off us).toArray T (0, 0) hb
    simpa [splice, row] using this
  · obtain rfl : k = b := hk
    exact ⟨by simp; exact (h.own i _ hi k rfl).1, fun _ => rfl⟩
theorem Ok.alloc (h : Ok S w0 H w) (cs : Array Value) (T : TypeId) : Ok S w0 (row w.heap.size T cs.toList :: H) (w.alloc (.cells cs T)) :=
  h.push (D := fun _ => False) (Chg.alloc _ _ _) (fun _ _ h => h) _ (by show (w.alloc (.cells cs T)).heap[w.heap.size]? = _; rw [heap_alloc_new]) fun b hb => by
    obtain rfl : b = w.heap.size := hb
    exact ⟨by simp, by omega⟩
end
end Go.Sx
