/- What the calls leave: which rows, how many. Plain Lean. -/
import Derived.Test.YtminmbkhlnaabaaLK
set_option linter.unusedSimpArgs false
set_option linter.unusedVariables false
namespace Go.Proofs.Ytminmbkhlnaabaa
open Go Go.Sx Go.RowKit
theorem mem_erase {α : Type} {l : List α} {i : Nat} {x : α} (h : x ∈ l.eraseIdx i) : x ∈ l := List.mem_of_mem_eraseIdx h
theorem fidx0 {α : Type} {p : α → Bool} {l : List α} {i : Nat} (h : fidx p l 0 = some i) : i < l.length ∧ ∃ x, l[i]? = some x ∧ p x = true := by
  obtain ⟨_, h1, x, h2, h3⟩ := fidx_le h
  rw [Nat.sub_zero] at h1 h2
  exact ⟨h1, x, h2, h3⟩
theorem find_mem {k : List Int} {rows : List RW} {r : RW} (h : r ∈ findR k rows) : r ∈ rows := by
  unfold findR at h
  split at h
  · rename_i i hf
    obtain ⟨_, x, hx, _⟩ := fidx0 hf
    rcases List.mem_cons.1 h with rfl | h
    · simp only [List.getD, hx, Option.getD_some]
      exact List.mem_of_getElem? hx
    · exact mem_erase h
  · exact h
theorem del_mem {k : List Int} {rows : List RW} {r : RW} (h : r ∈ delR k rows) : r ∈ rows := by
  unfold delR at h
  split at h
  · exact mem_erase h
  · exact h
theorem put_mem {most : Int} {k : List Int} {c : Int} {rows : List RW} {r : RW} (h : r ∈ putL most rows k c) : r = ⟨k, c⟩ ∨ r ∈ rows := by
  unfold putL at h
  rcases List.mem_cons.1 h with h | h
  · exact .inl h
  · split at h
    · exact .inr (mem_erase h)
    · exact .inr h
theorem erase_len {α : Type} {l : List α} {i : Nat} (h : i < l.length) : (l.eraseIdx i).length = l.length - 1 := by
  rw [List.length_eraseIdx, if_pos h]
theorem find_len (k : List Int) (rows : List RW) : (findR k rows).length = rows.length := by
  unfold findR
  split
  · rename_i i hf
    obtain ⟨h, _⟩ := fidx0 hf
    rw [List.length_cons, erase_len h]
    omega
  · rfl
theorem del_len (k : List Int) (rows : List RW) : (delR k rows).length ≤ rows.length := by
  unfold delR
  split
  · rw [List.length_eraseIdx]; split <;> omega
  · exact Nat.le_refl _
theorem put_len {most : Int} {k : List Int} {c : Int} {rows : List RW} (hm : 1 ≤ most) (h : (rows.length : Int) ≤ most) : ((putL most rows k c).length : Int) ≤ most := by
  unfold putL
  rw [List.length_cons]
  split
  · rename_i e
    rw [erase_len (by omega)]
    omega
  · omega
def Good (n : Nat) (rows : List RW) : Prop := ∀ r ∈ rows, BytR r ∧ r.k.length ≤ n
theorem Good.R {n : Nat} {rows : List RW} (h : Good n rows) : ∀ r ∈ rows, BytR r := fun r hr => (h r hr).1
theorem Good.find {n : Nat} {rows : List RW} (h : Good n rows) (k : List Int) : Good n (findR k rows) := fun r hr => h r (find_mem hr)
theorem Good.del {n : Nat} {rows : List RW} (h : Good n rows) (k : List Int) : Good n (delR k rows) := fun r hr => h r (del_mem hr)
theorem Good.put {n : Nat} {rows : List RW} (h : Good n rows) {most : Int} {k : List Int} {c : Int} (hk : ∀ x ∈ k, 0 ≤ x ∧ x < 256) (hl : k.length ≤ n) : Good n (putL most rows k c) := fun r hr => by
  rcases put_mem hr with rfl | hr
  · exact ⟨hk, hl⟩
  · exact h r hr
end Go.Proofs.Ytminmbkhlnaabaa
