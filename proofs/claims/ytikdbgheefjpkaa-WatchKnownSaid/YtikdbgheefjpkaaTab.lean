/- Lists of cells in equal pieces: what stands at a place, what a store makes of it. Plain Lean. -/
import Derived.Test.YtikdbgheefjpkaaCtl
set_option linter.unusedVariables false
set_option linter.unusedSimpArgs false
namespace Go.Sx
/-- n pieces. -/
def tab {α : Type} (n : Nat) (f : Nat → List α) : List α := (List.range n).flatMap f
def fset {α : Type} (f : Nat → α) (i : Nat) (v : α) : Nat → α := fun j => if j = i then v else f j
theorem fset_same {α : Type} (f : Nat → α) (i : Nat) (v : α) : fset f i v i = v := by simp [fset]
theorem fset_ne {α : Type} (f : Nat → α) {i j : Nat} (v : α) (h : j ≠ i) : fset f i v j = f j := by simp [fset, h]
section
variable {α : Type} {z : Nat}
theorem tab_succ (n : Nat) (f : Nat → List α) : tab (n + 1) f = tab n f ++ f n := by simp [tab, List.range_succ]
theorem tab_length {f : Nat → List α} (hz : ∀ i, (f i).length = z) : ∀ n, (tab n f).length = n * z
  | 0 => by simp [tab]
  | n + 1 => by rw [tab_succ, List.length_append, tab_length hz n, hz, Nat.add_mul, Nat.one_mul]
theorem tab_get {f : Nat → List α} (hz : ∀ i, (f i).length = z) {i c : Nat} (hc : c < z) : ∀ n, i < n → (tab n f)[i * z + c]? = (f i)[c]?
  | 0, h => by omega
  | n + 1, h => by
    rw [tab_succ]
    by_cases hi : i < n
    · have : i * z + c < (tab n f).length := by
        rw [tab_length hz]
        calc i * z + c < i * z + z := by omega
          _ = (i + 1) * z := by rw [Nat.add_mul, Nat.one_mul]
          _ ≤ n * z := Nat.mul_le_mul_right _ hi
      rw [List.getElem?_append_left this, tab_get hz hc n hi]
    · obtain rfl : i = n := by omega
      rw [List.getElem?_append_right (by rw [tab_length hz]; omega), tab_length hz]
      congr 1
      omega
theorem tab_congr {f g : Nat → List α} : ∀ n, (∀ i, i < n → f i = g i) → tab n f = tab n g
  | 0, _ => rfl
  | n + 1, h => by rw [tab_succ, tab_succ, tab_congr n fun i hi => h i (by omega), h n (by omega)]
/-- A store inside the piece i. -/
theorem tab_splice {f : Nat → List α} (hz : ∀ i, (f i).length = z) {i c : Nat} {us : List α} (hc : c + us.length ≤ z) : ∀ n, i < n →
    (tab n f).take (i * z + c) ++ us ++ (tab n f).drop (i * z + c + us.length) = tab n (fset f i ((f i).take c ++ us ++ (f i).drop (c + us.length)))
  | 0, h => by omega
  | n + 1, h => by
    have hl := tab_length hz n
    by_cases hi : i < n
    · have h1 : i * z + z ≤ n * z := by
        calc i * z + z = (i + 1) * z := by rw [Nat.add_mul, Nat.one_mul]
          _ ≤ n * z := Nat.mul_le_mul_right _ hi
      rw [tab_succ, tab_succ, fset_ne _ _ (by omega), ← tab_splice hz hc n hi, List.take_append_of_le_length (by omega), List.drop_append_of_le_length (by omega)]
      simp
    · obtain rfl : i = n := by omega
      rw [tab_succ, tab_succ, fset_same, tab_congr (g := f) i fun j hj => fset_ne _ _ (by omega)]
      rw [List.take_append, List.drop_append, hl, List.take_of_length_le (by omega), List.drop_of_length_le (by omega)]
      have e1 : i * z + c - i * z = c := by omega
      have e2 : i * z + c + us.length - i * z = c + us.length := by omega
      rw [e1, e2]
      simp
end
/-- A store behind what stands ahead. -/
theorem splice_append (xs ys : List Value) (off : Nat) (us : List Value) : splice (xs ++ ys) (xs.length + off) us = xs ++ splice ys off us := by
  unfold splice
  rw [List.take_append, List.drop_append]
  have e1 : xs.length + off - xs.length = off := by omega
  have e2 : xs.length + off + us.length - xs.length = off + us.length := by omega
  rw [e1, e2, List.take_of_length_le (by omega), List.drop_of_length_le (by omega)]
  simp
theorem splice_append_left (xs ys : List Value) (off : Nat) (us : List Value) (h : off + us.length ≤ xs.length) : splice (xs ++ ys) off us = splice xs off us ++ ys := by
  unfold splice
  rw [List.take_append_of_le_length (by omega), List.drop_append_of_le_length (by omega)]
  simp
theorem splice_all (xs us : List Value) (h : us.length = xs.length) : splice xs 0 us = us := by
  unfold splice
  rw [List.drop_of_length_le (by omega)]
  simp
theorem splice_tab {z : Nat} {f : Nat → List Value} (hz : ∀ i, (f i).length = z) {i c n : Nat} {us : List Value} (hc : c + us.length ≤ z) (hi : i < n) : splice (tab n f) (i * z + c) us = tab n (fset f i (splice (f i) c us)) := tab_splice hz hc n hi
end Go.Sx
