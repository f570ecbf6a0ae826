/- Rows and an order of single bytes. Plain Lean. -/
import Derived.Test.YtminmbkhlnaabaaLp
set_option linter.unusedSimpArgs false
set_option linter.unusedVariables false
namespace Go.Proofs.Ytminmbkhlnaabaa
open Go Go.Sx Go.RowKit
theorem fidx_map {α β : Type} (f : α → β) (p : β → Bool) : ∀ (l : List α) (i : Nat), fidx p (l.map f) i = fidx (fun x => p (f x)) l i
  | [], _ => rfl
  | x :: l, i => by
    simp only [List.map_cons, fidx]
    rw [fidx_map f p l]
theorem fidx_none_iff {α : Type} {p : α → Bool} : ∀ {l : List α} {i : Nat}, fidx p l i = none ↔ ∀ x ∈ l, p x = false
  | [], i => by simp [fidx]
  | x :: l, i => by
    unfold fidx
    cases h : p x with
    | true => simp [h]
    | false => simp [h, fidx_none_iff (l := l)]
theorem erase_filter {α : Type} [DecidableEq α] : ∀ {l : List α} {i : Nat} {x : α}, l.Nodup → l[i]? = some x → l.eraseIdx i = l.filter (fun y => decide (y ≠ x))
  | [], i, x, _, h => by simp at h
  | y :: l, 0, x, hn, h => by
    obtain rfl : y = x := by simpa using h
    have hy := (List.nodup_cons.1 hn).1
    rw [List.eraseIdx_cons_zero, List.filter_cons_of_neg (by simp)]
    exact (List.filter_eq_self.2 fun z hz => by simp; intro e; subst e; exact hy hz).symm
  | y :: l, i + 1, x, hn, h => by
    have h' : l[i]? = some x := by simpa using h
    have hy := (List.nodup_cons.1 hn).1
    have hne : y ≠ x := fun e => hy (e ▸ List.mem_of_getElem? h')
    rw [List.eraseIdx_cons_succ, List.filter_cons_of_pos (by simpa using hne), erase_filter (List.nodup_cons.1 hn).2 h']
/-- Rows whose keys are single bytes, in an order. -/
structure Link (rows : List RW) (ord : List Int) : Prop where
  keys : rows.map (·.k) = ord.map fun x => [x]
  nd : ord.Nodup
  by' : ∀ x ∈ ord, 0 ≤ x ∧ x < 256
theorem Link.len {rows : List RW} {ord : List Int} (h : Link rows ord) : rows.length = ord.length := by
  have := congrArg List.length h.keys
  simpa using this
theorem Link.good {rows : List RW} {ord : List Int} (h : Link rows ord) : Good 1 rows := fun r hr => by
  have : r.k ∈ rows.map (·.k) := List.mem_map.2 ⟨r, hr, rfl⟩
  rw [h.keys] at this
  obtain ⟨x, hx, e⟩ := List.mem_map.1 this
  refine ⟨fun y hy => ?_, by rw [← e]; simp⟩
  rw [← e] at hy
  obtain rfl : y = x := by simpa using hy
  exact h.by' y hx
theorem Link.at {rows : List RW} {ord : List Int} (h : Link rows ord) {i : Nat} {r : RW} (hr : rows[i]? = some r) : ∃ x, ord[i]? = some x ∧ r.k = [x] := by
  have h1 := congrArg (fun l => l[i]?) h.keys
  simp only [List.getElem?_map, hr, Option.map_some] at h1
  cases ho : ord[i]? with
  | none => rw [ho] at h1; simp at h1
  | some x => rw [ho] at h1; exact ⟨x, rfl, by simpa using h1⟩
theorem Link.fidx {rows : List RW} {ord : List Int} (h : Link rows ord) (k : Int) : Proofs.Ytminmbkhlnaabaa.fidx (plk [k]) rows 0 = Proofs.Ytminmbkhlnaabaa.fidx (fun x => decide ([x] = [k])) ord 0 := by
  have h1 := fidx_map (fun r : RW => r.k) (fun x => decide (x = [k])) rows 0
  have h2 := fidx_map (fun x : Int => [x]) (fun x => decide (x = [k])) ord 0
  rw [← h.keys, h1] at h2
  exact h2
theorem Link.none_iff {rows : List RW} {ord : List Int} (h : Link rows ord) (k : Int) : Proofs.Ytminmbkhlnaabaa.fidx (plk [k]) rows 0 = none ↔ k ∉ ord := by
  rw [h.fidx, fidx_none_iff]
  simp only [decide_eq_false_iff_not]
  constructor
  · intro h1 hk; exact h1 k hk rfl
  · intro h1 x hx e
    obtain rfl : x = k := by simpa using e
    exact h1 hx
theorem Link.peek2 {rows : List RW} {ord : List Int} (h : Link rows ord) (k : Int) : (peekR [k] rows).2 = decide (k ∈ ord) := by
  unfold peekR
  cases hf : Proofs.Ytminmbkhlnaabaa.fidx (plk [k]) rows 0 with
  | none => exact (decide_eq_false ((h.none_iff k).1 hf)).symm
  | some i =>
    refine (decide_eq_true ?_).symm
    by_cases hk : k ∈ ord
    · exact hk
    · rw [(h.none_iff k).2 hk] at hf; cases hf
/-- What is found of a row. -/
theorem Link.peek1 {rows : List RW} {ord : List Int} (h : Link rows ord) {x c : Int} (hr : (⟨[x], c⟩ : RW) ∈ rows) : peekR [x] rows = (c, true) := by
  obtain ⟨j, hj⟩ := List.mem_iff_getElem?.1 hr
  obtain ⟨y, hy, e⟩ := h.at hj
  obtain rfl : x = y := by simpa using e
  unfold peekR
  cases hf : Proofs.Ytminmbkhlnaabaa.fidx (plk [x]) rows 0 with
  | none => exact absurd (List.mem_of_getElem? hy) ((h.none_iff x).1 hf)
  | some i =>
    obtain ⟨hi, r, hx, hp⟩ := fidx0 hf
    obtain ⟨z, hz, e⟩ := h.at hx
    have hk : r.k = [x] := by simpa using hp
    obtain rfl : x = z := by rw [hk] at e; simpa using e
    have : i = j := (List.getElem?_inj (List.getElem?_eq_some_iff.1 hz).1 h.nd).1 (hz.trans hy.symm)
    subst this
    rw [hj] at hx
    obtain rfl := Option.some.inj hx
    simp [List.getD, hj]
def aheadL (ord : List Int) (k : Int) : List Int := k :: ord.filter (fun x => decide (x ≠ k))
theorem Link.find {rows : List RW} {ord : List Int} (h : Link rows ord) {k : Int} (hk : k ∈ ord) : Link (findR [k] rows) (aheadL ord k) ∧ (∀ r, r ∈ rows → r ∈ findR [k] rows) := by
  unfold findR aheadL
  cases hf : Proofs.Ytminmbkhlnaabaa.fidx (plk [k]) rows 0 with
  | none => exact absurd hk ((h.none_iff k).1 hf)
  | some i =>
    obtain ⟨hi, r, hx, hp⟩ := fidx0 hf
    obtain ⟨z, hz, e⟩ := h.at hx
    have hrk : r.k = [k] := by simpa using hp
    obtain rfl : k = z := by rw [hrk] at e; simpa using e
    have hg : rows.getD i default = r := by simp [List.getD, hx]
    simp only [hg]
    refine ⟨⟨?_, ?_, ?_⟩, fun q hq => ?_⟩
    · rw [List.map_cons, List.map_cons, ← erase_filter h.nd hz, hrk]
      congr 1
      rw [List.eraseIdx_eq_take_drop_succ, List.eraseIdx_eq_take_drop_succ, List.map_append, List.map_append, List.map_take, List.map_drop, h.keys, List.map_take, List.map_drop]
    · refine List.nodup_cons.2 ⟨by simp, h.nd.filter _⟩
    · intro x hx
      rcases List.mem_cons.1 hx with rfl | hx
      · exact h.by' _ hk
      · exact h.by' x (List.mem_filter.1 hx).1
    · obtain ⟨j, hj⟩ := List.mem_iff_getElem?.1 hq
      by_cases e : j = i
      · subst e
        rw [hx] at hj
        obtain rfl := Option.some.inj hj
        exact List.mem_cons_self
      · refine List.mem_cons_of_mem _ ?_
        rw [List.eraseIdx_eq_take_drop_succ]
        rcases Nat.lt_or_gt_of_ne e with h1 | h1
        · exact List.mem_append_left _ (List.mem_of_getElem? (i := j) (by rw [List.getElem?_take_of_lt h1]; exact hj))
        · exact List.mem_append_right _ (List.mem_of_getElem? (i := j - (i + 1)) (by rw [List.getElem?_drop, show i + 1 + (j - (i + 1)) = j by omega]; exact hj))
theorem ahead_none {ord : List Int} {k : Int} (hk : k ∉ ord) : aheadL ord k = k :: ord := by
  unfold aheadL
  congr 1
  exact List.filter_eq_self.2 fun z hz => by simp; intro e; subst e; exact hk hz
theorem Link.put {rows : List RW} {ord : List Int} (h : Link rows ord) {k c : Int} (hk : k ∉ ord) (hb : 0 ≤ k ∧ k < 256) {M : Int} (hM : 1 ≤ M) (hl : (ord.length : Int) ≤ M) :
    Link (putL M rows [k] c) (aheadL (if (ord.length : Int) = M then ord.take (ord.length - 1) else ord) k) ∧ (∀ (i : Nat) r, rows[i]? = some r → (i : Int) + 1 < M → r ∈ putL M rows [k] c) ∧ putE 1 [k] rows = 0 ∧
    ((ord.length : Int) = M → ∃ g, ord[ord.length - 1]? = some g ∧ (putG M rows).k = [g]) ∧ ((ord.length : Int) ≠ M → (putG M rows).k = []) := by
  have hlen := h.len
  refine ⟨?_, ?_, ?_, ?_, ?_⟩
  · unfold putL
    rw [hlen]
    split
    · rename_i e
      have h1 : rows.eraseIdx (ord.length - 1) = rows.take (ord.length - 1) := by
        rw [List.eraseIdx_eq_take_drop_succ, List.drop_of_length_le (by omega), List.append_nil]
      rw [ahead_none fun hx => hk (List.mem_of_mem_take hx), h1]
      refine ⟨by rw [List.map_cons, List.map_cons, List.map_take, h.keys, List.map_take], List.nodup_cons.2 ⟨fun hx => hk (List.mem_of_mem_take hx), h.nd.sublist (List.take_sublist _ _)⟩, fun x hx => ?_⟩
      rcases List.mem_cons.1 hx with rfl | hx
      · exact hb
      · exact h.by' x (List.mem_of_mem_take hx)
    · rw [ahead_none hk]
      refine ⟨by rw [List.map_cons, List.map_cons, h.keys], List.nodup_cons.2 ⟨hk, h.nd⟩, fun x hx => ?_⟩
      rcases List.mem_cons.1 hx with rfl | hx
      · exact hb
      · exact h.by' x hx
  · intro i r hr hi
    unfold putL
    refine List.mem_cons_of_mem _ ?_
    split
    · rw [List.eraseIdx_eq_take_drop_succ]
      exact List.mem_append_left _ (List.mem_of_getElem? (i := i) (by rw [List.getElem?_take_of_lt (by omega)]; exact hr))
    · exact List.mem_of_getElem? hr
  · unfold putE
    rw [(h.none_iff k).2 hk]
    simp
  · intro e
    obtain ⟨r, hr⟩ : ∃ r, rows[ord.length - 1]? = some r := ⟨_, List.getElem?_eq_getElem (by omega)⟩
    obtain ⟨g, hg, hrk⟩ := h.at hr
    refine ⟨g, hg, ?_⟩
    unfold putG
    rw [hlen, if_pos e]
    simp only [List.getD, hr, Option.getD_some, hrk]
  · intro e
    unfold putG
    rw [hlen, if_neg e]
end Go.Proofs.Ytminmbkhlnaabaa
