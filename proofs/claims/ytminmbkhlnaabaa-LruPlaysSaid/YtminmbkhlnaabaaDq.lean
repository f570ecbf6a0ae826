/- The program's rows and the document's: plain. -/
import Derived.Test.YtminmbkhlnaabaaLp
import Derived.Test.YtminmbkhlnaabaaDn
set_option linter.unusedSimpArgs false
set_option linter.unusedVariables false
namespace Go.Proofs.Ytminmbkhlnaabaa
open Go Go.Sx Go.RowKit
def rwOf (d : DR) : RW := ⟨d.k, d.c⟩
/-- The same rows, by when they were used. -/
structure Rl (L : List DR) (rows : List RW) (ds : List DR) (uses : Nat) : Prop where
  perm : L.Perm ds
  eq : rows = L.map rwOf
  srt : L.Pairwise fun a b => b.u < a.u
  bd : ∀ r ∈ L, 1 ≤ r.u ∧ r.u ≤ uses
  nd : L.Pairwise fun a b => a.k ≠ b.k
theorem Rl.nil : Rl [] [] [] 0 := ⟨.nil, rfl, .nil, fun r h => (by cases h), .nil⟩
theorem fidx_none' {α : Type} {p : α → Bool} : ∀ {l : List α} {i : Nat}, (∀ x ∈ l, p x = false) → fidx p l i = none
  | [], _, _ => rfl
  | x :: l, i, h => by
    unfold fidx
    rw [h x (by simp)]
    exact fidx_none' fun y hy => h y (by simp [hy])
theorem fidx_no {α : Type} {p : α → Bool} : ∀ {l : List α} {i : Nat}, fidx p l i = none → ∀ x ∈ l, p x = false
  | [], _, _, x, hx => by cases hx
  | y :: l, i, h, x, hx => by
    unfold fidx at h
    cases hp : p y with
    | true => rw [hp] at h; cases h
    | false =>
      rw [hp] at h
      rcases List.mem_cons.1 hx with rfl | hx
      · exact hp
      · exact fidx_no h x hx
theorem nd_uniq {α β : Type} {f : α → β} : ∀ {l : List α}, l.Pairwise (fun a b => f a ≠ f b) → ∀ {i j : Nat} {x y : α}, l[i]? = some x → l[j]? = some y → f x = f y → i = j
  | [], _, i, j, x, y, h, _, _ => by simp at h
  | a :: l, hp, i, j, x, y, hi, hj, he => by
    have hp' := List.pairwise_cons.1 hp
    cases i with
    | zero =>
      cases j with
      | zero => rfl
      | succ j =>
        obtain rfl : a = x := by simpa using hi
        exact absurd he (hp'.1 y (List.mem_of_getElem? (i := j) (by simpa using hj)))
    | succ i =>
      cases j with
      | zero =>
        obtain rfl : a = y := by simpa using hj
        exact absurd he.symm (hp'.1 x (List.mem_of_getElem? (i := i) (by simpa using hi)))
      | succ j => rw [nd_uniq hp'.2 (i := i) (j := j) (by simpa using hi) (by simpa using hj) he]
theorem Rl.find {L : List DR} {rows : List RW} {ds : List DR} {uses : Nat} (h : Rl L rows ds uses) (k : List Int) :
    (fidx (plk k) rows 0 = none ∧ fidx (dlk k) ds 0 = none ∧ ∀ r ∈ L, r.k ≠ k) ∨ ∃ i j d, fidx (plk k) rows 0 = some i ∧ fidx (dlk k) ds 0 = some j ∧ L[i]? = some d ∧ ds[j]? = some d ∧ rows[i]? = some (rwOf d) ∧ d.k = k := by
  cases hf : fidx (dlk k) ds 0 with
  | none =>
    have h1 : ∀ r ∈ L, r.k ≠ k := fun r hr => by simpa using fidx_no hf r (h.perm.mem_iff.1 hr)
    refine .inl ⟨fidx_none' fun r hr => ?_, rfl, h1⟩
    rw [h.eq] at hr
    obtain ⟨d, hd, rfl⟩ := List.mem_map.1 hr
    simpa [rwOf] using h1 d hd
  | some j =>
    obtain ⟨hj, d, hd, hp⟩ := fidx0 hf
    have hk : d.k = k := by simpa using hp
    have hdL : d ∈ L := h.perm.mem_iff.2 (List.mem_of_getElem? hd)
    cases hf2 : fidx (plk k) rows 0 with
    | none =>
      have := fidx_no hf2 (rwOf d) (by rw [h.eq]; exact List.mem_map.2 ⟨d, hdL, rfl⟩)
      simp [rwOf, hk] at this
    | some i =>
      obtain ⟨hi, r, hr, hp2⟩ := fidx0 hf2
      have hr2 := hr
      rw [h.eq, List.getElem?_map] at hr2
      obtain ⟨e, he, rfl⟩ := Option.map_eq_some_iff.1 hr2
      have hek : e.k = k := by simpa [rwOf] using hp2
      obtain ⟨i', hi'⟩ := List.mem_iff_getElem?.1 hdL
      have := nd_uniq h.nd he hi' (hek.trans hk.symm)
      subst this
      rw [he] at hi'
      obtain rfl := Option.some.inj hi'
      exact .inr ⟨i, j, e, rfl, rfl, he, hd, hr, hk⟩
theorem Rl.peek {L : List DR} {rows : List RW} {ds : List DR} {uses : Nat} (h : Rl L rows ds uses) (k : List Int) : peekR k rows = peekD k ds := by
  unfold peekR peekD
  rcases h.find k with ⟨h1, h2, _⟩ | ⟨i, j, d, h1, h2, h3, h4, h5, h6⟩
  · rw [h1, h2]
  · rw [h1, h2]
    simp [List.getD, h4, h5, rwOf]
theorem perm_er {α : Type} {l : List α} {i : Nat} {x : α} (h : l[i]? = some x) : (x :: l.eraseIdx i).Perm l := by
  have hlt := (List.getElem?_eq_some_iff.1 h).1
  have h1 := set_perm x l i hlt
  have h2 : l.set i x = l := by
    rw [← (List.getElem?_eq_some_iff.1 h).2]
    exact List.set_getElem_self _
  rwa [h2] at h1
theorem er_perm {α : Type} {l m : List α} {i j : Nat} {x : α} (hp : l.Perm m) (hi : l[i]? = some x) (hj : m[j]? = some x) : (l.eraseIdx i).Perm (m.eraseIdx j) :=
  (((perm_er hi).trans hp).trans (perm_er hj).symm).cons_inv
theorem map_er {α β : Type} (f : α → β) : ∀ (l : List α) (i : Nat), (l.eraseIdx i).map f = (l.map f).eraseIdx i
  | [], _ => rfl
  | _ :: _, 0 => rfl
  | x :: l, i + 1 => by simp [map_er f l i]
theorem Rl.er {L : List DR} {rows : List RW} {ds : List DR} {uses : Nat} (h : Rl L rows ds uses) {i j : Nat} {d : DR} (hi : L[i]? = some d) (hj : ds[j]? = some d) : Rl (L.eraseIdx i) (rows.eraseIdx i) (ds.eraseIdx j) uses :=
  ⟨er_perm h.perm hi hj, by rw [map_er, h.eq], h.srt.sublist (List.eraseIdx_sublist L i), fun r hr => h.bd r (List.mem_of_mem_eraseIdx hr), h.nd.sublist (List.eraseIdx_sublist L i)⟩
/-- A row ahead of all. -/
theorem Rl.cons {L : List DR} {rows : List RW} {ds : List DR} {uses : Nat} (h : Rl L rows ds uses) (d : DR) (hu : d.u = uses + 1) (hk : ∀ r ∈ L, r.k ≠ d.k) {ds' : List DR} (hp : ds'.Perm (d :: ds)) : Rl (d :: L) (rwOf d :: rows) ds' (uses + 1) := by
  refine ⟨(h.perm.cons d).trans hp.symm, by rw [h.eq]; rfl, List.pairwise_cons.2 ⟨fun r hr => ?_, h.srt⟩, fun r hr => ?_, List.pairwise_cons.2 ⟨fun r hr => (hk r hr).symm, h.nd⟩⟩
  · have := h.bd r hr
    omega
  · rcases List.mem_cons.1 hr with rfl | hr
    · omega
    · have := h.bd r hr
      omega
theorem nd_er {L : List DR} (h : L.Pairwise fun a b => a.k ≠ b.k) {i : Nat} {d : DR} (hi : L[i]? = some d) : ∀ r ∈ L.eraseIdx i, r.k ≠ d.k := fun r hr e => by
  have h1 : (d :: L.eraseIdx i).Pairwise fun a b => a.k ≠ b.k := ((perm_er hi).pairwise_iff (fun h => fun e => h e.symm)).2 h
  exact (List.pairwise_cons.1 h1).1 r hr e.symm
theorem Rl.use {L : List DR} {rows : List RW} {ds : List DR} {uses : Nat} (h : Rl L rows ds uses) (k : List Int) : ∃ L', Rl L' (findR k rows) (useF k uses ds) (usesF k uses ds) := by
  unfold findR useF usesF
  rcases h.find k with ⟨h1, h2, _⟩ | ⟨i, j, d, h1, h2, h3, h4, h5, h6⟩
  · rw [h1, h2]; exact ⟨L, h⟩
  · rw [h1, h2]
    have e1 : rows.getD i default = rwOf d := by simp [List.getD, h5]
    have e2 : ds.getD j default = d := by simp [List.getD, h4]
    dsimp only
    rw [e1, e2]
    have hj := (List.getElem?_eq_some_iff.1 h4).1
    exact ⟨_, (h.er h3 h4).cons (d.at' (uses + 1)) rfl (fun r hr => nd_er h.nd h3 r hr) (set_perm _ ds j hj).symm⟩
theorem Rl.del {L : List DR} {rows : List RW} {ds : List DR} {uses : Nat} (h : Rl L rows ds uses) (k : List Int) : ∃ L', Rl L' (delR k rows) (delD k ds) uses := by
  unfold delR delD
  rcases h.find k with ⟨h1, h2, _⟩ | ⟨i, j, d, h1, h2, h3, h4, h5, h6⟩
  · rw [h1, h2]; exact ⟨L, h⟩
  · rw [h1, h2]; exact ⟨_, h.er h3 h4⟩
theorem Rl.len {L : List DR} {rows : List RW} {ds : List DR} {uses : Nat} (h : Rl L rows ds uses) : rows.length = ds.length := by
  rw [h.eq, List.length_map, h.perm.length_eq]
theorem Rl.putE {L : List DR} {rows : List RW} {ds : List DR} {uses : Nat} (h : Rl L rows ds uses) (key : Int) (k : List Int) : Proofs.Ytminmbkhlnaabaa.putE key k rows = dputE key k ds := by
  unfold Proofs.Ytminmbkhlnaabaa.putE dputE
  rcases h.find k with ⟨h1, h2, _⟩ | ⟨i, j, d, h1, h2, _⟩
  · rw [h1, h2]
  · rw [h1, h2]; rfl
theorem Rl.put {L : List DR} {rows : List RW} {ds : List DR} {uses : Nat} (h : Rl L rows ds uses) {key most : Int} {k : List Int} (c : Int) (he : dputE key k ds = 0) (hlt : (ds.length : Int) ≠ most) (q1 : Option Addr) (q2 : Nat) :
    ∃ L', Rl L' (putL most rows k c) (ds ++ [⟨q1, q2, k, c, uses + 1⟩]) (uses + 1) := by
  have hno : ∀ r ∈ L, r.k ≠ k := by
    rcases h.find k with ⟨_, _, h1⟩ | ⟨i, j, d, h1, h2, _⟩
    · exact h1
    · unfold dputE at he
      rw [h2] at he
      split at he <;> cases he
  unfold putL
  rw [if_neg (by rw [h.len]; exact hlt)]
  exact ⟨_, h.cons ⟨q1, q2, k, c, uses + 1⟩ rfl hno (List.perm_append_singleton _ _)⟩
theorem Rl.putf {L : List DR} {rows : List RW} {ds : List DR} {uses : Nat} (h : Rl L rows ds uses) {key most : Int} {k : List Int} (c : Int) (he : dputE key k ds = 0) (hlt : (ds.length : Int) = most) (hpos : 0 < ds.length) {f : Nat} {rf : DR} (hL : Least ds f rf) (q1 : Option Addr) (q2 : Nat) :
    (∃ L', Rl L' (putL most rows k c) (ds.eraseIdx f ++ [⟨q1, q2, k, c, uses + 1⟩]) (uses + 1)) ∧ putG most rows = rwOf rf := by
  have hno : ∀ r ∈ L, r.k ≠ k := by
    rcases h.find k with ⟨_, _, h1⟩ | ⟨i, j, d, h1, h2, _⟩
    · exact h1
    · unfold dputE at he
      rw [h2] at he
      split at he <;> cases he
  have hlen := h.len
  have hLl : L.length = ds.length := h.perm.length_eq
  obtain ⟨hf, hmin⟩ := hL
  have hlast : L[L.length - 1]? = some rf := by
    obtain ⟨x, hx⟩ : ∃ x, L[L.length - 1]? = some x := ⟨_, List.getElem?_eq_getElem (by omega)⟩
    obtain ⟨i, hi⟩ := List.mem_iff_getElem?.1 (h.perm.mem_iff.2 (List.mem_of_getElem? hf))
    have hxm := hmin x (h.perm.mem_iff.1 (List.mem_of_getElem? hx))
    by_cases e : i = L.length - 1
    · rw [← e]; exact hi
    · exfalso
      obtain ⟨hi1, hi2⟩ := List.getElem?_eq_some_iff.1 hi
      obtain ⟨hx1, hx2⟩ := List.getElem?_eq_some_iff.1 hx
      have := List.pairwise_iff_getElem.1 h.srt i (L.length - 1) hi1 hx1 (by omega)
      rw [hi2, hx2] at this
      omega
  have hrl : rows.length = L.length := by rw [h.eq, List.length_map]
  constructor
  · unfold putL
    rw [if_pos (by rw [hlen]; exact hlt), hrl]
    exact ⟨_, (h.er hlast hf).cons ⟨q1, q2, k, c, uses + 1⟩ rfl (fun r hr => hno r (List.mem_of_mem_eraseIdx hr)) (List.perm_append_singleton _ _)⟩
  · unfold putG
    rw [if_pos (by rw [hlen]; exact hlt), hrl]
    have : rows[L.length - 1]? = some (rwOf rf) := by rw [h.eq, List.getElem?_map, hlast]; rfl
    simp [List.getD, this]
/-! ### Keys -/
theorem perm_le1 {α : Type} {l m : List α} (h : l.Perm m) (hl : m.length ≤ 1) : l = m := by
  match m, hl with
  | [], _ => exact h.eq_nil
  | [x], _ => exact List.perm_singleton.1 h
theorem lev_le {L : List DR} (h : L.Pairwise fun a b => b.u < a.u) (v : Nat) : (L.filter fun r => decide (r.u = v)).length ≤ 1 := by
  have h2 := h.filter fun r => decide (r.u = v)
  have hm : ∀ r ∈ L.filter fun r => decide (r.u = v), r.u = v := fun r hr => by simpa using (List.mem_filter.1 hr).2
  generalize (L.filter fun r => decide (r.u = v)) = M at h2 hm ⊢
  match M, h2, hm with
  | [], _, _ => exact Nat.zero_le _
  | [x], _, _ => exact Nat.le_refl _
  | x :: y :: l, h2, hm =>
    have h3 := (List.pairwise_cons.1 h2).1 y (by simp)
    have h4 := hm x (by simp)
    have h5 := hm y (by simp)
    omega
theorem lev_split : ∀ {L : List DR}, L.Pairwise (fun a b => b.u < a.u) → ∀ v, (L.filter fun r => decide (v < r.u)) = (L.filter fun r => decide (v + 1 < r.u)) ++ L.filter fun r => decide (r.u = v + 1)
  | [], _, _ => rfl
  | a :: L, h, v => by
    have h' := List.pairwise_cons.1 h
    have ih := lev_split h'.2 v
    rw [List.filter_cons, List.filter_cons, List.filter_cons]
    rcases Nat.lt_trichotomy a.u (v + 1) with h1 | h1 | h1
    · rw [decide_eq_false (by omega : ¬ v < a.u), decide_eq_false (by omega : ¬ v + 1 < a.u), decide_eq_false (by omega : ¬ a.u = v + 1)]
      exact ih
    · rw [decide_eq_true (by omega : v < a.u), decide_eq_false (by omega : ¬ v + 1 < a.u), decide_eq_true (by omega : a.u = v + 1)]
      have e1 : L.filter (fun r => decide (v + 1 < r.u)) = [] := List.filter_eq_nil_iff.2 fun r hr => by have := h'.1 r hr; simp; omega
      rw [e1] at ih ⊢
      simp only [if_true, Bool.false_eq_true, if_false, List.nil_append] at ih ⊢
      rw [ih]
    · rw [decide_eq_true (by omega : v < a.u), decide_eq_true (by omega : v + 1 < a.u), decide_eq_false (by omega : ¬ a.u = v + 1)]
      simp only [if_true, Bool.false_eq_true, if_false, List.cons_append]
      rw [ih]
theorem Rl.keys {L : List DR} {rows : List RW} {ds : List DR} {uses : Nat} (h : Rl L rows ds uses) : keysTo ds uses 0 = rows.map (·.k) := by
  have key : ∀ d v, v + d = uses → keysTo ds uses v = (L.filter fun r => decide (v < r.u)).map (·.k) := by
    intro d
    induction d with
    | zero =>
      intro v hv
      have e1 : L.filter (fun r => decide (v < r.u)) = [] := List.filter_eq_nil_iff.2 fun r hr => by have := h.bd r hr; simp; omega
      rw [e1]
      unfold keysTo downTo
      rw [show uses - v = 0 by omega]
      rfl
    | succ d ih =>
      intro v hv
      have h1 := ih (v + 1) (by omega)
      unfold keysTo at h1 ⊢
      rw [downTo_s (by omega), List.flatMap_append, h1, lev_split h.srt v, List.map_append]
      congr 1
      rw [List.flatMap_cons, List.flatMap_nil, List.append_nil]
      unfold lev
      rw [perm_le1 (h.perm.symm.filter fun r => decide (r.u = v + 1)) (lev_le h.srt (v + 1))]
  rw [key uses 0 (by omega), h.eq, List.map_map]
  congr 1
  exact List.filter_eq_self.2 fun r hr => by have := h.bd r hr; simp; omega
end Go.Proofs.Ytminmbkhlnaabaa
