/- A range over a map with int keys, in whatever order. Plain theorems over any program. -/
import Derived.Test.YtikdbgheefjpkaaMr
import Derived.Test.YtikdbgheefjpkaaObj
set_option linter.unusedVariables false
set_option linter.unusedSimpArgs false
namespace Go.Sx
open Go.RowKit
/-- A map, and an iterator over it: what is still to come, and what came last. -/
def rngR (mp r : Nat) (m todo : List (Int × Value)) (cur : Option (Int × Value)) : Res where
  dom := fun k => k = mp ∨ k = r
  holds := fun w => ∃ (es : Array MapEntry) (clock since : Nat) (seen : Array Nat) (c0 : Nat), w.heap[mp]? = some (.map es clock) ∧ es.toList.map kv = m.map ik ∧ Stm es clock ∧ w.heap[r]? = some (.mapIter (some mp) since seen c0) ∧ (∀ x ∈ es.toList, x.born < since) ∧ (since ≤ c0 ∧ since ≤ clock) ∧ (leftOf es seen).toList.map kv = todo.map ik ∧ ∀ p, cur = some p → c0 = clock ∧ ∃ (seen0 : Array Nat) (e : MapEntry), seen = seen0.push e.born ∧ e ∈ es.toList ∧ kv e = ik p
  loc := fun w w' h ⟨es, clock, since, seen, c0, h1, h2, h3, h4, h5⟩ => ⟨es, clock, since, seen, c0, (h mp (.inl rfl)).trans h1, h2, h3, (h r (.inr rfl)).trans h4, h5⟩
theorem Ok.unrange {S : Nat → Prop} {w0 w : World} {H : List Res} {mp r : Nat} {m todo : List (Int × Value)} {cur : Option (Int × Value)} (j : Nat) (hj : H[j]? = some (rngR mp r m todo cur)) (h : Ok S w0 H w) : Ok S w0 (H.set j (mapR mp m)) w :=
  h.rep j hj _ (fun b hb => Or.inl hb) (by
    obtain ⟨es, clock, since, seen, c0, h1, h2, h3, _⟩ := h.holds j _ hj
    exact ⟨es, clock, h1, h2, h3⟩)
section
variable {P : Program} {ops : List Oper} {C : World → Prop} {anc : Nat → Bool} {R : Act → (World → Prop) → Prop} {i : Nat} {l : List Nat} {n : Nat} {st : Slots} {S : Nat → Prop} {w0 : World} {H : List Res} {o : Oper} {d : Nat}
theorem leftOf_nil (es : Array MapEntry) : leftOf es #[] = es := by
  unfold leftOf
  exact Array.filter_eq_self.2 (by simp)
theorem a_mrange {t : TypeId} {z : Value} (hm : MapT P t z) (ho : nthO ops i = some o) (hg : gd ops.toArray n st o = true) (ha : anc i = true) {x : Operand} (hop : o.op = .range t x) {mp : Nat} (hx : ev n st x = .map (some mp)) {m : List (Int × Value)} (j : Nat) (hj : H[j]? = some (mapR mp m)) (hd : o.dst = some d)
    (hC : ∀ r w, Ok S w0 (H.set j (rngR mp r m m none)) w → C w) (h : ∀ r, MX P ops C anc R l n ((d, .pointer (some ⟨r, 0, none⟩)) :: st) S w0 (H.set j (rngR mp r m m none))) : MX P ops C anc R (i :: l) n st S w0 H := by
  obtain ⟨kt, e, h1, h2, h3⟩ := hm.spec
  refine a_any ho hg ha fun _ w hw => ?_
  obtain ⟨es, clock, h4, h5, h6⟩ := hw.holds j _ hj
  have hlt : mp < w.heap.size := (Array.getElem?_eq_some_iff.1 h4).1
  have hr : (execOp (ev n st) o).run P w = .ok (.value (.pointer (some ⟨w.heap.size, 0, none⟩))) (w.alloc (.mapIter (some mp) clock #[] clock)) := by
    have h7 : (Instr.range t (.map (some mp))).run P w = .ok (.pointer (some ⟨w.heap.size, 0, none⟩)) (w.alloc (.mapIter (some mp) clock #[] clock)) := run_range_map w t kt e mp es clock h1 h4
    simp [execOp, hop, hx, h7, Result.andThen, -World.alloc_eq]
  unfold runs
  rw [hr]
  refine ⟨_, hC w.heap.size, ?_, by rw [hd]; exact h w.heap.size⟩
  have hnew : (w.alloc (.mapIter (some mp) clock #[] clock)).heap[w.heap.size]? = some (.mapIter (some mp) clock #[] clock) := by rw [heap_alloc_new]
  have hold : (w.alloc (.mapIter (some mp) clock #[] clock)).heap[mp]? = some (.map es clock) := ((MapKept.heap_alloc w _).2 mp hlt).trans h4
  exact hw.upd j hj (D := fun _ => False) (Chg.alloc _ _ _) (fun _ _ h => h.elim) (rngR mp w.heap.size m m none) ⟨es, clock, clock, #[], clock, hold, h5, h6, hnew, h6.2, ⟨Nat.le_refl _, Nat.le_refl _⟩, by rw [leftOf_nil, h5], fun p hp => by cases hp⟩ (fun b hb => by
    rcases hb with rfl | rfl
    · exact ⟨by simp; omega, fun _ => rfl⟩
    · exact ⟨by simp, by omega⟩)
theorem filt_mid {es : List MapEntry} (hn : (es.map (·.born)).Nodup) {e : MapEntry} {l1 l2 : List MapEntry} (h : es = l1 ++ e :: l2) : es.filter (fun x => !(x.born == e.born)) = l1 ++ l2 := by
  subst h
  have h1 : ∀ x ∈ l1 ++ l2, x.born ≠ e.born := fun x hx hb => by
    have h2 := (List.perm_middle (a := e) (l₁ := l1) (l₂ := l2)).map (·.born)
    have h3 := h2.nodup_iff.1 hn
    rw [List.map_cons, List.nodup_cons] at h3
    exact h3.1 (List.mem_map.2 ⟨x, hx, hb⟩)
  rw [List.filter_append, List.filter_cons]
  simp only [beq_self_eq_true, Bool.not_true, Bool.false_eq_true, if_false]
  congr 1
  · exact List.filter_eq_self.2 fun x hx => by simpa using h1 x (List.mem_append_left _ hx)
  · exact List.filter_eq_self.2 fun x hx => by simpa using h1 x (List.mem_append_right _ hx)
theorem leftOf_push (es : Array MapEntry) (seen : Array Nat) (b : Nat) : (leftOf es (seen.push b)).toList = (leftOf es seen).toList.filter (fun x => !(x.born == b)) := by
  unfold leftOf
  rw [Array.toList_filter, Array.toList_filter, List.filter_filter]
  congr 1
  funext x
  rw [Array.contains_push, Bool.not_or, Bool.and_comm]
theorem chg_drewSet {D : Nat → Prop} {w w1 : World} (hw : w1 = w ∨ w1 = w.drew) {r : Nat} {o : Obj} (h : D r) : Chg D w (ChangeMaps.setBlock w1 r o) := by
  have h1 : w1.heap = w.heap := by rcases hw with rfl | rfl <;> rfl
  refine ⟨by rcases hw with rfl | rfl <;> rfl, by rcases hw with rfl | rfl <;> rfl, by rcases hw with rfl | rfl <;> rfl, by simp [ChangeMaps.setBlock, h1], fun k _ hd => ?_⟩
  have : r ≠ k := fun e => hd (e ▸ h)
  simp [ChangeMaps.setBlock, h1, Array.getElem?_setIfInBounds, this]
/-- The next entry, whichever it is; or none is left. -/
theorem a_mnext (ho : nthO ops i = some o) (hg : gd ops.toArray n st o = true) (ha : anc i = true) {x : Operand} (hop : o.op = .next x false) {mp r : Nat} (hx : ev n st x = .pointer (some ⟨r, 0, none⟩)) {m todo : List (Int × Value)} {cur : Option (Int × Value)} (j : Nat) (hj : H[j]? = some (rngR mp r m todo cur)) (hd : o.dst = some d)
    (hC : ∀ todo' p w, Ok S w0 (H.set j (rngR mp r m todo' (some p))) w → C w)
    (h0 : todo = [] → MX P ops C anc R l n ((d, .tuple #[.bool false]) :: st) S w0 H)
    (h : ∀ pre p post, todo = pre ++ p :: post → MX P ops C anc R l n ((d, .tuple #[.bool true, .int .i64 p.1, p.2]) :: st) S w0 (H.set j (rngR mp r m (pre ++ post) (some p)))) : MX P ops C anc R (i :: l) n st S w0 H := by
  refine a_any ho hg ha fun hC0 w hw => ?_
  obtain ⟨es, clock, since, seen, c0, h1, h2, h3, h4, h5, h6, h7, h8⟩ := hw.holds j _ hj
  have hne : r ≠ mp := fun e => by rw [e, h1] at h4; cases h4
  have hrl : r < w.heap.size := (Array.getElem?_eq_some_iff.1 h4).1
  have hml : mp < w.heap.size := (Array.getElem?_eq_some_iff.1 h1).1
  rcases run_next_at (P := P) w o.type r mp since c0 seen es clock h4 h1 h5 h6.1 with ⟨hs, hrun⟩ | ⟨e, he, w1, hw1, hrun⟩
  · have hr : (execOp (ev n st) o).run P w = .ok (.value (.tuple #[.bool false])) w := by simp [execOp, hop, hx, hrun, Result.andThen]
    unfold runs
    rw [hr]
    have ht : todo = [] := by
      have h9 : (leftOf es seen).toList = [] := List.eq_nil_of_length_eq_zero (by simpa using hs)
      rw [h9] at h7
      cases todo with
      | nil => rfl
      | cons a b => simp at h7
    exact ⟨_, hC0, hw, by rw [hd]; exact h0 ht⟩
  · have hr : (execOp (ev n st) o).run P w = .ok (.value (.tuple #[.bool true, e.key, e.val])) (ChangeMaps.setBlock w1 r (.mapIter (some mp) since (seen.push e.born) clock)) := by simp [execOp, hop, hx, hrun, Result.andThen]
    unfold runs
    rw [hr]
    obtain ⟨l1, l2, hl⟩ := List.append_of_mem he
    have hmem : ∀ x ∈ (leftOf es seen).toList, x ∈ es.toList := fun x hx => by
      unfold leftOf at hx
      rw [Array.toList_filter] at hx
      exact (List.mem_filter.1 hx).1
    have hnd : ((leftOf es seen).toList.map (·.born)).Nodup := by
      unfold leftOf
      rw [Array.toList_filter]
      exact h3.1.sublist (List.filter_sublist.map _)
    have h7' := h7
    rw [hl, List.map_append, List.map_cons] at h7'
    obtain ⟨pre, post', e1, e2, e3⟩ := List.append_eq_map_iff.1 h7'
    obtain ⟨p, post, e4, e5, e6⟩ := List.map_eq_cons_iff.1 e3
    subst e4
    have hkv : kv e = ik p := e5.symm
    have hk1 : e.key = .int .i64 p.1 := congrArg Prod.fst hkv
    have hk2 : e.val = p.2 := congrArg Prod.snd hkv
    have hw1h : w1.heap = w.heap := by rcases hw1 with rfl | rfl <;> rfl
    refine ⟨_, hC (pre ++ post) p, ?_, by rw [hd, hk1, hk2]; exact h pre p post e1⟩
    refine hw.upd j hj (D := fun b => b = mp ∨ b = r) (chg_drewSet hw1 (.inr rfl)) (fun _ _ h => h) (rngR mp r m (pre ++ post) (some p)) ⟨es, clock, since, seen.push e.born, clock, ?_, h2, h3, ?_, h5, ?_, ?_, fun q hq => ?_⟩ (fun b hb => ⟨?_, fun _ => hb⟩)
    · simp [ChangeMaps.setBlock, hw1h, Array.getElem?_setIfInBounds, hne, h1]
    · simp [ChangeMaps.setBlock, hw1h, Array.getElem?_setIfInBounds, hrl]
    · exact ⟨h6.2, h6.2⟩
    · rw [leftOf_push, filt_mid hnd hl, List.map_append, List.map_append, e2, e6]
    · obtain rfl : p = q := Option.some.inj hq
      exact ⟨rfl, seen, e, rfl, hmem e he, hkv⟩
    · have : (ChangeMaps.setBlock w1 r (.mapIter (some mp) since (seen.push e.born) clock)).heap.size = w.heap.size := by simp [ChangeMaps.setBlock, hw1h]
      rcases hb with rfl | rfl <;> omega
/-- The entry that came last. -/
theorem a_mentry (ho : nthO ops i = some o) (hg : gd ops.toArray n st o = true) (ha : anc i = true) {x : Operand} (hop : o.op = .entry x) {mp r : Nat} (hx : ev n st x = .pointer (some ⟨r, 0, none⟩)) {m todo : List (Int × Value)} {p : Int × Value} (j : Nat) (hj : H[j]? = some (rngR mp r m todo (some p))) (hd : o.dst = some d)
    (h : MX P ops C anc R l n ((d, .tuple #[.int .i64 p.1, p.2]) :: st) S w0 H) : MX P ops C anc R (i :: l) n st S w0 H := by
  refine a_any ho hg ha fun hC0 w hw => ?_
  obtain ⟨es, clock, since, seen, c0, h1, h2, h3, h4, h5, h6, h7, h8⟩ := hw.holds j _ hj
  obtain ⟨rfl, seen0, e, rfl, he, hkv⟩ := h8 p rfl
  have hk1 : e.key = .int .i64 p.1 := congrArg Prod.fst hkv
  have hk2 : e.val = p.2 := congrArg Prod.snd hkv
  have hrun := run_entry_at (P := P) w r mp since seen0 es c0 e h4 h1 he h3.1
  have hr : (execOp (ev n st) o).run P w = .ok (.value (.tuple #[e.key, e.val])) w := by simp [execOp, hop, hx, hrun, Result.andThen]
  unfold runs
  rw [hr]
  exact ⟨_, hC0, hw, by rw [hd, hk1, hk2]; exact h⟩
end
end Go.Sx
