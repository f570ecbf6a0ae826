/- Appends up to the greatest sizes: told by the bytes of an element. -/
import Derived.Test.YtikdbgheefjpkaaMo2
set_option linter.unusedVariables false
set_option linter.unusedSimpArgs false
namespace Go.Sx
def bytB (P : Program) (e B : Nat) : Bool := match P.info? e with
  | some i => i.bytes == B
  | none => false
section
variable {P : Program} {ops : List Oper} {C : World → Prop} {anc : Nat → Bool} {R : Act → (World → Prop) → Prop} {n : Nat} {st : Slots} {i : Nat} {l : List Nat} {o : Oper} {S : Nat → Prop} {w0 : World} {H HC : List Res} {d : Tmp}
theorem a_appendB (E : Env P) (ho : nthO ops i = some o) (hg : gd ops.toArray n st o = true) (ha : anc i = true) {s x : Operand} {t : TypeId} (hop : o.op = .call { callee := .builtin .append, args := #[s, x], argTypes := #[t, t] }) {e z : Nat} (ht : at1 E.sl t = some (e, z)) (hz : Nat.blt 0 z = true)
    {ad : Option Addr} {len cap : Nat} {b off m c : Nat} (hs : ev n st s = .slice ad len cap) (hx : ev n st x = .slice (some ⟨b, off, none⟩) m c) {xs : List Value} (news : List Value) (hl : news.length = m * z) (hn : ∀ w, Ok S w0 H w → ∀ j u, news[j]? = some u → w.cell? ((⟨b, off, none⟩ : Addr).add j) = some u) (h1 : news.all (·.oneCell') = true) {B : Nat} (hB : bytB P e B = true) (hB0 : Nat.blt 0 B = true) (hbig : (len + m) * B ≤ 140737488355328)
    (HH : Res → List Res) (hj : ∀ r', Upd H (ownd ad cap e z len xs) r' (HH r')) (hd : o.dst = some d) (hC : ∀ ad' cap', ∀ w, Ok S w0 (HH (ownd ad' cap' e z (len + m) (xs ++ news))) w → C w) (h : ∀ ad' cap', MX P ops C anc R l n ((d, .slice ad' (len + m) cap') :: st) S w0 (HH (ownd ad' cap' e z (len + m) (xs ++ news)))) : MX P ops C anc R (i :: l) n st S w0 H := by
  refine a_any ho hg ha fun hC' w hw => ?_
  obtain ⟨hu, ii, z0, hi, hiz, hz0, hzz, _⟩ := E.sl_zero ht
  have hby : ii.bytes = B := by unfold bytB at hB; rw [hi] at hB; simpa using hB
  have hB0' : 0 < B := by simpa [Nat.blt_eq] using hB0
  have hlm : len + m ≤ (len + m) * B := Nat.le_mul_of_pos_right _ hB0'
  have hj0 : (ownd ad cap e z len xs).holds w := by obtain ⟨j, h1, _⟩ := hj (ownd ad cap e z len xs); exact hw.holds j _ h1
  obtain ⟨v', w', hr, h2, h3, h4, h5⟩ := run_append_own_at (P := P) w 0 t o.type e ii z0 z ii.bytes hu hi hz0 hiz rfl hzz (by simpa [Nat.blt_eq] using hz) _ len xs hj0 ⟨b, off, none⟩ m c news hl (hn w hw) (fun v hv => List.all_eq_true.1 h1 v hv) (by simp only [maxLen]; omega)
    (by rw [hby]; exact hbig) (Nat.zero_le _)
  obtain ⟨ad', cap', rfl⟩ : ∃ ad' cap', v' = .slice ad' (len + m) cap' := by
    rcases h2.2 with ⟨hv, hn⟩ | ⟨g, c, cur, hv, _⟩
    · exact ⟨none, 0, by rw [hv, hn]⟩
    · exact ⟨_, _, hv⟩
  have hr' : (execOp (ev n st) o).run P w = .ok (.value (.slice ad' (len + m) cap')) w' := by
    simp only [execOp, hop, resolve, invoke, builtin, Sem.run_bind, Sem.run_pure, Result.andThen_ok, List.map_toArray, List.map_cons, List.map_nil, hs, hx, hr]
  unfold runs
  rw [hr']
  refine ⟨_, hC ad' cap', ?_, by rw [hd]; exact h ad' cap'⟩
  obtain ⟨j, hj, hjs⟩ := hj (ownd ad' cap' e z (len + m) (xs ++ news))
  rw [← hjs]
  refine hw.upd j hj (D := fun k => (Value.slice ad len cap).ownBlock = some k) ⟨h3.os, h3.tape, h3.output, h3.size, fun k hk hD => h3.block k hk fun e => hD e.symm⟩ (fun k _ hk => hk) _ h2 fun k hk => ?_
  have hk' : (Value.slice ad' (len + m) cap').ownBlock = some k := hk
  rcases h5 with h5 | h5
  · rw [h5] at hk'
    exact ⟨Nat.lt_of_lt_of_le (hw.own j _ hj k hk').1 h3.size, fun _ => hk'⟩
  · rw [h5] at hk'
    obtain rfl : w.heap.size = k := by simpa using hk'
    refine ⟨?_, fun h => absurd h (Nat.lt_irrefl _)⟩
    rcases h2.2 with ⟨hv, _⟩ | ⟨g, c, cur, hv, hb, hg, _⟩
    · rw [hv] at h5; simp [Value.ownBlock] at h5
    · rw [hv] at h5
      simp [Value.ownBlock] at h5
      rw [← h5]
      exact (Array.getElem?_eq_some_iff.1 hg).1
theorem a_appB (E : Env P) (ho : nthO ops i = some o) (hg : gd ops.toArray n st o = true) (ha : anc i = true) {s x : Operand} {t : TypeId} (hop : o.op = .call { callee := .builtin .append, args := #[s, x], argTypes := #[t, t] }) {e z : Nat} (ht : at1 E.sl t = some (e, z)) (hz : Nat.blt 0 z = true)
    {ad adx : Option Addr} {len cap m c : Nat} (hs : ev n st s = .slice ad len cap) (hx : ev n st x = .slice adx m c) {xs : List Value} {HH : Res → List Res} [hj : UpdO H ad cap e z len xs HH] (news : List Value) (hl : news.length = m * z) (hn : ∀ w, Ok S w0 H w → Src w adx news) (h1 : news.all (·.oneCell') = true) {B : Nat} (hB : bytB P e B = true) (hB0 : Nat.blt 0 B = true) (hbig : (len + m) * B ≤ 140737488355328)
    (hd : o.dst = some d) (hC : ∀ ad' cap', ∀ w, Ok S w0 (HH (ownd ad' cap' e z (len + m) (xs ++ news))) w → C w) (h : ∀ ad' cap', MX P ops C anc R l n ((d, .slice ad' (len + m) cap') :: st) S w0 (HH (ownd ad' cap' e z (len + m) (xs ++ news)))) : MX P ops C anc R (i :: l) n st S w0 H := by
  by_cases hm : m = 0
  · subst hm
    have hn0 : news = [] := List.eq_nil_of_length_eq_zero (by simpa using hl)
    subst hn0
    refine a_any ho hg ha fun hC' w hw => ?_
    obtain ⟨hu, ii, z0, hi, hiz, hz0, hzz, hby⟩ := E.sl_zero ht
    obtain ⟨j, hj1, hj2⟩ := hj.upd (ownd ad cap e z len xs)
    have hj0 : (ownd ad cap e z len xs).holds w := hw.holds j _ hj1
    have hcap := (own_at hj0).2.2
    have e1 : ∀ (a : Addr), a.add (0 * z) = a := fun a => by simp [Addr.add]
    have hlf : Builtin.firstCells ii.size 0 (.slice adx 0 c) = pure #[] ∨ (Builtin.firstCells ii.size 0 (.slice adx 0 c)).run P w = .ok #[] w := by
      cases adx with
      | none => exact .inl rfl
      | some a => right; simp [Builtin.firstCells, loadCells, loadCellsFrom]
    have hlf' : (Builtin.firstCells ii.size 0 (.slice adx 0 c)).run P w = .ok #[] w := by
      rcases hlf with h | h
      · rw [h]; rfl
      · exact h
    have hr : (Builtin.append_ #[t, t] o.type #[.slice ad len cap, .slice adx 0 c]).run P w = .ok (.slice ad len cap) w := by
      cases ad with
      | none => simp [Builtin.append_, run_underlying hu, sizeOf, typeInfo, hi, Builtin.lenOf, hlf', hcap]
      | some a => simp [Builtin.append_, run_underlying hu, sizeOf, typeInfo, hi, Builtin.lenOf, hlf', hcap, storeCells]
    have hr' : (execOp (ev n st) o).run P w = .ok (.value (.slice ad len cap)) w := by
      simp only [execOp, hop, resolve, invoke, builtin, Sem.run_bind, Sem.run_pure, Result.andThen_ok, List.map_toArray, List.map_cons, List.map_nil, hs, hx, hr]
    unfold runs
    rw [hr']
    have hHH : HH (ownd ad cap e z len xs) = H := by
      rw [← hj2]
      refine List.ext_getElem? fun k => ?_
      rw [List.getElem?_set]
      split
      · rename_i e
        subst e
        rw [if_pos (List.getElem?_eq_some_iff.1 hj1).1, hj1]
      · rfl
    have h' := h ad cap
    have hC'' := hC ad cap
    simp only [Nat.add_zero, List.append_nil, hHH] at h' hC''
    exact ⟨_, hC'', hw, by rw [hd]; exact h'⟩
  · by_cases hne : news = []
    · subst hne
      have : m * z = 0 := by simpa using hl.symm
      have hz' : 0 < z := by simpa [Nat.blt_eq] using hz
      rcases Nat.mul_eq_zero.1 this with h | h <;> omega
    · cases adx with
      | none =>
        exact a_any ho hg ha fun hC' w hw => by
          obtain ⟨b, off, e, _⟩ := hn w hw hne
          cases e
      | some a =>
        obtain ⟨b, off, sp⟩ := a
        by_cases hsp : sp = none
        · subst hsp
          exact a_appendB E ho hg ha hop ht hz hs hx news hl (fun w hw => by
            obtain ⟨b', off', e, hc⟩ := hn w hw hne
            obtain ⟨rfl, rfl⟩ : b = b' ∧ off = off' := by simpa using e
            exact hc) h1 hB hB0 hbig HH hj.upd hd hC h
        · exact a_any ho hg ha fun hC' w hw => by
            obtain ⟨b', off', e, _⟩ := hn w hw hne
            simp at e
            exact absurd e.2.2 hsp
end
end Go.Sx
