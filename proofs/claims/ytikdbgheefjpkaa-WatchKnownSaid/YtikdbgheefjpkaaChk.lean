/- A quicker check that a region may be walked in a given order: what waits for what, as masks. Plain theorems over any program. -/
import Derived.Test.YtikdbgheefjpkaaCtl
set_option linter.unusedVariables false
set_option linter.unusedSimpArgs false
namespace Go.Sx
open Go.RowKit
def stepMask (ms : List Nat) (l : List Edge) : Nat := l.foldl (fun m e => bif Region.binds .any e && Nat.blt e.on ms.length then m ||| (2 ^ e.on ||| ms.getD e.on 0) else m) 0
def masksFrom : List Nat → List Oper → List Nat
  | ms, [] => ms
  | ms, o :: l => masksFrom (ms ++ [stepMask ms o.after.toList]) l
def withOps (ops : List Oper) : List Nat → List (Nat × Oper)
  | [] => []
  | i :: l => match nthO ops i with
    | some o => (i, o) :: withOps ops l
    | none => withOps ops l
def chkPairsM (A : Array Oper) (anc : Nat → Bool) (ms : List Nat) : List (Nat × Oper) → Bool
  | [] => true
  | (k, o) :: l => (l.all fun p => !(Nat.beq k p.1) && !(o.after.toList.any fun e => Region.binds .any e && Nat.beq e.on p.1) && ((ms.getD p.1 0).testBit k || (!anc k && o.apart A p.2))) && chkPairsM A anc ms l
def chkM (ops : List Oper) (anc : Nat → Bool) (ord : List Nat) : Bool :=
  Region.noSelect ops.toArray && Nat.beq ord.length ops.length && (ord.all fun i => Nat.blt i ops.length) && ((List.range ops.length).all fun i => ord.contains i) && ((withOps ops ord).all fun p => Nat.blt p.1 ops.length && !(p.2.after.toList.any fun e => Region.binds .any e && Nat.beq e.on p.1) && p.2.after.toList.all fun e => !Region.binds .any e || Nat.blt e.on ops.length) && chkPairsM ops.toArray anc (masksFrom [] ops) (withOps ops ord)
section
variable {ops : Array Oper}
theorem depT_mono {k : Nat} : ∀ (n i : Nat), depT ops n i k = true → depT ops (n + 1) i k = true
  | 0, i, h => by simp [depT] at h
  | n + 1, i, h => by
    have h0 := h
    simp only [depT] at h ⊢
    cases ho : ops[i]? with
    | none => simp [ho] at h
    | some o =>
      simp only [ho] at h ⊢
      obtain ⟨e, he, hb⟩ := Array.any_eq_true'.1 h
      refine Array.any_eq_true'.2 ⟨e, he, ?_⟩
      simp only [Bool.and_eq_true, Bool.or_eq_true] at hb ⊢
      refine ⟨hb.1, hb.2.imp id fun h => ?_⟩
      have := depT_mono n e.on h
      simpa only [depT] using this
theorem depT_le {k n m i : Nat} (h : n ≤ m) (hd : depT ops n i k = true) : depT ops m i k = true := by
  induction m with
  | zero => obtain rfl : n = 0 := by omega
            exact hd
  | succ m ih =>
    by_cases e : n = m + 1
    · subst e; exact hd
    · exact depT_mono m i (ih (by omega))
def MInv (ops : Array Oper) (ms : List Nat) : Prop := ∀ i, i < ms.length → ∀ k, (ms.getD i 0).testBit k = true → depT ops (i + 1) i k = true
theorem stepMask_fold {ms : List Nat} (k : Nat) : ∀ (l : List Edge) (m0 : Nat), (l.foldl (fun m e => bif Region.binds .any e && Nat.blt e.on ms.length then m ||| (2 ^ e.on ||| ms.getD e.on 0) else m) m0).testBit k = true →
    m0.testBit k = true ∨ ∃ e ∈ l, Region.binds .any e = true ∧ e.on < ms.length ∧ (e.on = k ∨ (ms.getD e.on 0).testBit k = true)
  | [], m0, h => .inl h
  | e :: l, m0, h => by
    rw [List.foldl_cons] at h
    rcases stepMask_fold k l _ h with h | ⟨e', he', h⟩
    · cases hb : (Region.binds .any e && Nat.blt e.on ms.length) with
      | false => rw [hb] at h; exact .inl h
      | true =>
        rw [hb] at h
        simp only [cond_true, Nat.testBit_or, Bool.or_eq_true, Nat.testBit_two_pow, decide_eq_true_eq] at h
        simp only [Bool.and_eq_true, Nat.blt_eq] at hb
        rcases h with h | h | h
        · exact .inl h
        · exact .inr ⟨e, by simp, hb.1, hb.2, .inl h⟩
        · exact .inr ⟨e, by simp, hb.1, hb.2, .inr h⟩
    · exact .inr ⟨e', by simp [he'], h⟩
theorem minv_step {ms : List Nat} {o : Oper} (h : MInv ops ms) (ho : ops[ms.length]? = some o) : MInv ops (ms ++ [stepMask ms o.after.toList]) := by
  intro i hi k hk
  by_cases hl : i < ms.length
  · have e : (ms ++ [stepMask ms o.after.toList]).getD i 0 = ms.getD i 0 := by simp [List.getD_eq_getElem?_getD, List.getElem?_append_left hl]
    rw [e] at hk
    exact h i hl k hk
  · obtain rfl : i = ms.length := by simp at hi; omega
    have e : (ms ++ [stepMask ms o.after.toList]).getD ms.length 0 = stepMask ms o.after.toList := by simp
    rw [e] at hk
    rcases stepMask_fold k _ 0 hk with h0 | ⟨e, he, hb, hlt, hor⟩
    · simp at h0
    · simp only [depT, ho]
      refine Array.any_eq_true'.2 ⟨e, by simpa using he, ?_⟩
      simp only [hb, Bool.true_and, Bool.or_eq_true, beq_iff_eq]
      exact hor.imp id fun h' => depT_le (by omega) (h e.on hlt k h')
theorem minv_from : ∀ (l : List Oper) (ms : List Nat), MInv ops ms → (∀ j o, l[j]? = some o → ops[ms.length + j]? = some o) → MInv ops (masksFrom ms l)
  | [], ms, h, _ => h
  | o :: l, ms, h, hl => by
    refine minv_from l _ (minv_step h (by simpa using hl 0 o rfl)) fun j o' hj => ?_
    have := hl (j + 1) o' (by simpa using hj)
    rw [List.length_append, List.length_singleton]
    rwa [Nat.add_assoc, Nat.add_comm 1 j]
theorem masks_length : ∀ (l : List Oper) (ms : List Nat), (masksFrom ms l).length = ms.length + l.length
  | [], ms => by simp [masksFrom]
  | o :: l, ms => by
    rw [masksFrom, masks_length l]
    simp
    omega
end
section
variable {ops : List Oper} {anc : Nat → Bool}
theorem any_toList {α : Type} (a : Array α) (p : α → Bool) : a.toList.any p = a.any p := by simp
theorem mem_withOps {i : Nat} {o : Oper} (ho : nthO ops i = some o) : ∀ (l : List Nat), i ∈ l → (i, o) ∈ withOps ops l := by
  intro l
  induction l with
  | nil => intro h; cases h
  | cons j l ih =>
    intro h
    simp only [withOps]
    rcases List.mem_cons.1 h with rfl | h
    · rw [ho]; exact List.mem_cons_self
    · cases nthO ops j with
      | none => exact ih h
      | some o' => exact List.mem_cons_of_mem _ (ih h)
theorem waits_eq {k i : Nat} {o : Oper} (ho : nthO ops k = some o) : waits ops.toArray k i = o.after.toList.any fun e => Region.binds .any e && Nat.beq e.on i := by
  unfold waits
  rw [nthO_eq, ho]
  simp only [any_toList]
  congr 1
  funext e
  congr 1
  rw [Bool.eq_iff_iff]; simp
theorem chkPairs_of : ∀ {ord : List Nat}, (∀ i ∈ ord, i < ops.length) → chkPairsM ops.toArray anc (masksFrom [] ops) (withOps ops ord) = true → chkPairs ops.toArray anc ord = true
  | [], _, _ => rfl
  | k :: l, hl, h => by
    have hk : k < ops.length := hl k (by simp)
    have hok : ∃ o, nthO ops k = some o := by
      have := nthO_eq ops k
      rw [← this]
      simp [hk]
    obtain ⟨o, ho⟩ := hok
    simp only [withOps, ho, chkPairsM, Bool.and_eq_true] at h
    simp only [chkPairs, Bool.and_eq_true]
    refine ⟨List.all_eq_true.2 fun i hi => ?_, chkPairs_of (fun i hi => hl i (List.mem_cons_of_mem _ hi)) h.2⟩
    have hil : i < ops.length := hl i (List.mem_cons_of_mem _ hi)
    obtain ⟨oi, hoi⟩ : ∃ o, nthO ops i = some o := by rw [← nthO_eq ops i]; simp [hil]
    have h1 := List.all_eq_true.1 h.1 (i, oi) (mem_withOps hoi _ hi)
    simp only [Bool.and_eq_true, Bool.or_eq_true, Bool.not_eq_true'] at h1
    obtain ⟨⟨h2, h3⟩, h4⟩ := h1
    have hne : k ≠ i := fun e => by subst e; rw [Nat.beq_refl] at h2; cases h2
    rw [waits_eq ho, h3]
    simp only [bne_iff_ne, ne_eq, hne, not_false_eq_true, Bool.not_false, and_self, Bool.and_eq_true, Bool.or_eq_true, Bool.not_eq_true', true_and]
    refine h4.imp (fun h => ?_) fun h => ?_
    · have hm : MInv ops.toArray (masksFrom [] ops) := minv_from ops [] (fun i hi => by simp at hi) (fun j o hj => by simpa using hj)
      exact depT_le (by simp; omega) (hm i (by rw [masks_length]; simpa using hil) k h)
    · refine ⟨?_, h.1⟩
      unfold apartAt
      rw [nthO_eq, nthO_eq, ho, hoi]
      exact h.2
theorem chk_of {ord : List Nat} (h : chkM ops anc ord = true) : chk ops.toArray anc ord = true := by
  simp only [chkM, Bool.and_eq_true] at h
  obtain ⟨⟨⟨⟨⟨h1, h2⟩, h0⟩, h3⟩, h4⟩, h5⟩ := h
  have h2 : ord.length = ops.length := Nat.eq_of_beq_eq_true h2
  have hl : ∀ i ∈ ord, i < ops.length := fun i hi => by
    have := List.all_eq_true.1 h0 i hi
    simpa only [Nat.blt_eq] using this
  simp only [chk, Bool.and_eq_true, beq_iff_eq]
  refine ⟨⟨⟨⟨h1, by simpa using h2⟩, by simpa using h3⟩, List.all_eq_true.2 fun i hi => ?_⟩, chkPairs_of hl h5⟩
  have hil := hl i hi
  obtain ⟨oi, hoi⟩ : ∃ o, nthO ops i = some o := by rw [← nthO_eq ops i]; simp [hil]
  have h6 := List.all_eq_true.1 h4 (i, oi) (mem_withOps hoi _ hi)
  simp only [Bool.and_eq_true, Bool.not_eq_true'] at h6
  obtain ⟨⟨_, h7⟩, h8⟩ := h6
  simp only [Bool.and_eq_true, decide_eq_true_eq, chkOne, Bool.not_eq_true']
  refine ⟨by simpa using hil, by rw [waits_eq hoi]; exact h7, ?_⟩
  rw [nthO_eq, hoi]
  simp only
  rw [Array.all_eq_true']
  intro e he
  have := List.all_eq_true.1 h8 e (by simpa using he)
  simp only [Bool.or_eq_true, Bool.not_eq_true', Nat.blt_eq] at this
  simp only [Bool.or_eq_true, Bool.not_eq_true', decide_eq_true_eq]
  simpa using this
end
section
variable {P : Program} {Q : Exit → Act → World → Prop} {n : Nat} {st : Slots} {S : Nat → Prop} {w0 : World} {H H' HC : List Res}
def quietOp : Op → Bool
  | .store .. | .alloc .. | .box .. | .buildSlice .. | .makeSlice .. | .makeMap .. => false
  | .call c => match c.callee with
    | .builtin .append | .builtin .copy | .builtin .delete | .builtin .clear => false
    | _ => true
  | _ => true
def quiet (ops : List Oper) : Bool := ops.all fun o => quietOp o.op
theorem cw_drawq {id : Nat} {ops : List Oper} {l : List Nat} (hm : P.follows .mixedOrders = true) (hq : quiet ops = true) (hk : chkM ops (fun _ => false) (List.range ops.length) = true) (hl : List.range ops.length = l)
    (h : MX P ops (Ok S w0 H) (fun _ => false) (RW Q) l n st S w0 H) : CW P (.region id ops.toArray true) Q n st S w0 H := cw_drawf hm (chk_of hk) hl h
theorem cw_drawm {id : Nat} {ops : List Oper} (ord : List Nat) (anc : Nat → Bool) (HC : List Res) (hm : P.follows .mixedOrders = true) (hk : chkM ops anc ord = true) (hc : ∀ w, Ok S w0 H w → Ok S w0 HC w)
    (h : MX P ops (Ok S w0 HC) anc (RW Q) ord n st S w0 H) : CW P (.region id ops.toArray true) Q n st S w0 H := cw_draw ord anc HC hm (chk_of hk) hc h
end
end Go.Sx
