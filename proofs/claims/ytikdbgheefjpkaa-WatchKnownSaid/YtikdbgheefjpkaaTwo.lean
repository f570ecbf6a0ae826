/- A region that draws its order and holds two operations, neither waiting for the other, that are taken in the world as it stands: two walks serve all orders. Plain theorems over any program. -/
import Derived.Test.YtikdbgheefjpkaaChk
set_option linter.unusedVariables false
set_option linter.unusedSimpArgs false
namespace Go.Sx
open Go.RowKit
section
variable {P : Program} {ops : Array Oper} {C : World → Prop} {anc : Nat → Bool} {R R' : Act → (World → Prop) → Prop}
theorem mix_weak' (hR : ∀ a W, R a W → R' a W) : ∀ (l : List Nat) {a : Act} {W : World → Prop}, mix P ops C anc R l a W → mix P ops C anc R' l a W
  | [], _, _, h => hR _ _ h
  | i :: l, a, W, h => by
    simp only [mix] at h ⊢
    cases ho : ops[i]? with
    | none => simp only [ho] at h ⊢; exact mix_weak' hR l h
    | some o =>
      simp only [ho] at h ⊢
      split
      · rename_i hw
        simp only [hw, if_true] at h
        split
        · rename_i ha
          simp only [ha, if_true] at h
          intro w hww
          exact runs_mono (h w hww) fun v w' ⟨W', a1, a2, a3, a4⟩ => ⟨W', a1, a2, a3, mix_weak' hR l a4⟩
        · rename_i ha
          simp only [ha] at h
          obtain ⟨v, h1, h2⟩ := h
          exact ⟨v, h1, mix_weak' hR l h2⟩
      · rename_i hw
        simp only [hw] at h
        exact mix_weak' hR l h
theorem mix_app (l2 : List Nat) : ∀ (l : List Nat) {a : Act} {W : World → Prop}, mix P ops C anc (fun a W => mix P ops C anc R l2 a W) l a W → mix P ops C anc R (l ++ l2) a W
  | [], _, _, h => h
  | i :: l, a, W, h => by
    simp only [mix, List.cons_append] at h ⊢
    cases ho : ops[i]? with
    | none => simp only [ho] at h ⊢; exact mix_app l2 l h
    | some o =>
      simp only [ho] at h ⊢
      split
      · rename_i hw
        simp only [hw, if_true] at h
        split
        · rename_i ha
          simp only [ha, if_true] at h
          intro w hww
          exact runs_mono (h w hww) fun v w' ⟨W', a1, a2, a3, a4⟩ => ⟨W', a1, a2, a3, mix_app l2 l a4⟩
        · rename_i ha
          simp only [ha] at h
          obtain ⟨v, h1, h2⟩ := h
          exact ⟨v, h1, mix_app l2 l h2⟩
      · rename_i hw
        simp only [hw] at h
        exact mix_app l2 l h
/-- One operation is taken: what comes behind it decides. -/
theorem step_mix {Q : Exit → Act → World → Prop} {K : Act → World → Prop} {i : Nat} {l : List Nat} {a : Act} {W : World → Prop} {w : World} {oi : Oper} (hoi : ops[i]? = some oi) (hs : Stb W) (hc : ∀ w, W w → C w) (hw : W w) (hm : mix P ops C anc R (i :: l) a W)
    (hk : ∀ (a : Act) (W : World → Prop) (w : World), Stb W → (∀ w, W w → C w) → W w → mix P ops C anc R l a W → K a w) : wpOp P ops Q i K a w := by
  unfold wpOp
  simp only [hoi]
  simp only [mix, hoi] at hm
  split
  · rename_i hg
    simp only [hg, if_true] at hm
    refine .inl ?_
    split at hm
    · exact wp_of_runs (hm w hw) fun v w' ⟨W', hs', hc', hw', hm'⟩ => hk _ W' w' hs' hc' hw' hm'
    · obtain ⟨v, h1, h2⟩ := hm
      refine wp_of_runs (h1 w (hc w hw)) fun u w' ⟨hu, hg'⟩ => ?_
      subst hu
      exact hk _ W w' hs hc (hs _ _ hw hg') h2
  · rename_i hg
    simp only [hg] at hm
    exact hk _ W w hs hc hw hm
structure TwoInv (ops : Array Oper) (anc : Nat → Bool) (listed : Array Bool) (pre : List Nat) (x y : Nat) (rest : List Nat) : Prop where
  size : listed.size = ops.size
  mem : ∀ i, i < ops.size → (i ∈ pre ++ x :: y :: rest ↔ listed.getD i true = false)
  lt : ∀ i ∈ pre ++ x :: y :: rest, i < ops.size
  one : ∀ i ∈ pre ++ x :: y :: rest, chkOne ops i = true
  closed : ∀ j oj, ops[j]? = some oj → listed.getD j false = true → ∀ e ∈ oj.after, Region.binds .any e = true → listed.getD e.on false = true
  px : chkPairs ops anc (pre ++ x :: rest) = true
  py : chkPairs ops anc (pre ++ y :: rest) = true
  ne : x ≠ y
  wx : waits ops x y = false
  wy : waits ops y x = false
  dep : ∀ i ∈ rest, depT ops ops.size i x = true ∨ depT ops ops.size i y = true
theorem closed_set {listed : Array Bool} {i : Nat} {oi : Oper} (hoi : ops[i]? = some oi) (hall : ∀ e ∈ oi.after, Region.binds .any e = true → listed.getD e.on false = true) (hc : ∀ j oj, ops[j]? = some oj → listed.getD j false = true → ∀ e ∈ oj.after, Region.binds .any e = true → listed.getD e.on false = true) :
    ∀ j oj, ops[j]? = some oj → (listed.setIfInBounds i true).getD j false = true → ∀ e ∈ oj.after, Region.binds .any e = true → (listed.setIfInBounds i true).getD e.on false = true := by
  intro j oj hj hl' e he hb
  by_cases hij : i = j
  · subst hij
    have : oj = oi := Option.some.inj (hj.symm.trans hoi)
    subst this
    exact getD_set_true (hall e he hb)
  · rw [getD_set_ne false hij] at hl'
    exact getD_set_true (hc j oj hj hl' e he hb)
theorem mem_set {listed : Array Bool} {i : Nat} (hsz : i < listed.size) {l l' : List Nat} (hni : i ∉ l') (hl : ∀ j, j ≠ i → (j ∈ l ↔ j ∈ l')) {j : Nat} (hm : j ∈ l ↔ listed.getD j true = false) : j ∈ l' ↔ (listed.setIfInBounds i true).getD j true = false := by
  by_cases hij : i = j
  · subst hij
    simp [hsz] at *
    exact hni
  · rw [getD_set_ne true hij, ← hm]
    exact (hl j fun e => hij e.symm).symm
theorem unl {listed : Array Bool} {k : Nat} (h : listed.getD k true = false) : listed.getD k false = false := by
  rcases Nat.lt_or_ge k listed.size with h' | h'
  · simp [h'] at h ⊢; exact h
  · simp [h'] at h
theorem ready_head {listed : Array Bool} {z : Nat} {L : List Nat} (hsz : listed.size = ops.size) (hmem : ∀ i, i < ops.size → (i ∈ L ↔ listed.getD i true = false)) (hz : z ∈ L) (hlt : z < ops.size) (h1 : chkOne ops z = true) (hw : ∀ i ∈ L, waits ops z i = false) : z ∈ Region.ready .any ops listed := by
  unfold chkOne at h1
  have hox : ops[z]? = some ops[z] := Array.getElem?_eq_getElem hlt
  simp only [hox, Bool.and_eq_true, Bool.not_eq_true'] at h1
  refine mem_ready.2 ⟨(hmem z hlt).1 hz, _, hox, fun e he hb => ?_⟩
  have h2 := Array.all_eq_true'.1 h1.2 e he
  simp only [hb, Bool.not_true, Bool.false_or, decide_eq_true_eq] at h2
  have hnot : e.on ∉ L := by
    intro hm
    have h3 := hw _ hm
    have h4 : waits ops z e.on = true := by
      unfold waits
      simp only [hox]
      exact Array.any_eq_true'.2 ⟨e, he, by simp [hb]⟩
    rw [h4] at h3; cases h3
  have h3 := mt (hmem e.on h2).2 hnot
  rcases Nat.lt_or_ge e.on listed.size with h' | h'
  · simp [h'] at h3 ⊢; exact h3
  · omega
theorem pre_apart {listed : Array Bool} (hsz : listed.size = ops.size) (hcl : ∀ j oj, ops[j]? = some oj → listed.getD j false = true → ∀ e ∈ oj.after, Region.binds .any e = true → listed.getD e.on false = true) {l pre post : List Nat} {i : Nat} {oi : Oper} (hoi : ops[i]? = some oi) (hall : ∀ e ∈ oi.after, Region.binds .any e = true → listed.getD e.on false = true)
    (hp : chkPairs ops anc l = true) (e : l = pre ++ i :: post) (hun : ∀ k ∈ pre, k < ops.size ∧ listed.getD k true = false) : ∀ k ∈ pre, ∃ ok, ops[k]? = some ok ∧ ok.apart ops oi = true ∧ anc k = false := by
  intro k hk
  obtain ⟨_, _, hd⟩ := chkPairs_mem hp e k hk
  obtain ⟨hkl, hu⟩ := hun k hk
  rcases hd with hd | ⟨hd, hd'⟩
  · exfalso
    have h1 := depT_listed hcl _ i oi hoi hall hd
    rw [unl hu] at h1
    cases h1
  · have hok : ops[k]? = some ops[k] := Array.getElem?_eq_getElem hkl
    unfold apartAt at hd
    simp only [hok, hoi] at hd
    exact ⟨_, hok, hd, hd'⟩
theorem any_of_two {Q : Exit → Act → World → Prop} (hsel : Region.noSelect ops = true) (hR : ∀ a W, R a W → ∀ w, W w → Q .normal a w) {x y : Nat} {rest : List Nat} : ∀ (fuel : Nat) (pre : List Nat) (listed : Array Bool) (a : Act) (W : World → Prop) (w : World),
    (pre ++ x :: y :: rest).length = fuel → TwoInv ops anc listed pre x y rest → Stb W → (∀ w, W w → C w) → W w →
    mix P ops C anc (fun a W => mix P ops C anc R (x :: y :: rest) a W ∧ mix P ops C anc R (y :: x :: rest) a W) pre a W → wpAny P .any ops Q fuel listed a w := by
  intro fuel
  induction fuel with
  | zero => intro pre listed a W w hl; simp at hl
  | succ fuel ih =>
    intro pre listed a W w hl inv hs hc hw h
    have hmemx : x ∈ pre ++ x :: y :: rest := by simp
    have hmemy : y ∈ pre ++ x :: y :: rest := by simp
    have hunl : ∀ k ∈ pre ++ x :: y :: rest, k < ops.size ∧ listed.getD k true = false := fun k hk => ⟨inv.lt k hk, (inv.mem k (inv.lt k hk)).1 hk⟩
    have ndx := chkPairs_nodup inv.px
    have ndy := chkPairs_nodup inv.py
    refine ⟨fun hr => ?_, fun i hi => ?_⟩
    · exfalso
      cases pre with
      | nil =>
        have hz := ready_head (z := x) inv.size inv.mem hmemx (inv.lt x hmemx) (inv.one x hmemx) (fun i hi => by
          have h1 := inv.one x hmemx
          unfold chkOne at h1
          simp only [Bool.and_eq_true, Bool.not_eq_true'] at h1
          rcases List.mem_cons.1 hi with rfl | hi
          · exact h1.1
          rcases List.mem_cons.1 hi with rfl | hi
          · exact inv.wx
          have hp := inv.px
          simp only [List.nil_append, chkPairs, Bool.and_eq_true] at hp
          have := List.all_eq_true.1 hp.1 _ hi
          simp only [Bool.and_eq_true, Bool.not_eq_true'] at this
          exact this.1.2)
        rw [hr] at hz; cases hz
      | cons p pre =>
        have hmp : p ∈ p :: pre ++ x :: y :: rest := by simp
        have hz := ready_head (z := p) inv.size inv.mem hmp (inv.lt p hmp) (inv.one p hmp) (fun i hi => by
          have h1 := inv.one p hmp
          unfold chkOne at h1
          simp only [Bool.and_eq_true, Bool.not_eq_true'] at h1
          have key : ∀ l, chkPairs ops anc (p :: l) = true → i ∈ l → waits ops p i = false := fun l hp hi => by
            simp only [chkPairs, Bool.and_eq_true] at hp
            have := List.all_eq_true.1 hp.1 _ hi
            simp only [Bool.and_eq_true, Bool.not_eq_true'] at this
            exact this.1.2
          rcases List.mem_cons.1 hi with rfl | hi
          · exact h1.1
          have hi : i ∈ pre ++ x :: y :: rest := hi
          simp only [List.mem_append, List.mem_cons] at hi
          rcases hi with hi | rfl | rfl | hi
          · exact key _ inv.px (by simp [hi])
          · exact key _ inv.px (by simp)
          · exact key _ inv.py (by simp)
          · exact key _ inv.px (by simp [hi]))
        rw [hr] at hz; cases hz
    · obtain ⟨h0, oi, hoi, hall⟩ := mem_ready.1 hi
      have hlt : i < ops.size := (Array.getElem?_eq_some_iff.1 hoi).1
      have hsz : i < listed.size := by rw [inv.size]; exact hlt
      have him : i ∈ pre ++ x :: y :: rest := (inv.mem i hlt).2 h0
      have hcl' := closed_set hoi hall inv.closed
      by_cases hix : i = x
      · subst hix
        have hm := mix_front hsel hoi pre (pre_apart inv.size inv.closed hoi hall inv.px rfl fun k hk => hunl k (by simp [hk])) (mix_app (i :: y :: rest) pre (mix_weak' (fun _ _ h => h.1) pre h))
        have hni : i ∉ pre ++ y :: rest := by
          have := List.nodup_append.1 ndx
          intro hx
          simp only [List.mem_append, List.mem_cons] at hx
          rcases hx with hx | hx | hx
          · exact this.2.2 i hx i (by simp) rfl
          · exact inv.ne hx
          · exact (List.nodup_cons.1 this.2.1).1 hx
        refine step_mix hoi hs hc hw hm fun a W w hs hc hw hm => any_of_mix hsel hR fuel (pre ++ y :: rest) _ a W w (by simp at hl ⊢; omega) ⟨by simp [inv.size], fun j hj => mem_set hsz hni (fun j hji => by simp [hji]) (inv.mem j hj), fun j hj => inv.lt j ?_, fun j hj => inv.one j ?_, hcl', inv.py⟩ hs hc hw hm
        · simp only [List.mem_append, List.mem_cons] at hj ⊢
          exact hj.imp id .inr
        · simp only [List.mem_append, List.mem_cons] at hj ⊢
          exact hj.imp id .inr
      by_cases hiy : i = y
      · subst hiy
        have hm := mix_front hsel hoi pre (pre_apart inv.size inv.closed hoi hall inv.py rfl fun k hk => hunl k (by simp [hk])) (mix_app (i :: x :: rest) pre (mix_weak' (fun _ _ h => h.2) pre h))
        have hni : i ∉ pre ++ x :: rest := by
          have := List.nodup_append.1 ndy
          intro hx
          simp only [List.mem_append, List.mem_cons] at hx
          rcases hx with hx | hx | hx
          · exact this.2.2 i hx i (by simp) rfl
          · exact hix hx
          · exact (List.nodup_cons.1 this.2.1).1 hx
        refine step_mix hoi hs hc hw hm fun a W w hs hc hw hm => any_of_mix hsel hR fuel (pre ++ x :: rest) _ a W w (by simp at hl ⊢; omega) ⟨by simp [inv.size], fun j hj => mem_set hsz hni (fun j hji => by simp [hji]) (inv.mem j hj), fun j hj => inv.lt j ?_, fun j hj => inv.one j ?_, hcl', inv.px⟩ hs hc hw hm
        · simp only [List.mem_append, List.mem_cons] at hj ⊢
          rcases hj with hj | hj | hj
          · exact .inl hj
          · exact .inr (.inl hj)
          · exact .inr (.inr (.inr hj))
        · simp only [List.mem_append, List.mem_cons] at hj ⊢
          rcases hj with hj | hj | hj
          · exact .inl hj
          · exact .inr (.inl hj)
          · exact .inr (.inr (.inr hj))
      by_cases hir : i ∈ rest
      · exfalso
        rcases inv.dep i hir with hd | hd
        · have h1 := depT_listed inv.closed _ i oi hoi hall hd
          rw [unl (hunl x hmemx).2] at h1
          cases h1
        · have h1 := depT_listed inv.closed _ i oi hoi hall hd
          rw [unl (hunl y hmemy).2] at h1
          cases h1
      have hip : i ∈ pre := by
        simp only [List.mem_append, List.mem_cons] at him
        rcases him with h | h | h | h
        · exact h
        · exact absurd h hix
        · exact absurd h hiy
        · exact absurd h hir
      obtain ⟨p1, p2, rfl⟩ := List.append_of_mem hip
      have hm := mix_front hsel hoi (post := p2) p1 (pre_apart inv.size inv.closed hoi hall inv.px (post := p2 ++ x :: rest) (by simp) fun k hk => hunl k (by simp [hk])) h
      have hni : i ∉ (p1 ++ p2) ++ x :: y :: rest := by
        have h1 := List.nodup_append.1 ndx
        have h2 := List.nodup_append.1 h1.1
        intro hx
        simp only [List.mem_append, List.mem_cons] at hx
        rcases hx with (hx | hx) | hx | hx | hx
        · exact h2.2.2 i hx i (by simp) rfl
        · exact (List.nodup_cons.1 h2.2.1).1 hx
        · exact hix hx
        · exact hiy hx
        · exact hir hx
      have hsub : ∀ j, j ∈ (p1 ++ p2) ++ x :: y :: rest → j ∈ (p1 ++ i :: p2) ++ x :: y :: rest := fun j hj => by
        simp only [List.mem_append, List.mem_cons] at hj ⊢
        rcases hj with (hj | hj) | hj
        · exact .inl (.inl hj)
        · exact .inl (.inr (.inr hj))
        · exact .inr hj
      have hsl : (p1 ++ p2).Sublist (p1 ++ i :: p2) := List.Sublist.append_left (List.sublist_cons_self i p2) p1
      refine step_mix hoi hs hc hw hm fun a W w hs hc hw hm => ih (p1 ++ p2) _ a W w (by simp at hl ⊢; omega) ⟨by simp [inv.size], fun j hj => mem_set hsz hni (fun j hji => by simp [hji]) (inv.mem j hj), fun j hj => inv.lt j (hsub j hj), fun j hj => inv.one j (hsub j hj), hcl', chkPairs_sub inv.px (List.Sublist.append_right hsl _), chkPairs_sub inv.py (List.Sublist.append_right hsl _), inv.ne, inv.wx, inv.wy, inv.dep⟩ hs hc hw hm
end
section
variable {ops : List Oper} {anc : Nat → Bool}
def waitsB (ops : List Oper) (i k : Nat) : Bool := match nthO ops i with
  | some o => o.after.toList.any fun e => Region.binds .any e && Nat.beq e.on k
  | none => false
theorem waitsB_eq (i k : Nat) : waits ops.toArray i k = waitsB ops i k := by
  unfold waitsB
  cases ho : nthO ops i with
  | none => unfold waits; rw [nthO_eq, ho]
  | some o => exact waits_eq ho
def chkTwo (ops : List Oper) (anc : Nat → Bool) (pre : List Nat) (x y : Nat) (rest : List Nat) : Bool :=
  (Region.noSelect ops.toArray && Nat.beq (pre ++ x :: y :: rest).length ops.length && ((pre ++ x :: y :: rest).all fun i => Nat.blt i ops.length) && ((List.range ops.length).all fun i => (pre ++ x :: y :: rest).contains i) && ((withOps ops (pre ++ x :: y :: rest)).all fun p => Nat.blt p.1 ops.length && !(p.2.after.toList.any fun e => Region.binds .any e && Nat.beq e.on p.1) && p.2.after.toList.all fun e => !Region.binds .any e || Nat.blt e.on ops.length)) &&
  (chkPairsM ops.toArray anc (masksFrom [] ops) (withOps ops (pre ++ x :: rest)) && (chkPairsM ops.toArray anc (masksFrom [] ops) (withOps ops (pre ++ y :: rest)) && (!Nat.beq x y && (!waitsB ops x y && (!waitsB ops y x && rest.all fun i => ((masksFrom [] ops).getD i 0).testBit x || ((masksFrom [] ops).getD i 0).testBit y)))))
theorem repl_t {n i : Nat} (h : i < n) : (Array.replicate n false).getD i true = false := by simp [h]
theorem repl_f (n i : Nat) : (Array.replicate n false).getD i false = false := by
  rcases Nat.lt_or_ge i n with h' | h'
  · simp [h']
  · simp [h']
theorem wp_region_two {P : Program} {C : World → Prop} {R : Act → (World → Prop) → Prop} {id : Nat} {Q : Exit → Act → World → Prop} {a : Act} {w : World} {W : World → Prop} {pre : List Nat} {x y : Nat} {rest : List Nat} (hm : P.follows .mixedOrders = true) (hk : chkTwo ops anc pre x y rest = true)
    (hR : ∀ a W, R a W → ∀ w, W w → Q .normal a w) (hs : Stb W) (hc : ∀ w, W w → C w) (hw : W { w with drawn := w.drawn + 1 }) (h : mix P ops.toArray C anc (fun a W => mix P ops.toArray C anc R (x :: y :: rest) a W ∧ mix P ops.toArray C anc R (y :: x :: rest) a W) pre a W) : (Code.region id ops.toArray true).wp P Q a w := by
  simp only [chkTwo, Bool.and_eq_true] at hk
  obtain ⟨⟨⟨⟨⟨h1, h2⟩, h0⟩, h3⟩, h4⟩, h5, h6, h7, h8, h9, h10⟩ := hk
  have h2 : (pre ++ x :: y :: rest).length = ops.length := Nat.eq_of_beq_eq_true h2
  have hl : ∀ i ∈ pre ++ x :: y :: rest, i < ops.length := fun i hi => by
    have := List.all_eq_true.1 h0 i hi
    simpa only [Nat.blt_eq] using this
  have hm' : MInv ops.toArray (masksFrom [] ops) := minv_from ops [] (fun i hi => by simp at hi) (fun j o hj => by simpa using hj)
  have hx : ∀ i ∈ pre ++ x :: rest, i < ops.length := fun i hi => hl i (by
    simp only [List.mem_append, List.mem_cons] at hi ⊢
    rcases hi with h | h | h
    · exact .inl h
    · exact .inr (.inl h)
    · exact .inr (.inr (.inr h)))
  have hy : ∀ i ∈ pre ++ y :: rest, i < ops.length := fun i hi => hl i (by
    simp only [List.mem_append, List.mem_cons] at hi ⊢
    rcases hi with h | h | h
    · exact .inl h
    · exact .inr (.inr (.inl h))
    · exact .inr (.inr (.inr h)))
  refine wp_region_any hm (any_of_two h1 hR ops.toArray.size pre _ a W _ (by simpa using h2) ⟨by simp, fun i hi => ⟨fun _ => repl_t hi, fun _ => ?_⟩, fun i hi => by simpa using hl i hi, fun i hi => ?_, fun j oj _ hj => (by rw [repl_f] at hj; cases hj), chkPairs_of hx h5, chkPairs_of hy h6, fun e => ?_, ?_, ?_, fun i hi => ?_⟩ hs hc hw h)
  · have := List.all_eq_true.1 h3 i (List.mem_range.2 (by simpa using hi))
    simpa using this
  · have hil := hl i hi
    obtain ⟨oi, hoi⟩ : ∃ o, nthO ops i = some o := by rw [← nthO_eq ops i]; simp [hil]
    have h6 := List.all_eq_true.1 h4 (i, oi) (mem_withOps hoi _ hi)
    simp only [Bool.and_eq_true, Bool.not_eq_true'] at h6
    obtain ⟨⟨_, h7⟩, h8⟩ := h6
    simp only [Bool.and_eq_true, decide_eq_true_eq, chkOne, Bool.not_eq_true']
    refine ⟨by rw [waits_eq hoi]; exact h7, ?_⟩
    rw [nthO_eq, hoi]
    simp only
    rw [Array.all_eq_true']
    intro e he
    have := List.all_eq_true.1 h8 e (by simpa using he)
    simp only [Bool.or_eq_true, Bool.not_eq_true', Nat.blt_eq] at this
    simp only [Bool.or_eq_true, Bool.not_eq_true', decide_eq_true_eq]
    simpa using this
  · rw [e, Nat.beq_refl] at h7; cases h7
  · rw [waitsB_eq]; simpa using h8
  · rw [waitsB_eq]; simpa using h9
  · have hil := hl i (by simp [hi])
    have h11 := List.all_eq_true.1 h10 i hi
    simp only [Bool.or_eq_true] at h11
    exact h11.imp (fun h => depT_le (by simp; omega) (hm' i (by rw [masks_length]; simpa using hil) x h)) fun h => depT_le (by simp; omega) (hm' i (by rw [masks_length]; simpa using hil) y h)
end
section
variable {P : Program} {Q : Exit → Act → World → Prop} {n : Nat} {st : Slots} {S : Nat → Prop} {w0 : World} {H H' HC : List Res}
structure TwoR (P : Program) (ops : List Oper) (C : World → Prop) (anc : Nat → Bool) (R : Act → (World → Prop) → Prop) (l l' : List Nat) (a : Act) (W : World → Prop) : Prop where
  both : mix P ops.toArray C anc R l a W ∧ mix P ops.toArray C anc R l' a W
theorem cw_two {id : Nat} {ops : List Oper} (pre : List Nat) (x y : Nat) (rest : List Nat) (anc : Nat → Bool) (HC : List Res) (hm : P.follows .mixedOrders = true) (hk : chkTwo ops anc pre x y rest = true) (hc : ∀ w, Ok S w0 H w → Ok S w0 HC w)
    (h : MX P ops (Ok S w0 HC) anc (TwoR P ops (Ok S w0 HC) anc (RW Q) (x :: y :: rest) (y :: x :: rest)) pre n st S w0 H) : CW P (.region id ops.toArray true) Q n st S w0 H := ⟨fun w hw =>
  wp_region_two (C := Ok S w0 HC) hm hk (fun a W h => h) stb_ok hc hw.drawn (mix_weak' (fun a W h => h.both) pre (h.run hc))⟩
theorem mx_two {ops : List Oper} {C : World → Prop} {anc : Nat → Bool} {R : Act → (World → Prop) → Prop} {l l' : List Nat} (h : MX P ops C anc R l n st S w0 H) (h' : MX P ops C anc R l' n st S w0 H) :
    MX P ops C anc (TwoR P ops C anc R l l') [] n st S w0 H := ⟨fun hc => ⟨h.run hc, h'.run hc⟩⟩
end
end Go.Sx
