/- A region that draws its order and holds an operation that waits for all that stand ahead of it, and for which all behind it wait: what holds all through may be another thing behind it. Plain theorems over any program. -/
import Derived.Test.YtikdbgheefjpkaaTwo
import Derived.Test.YtikdbgheefjpkaaMo2
set_option linter.unusedVariables false
set_option linter.unusedSimpArgs false
namespace Go.Sx
open Go.RowKit
section
variable {P : Program} {ops : Array Oper} {C C' : World → Prop} {anc anc' : Nat → Bool} {R : Act → (World → Prop) → Prop}
structure BarInv (ops : Array Oper) (anc : Nat → Bool) (listed : Array Bool) (pre : List Nat) (z : Nat) (rest : List Nat) : Prop where
  size : listed.size = ops.size
  mem : ∀ i, i < ops.size → (i ∈ pre ++ z :: rest ↔ listed.getD i true = false)
  lt : ∀ i ∈ pre ++ z :: rest, i < ops.size
  one : ∀ i ∈ pre ++ z :: rest, chkOne ops i = true
  closed : ∀ j oj, ops[j]? = some oj → listed.getD j false = true → ∀ e ∈ oj.after, Region.binds .any e = true → listed.getD e.on false = true
  pairs : chkPairs ops anc (pre ++ z :: rest) = true
  dz : ∀ k ∈ pre, depT ops ops.size z k = true
  dr : ∀ i ∈ rest, depT ops ops.size i z = true
theorem any_of_bar {Q : Exit → Act → World → Prop} (hsel : Region.noSelect ops = true) (hR : ∀ a W, R a W → ∀ w, W w → Q .normal a w) {z : Nat} {rest : List Nat} : ∀ (fuel : Nat) (pre : List Nat) (listed : Array Bool) (a : Act) (W : World → Prop) (w : World),
    (pre ++ z :: rest).length = fuel → BarInv ops anc listed pre z rest → Stb W → (∀ w, W w → C w) → W w →
    mix P ops C anc (fun a W => (∀ w, W w → C' w) ∧ mix P ops C' anc R (z :: rest) a W) pre a W → wpAny P .any ops Q fuel listed a w := by
  intro fuel
  induction fuel with
  | zero => intro pre listed a W w hl; simp at hl
  | succ fuel ih =>
    intro pre listed a W w hl inv hs hc hw h
    cases pre with
    | nil =>
      exact any_of_mix hsel hR _ (z :: rest) listed a W w (by simpa using hl) ⟨inv.size, by simpa using inv.mem, by simpa using inv.lt, by simpa using inv.one, inv.closed, by simpa using inv.pairs⟩ hs h.1 hw h.2
    | cons p pre =>
      have hunl : ∀ k ∈ p :: pre ++ z :: rest, k < ops.size ∧ listed.getD k true = false := fun k hk => ⟨inv.lt k hk, (inv.mem k (inv.lt k hk)).1 hk⟩
      have nd := chkPairs_nodup inv.pairs
      refine ⟨fun hr => ?_, fun i hi => ?_⟩
      · exfalso
        have hmp : p ∈ p :: pre ++ z :: rest := by simp
        have hz := ready_head (z := p) inv.size inv.mem hmp (inv.lt p hmp) (inv.one p hmp) (fun i hi => by
          have h1 := inv.one p hmp
          unfold chkOne at h1
          simp only [Bool.and_eq_true, Bool.not_eq_true'] at h1
          rcases List.mem_cons.1 hi with rfl | hi
          · exact h1.1
          have hp := inv.pairs
          rw [List.cons_append] at hp
          simp only [chkPairs, Bool.and_eq_true] at hp
          have := List.all_eq_true.1 hp.1 _ hi
          simp only [Bool.and_eq_true, Bool.not_eq_true'] at this
          exact this.1.2)
        rw [hr] at hz; cases hz
      · obtain ⟨h0, oi, hoi, hall⟩ := mem_ready.1 hi
        have hlt : i < ops.size := (Array.getElem?_eq_some_iff.1 hoi).1
        have him : i ∈ p :: pre ++ z :: rest := (inv.mem i hlt).2 h0
        have nodep : ∀ k ∈ p :: pre ++ z :: rest, depT ops ops.size i k = true → False := fun k hk hd => by
          have h1 := depT_listed inv.closed _ i oi hoi hall hd
          rw [unl (hunl k hk).2] at h1
          cases h1
        have hip : i ∈ p :: pre := by
          rcases List.mem_append.1 him with h | h
          · exact h
          · rcases List.mem_cons.1 h with h | h
            · exact (nodep p (by simp) (h ▸ inv.dz p (by simp))).elim
            · exact (nodep z (by simp) (inv.dr i h)).elim
        obtain ⟨p1, p2, hpe⟩ := List.append_of_mem hip
        rw [hpe] at h nd hl hunl
        have hpa := pre_apart (l := p1 ++ i :: (p2 ++ z :: rest)) inv.size inv.closed hoi hall (by have := inv.pairs; rw [hpe] at this; simpa using this) rfl (fun k hk => hunl k (by simp [hk]))
        have hm := mix_front hsel hoi p1 hpa h
        have hni : i ∉ (p1 ++ p2) ++ z :: rest := by
          have h1 := List.nodup_append.1 (by simpa using nd : (p1 ++ (i :: (p2 ++ z :: rest))).Nodup)
          intro hx
          simp only [List.mem_append, List.mem_cons, List.append_assoc] at hx
          rcases hx with hx | hx
          · exact h1.2.2 i hx i (by simp) rfl
          · exact (List.nodup_cons.1 h1.2.1).1 (by simpa using hx)
        have hsz : i < listed.size := by rw [inv.size]; exact hlt
        have hsub : ∀ j, j ∈ (p1 ++ p2) ++ z :: rest → j ∈ p :: pre ++ z :: rest := fun j hj => by
          rw [hpe]
          simp only [List.mem_append, List.mem_cons] at hj ⊢
          rcases hj with (hj | hj) | hj
          · exact .inl (.inl hj)
          · exact .inl (.inr (.inr hj))
          · exact .inr hj
        have hsl : (p1 ++ p2).Sublist (p :: pre) := by rw [hpe]; exact List.Sublist.append_left (List.sublist_cons_self i p2) p1
        refine step_mix hoi hs hc hw hm fun a W w hs hc hw hm => ih (p1 ++ p2) _ a W w (by simp at hl ⊢; omega) ⟨by simp [inv.size], fun j hj => mem_set (l := p :: pre ++ z :: rest) hsz hni (fun j hji => by rw [hpe]; simp [hji]) (inv.mem j hj), fun j hj => inv.lt j (hsub j hj), fun j hj => inv.one j (hsub j hj), closed_set hoi hall inv.closed, chkPairs_sub inv.pairs (List.Sublist.append_right hsl _), fun k hk => inv.dz k (hsl.subset hk), inv.dr⟩ hs hc hw hm
end
section
variable {ops : List Oper} {anc : Nat → Bool}
def chkBar (ops : List Oper) (anc : Nat → Bool) (pre : List Nat) (z : Nat) (rest : List Nat) : Bool :=
  (chkM ops anc (pre ++ z :: rest) && (pre.all fun k => ((masksFrom [] ops).getD z 0).testBit k)) && (rest.all fun i => ((masksFrom [] ops).getD i 0).testBit z)
theorem wp_region_bar {P : Program} {C C' : World → Prop} {R : Act → (World → Prop) → Prop} {id : Nat} {Q : Exit → Act → World → Prop} {a : Act} {w : World} {W : World → Prop} {pre : List Nat} {z : Nat} {rest : List Nat} (hm : P.follows .mixedOrders = true) (hk : chkBar ops anc pre z rest = true)
    (hR : ∀ a W, R a W → ∀ w, W w → Q .normal a w) (hs : Stb W) (hc : ∀ w, W w → C w) (hw : W { w with drawn := w.drawn + 1 }) (h : mix P ops.toArray C anc (fun a W => (∀ w, W w → C' w) ∧ mix P ops.toArray C' anc R (z :: rest) a W) pre a W) : (Code.region id ops.toArray true).wp P Q a w := by
  simp only [chkBar, Bool.and_eq_true] at hk
  obtain ⟨⟨hk0, hkz⟩, hkr⟩ := hk
  have hk1 := chk_of hk0
  simp only [chkM, Bool.and_eq_true] at hk0
  obtain ⟨⟨⟨⟨⟨_, h2⟩, h0⟩, _⟩, _⟩, _⟩ := hk0
  have h2 : (pre ++ z :: rest).length = ops.length := Nat.eq_of_beq_eq_true h2
  have hl : ∀ i ∈ pre ++ z :: rest, i < ops.length := fun i hi => by
    have := List.all_eq_true.1 h0 i hi
    simpa only [Nat.blt_eq] using this
  simp only [chk, Bool.and_eq_true, beq_iff_eq] at hk1
  obtain ⟨⟨⟨⟨k1, k2⟩, k3⟩, k4⟩, k5⟩ := hk1
  have hm' : MInv ops.toArray (masksFrom [] ops) := minv_from ops [] (fun i hi => by simp at hi) (fun j o hj => by simpa using hj)
  refine wp_region_any hm (any_of_bar k1 hR ops.toArray.size pre _ a W _ (by simpa using h2) ⟨by simp, fun i hi => ⟨fun _ => repl_t hi, fun _ => ?_⟩, fun i hi => by simpa using hl i hi, fun i hi => ?_, fun j oj _ hj => (by rw [repl_f] at hj; cases hj), k5, fun k hk => ?_, fun i hi => ?_⟩ hs hc hw h)
  · have := List.all_eq_true.1 k3 i (List.mem_range.2 (by simpa using hi))
    simpa using this
  · have := List.all_eq_true.1 k4 i hi
    simp only [Bool.and_eq_true] at this
    exact this.2
  · have hz := hl z (by simp)
    exact depT_le (by simp; omega) (hm' z (by rw [masks_length]; simpa using hz) k (List.all_eq_true.1 hkz k hk))
  · have hil := hl i (by simp [hi])
    exact depT_le (by simp; omega) (hm' i (by rw [masks_length]; simpa using hil) z (List.all_eq_true.1 hkr i hi))
end
section
variable {P : Program} {Q : Exit → Act → World → Prop} {n : Nat} {st : Slots} {S : Nat → Prop} {w0 : World} {H H' HC : List Res}
structure BarR (P : Program) (ops : List Oper) (C' : World → Prop) (anc : Nat → Bool) (R : Act → (World → Prop) → Prop) (l : List Nat) (a : Act) (W : World → Prop) : Prop where
  both : (∀ w, W w → C' w) ∧ mix P ops.toArray C' anc R l a W
theorem cw_bar {id : Nat} {ops : List Oper} (pre : List Nat) (z : Nat) (rest : List Nat) (anc : Nat → Bool) (HC : List Res) (C' : World → Prop) (hm : P.follows .mixedOrders = true) (hk : chkBar ops anc pre z rest = true) (hc : ∀ w, Ok S w0 H w → Ok S w0 HC w)
    (h : MX P ops (Ok S w0 HC) anc (BarR P ops C' anc (RW Q) (z :: rest)) pre n st S w0 H) : CW P (.region id ops.toArray true) Q n st S w0 H := ⟨fun w hw =>
  wp_region_bar (C := Ok S w0 HC) hm hk (fun a W h => h) stb_ok hc hw.drawn (mix_weak' (fun a W h => h.both) pre (h.run hc))⟩
theorem mx_bar {ops : List Oper} {C C' : World → Prop} {anc : Nat → Bool} {R : Act → (World → Prop) → Prop} {l : List Nat} (hc : ∀ w, Ok S w0 H w → C' w) (h : MX P ops C' anc R l n st S w0 H) :
    MX P ops C anc (BarR P ops C' anc R l) [] n st S w0 H := ⟨fun _ => ⟨hc, h.run hc⟩⟩
theorem mix_weakb {ops : List Oper} {C C' : World → Prop} {anc : Nat → Bool} {l2 : List Nat} {W W' : World → Prop} (hW : ∀ w, W w → W' w) : ∀ (l : List Nat) (a : Act), mix P ops.toArray C anc (BarR P ops C' anc (RW Q) l2) l a W' → mix P ops.toArray C anc (BarR P ops C' anc (RW Q) l2) l a W
  | [], a, h => ⟨fun w hw => h.both.1 w (hW w hw), mix_weak hW l2 a h.both.2⟩
  | i :: l, a, h => by
    simp only [mix] at h ⊢
    cases ho : ops.toArray[i]? with
    | none => simp only [ho] at h ⊢; exact mix_weakb hW l a h
    | some o =>
      simp only [ho] at h ⊢
      split
      · rename_i hg
        simp only [hg, if_true] at h
        split
        · rename_i ha
          simp only [ha, if_true] at h
          exact fun w hw => h w (hW w hw)
        · rename_i ha
          simp only [ha] at h
          obtain ⟨v, h1, h2⟩ := h
          exact ⟨v, h1, mix_weakb hW l _ h2⟩
      · rename_i hg
        simp only [hg] at h
        exact mix_weakb hW l _ h
theorem mx_weakb {ops : List Oper} {C C' : World → Prop} {anc : Nat → Bool} {l l2 : List Nat} (hW : ∀ w, Ok S w0 H w → Ok S w0 H' w) (hC : ∀ w, Ok S w0 H' w → C w) (h : MX P ops C anc (BarR P ops C' anc (RW Q) l2) l n st S w0 H') : MX P ops C anc (BarR P ops C' anc (RW Q) l2) l n st S w0 H := ⟨fun _ => mix_weakb hW l _ (h.run hC)⟩
end
end Go.Sx
