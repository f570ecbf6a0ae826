/- A region that draws its order and holds one operation that waits for none of a chain of others, all taken in the world as it stands: a walk for each place of it serves all orders. Plain theorems over any program. -/
import Derived.Test.YtikdbgheefjpkaaTwo
set_option linter.unusedVariables false
set_option linter.unusedSimpArgs false
namespace Go.Sx
open Go.RowKit
section
variable {P : Program} {ops : Array Oper} {C : World → Prop} {anc : Nat → Bool} {R R' : Act → (World → Prop) → Prop}
structure SlInv (ops : Array Oper) (anc : Nat → Bool) (listed : Array Bool) (pre xs : List Nat) (y : Nat) (rest : List Nat) : Prop where
  size : listed.size = ops.size
  mem : ∀ i, i < ops.size → (i ∈ pre ++ (xs ++ y :: rest) ↔ listed.getD i true = false)
  lt : ∀ i ∈ pre ++ (xs ++ y :: rest), i < ops.size
  one : ∀ i ∈ pre ++ (xs ++ y :: rest), chkOne ops i = true
  closed : ∀ j oj, ops[j]? = some oj → listed.getD j false = true → ∀ e ∈ oj.after, Region.binds .any e = true → listed.getD e.on false = true
  px : chkPairs ops anc (pre ++ (xs ++ rest)) = true
  py : chkPairs ops anc (pre ++ y :: rest) = true
  ne : ∀ x ∈ xs, x ≠ y ∧ waits ops x y = false
  chain : xs.Pairwise fun x i => depT ops ops.size i x = true
  dep : ∀ i ∈ rest, (∀ x ∈ xs, depT ops ops.size i x = true) ∨ depT ops ops.size i y = true
def slR (P : Program) (ops : Array Oper) (C : World → Prop) (anc : Nat → Bool) (R : Act → (World → Prop) → Prop) (y : Nat) (rest : List Nat) : List Nat → Act → (World → Prop) → Prop
  | [] => fun a W => mix P ops C anc R (y :: rest) a W
  | x :: xs => fun a W => mix P ops C anc R (y :: ((x :: xs) ++ rest)) a W ∧ mix P ops C anc (slR P ops C anc R y rest xs) [x] a W
theorem any_of_slide {Q : Exit → Act → World → Prop} (hsel : Region.noSelect ops = true) (hR : ∀ a W, R a W → ∀ w, W w → Q .normal a w) {y : Nat} {rest : List Nat} : ∀ (fuel : Nat) (pre xs : List Nat) (listed : Array Bool) (a : Act) (W : World → Prop) (w : World),
    (pre ++ (xs ++ y :: rest)).length = fuel → SlInv ops anc listed pre xs y rest → Stb W → (∀ w, W w → C w) → W w → mix P ops C anc (slR P ops C anc R y rest xs) pre a W → wpAny P .any ops Q fuel listed a w := by
  intro fuel
  induction fuel with
  | zero => intro pre xs listed a W w hl; simp at hl
  | succ fuel ih =>
    intro pre xs listed a W w hl inv hs hc hw h
    cases xs with
    | nil =>
      exact any_of_mix hsel hR (fuel + 1) (pre ++ y :: rest) listed a W w (by simpa using hl) ⟨inv.size, fun i hi => by simpa using inv.mem i hi, fun i hi => inv.lt i (by simpa using hi), fun i hi => inv.one i (by simpa using hi), inv.closed, inv.py⟩ hs hc hw (mix_app (y :: rest) pre h)
    | cons x xs =>
    have hmemx : x ∈ pre ++ ((x :: xs) ++ y :: rest) := by simp
    have hmemy : y ∈ pre ++ ((x :: xs) ++ y :: rest) := by simp
    have hunl : ∀ k ∈ pre ++ ((x :: xs) ++ y :: rest), k < ops.size ∧ listed.getD k true = false := fun k hk => ⟨inv.lt k hk, (inv.mem k (inv.lt k hk)).1 hk⟩
    have ndx := chkPairs_nodup inv.px
    have ndy := chkPairs_nodup inv.py
    have hch := List.pairwise_cons.1 inv.chain
    refine ⟨fun hr => ?_, fun i hi => ?_⟩
    · exfalso
      cases pre with
      | nil =>
        have hz := ready_head (z := x) inv.size inv.mem hmemx (inv.lt x hmemx) (inv.one x hmemx) (fun i hi => by
          have h1 := inv.one x hmemx
          unfold chkOne at h1
          simp only [Bool.and_eq_true, Bool.not_eq_true'] at h1
          have key : i ∈ xs ++ rest → waits ops x i = false := fun hi => by
            have hp := inv.px
            simp only [List.nil_append, List.cons_append, chkPairs, Bool.and_eq_true] at hp
            have := List.all_eq_true.1 hp.1 _ hi
            simp only [Bool.and_eq_true, Bool.not_eq_true'] at this
            exact this.1.2
          have hi : i ∈ x :: (xs ++ y :: rest) := hi
          simp only [List.mem_append, List.mem_cons] at hi
          rcases hi with rfl | hi | rfl | hi
          · exact h1.1
          · exact key (by simp [hi])
          · exact (inv.ne x (by simp)).2
          · exact key (by simp [hi]))
        rw [hr] at hz; cases hz
      | cons p pre =>
        have hmp : p ∈ p :: pre ++ ((x :: xs) ++ y :: rest) := by simp
        have hz := ready_head (z := p) inv.size inv.mem hmp (inv.lt p hmp) (inv.one p hmp) (fun i hi => by
          have h1 := inv.one p hmp
          unfold chkOne at h1
          simp only [Bool.and_eq_true, Bool.not_eq_true'] at h1
          have key : ∀ l, chkPairs ops anc (p :: l) = true → i ∈ l → waits ops p i = false := fun l hp hi => by
            simp only [chkPairs, Bool.and_eq_true] at hp
            have := List.all_eq_true.1 hp.1 _ hi
            simp only [Bool.and_eq_true, Bool.not_eq_true'] at this
            exact this.1.2
          have hi : i ∈ p :: (pre ++ (x :: (xs ++ y :: rest))) := hi
          simp only [List.mem_append, List.mem_cons] at hi
          rcases hi with rfl | hi | rfl | hi | rfl | hi
          · exact h1.1
          · exact key _ inv.px (by simp [hi])
          · exact key _ inv.px (by simp)
          · exact key _ inv.px (by simp [hi])
          · exact key _ inv.py (by simp)
          · exact key _ inv.px (by simp [hi]))
        rw [hr] at hz; cases hz
    · obtain ⟨h0, oi, hoi, hall⟩ := mem_ready.1 hi
      have hlt : i < ops.size := (Array.getElem?_eq_some_iff.1 hoi).1
      have hsz : i < listed.size := by rw [inv.size]; exact hlt
      have him : i ∈ pre ++ ((x :: xs) ++ y :: rest) := (inv.mem i hlt).2 h0
      have hcl' := closed_set hoi hall inv.closed
      have hxy := inv.ne x (by simp)
      by_cases hix : i = x
      · subst hix
        have hm := mix_front hsel hoi (post := []) pre (pre_apart inv.size inv.closed hoi hall inv.px rfl fun k hk => hunl k (by simp [hk])) (mix_app [i] pre (mix_weak' (fun _ _ h => h.2) pre h))
        rw [List.append_nil] at hm
        have hni : i ∉ pre ++ (xs ++ y :: rest) := by
          have h1 := List.nodup_append.1 ndx
          have h2 : i ∉ xs ++ rest := (List.nodup_cons.1 h1.2.1).1
          intro hx
          simp only [List.mem_append, List.mem_cons] at hx
          rcases hx with hx | hx | hx | hx
          · exact h1.2.2 i hx i (by simp) rfl
          · exact h2 (List.mem_append.2 (.inl hx))
          · exact hxy.1 hx
          · exact h2 (List.mem_append.2 (.inr hx))
        have hsub : ∀ j, j ∈ pre ++ (xs ++ y :: rest) → j ∈ pre ++ ((i :: xs) ++ y :: rest) := fun j hj => by
          simp only [List.mem_append, List.mem_cons] at hj ⊢
          rcases hj with hj | hj | hj
          · exact .inl hj
          · exact .inr (.inl (.inr hj))
          · exact .inr (.inr hj)
        refine step_mix hoi hs hc hw hm fun a W w hs hc hw hm => ih pre xs _ a W w (by simp at hl ⊢; omega) ⟨by simp [inv.size], fun j hj => mem_set hsz hni (fun j hji => by simp [hji]) (inv.mem j hj), fun j hj => inv.lt j (hsub j hj), fun j hj => inv.one j (hsub j hj), hcl', chkPairs_sub inv.px (List.Sublist.append_left (List.sublist_cons_self _ _) _), inv.py, fun x hx => inv.ne x (by simp [hx]), hch.2, fun j hj => (inv.dep j hj).imp (fun h x hx => h x (by simp [hx])) id⟩ hs hc hw hm
      by_cases hiy : i = y
      · subst hiy
        have hm := mix_front hsel hoi pre (pre_apart inv.size inv.closed hoi hall inv.py rfl fun k hk => hunl k (by simp [hk])) (mix_app (i :: ((x :: xs) ++ rest)) pre (mix_weak' (fun _ _ h => h.1) pre h))
        have hni : i ∉ pre ++ ((x :: xs) ++ rest) := by
          have := List.nodup_append.1 ndy
          intro hx
          have hx : i ∈ pre ++ (x :: (xs ++ rest)) := hx
          simp only [List.mem_append, List.mem_cons] at hx
          rcases hx with hx | hx | hx | hx
          · exact this.2.2 i hx i (by simp) rfl
          · exact hix hx
          · exact (inv.ne i (by simp [hx])).1 rfl
          · exact (List.nodup_cons.1 this.2.1).1 hx
        have hsub : ∀ j, j ∈ pre ++ ((x :: xs) ++ rest) → j ∈ pre ++ ((x :: xs) ++ i :: rest) := fun j hj => by
          simp only [List.mem_append, List.mem_cons] at hj ⊢
          rcases hj with hj | hj | hj
          · exact .inl hj
          · exact .inr (.inl hj)
          · exact .inr (.inr (.inr hj))
        refine step_mix hoi hs hc hw hm fun a W w hs hc hw hm => any_of_mix hsel hR fuel (pre ++ ((x :: xs) ++ rest)) _ a W w (by simp at hl ⊢; omega) ⟨by simp [inv.size], fun j hj => mem_set hsz hni (fun j hji => by simp [hji]) (inv.mem j hj), fun j hj => inv.lt j (hsub j hj), fun j hj => inv.one j (hsub j hj), hcl', inv.px⟩ hs hc hw hm
      have hnx : ∀ j oj, ops[j]? = some oj → j = i → depT ops ops.size i x = true → False := fun j oj hj e hd => by
        have h1 := depT_listed inv.closed _ i oi hoi hall hd
        rw [unl (hunl x hmemx).2] at h1
        cases h1
      by_cases hixs : i ∈ xs
      · exact (hnx i oi hoi rfl (hch.1 i hixs)).elim
      by_cases hir : i ∈ rest
      · exfalso
        rcases inv.dep i hir with hd | hd
        · exact hnx i oi hoi rfl (hd x (by simp))
        · have h1 := depT_listed inv.closed _ i oi hoi hall hd
          rw [unl (hunl y hmemy).2] at h1
          cases h1
      have hip : i ∈ pre := by
        have him : i ∈ pre ++ (x :: (xs ++ y :: rest)) := him
        simp only [List.mem_append, List.mem_cons] at him
        rcases him with h | h | h | h | h
        · exact h
        · exact absurd h hix
        · exact absurd h hixs
        · exact absurd h hiy
        · exact absurd h hir
      obtain ⟨p1, p2, rfl⟩ := List.append_of_mem hip
      have hm := mix_front hsel hoi (post := p2) p1 (pre_apart inv.size inv.closed hoi hall inv.px (post := p2 ++ ((x :: xs) ++ rest)) (by simp) fun k hk => hunl k (by simp [hk])) h
      have hni : i ∉ (p1 ++ p2) ++ ((x :: xs) ++ y :: rest) := by
        have h1 := List.nodup_append.1 ndx
        have h2 := List.nodup_append.1 h1.1
        intro hx
        have hx : i ∈ (p1 ++ p2) ++ (x :: (xs ++ y :: rest)) := hx
        simp only [List.mem_append, List.mem_cons] at hx
        rcases hx with (hx | hx) | hx | hx | hx | hx
        · exact h2.2.2 i hx i (by simp) rfl
        · exact (List.nodup_cons.1 h2.2.1).1 hx
        · exact hix hx
        · exact hixs hx
        · exact hiy hx
        · exact hir hx
      have hsub : ∀ j, j ∈ (p1 ++ p2) ++ ((x :: xs) ++ y :: rest) → j ∈ (p1 ++ i :: p2) ++ ((x :: xs) ++ y :: rest) := fun j hj => by
        simp only [List.mem_append, List.mem_cons] at hj ⊢
        rcases hj with (hj | hj) | hj
        · exact .inl (.inl hj)
        · exact .inl (.inr (.inr hj))
        · exact .inr hj
      have hsl : (p1 ++ p2).Sublist (p1 ++ i :: p2) := List.Sublist.append_left (List.sublist_cons_self i p2) p1
      refine step_mix hoi hs hc hw hm fun a W w hs hc hw hm => ih (p1 ++ p2) (x :: xs) _ a W w (by simp at hl ⊢; omega) ⟨by simp [inv.size], fun j hj => mem_set hsz hni (fun j hji => by simp [hji]) (inv.mem j hj), fun j hj => inv.lt j (hsub j hj), fun j hj => inv.one j (hsub j hj), hcl', chkPairs_sub inv.px (List.Sublist.append_right hsl _), chkPairs_sub inv.py (List.Sublist.append_right hsl _), inv.ne, inv.chain, inv.dep⟩ hs hc hw hm
end
section
variable {ops : List Oper} {anc : Nat → Bool}
def pairB (p : Nat → Nat → Bool) : List Nat → Bool
  | [] => true
  | x :: l => l.all (p x) && pairB p l
theorem pairB_of {p : Nat → Nat → Bool} {q : Nat → Nat → Prop} {L : List Nat} (h : ∀ x i, i ∈ L → p x i = true → q x i) : ∀ {l : List Nat}, (∀ i ∈ l, i ∈ L) → pairB p l = true → l.Pairwise q
  | [], _, _ => List.Pairwise.nil
  | x :: l, hl, hp => by
    simp only [pairB, Bool.and_eq_true] at hp
    exact List.pairwise_cons.2 ⟨fun i hi => h x i (hl i (by simp [hi])) (List.all_eq_true.1 hp.1 i hi), pairB_of h (fun i hi => hl i (by simp [hi])) hp.2⟩
def chkSlide (ops : List Oper) (anc : Nat → Bool) (pre xs : List Nat) (y : Nat) (rest : List Nat) : Bool :=
  (Region.noSelect ops.toArray && Nat.beq (pre ++ (xs ++ y :: rest)).length ops.length && ((pre ++ (xs ++ y :: rest)).all fun i => Nat.blt i ops.length) && ((List.range ops.length).all fun i => (pre ++ (xs ++ y :: rest)).contains i) && ((withOps ops (pre ++ (xs ++ y :: rest))).all fun p => Nat.blt p.1 ops.length && !(p.2.after.toList.any fun e => Region.binds .any e && Nat.beq e.on p.1) && p.2.after.toList.all fun e => !Region.binds .any e || Nat.blt e.on ops.length)) &&
  (chkPairsM ops.toArray anc (masksFrom [] ops) (withOps ops (pre ++ (xs ++ rest))) && (chkPairsM ops.toArray anc (masksFrom [] ops) (withOps ops (pre ++ y :: rest)) && ((xs.all fun x => !Nat.beq x y && !waitsB ops x y) && ((pairB (fun x i => ((masksFrom [] ops).getD i 0).testBit x) xs) && rest.all fun i => (xs.all fun x => ((masksFrom [] ops).getD i 0).testBit x) || ((masksFrom [] ops).getD i 0).testBit y))))
theorem wp_region_slide {P : Program} {C : World → Prop} {R : Act → (World → Prop) → Prop} {id : Nat} {Q : Exit → Act → World → Prop} {a : Act} {w : World} {W : World → Prop} {pre xs : List Nat} {y : Nat} {rest : List Nat} (hm : P.follows .mixedOrders = true) (hk : chkSlide ops anc pre xs y rest = true)
    (hR : ∀ a W, R a W → ∀ w, W w → Q .normal a w) (hs : Stb W) (hc : ∀ w, W w → C w) (hw : W { w with drawn := w.drawn + 1 }) (h : mix P ops.toArray C anc (slR P ops.toArray C anc R y rest xs) pre a W) : (Code.region id ops.toArray true).wp P Q a w := by
  simp only [chkSlide, Bool.and_eq_true] at hk
  obtain ⟨⟨⟨⟨⟨h1, h2⟩, h0⟩, h3⟩, h4⟩, h5, h6, h7, h8, h10⟩ := hk
  have h2 : (pre ++ (xs ++ y :: rest)).length = ops.length := Nat.eq_of_beq_eq_true h2
  have hl : ∀ i ∈ pre ++ (xs ++ y :: rest), i < ops.length := fun i hi => by
    have := List.all_eq_true.1 h0 i hi
    simpa only [Nat.blt_eq] using this
  have hm' : MInv ops.toArray (masksFrom [] ops) := minv_from ops [] (fun i hi => by simp at hi) (fun j o hj => by simpa using hj)
  have hd : ∀ i x, i < ops.length → ((masksFrom [] ops).getD i 0).testBit x = true → depT ops.toArray ops.toArray.size i x = true := fun i x hil h => depT_le (by simp; omega) (hm' i (by rw [masks_length]; simpa using hil) x h)
  have hx : ∀ i ∈ pre ++ (xs ++ rest), i < ops.length := fun i hi => hl i (by
    simp only [List.mem_append, List.mem_cons] at hi ⊢
    rcases hi with h | h | h
    · exact .inl h
    · exact .inr (.inl h)
    · exact .inr (.inr (.inr h)))
  have hy : ∀ i ∈ pre ++ y :: rest, i < ops.length := fun i hi => hl i (by
    simp only [List.mem_append, List.mem_cons] at hi ⊢
    rcases hi with h | h | h
    · exact .inl h
    · exact .inr (.inr (.inl h))
    · exact .inr (.inr (.inr h)))
  refine wp_region_any hm (any_of_slide h1 hR ops.toArray.size pre xs _ a W _ (by simpa using h2) ⟨by simp, fun i hi => ⟨fun _ => repl_t hi, fun _ => ?_⟩, fun i hi => by simpa using hl i hi, fun i hi => ?_, fun j oj _ hj => (by rw [repl_f] at hj; cases hj), chkPairs_of hx h5, chkPairs_of hy h6, fun x hx => ?_, ?_, fun i hi => ?_⟩ hs hc hw h)
  · have := List.all_eq_true.1 h3 i (List.mem_range.2 (by simpa using hi))
    simpa using this
  · have hil := hl i hi
    obtain ⟨oi, hoi⟩ : ∃ o, nthO ops i = some o := by rw [← nthO_eq ops i]; simp [hil]
    have h6 := List.all_eq_true.1 h4 (i, oi) (mem_withOps hoi _ hi)
    simp only [Bool.and_eq_true, Bool.not_eq_true'] at h6
    obtain ⟨⟨_, h7⟩, h8⟩ := h6
    simp only [Bool.and_eq_true, decide_eq_true_eq, chkOne, Bool.not_eq_true']
    refine ⟨by rw [waits_eq hoi]; exact h7, ?_⟩
    rw [nthO_eq, hoi]
    simp only
    rw [Array.all_eq_true']
    intro e he
    have := List.all_eq_true.1 h8 e (by simpa using he)
    simp only [Bool.or_eq_true, Bool.not_eq_true', Nat.blt_eq] at this
    simp only [Bool.or_eq_true, Bool.not_eq_true', decide_eq_true_eq]
    simpa using this
  · have h := List.all_eq_true.1 h7 x hx
    simp only [Bool.and_eq_true, Bool.not_eq_true'] at h
    exact ⟨fun e => by rw [e, Nat.beq_refl] at h; exact absurd h.1 (by simp), by rw [waitsB_eq]; exact h.2⟩
  · exact pairB_of (L := xs) (fun x i hi h => hd i x (hl i (by simp [hi])) h) (fun _ h => h) h8
  · have hil := hl i (by simp [hi])
    have h11 := List.all_eq_true.1 h10 i hi
    simp only [Bool.or_eq_true] at h11
    exact h11.imp (fun h x hx => hd i x hil (List.all_eq_true.1 h x hx)) fun h => hd i y hil h
end
section
variable {P : Program} {Q : Exit → Act → World → Prop} {n : Nat} {st : Slots} {S : Nat → Prop} {w0 : World} {H H' HC : List Res}
structure SlW (P : Program) (ops : List Oper) (C : World → Prop) (anc : Nat → Bool) (R : Act → (World → Prop) → Prop) (y : Nat) (rest xs : List Nat) (a : Act) (W : World → Prop) : Prop where
  run : slR P ops.toArray C anc R y rest xs a W
theorem cw_slide {id : Nat} {ops : List Oper} (pre xs : List Nat) (y : Nat) (rest : List Nat) (anc : Nat → Bool) (HC : List Res) (hm : P.follows .mixedOrders = true) (hk : chkSlide ops anc pre xs y rest = true) (hc : ∀ w, Ok S w0 H w → Ok S w0 HC w)
    (h : MX P ops (Ok S w0 HC) anc (SlW P ops (Ok S w0 HC) anc (RW Q) y rest xs) pre n st S w0 H) : CW P (.region id ops.toArray true) Q n st S w0 H := ⟨fun w hw =>
  wp_region_slide (C := Ok S w0 HC) hm hk (fun a W h => h) stb_ok hc hw.drawn (mix_weak' (fun a W h => h.run) pre (h.run hc))⟩
theorem mx_slide0 {ops : List Oper} {C : World → Prop} {anc : Nat → Bool} {R : Act → (World → Prop) → Prop} {y : Nat} {rest : List Nat} (h : MX P ops C anc R (y :: rest) n st S w0 H) : MX P ops C anc (SlW P ops C anc R y rest []) [] n st S w0 H := ⟨fun hc => ⟨h.run hc⟩⟩
theorem mx_slideS {ops : List Oper} {C : World → Prop} {anc : Nat → Bool} {R : Act → (World → Prop) → Prop} {y x : Nat} {xs rest : List Nat} (h : MX P ops C anc R (y :: ((x :: xs) ++ rest)) n st S w0 H) (h' : MX P ops C anc (SlW P ops C anc R y rest xs) [x] n st S w0 H) :
    MX P ops C anc (SlW P ops C anc R y rest (x :: xs)) [] n st S w0 H := ⟨fun hc => ⟨h.run hc, mix_weak' (fun _ _ h => h.run) [x] (h'.run hc)⟩⟩
end
end Go.Sx
