/- A region that draws its order and holds several operations that wait for none of the others, each with some behind it that float: a walk for each order of them serves all. Plain theorems over any program. -/
import Derived.Test.YtikdbgheefjpkaaSlide
set_option linter.unusedVariables false
set_option linter.unusedSimpArgs false
namespace Go.Sx
open Go.RowKit
/-- One of a list, and the others. -/
def picks {α : Type} : List α → List (α × List α)
  | [] => []
  | x :: l => (x, l) :: (picks l).map fun p => (p.1, x :: p.2)
theorem mem_picks {α : Type} {l1 l2 : List α} {x : α} : (x, l1 ++ l2) ∈ picks (l1 ++ x :: l2) := by
  induction l1 with
  | nil => simp [picks]
  | cons y l1 ih =>
    show _ ∈ _ :: _
    exact List.mem_cons_of_mem _ (List.mem_map.2 ⟨_, ih, rfl⟩)
abbrev Blk := Nat × List Nat
def Blk.l (B : Blk) : List Nat := B.1 :: B.2
section
variable {P : Program} {ops : Array Oper} {C : World → Prop} {anc : Nat → Bool} {R R' : Act → (World → Prop) → Prop}
def blR (P : Program) (ops : Array Oper) (C : World → Prop) (anc : Nat → Bool) (E : Act → (World → Prop) → Prop) : Nat → List Blk → Act → (World → Prop) → Prop
  | 0, _ => E
  | n + 1, Bs => fun a W => ∀ q ∈ picks Bs, mix P ops C anc (blR P ops C anc E n q.2) q.1.l a W
def pkk (ops : Array Oper) (anc : Nat → Bool) (k i : Nat) : Prop := k ≠ i ∧ waits ops k i = false ∧ (depT ops ops.size i k = true ∨ (apartAt ops k i = true ∧ anc k = false))
theorem chk_pw {l : List Nat} (h : l.Pairwise (pkk ops anc)) : chkPairs ops anc l = true := by
  induction h with
  | nil => rfl
  | cons h1 h2 ih =>
    simp only [chkPairs, Bool.and_eq_true]
    refine ⟨List.all_eq_true.2 fun i hi => ?_, ih⟩
    obtain ⟨a, b, c⟩ := h1 i hi
    simp only [Bool.and_eq_true, bne_iff_ne, ne_eq, Bool.not_eq_true', Bool.or_eq_true]
    exact ⟨⟨a, b⟩, c⟩
structure Sep (ops : Array Oper) (anc : Nat → Bool) (B B' : Blk) : Prop where
  t : ∀ k ∈ B.2, ∀ i ∈ B'.l, pkk ops anc k i
  h : ∀ i ∈ B'.l, B.1 ≠ i ∧ waits ops B.1 i = false
structure BlInv (ops : Array Oper) (anc : Nat → Bool) (listed : Array Bool) (pre : List Nat) (Bs : List Blk) (rest : List Nat) : Prop where
  size : listed.size = ops.size
  mem : ∀ i, i < ops.size → (i ∈ pre ++ (Bs.flatMap Blk.l ++ rest) ↔ listed.getD i true = false)
  lt : ∀ i ∈ pre ++ (Bs.flatMap Blk.l ++ rest), i < ops.size
  one : ∀ i ∈ pre ++ (Bs.flatMap Blk.l ++ rest), chkOne ops i = true
  closed : ∀ j oj, ops[j]? = some oj → listed.getD j false = true → ∀ e ∈ oj.after, Region.binds .any e = true → listed.getD e.on false = true
  p1 : (pre ++ rest).Pairwise (pkk ops anc)
  p2 : ∀ B ∈ Bs, anc B.1 = true ∧ (∀ k ∈ pre, ∀ i ∈ B.l, pkk ops anc k i) ∧ B.l.Pairwise (pkk ops anc) ∧ ∀ k ∈ B.l, ∀ i ∈ rest, pkk ops anc k i
  p3 : Bs.Pairwise fun B B' => Sep ops anc B B' ∧ Sep ops anc B' B
theorem sep_mid {l1 l2 : List Blk} {B : Blk} (h : (l1 ++ B :: l2).Pairwise fun B B' => Sep ops anc B B' ∧ Sep ops anc B' B) : ∀ B' ∈ l1 ++ l2, Sep ops anc B B' ∧ Sep ops anc B' B := fun B' hB => by
  have h1 := List.pairwise_append.1 h
  rcases List.mem_append.1 hB with hB | hB
  · exact ⟨(h1.2.2 B' hB B (by simp)).2, (h1.2.2 B' hB B (by simp)).1⟩
  · exact (List.pairwise_cons.1 h1.2.1).1 B' hB
theorem any_of_blk {Q : Exit → Act → World → Prop} (hsel : Region.noSelect ops = true) (hR : ∀ a W, R a W → ∀ w, W w → Q .normal a w) {rest : List Nat} : ∀ (fuel : Nat) (pre : List Nat) (Bs : List Blk) (listed : Array Bool) (a : Act) (W : World → Prop) (w : World),
    (pre ++ (Bs.flatMap Blk.l ++ rest)).length = fuel → BlInv ops anc listed pre Bs rest → Stb W → (∀ w, W w → C w) → W w → mix P ops C anc (blR P ops C anc (mix P ops C anc R rest) Bs.length Bs) pre a W → wpAny P .any ops Q fuel listed a w := by
  intro fuel
  induction fuel with
  | zero =>
    intro pre Bs listed a W w hl inv hs hc hw h
    cases Bs with
    | nil =>
      exact any_of_mix hsel hR 0 (pre ++ rest) listed a W w (by simpa using hl) ⟨inv.size, fun i hi => by simpa using inv.mem i hi, fun i hi => inv.lt i (by simpa using hi), fun i hi => inv.one i (by simpa using hi), inv.closed, chk_pw inv.p1⟩ hs hc hw (mix_app rest pre h)
    | cons B Bs => simp [Blk.l] at hl
  | succ fuel ih =>
    intro pre Bs listed a W w hl inv hs hc hw h
    cases hBs : Bs with
    | nil =>
      subst hBs
      exact any_of_mix hsel hR (fuel + 1) (pre ++ rest) listed a W w (by simpa using hl) ⟨inv.size, fun i hi => by simpa using inv.mem i hi, fun i hi => inv.lt i (by simpa using hi), fun i hi => inv.one i (by simpa using hi), inv.closed, chk_pw inv.p1⟩ hs hc hw (mix_app rest pre h)
    | cons B0 Bs0 =>
    have hB0 : B0 ∈ Bs := by rw [hBs]; simp
    have hunl : ∀ k ∈ pre ++ (Bs.flatMap Blk.l ++ rest), k < ops.size ∧ listed.getD k true = false := fun k hk => ⟨inv.lt k hk, (inv.mem k (inv.lt k hk)).1 hk⟩
    have hinB : ∀ {B : Blk}, B ∈ Bs → ∀ {i : Nat}, i ∈ B.l → i ∈ pre ++ (Bs.flatMap Blk.l ++ rest) := fun {B} hB {i} hi => List.mem_append_right _ (List.mem_append_left _ (List.mem_flatMap.2 ⟨B, hB, hi⟩))
    refine ⟨fun hr => ?_, fun i hi => ?_⟩
    · exfalso
      obtain ⟨z, hz, hzw⟩ : ∃ z, z ∈ pre ++ (Bs.flatMap Blk.l ++ rest) ∧ ∀ i ∈ pre ++ (Bs.flatMap Blk.l ++ rest), i = z ∨ waits ops z i = false := by
        cases hpre : pre with
        | cons p pre' =>
          refine ⟨p, by simp, fun i hi => ?_⟩
          have h1 := inv.p1
          rw [hpre] at h1
          have h2 := (List.pairwise_cons.1 h1).1
          rcases List.mem_append.1 hi with hi | hi
          · rcases List.mem_cons.1 hi with rfl | hi
            · exact .inl rfl
            · exact .inr (h2 i (List.mem_append_left _ hi)).2.1
          · rcases List.mem_append.1 hi with hi | hi
            · obtain ⟨B, hB, hi⟩ := List.mem_flatMap.1 hi
              exact .inr ((inv.p2 B hB).2.1 p (by rw [hpre]; simp) i hi).2.1
            · exact .inr (h2 i (List.mem_append_right _ hi)).2.1
        | nil =>
          refine ⟨B0.1, by rw [hBs]; simp [Blk.l], fun i hi => ?_⟩
          rw [List.nil_append] at hi
          have hown := (inv.p2 B0 hB0).2.2
          rcases List.mem_append.1 hi with hi | hi
          · obtain ⟨B, hB, hi⟩ := List.mem_flatMap.1 hi
            rw [hBs] at hB
            rcases List.mem_cons.1 hB with rfl | hB
            · rcases List.mem_cons.1 hi with rfl | hi
              · exact .inl rfl
              · exact .inr ((List.pairwise_cons.1 hown.1).1 i hi).2.1
            · have h3 := inv.p3
              rw [hBs] at h3
              exact .inr (((List.pairwise_cons.1 h3).1 B hB).1.h i hi).2
          · exact .inr (hown.2 B0.1 (by simp [Blk.l]) i hi).2.1
      have hrd := ready_head (z := z) inv.size inv.mem hz (inv.lt z hz) (inv.one z hz) (fun i hi => by
        rcases hzw i hi with rfl | h1
        · have h1 := inv.one i hz
          unfold chkOne at h1
          simp only [Bool.and_eq_true, Bool.not_eq_true'] at h1
          exact h1.1
        · exact h1)
      rw [hr] at hrd; cases hrd
    · obtain ⟨h0, oi, hoi, hall⟩ := mem_ready.1 hi
      have hlt : i < ops.size := (Array.getElem?_eq_some_iff.1 hoi).1
      have hsz : i < listed.size := by rw [inv.size]; exact hlt
      have him : i ∈ pre ++ (Bs.flatMap Blk.l ++ rest) := (inv.mem i hlt).2 h0
      have hcl' := closed_set hoi hall inv.closed
      have nodep : ∀ k ∈ pre ++ (Bs.flatMap Blk.l ++ rest), depT ops ops.size i k = true → False := fun k hk hd => by
        have h1 := depT_listed inv.closed _ i oi hoi hall hd
        rw [unl (hunl k hk).2] at h1
        cases h1
      have hdepB : ∀ B ∈ Bs, pkk ops anc B.1 i → False := fun B hB hp => by
        rcases hp.2.2 with h1 | h1
        · exact nodep B.1 (hinB hB (by simp [Blk.l])) h1
        · rw [(inv.p2 B hB).1] at h1
          cases h1.2
      by_cases hip : i ∈ pre
      · obtain ⟨p1, p2, rfl⟩ := List.append_of_mem hip
        have hm := mix_front hsel hoi (post := p2) p1 (pre_apart inv.size inv.closed hoi hall (chk_pw inv.p1) (post := p2 ++ rest) (by simp) fun k hk => hunl k (by simp [hk])) h
        have hnd := chkPairs_nodup (chk_pw inv.p1)
        have hni : i ∉ (p1 ++ p2) ++ (Bs.flatMap Blk.l ++ rest) := by
          have h1 := List.nodup_append.1 hnd
          have h2 := List.nodup_append.1 h1.1
          intro hx
          rcases List.mem_append.1 hx with hx | hx
          · rcases List.mem_append.1 hx with hx | hx
            · exact h2.2.2 i hx i (by simp) rfl
            · exact (List.nodup_cons.1 h2.2.1).1 hx
          · rcases List.mem_append.1 hx with hx | hx
            · obtain ⟨B, hB, hx⟩ := List.mem_flatMap.1 hx
              exact ((inv.p2 B hB).2.1 i (by simp) i hx).1 rfl
            · exact h1.2.2 i (by simp) i hx rfl
        have hsub : ∀ j, j ∈ (p1 ++ p2) ++ (Bs.flatMap Blk.l ++ rest) → j ∈ (p1 ++ i :: p2) ++ (Bs.flatMap Blk.l ++ rest) := fun j hj => by
          rcases List.mem_append.1 hj with hj | hj
          · refine List.mem_append_left _ ?_
            rcases List.mem_append.1 hj with hj | hj
            · exact List.mem_append_left _ hj
            · exact List.mem_append_right _ (List.mem_cons_of_mem _ hj)
          · exact List.mem_append_right _ hj
        have hsub2 : ∀ j, j ≠ i → (j ∈ (p1 ++ i :: p2) ++ (Bs.flatMap Blk.l ++ rest) ↔ j ∈ (p1 ++ p2) ++ (Bs.flatMap Blk.l ++ rest)) := fun j hji => by
          refine ⟨fun hj => ?_, hsub j⟩
          rcases List.mem_append.1 hj with hj | hj
          · refine List.mem_append_left _ ?_
            rcases List.mem_append.1 hj with hj | hj
            · exact List.mem_append_left _ hj
            · rcases List.mem_cons.1 hj with rfl | hj
              · exact absurd rfl hji
              · exact List.mem_append_right _ hj
          · exact List.mem_append_right _ hj
        have hsl : (p1 ++ p2).Sublist (p1 ++ i :: p2) := List.Sublist.append_left (List.sublist_cons_self i p2) p1
        have hlen : ((p1 ++ p2) ++ (Bs.flatMap Blk.l ++ rest)).length = fuel := by
          simp only [List.length_append, List.length_cons] at hl ⊢
          omega
        refine step_mix hoi hs hc hw hm fun a W w hs hc hw hm => ih (p1 ++ p2) Bs _ a W w hlen ⟨by simp [inv.size], fun j hj => mem_set hsz hni hsub2 (inv.mem j hj), fun j hj => inv.lt j (hsub j hj), fun j hj => inv.one j (hsub j hj), hcl', inv.p1.sublist (List.Sublist.append_right hsl _), fun B hB => ⟨(inv.p2 B hB).1, fun k hk => (inv.p2 B hB).2.1 k (hsl.subset hk), (inv.p2 B hB).2.2⟩, inv.p3⟩ hs hc hw hm
      by_cases hir : i ∈ rest
      · exact (hdepB B0 hB0 ((inv.p2 B0 hB0).2.2.2 B0.1 (by simp [Blk.l]) i hir)).elim
      obtain ⟨B, hB, hiB⟩ : ∃ B ∈ Bs, i ∈ B.l := by
        rcases List.mem_append.1 him with h1 | h1
        · exact absurd h1 hip
        · rcases List.mem_append.1 h1 with h1 | h1
          · exact List.mem_flatMap.1 h1
          · exact absurd h1 hir
      rcases List.mem_cons.1 hiB with rfl | hit
      case inr => exact (hdepB B hB ((List.pairwise_cons.1 (inv.p2 B hB).2.2.1).1 i hit)).elim
      obtain ⟨l1, l2, hsp⟩ := List.append_of_mem hB
      have hp2 := inv.p2 B hB
      have hs3 := inv.p3
      rw [hsp] at hs3
      have hsep := sep_mid hs3
      have hown := List.pairwise_cons.1 hp2.2.2.1
      have hpw : (pre ++ (B.1 :: (B.2 ++ rest))).Pairwise (pkk ops anc) := by
        have h1 := List.pairwise_append.1 inv.p1
        have h2 : (B.l ++ rest).Pairwise (pkk ops anc) := List.pairwise_append.2 ⟨hp2.2.2.1, h1.2.1, fun k hk i hi => hp2.2.2.2 k hk i hi⟩
        refine List.pairwise_append.2 ⟨h1.1, h2, fun k hk i hi => ?_⟩
        rcases List.mem_append.1 (show i ∈ B.l ++ rest from hi) with hi | hi
        · exact hp2.2.1 k hk i hi
        · exact h1.2.2 k hk i hi
      have hbl : Bs.length = (l1 ++ l2).length + 1 := by rw [hsp]; simp; omega
      rw [hbl] at h
      have hm0 : mix P ops C anc (blR P ops C anc (mix P ops C anc R rest) (l1 ++ l2).length (l1 ++ l2)) (pre ++ B.l) a W := mix_app B.l pre (mix_weak' (fun a W hh => hh (B, l1 ++ l2) (by rw [hsp]; exact mem_picks)) pre h)
      have hm := mix_front hsel hoi (post := B.2) pre (pre_apart inv.size inv.closed hoi hall (chk_pw hpw) (post := B.2 ++ rest) rfl fun k hk => hunl k (by simp [hk])) hm0
      have hmemB : ∀ {j : Nat}, j ∈ Bs.flatMap Blk.l ↔ j ∈ (l1 ++ l2).flatMap Blk.l ∨ j ∈ B.l := fun {j} => by
        rw [hsp]
        simp only [List.flatMap_append, List.flatMap_cons, List.mem_append]
        constructor
        · rintro (h | h | h)
          · exact .inl (.inl h)
          · exact .inr h
          · exact .inl (.inr h)
        · rintro ((h | h) | h)
          · exact .inl h
          · exact .inr (.inr h)
          · exact .inr (.inl h)
      have hni : B.1 ∉ (pre ++ B.2) ++ ((l1 ++ l2).flatMap Blk.l ++ rest) := by
        intro hx
        rcases List.mem_append.1 hx with hx | hx
        · rcases List.mem_append.1 hx with hx | hx
          · exact hip hx
          · exact (hown.1 B.1 hx).1 rfl
        · rcases List.mem_append.1 hx with hx | hx
          · obtain ⟨B', hB', hx⟩ := List.mem_flatMap.1 hx
            exact ((hsep B' hB').1.h B.1 hx).1 rfl
          · exact hir hx
      have hiff : ∀ j, j ≠ B.1 → (j ∈ pre ++ (Bs.flatMap Blk.l ++ rest) ↔ j ∈ (pre ++ B.2) ++ ((l1 ++ l2).flatMap Blk.l ++ rest)) := fun j hj => by
        simp only [List.mem_append (s := pre), List.mem_append (t := rest), hmemB, List.mem_append (s := pre ++ B.2), List.mem_append (t := B.2)]
        have e : j ∈ B.l ↔ j ∈ B.2 := ⟨fun h => (List.mem_cons.1 h).resolve_left hj, fun h => List.mem_cons_of_mem _ h⟩
        rw [e]
        constructor
        · rintro (h | (h | h) | h)
          · exact .inl (.inl h)
          · exact .inr (.inl h)
          · exact .inl (.inr h)
          · exact .inr (.inr h)
        · rintro ((h | h) | h | h)
          · exact .inl h
          · exact .inr (.inl (.inr h))
          · exact .inr (.inl (.inl h))
          · exact .inr (.inr h)
      have hsub : ∀ j, j ∈ (pre ++ B.2) ++ ((l1 ++ l2).flatMap Blk.l ++ rest) → j ∈ pre ++ (Bs.flatMap Blk.l ++ rest) := fun j hj => (hiff j fun e => hni (e ▸ hj)).2 hj
      have hlen : ((pre ++ B.2) ++ ((l1 ++ l2).flatMap Blk.l ++ rest)).length = fuel := by
        rw [hsp] at hl
        simp only [List.length_append, List.flatMap_append, List.flatMap_cons, Blk.l, List.length_cons] at hl ⊢
        omega
      have hpw2 : ((pre ++ B.2) ++ rest).Pairwise (pkk ops anc) := by
        rw [List.append_assoc]
        exact hpw.sublist (List.Sublist.append_left (List.sublist_cons_self _ _) pre)
      have hsl : (l1 ++ l2).Sublist Bs := by rw [hsp]; exact List.Sublist.append_left (List.sublist_cons_self _ _) l1
      refine step_mix hoi hs hc hw hm fun a W w hs hc hw hm => ih (pre ++ B.2) (l1 ++ l2) _ a W w hlen ⟨by simp [inv.size], fun j hj => mem_set hsz hni hiff (inv.mem j hj), fun j hj => inv.lt j (hsub j hj), fun j hj => inv.one j (hsub j hj), hcl', hpw2, fun B' hB' => ?_, inv.p3.sublist hsl⟩ hs hc hw hm
      have hB'' : B' ∈ Bs := hsl.subset hB'
      refine ⟨(inv.p2 B' hB'').1, fun k hk j hj => ?_, (inv.p2 B' hB'').2.2⟩
      rcases List.mem_append.1 hk with hk | hk
      · exact (inv.p2 B' hB'').2.1 k hk j hj
      · exact (hsep B' hB').1.t k hk j hj
end
section
variable {ops : List Oper} {anc : Nat → Bool}
def pkB (ops : List Oper) (anc : Nat → Bool) (ms : List Nat) (k i : Nat) : Bool := match nthO ops k, nthO ops i with
  | some ok, some oi => !Nat.beq k i && (!waitsB ops k i && ((ms.getD i 0).testBit k || (!anc k && ok.apart ops.toArray oi)))
  | _, _ => false
def sepB (ops : List Oper) (anc : Nat → Bool) (ms : List Nat) (B B' : Blk) : Bool := (B.2.all fun k => B'.l.all fun i => pkB ops anc ms k i) && B'.l.all fun i => !Nat.beq B.1 i && !waitsB ops B.1 i
def pairA {α : Type} (p : α → α → Bool) : List α → Bool
  | [] => true
  | x :: l => l.all (p x) && pairA p l
def chkBlk (ops : List Oper) (anc : Nat → Bool) (pre : List Nat) (Bs : List Blk) (rest : List Nat) : Bool :=
  (Region.noSelect ops.toArray && Nat.beq (pre ++ (Bs.flatMap Blk.l ++ rest)).length ops.length && ((pre ++ (Bs.flatMap Blk.l ++ rest)).all fun i => Nat.blt i ops.length) && ((List.range ops.length).all fun i => (pre ++ (Bs.flatMap Blk.l ++ rest)).contains i) && ((withOps ops (pre ++ (Bs.flatMap Blk.l ++ rest))).all fun p => Nat.blt p.1 ops.length && !(p.2.after.toList.any fun e => Region.binds .any e && Nat.beq e.on p.1) && p.2.after.toList.all fun e => !Region.binds .any e || Nat.blt e.on ops.length)) &&
  (pairA (pkB ops anc (masksFrom [] ops)) (pre ++ rest) && ((Bs.all fun B => anc B.1 && ((pre.all fun k => B.l.all fun i => pkB ops anc (masksFrom [] ops) k i) && (pairA (pkB ops anc (masksFrom [] ops)) B.l && B.l.all fun k => rest.all fun i => pkB ops anc (masksFrom [] ops) k i))) && pairA (fun B B' => sepB ops anc (masksFrom [] ops) B B' && sepB ops anc (masksFrom [] ops) B' B) Bs))
theorem pairA_of {α : Type} {p : α → α → Bool} {q : α → α → Prop} (h : ∀ x i, p x i = true → q x i) : ∀ {l : List α}, pairA p l = true → l.Pairwise q
  | [], _ => List.Pairwise.nil
  | x :: l, hp => by
    simp only [pairA, Bool.and_eq_true] at hp
    exact List.pairwise_cons.2 ⟨fun i hi => h x i (List.all_eq_true.1 hp.1 i hi), pairA_of h hp.2⟩
theorem nat_ne {a b : Nat} (h : (!Nat.beq a b) = true) : a ≠ b := fun e => by rw [e, Nat.beq_refl] at h; cases h
theorem pkB_of {k i : Nat} (h : pkB ops anc (masksFrom [] ops) k i = true) : pkk ops.toArray anc k i := by
  unfold pkB at h
  cases hk : nthO ops k with
  | none => rw [hk] at h; cases h
  | some ok =>
    cases hi : nthO ops i with
    | none => rw [hk, hi] at h; cases h
    | some oi =>
      rw [hk, hi] at h
      simp only [Bool.and_eq_true, Bool.or_eq_true] at h
      obtain ⟨h1, h2, h3⟩ := h
      have hil : i < ops.length := by
        have := nthO_eq ops i
        rw [hi] at this
        have := (Array.getElem?_eq_some_iff.1 this).1
        simpa using this
      refine ⟨nat_ne h1, by rw [waitsB_eq]; simpa using h2, h3.imp (fun h => ?_) fun h => ?_⟩
      · have hm' : MInv ops.toArray (masksFrom [] ops) := minv_from ops [] (fun i hi => by simp at hi) (fun j o hj => by simpa using hj)
        exact depT_le (by simp; omega) (hm' i (by rw [masks_length]; simpa using hil) k h)
      · refine ⟨?_, by simpa using h.1⟩
        unfold apartAt
        rw [nthO_eq, nthO_eq, hk, hi]
        exact h.2
theorem sepB_of {B B' : Blk} (h : sepB ops anc (masksFrom [] ops) B B' = true) : Sep ops.toArray anc B B' := by
  simp only [sepB, Bool.and_eq_true] at h
  refine ⟨fun k hk i hi => pkB_of (List.all_eq_true.1 (List.all_eq_true.1 h.1 k hk) i hi), fun i hi => ?_⟩
  have := List.all_eq_true.1 h.2 i hi
  simp only [Bool.and_eq_true] at this
  exact ⟨nat_ne this.1, by rw [waitsB_eq]; simpa using this.2⟩
theorem wp_region_blk {P : Program} {C : World → Prop} {R : Act → (World → Prop) → Prop} {id : Nat} {Q : Exit → Act → World → Prop} {a : Act} {w : World} {W : World → Prop} {pre : List Nat} {Bs : List Blk} {rest : List Nat} (hm : P.follows .mixedOrders = true) (hk : chkBlk ops anc pre Bs rest = true)
    (hR : ∀ a W, R a W → ∀ w, W w → Q .normal a w) (hs : Stb W) (hc : ∀ w, W w → C w) (hw : W { w with drawn := w.drawn + 1 }) (h : mix P ops.toArray C anc (blR P ops.toArray C anc (mix P ops.toArray C anc R rest) Bs.length Bs) pre a W) : (Code.region id ops.toArray true).wp P Q a w := by
  simp only [chkBlk, Bool.and_eq_true] at hk
  obtain ⟨⟨⟨⟨⟨h1, h2⟩, h0⟩, h3⟩, h4⟩, h5, h6, h7⟩ := hk
  have h2 : (pre ++ (Bs.flatMap Blk.l ++ rest)).length = ops.length := Nat.eq_of_beq_eq_true h2
  have hl : ∀ i ∈ pre ++ (Bs.flatMap Blk.l ++ rest), i < ops.length := fun i hi => by
    have := List.all_eq_true.1 h0 i hi
    simpa only [Nat.blt_eq] using this
  refine wp_region_any hm (any_of_blk h1 hR ops.toArray.size pre Bs _ a W _ (by simpa using h2) ⟨by simp, fun i hi => ⟨fun _ => repl_t hi, fun _ => ?_⟩, fun i hi => by simpa using hl i hi, fun i hi => ?_, fun j oj _ hj => (by rw [repl_f] at hj; cases hj), pairA_of (fun _ _ => pkB_of) h5, fun B hB => ?_, pairA_of (fun B B' h => ?_) h7⟩ hs hc hw h)
  · have := List.all_eq_true.1 h3 i (List.mem_range.2 (by simpa using hi))
    simpa using this
  · have hil := hl i hi
    obtain ⟨oi, hoi⟩ : ∃ o, nthO ops i = some o := by rw [← nthO_eq ops i]; simp [hil]
    have h6 := List.all_eq_true.1 h4 (i, oi) (mem_withOps hoi _ hi)
    simp only [Bool.and_eq_true, Bool.not_eq_true'] at h6
    obtain ⟨⟨_, h7⟩, h8⟩ := h6
    simp only [Bool.and_eq_true, decide_eq_true_eq, chkOne, Bool.not_eq_true']
    refine ⟨by rw [waits_eq hoi]; exact h7, ?_⟩
    rw [nthO_eq, hoi]
    simp only
    rw [Array.all_eq_true']
    intro e he
    have := List.all_eq_true.1 h8 e (by simpa using he)
    simp only [Bool.or_eq_true, Bool.not_eq_true', Nat.blt_eq] at this
    simp only [Bool.or_eq_true, Bool.not_eq_true', decide_eq_true_eq]
    simpa using this
  · have := List.all_eq_true.1 h6 B hB
    simp only [Bool.and_eq_true] at this
    obtain ⟨a1, a2, a3, a4⟩ := this
    exact ⟨a1, fun k hk i hi => pkB_of (List.all_eq_true.1 (List.all_eq_true.1 a2 k hk) i hi), pairA_of (fun _ _ => pkB_of) a3, fun k hk i hi => pkB_of (List.all_eq_true.1 (List.all_eq_true.1 a4 k hk) i hi)⟩
  · simp only [Bool.and_eq_true] at h
    exact ⟨sepB_of h.1, sepB_of h.2⟩
end
section
variable {P : Program} {Q : Exit → Act → World → Prop} {n : Nat} {st : Slots} {S : Nat → Prop} {w0 : World} {H H' HC : List Res}
structure BlW (P : Program) (ops : List Oper) (C : World → Prop) (anc : Nat → Bool) (R : Act → (World → Prop) → Prop) (rest : List Nat) (k : Nat) (Bs : List Blk) (a : Act) (W : World → Prop) : Prop where
  run : blR P ops.toArray C anc (mix P ops.toArray C anc R rest) k Bs a W
theorem cw_blk {id : Nat} {ops : List Oper} (pre : List Nat) (Bs : List Blk) (rest : List Nat) (anc : Nat → Bool) (HC : List Res) (hm : P.follows .mixedOrders = true) (hk : chkBlk ops anc pre Bs rest = true) (hc : ∀ w, Ok S w0 H w → Ok S w0 HC w)
    (h : MX P ops (Ok S w0 HC) anc (BlW P ops (Ok S w0 HC) anc (RW Q) rest Bs.length Bs) pre n st S w0 H) : CW P (.region id ops.toArray true) Q n st S w0 H := ⟨fun w hw =>
  wp_region_blk (C := Ok S w0 HC) hm hk (fun a W h => h) stb_ok hc hw.drawn (mix_weak' (fun a W h => h.run) pre (h.run hc))⟩
theorem mx_blk0 {ops : List Oper} {C : World → Prop} {anc : Nat → Bool} {R : Act → (World → Prop) → Prop} {rest : List Nat} {Bs : List Blk} (h : MX P ops C anc R rest n st S w0 H) : MX P ops C anc (BlW P ops C anc R rest 0 Bs) [] n st S w0 H := ⟨fun hc => ⟨h.run hc⟩⟩
theorem mx_blk {ops : List Oper} {C : World → Prop} {anc : Nat → Bool} {R : Act → (World → Prop) → Prop} {rest : List Nat} {k : Nat} {Bs : List Blk} (h : ∀ q ∈ picks Bs, MX P ops C anc (BlW P ops C anc R rest k q.2) q.1.l n st S w0 H) : MX P ops C anc (BlW P ops C anc R rest (k + 1) Bs) [] n st S w0 H := ⟨fun hc => ⟨fun q hq => mix_weak' (fun _ _ h => h.run) q.1.l ((h q hq).run hc)⟩⟩
theorem cw_mid' {Q : Exit → Act → World → Prop} {x y : Code} {ι : Type} (live : ι → Slots) (HH : ι → List Res) (I : ι → Prop) (hx : CW P x (Exit.then (MidW ι n S w0 live HH I) Q) n st S w0 H) (hy : ∀ i jk, I i → CW P y Q n (live i ++ jk) S w0 (HH i)) : CW P x (Exit.then (y.wp P Q) Q) n st S w0 H := ⟨fun w hw => by
  refine wp_mono (hx.run w hw) fun e a w hq => ?_
  cases e with
  | normal => obtain ⟨i, jk, h1, rfl, h3⟩ := hq; exact (hy i jk h1).run w h3
  | _ => exact hq⟩
section
variable {ops : List Oper} {C : World → Prop} {anc : Nat → Bool} {R : Act → (World → Prop) → Prop} {rest : List Nat} {y1 y2 y3 y4 : Nat} {t1 t2 t3 t4 : List Nat}
theorem mx_blk1 (h1 : MX P ops C anc (BlW P ops C anc R rest 0 []) (y1 :: t1) n st S w0 H) : MX P ops C anc (BlW P ops C anc R rest 1 [(y1, t1)]) [] n st S w0 H := mx_blk fun q hq => by
  simp only [picks, List.map_nil, List.mem_cons, List.not_mem_nil, or_false] at hq
  subst hq
  exact h1
theorem mx_blk2 (h1 : MX P ops C anc (BlW P ops C anc R rest 1 [(y2, t2)]) (y1 :: t1) n st S w0 H) (h2 : MX P ops C anc (BlW P ops C anc R rest 1 [(y1, t1)]) (y2 :: t2) n st S w0 H) : MX P ops C anc (BlW P ops C anc R rest 2 [(y1, t1), (y2, t2)]) [] n st S w0 H := mx_blk fun q hq => by
  simp only [picks, List.map_nil, List.map_cons, List.mem_cons, List.not_mem_nil, or_false] at hq
  rcases hq with rfl | rfl
  · exact h1
  · exact h2
theorem mx_blk3 (h1 : MX P ops C anc (BlW P ops C anc R rest 2 [(y2, t2), (y3, t3)]) (y1 :: t1) n st S w0 H) (h2 : MX P ops C anc (BlW P ops C anc R rest 2 [(y1, t1), (y3, t3)]) (y2 :: t2) n st S w0 H) (h3 : MX P ops C anc (BlW P ops C anc R rest 2 [(y1, t1), (y2, t2)]) (y3 :: t3) n st S w0 H) : MX P ops C anc (BlW P ops C anc R rest 3 [(y1, t1), (y2, t2), (y3, t3)]) [] n st S w0 H := mx_blk fun q hq => by
  simp only [picks, List.map_nil, List.map_cons, List.mem_cons, List.not_mem_nil, or_false] at hq
  rcases hq with rfl | rfl | rfl
  · exact h1
  · exact h2
  · exact h3
theorem mx_blk4 (h1 : MX P ops C anc (BlW P ops C anc R rest 3 [(y2, t2), (y3, t3), (y4, t4)]) (y1 :: t1) n st S w0 H) (h2 : MX P ops C anc (BlW P ops C anc R rest 3 [(y1, t1), (y3, t3), (y4, t4)]) (y2 :: t2) n st S w0 H) (h3 : MX P ops C anc (BlW P ops C anc R rest 3 [(y1, t1), (y2, t2), (y4, t4)]) (y3 :: t3) n st S w0 H) (h4 : MX P ops C anc (BlW P ops C anc R rest 3 [(y1, t1), (y2, t2), (y3, t3)]) (y4 :: t4) n st S w0 H) : MX P ops C anc (BlW P ops C anc R rest 4 [(y1, t1), (y2, t2), (y3, t3), (y4, t4)]) [] n st S w0 H := mx_blk fun q hq => by
  simp only [picks, List.map_nil, List.map_cons, List.mem_cons, List.not_mem_nil, or_false] at hq
  rcases hq with rfl | rfl | rfl | rfl
  · exact h1
  · exact h2
  · exact h3
  · exact h4
end
end
end Go.Sx
