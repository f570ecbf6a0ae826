/- A region that draws its order and holds several operations of which some wait for others, each with some behind it that float: walks from one set of those that are done to the next. Plain theorems over any program. -/
import Derived.Test.YtikdbgheefjpkaaBlk
import Derived.Test.YtikdbgheefjpkaaMo2
set_option linter.unusedVariables false
set_option linter.unusedSimpArgs false
namespace Go.Sx
open Go.RowKit
section
variable {P : Program} {ops : Array Oper} {C : World → Prop} {anc : Nat → Bool} {R R' : Act → (World → Prop) → Prop}
def blD (P : Program) (ops : Array Oper) (C : World → Prop) (anc : Nat → Bool) (E : Act → (World → Prop) → Prop) : Nat → List Blk → Act → (World → Prop) → Prop
  | 0, _ => E
  | n + 1, Bs => fun a W => ∀ q ∈ picks Bs, (∀ B' ∈ q.2, depT ops ops.size q.1.1 B'.1 = false) → mix P ops C anc (blD P ops C anc E n q.2) q.1.l a W
structure DgInv (ops : Array Oper) (anc : Nat → Bool) (listed : Array Bool) (pre : List Nat) (Bs : List Blk) (rest : List Nat) : Prop where
  size : listed.size = ops.size
  mem : ∀ i, i < ops.size → (i ∈ pre ++ (Bs.flatMap Blk.l ++ rest) ↔ listed.getD i true = false)
  lt : ∀ i ∈ pre ++ (Bs.flatMap Blk.l ++ rest), i < ops.size
  one : ∀ i ∈ pre ++ (Bs.flatMap Blk.l ++ rest), chkOne ops i = true
  closed : ∀ j oj, ops[j]? = some oj → listed.getD j false = true → ∀ e ∈ oj.after, Region.binds .any e = true → listed.getD e.on false = true
  p1 : (pre ++ rest).Pairwise (pkk ops anc)
  p2 : ∀ B ∈ Bs, anc B.1 = true ∧ (∀ k ∈ pre, ∀ i ∈ B.l, pkk ops anc k i) ∧ B.l.Pairwise (pkk ops anc) ∧ ∀ k ∈ B.l, ∀ i ∈ rest, pkk ops anc k i
  p3 : Bs.Pairwise fun B B' => Sep ops anc B B' ∧ (Sep ops anc B' B ∨ depT ops ops.size B'.1 B.1 = true)
theorem any_of_dag {Q : Exit → Act → World → Prop} (hsel : Region.noSelect ops = true) (hR : ∀ a W, R a W → ∀ w, W w → Q .normal a w) {rest : List Nat} : ∀ (fuel : Nat) (pre : List Nat) (Bs : List Blk) (listed : Array Bool) (a : Act) (W : World → Prop) (w : World),
    (pre ++ (Bs.flatMap Blk.l ++ rest)).length = fuel → DgInv ops anc listed pre Bs rest → Stb W → (∀ w, W w → C w) → W w → mix P ops C anc (blD P ops C anc (mix P ops C anc R rest) Bs.length Bs) pre a W → wpAny P .any ops Q fuel listed a w := by
  intro fuel
  induction fuel with
  | zero =>
    intro pre Bs listed a W w hl inv hs hc hw h
    cases Bs with
    | nil =>
      exact any_of_mix hsel hR 0 (pre ++ rest) listed a W w (by simpa using hl) ⟨inv.size, fun i hi => by simpa using inv.mem i hi, fun i hi => inv.lt i (by simpa using hi), fun i hi => inv.one i (by simpa using hi), inv.closed, chk_pw inv.p1⟩ hs hc hw (mix_app rest pre h)
    | cons B Bs => simp [Blk.l] at hl
  | succ fuel ih =>
    intro pre Bs listed a W w hl inv hs hc hw h
    cases hBs : Bs with
    | nil =>
      subst hBs
      exact any_of_mix hsel hR (fuel + 1) (pre ++ rest) listed a W w (by simpa using hl) ⟨inv.size, fun i hi => by simpa using inv.mem i hi, fun i hi => inv.lt i (by simpa using hi), fun i hi => inv.one i (by simpa using hi), inv.closed, chk_pw inv.p1⟩ hs hc hw (mix_app rest pre h)
    | cons B0 Bs0 =>
    have hB0 : B0 ∈ Bs := by rw [hBs]; simp
    have hunl : ∀ k ∈ pre ++ (Bs.flatMap Blk.l ++ rest), k < ops.size ∧ listed.getD k true = false := fun k hk => ⟨inv.lt k hk, (inv.mem k (inv.lt k hk)).1 hk⟩
    have hinB : ∀ {B : Blk}, B ∈ Bs → ∀ {i : Nat}, i ∈ B.l → i ∈ pre ++ (Bs.flatMap Blk.l ++ rest) := fun {B} hB {i} hi => List.mem_append_right _ (List.mem_append_left _ (List.mem_flatMap.2 ⟨B, hB, hi⟩))
    refine ⟨fun hr => ?_, fun i hi => ?_⟩
    · exfalso
      obtain ⟨z, hz, hzw⟩ : ∃ z, z ∈ pre ++ (Bs.flatMap Blk.l ++ rest) ∧ ∀ i ∈ pre ++ (Bs.flatMap Blk.l ++ rest), i = z ∨ waits ops z i = false := by
        cases hpre : pre with
        | cons p pre' =>
          refine ⟨p, by simp, fun i hi => ?_⟩
          have h1 := inv.p1
          rw [hpre] at h1
          have h2 := (List.pairwise_cons.1 h1).1
          rcases List.mem_append.1 hi with hi | hi
          · rcases List.mem_cons.1 hi with rfl | hi
            · exact .inl rfl
            · exact .inr (h2 i (List.mem_append_left _ hi)).2.1
          · rcases List.mem_append.1 hi with hi | hi
            · obtain ⟨B, hB, hi⟩ := List.mem_flatMap.1 hi
              exact .inr ((inv.p2 B hB).2.1 p (by rw [hpre]; simp) i hi).2.1
            · exact .inr (h2 i (List.mem_append_right _ hi)).2.1
        | nil =>
          refine ⟨B0.1, by rw [hBs]; simp [Blk.l], fun i hi => ?_⟩
          rw [List.nil_append] at hi
          have hown := (inv.p2 B0 hB0).2.2
          rcases List.mem_append.1 hi with hi | hi
          · obtain ⟨B, hB, hi⟩ := List.mem_flatMap.1 hi
            rw [hBs] at hB
            rcases List.mem_cons.1 hB with rfl | hB
            · rcases List.mem_cons.1 hi with rfl | hi
              · exact .inl rfl
              · exact .inr ((List.pairwise_cons.1 hown.1).1 i hi).2.1
            · have h3 := inv.p3
              rw [hBs] at h3
              exact .inr (((List.pairwise_cons.1 h3).1 B hB).1.h i hi).2
          · exact .inr (hown.2 B0.1 (by simp [Blk.l]) i hi).2.1
      have hrd := ready_head (z := z) inv.size inv.mem hz (inv.lt z hz) (inv.one z hz) (fun i hi => by
        rcases hzw i hi with rfl | h1
        · have h1 := inv.one i hz
          unfold chkOne at h1
          simp only [Bool.and_eq_true, Bool.not_eq_true'] at h1
          exact h1.1
        · exact h1)
      rw [hr] at hrd; cases hrd
    · obtain ⟨h0, oi, hoi, hall⟩ := mem_ready.1 hi
      have hlt : i < ops.size := (Array.getElem?_eq_some_iff.1 hoi).1
      have hsz : i < listed.size := by rw [inv.size]; exact hlt
      have him : i ∈ pre ++ (Bs.flatMap Blk.l ++ rest) := (inv.mem i hlt).2 h0
      have hcl' := closed_set hoi hall inv.closed
      have nodep : ∀ k ∈ pre ++ (Bs.flatMap Blk.l ++ rest), depT ops ops.size i k = true → False := fun k hk hd => by
        have h1 := depT_listed inv.closed _ i oi hoi hall hd
        rw [unl (hunl k hk).2] at h1
        cases h1
      have hdepB : ∀ B ∈ Bs, pkk ops anc B.1 i → False := fun B hB hp => by
        rcases hp.2.2 with h1 | h1
        · exact nodep B.1 (hinB hB (by simp [Blk.l])) h1
        · rw [(inv.p2 B hB).1] at h1
          cases h1.2
      by_cases hip : i ∈ pre
      · obtain ⟨p1, p2, rfl⟩ := List.append_of_mem hip
        have hm := mix_front hsel hoi (post := p2) p1 (pre_apart inv.size inv.closed hoi hall (chk_pw inv.p1) (post := p2 ++ rest) (by simp) fun k hk => hunl k (by simp [hk])) h
        have hnd := chkPairs_nodup (chk_pw inv.p1)
        have hni : i ∉ (p1 ++ p2) ++ (Bs.flatMap Blk.l ++ rest) := by
          have h1 := List.nodup_append.1 hnd
          have h2 := List.nodup_append.1 h1.1
          intro hx
          rcases List.mem_append.1 hx with hx | hx
          · rcases List.mem_append.1 hx with hx | hx
            · exact h2.2.2 i hx i (by simp) rfl
            · exact (List.nodup_cons.1 h2.2.1).1 hx
          · rcases List.mem_append.1 hx with hx | hx
            · obtain ⟨B, hB, hx⟩ := List.mem_flatMap.1 hx
              exact ((inv.p2 B hB).2.1 i (by simp) i hx).1 rfl
            · exact h1.2.2 i (by simp) i hx rfl
        have hsub : ∀ j, j ∈ (p1 ++ p2) ++ (Bs.flatMap Blk.l ++ rest) → j ∈ (p1 ++ i :: p2) ++ (Bs.flatMap Blk.l ++ rest) := fun j hj => by
          rcases List.mem_append.1 hj with hj | hj
          · refine List.mem_append_left _ ?_
            rcases List.mem_append.1 hj with hj | hj
            · exact List.mem_append_left _ hj
            · exact List.mem_append_right _ (List.mem_cons_of_mem _ hj)
          · exact List.mem_append_right _ hj
        have hsub2 : ∀ j, j ≠ i → (j ∈ (p1 ++ i :: p2) ++ (Bs.flatMap Blk.l ++ rest) ↔ j ∈ (p1 ++ p2) ++ (Bs.flatMap Blk.l ++ rest)) := fun j hji => by
          refine ⟨fun hj => ?_, hsub j⟩
          rcases List.mem_append.1 hj with hj | hj
          · refine List.mem_append_left _ ?_
            rcases List.mem_append.1 hj with hj | hj
            · exact List.mem_append_left _ hj
            · rcases List.mem_cons.1 hj with rfl | hj
              · exact absurd rfl hji
              · exact List.mem_append_right _ hj
          · exact List.mem_append_right _ hj
        have hsl : (p1 ++ p2).Sublist (p1 ++ i :: p2) := List.Sublist.append_left (List.sublist_cons_self i p2) p1
        have hlen : ((p1 ++ p2) ++ (Bs.flatMap Blk.l ++ rest)).length = fuel := by
          simp only [List.length_append, List.length_cons] at hl ⊢
          omega
        refine step_mix hoi hs hc hw hm fun a W w hs hc hw hm => ih (p1 ++ p2) Bs _ a W w hlen ⟨by simp [inv.size], fun j hj => mem_set hsz hni hsub2 (inv.mem j hj), fun j hj => inv.lt j (hsub j hj), fun j hj => inv.one j (hsub j hj), hcl', inv.p1.sublist (List.Sublist.append_right hsl _), fun B hB => ⟨(inv.p2 B hB).1, fun k hk => (inv.p2 B hB).2.1 k (hsl.subset hk), (inv.p2 B hB).2.2⟩, inv.p3⟩ hs hc hw hm
      by_cases hir : i ∈ rest
      · exact (hdepB B0 hB0 ((inv.p2 B0 hB0).2.2.2 B0.1 (by simp [Blk.l]) i hir)).elim
      obtain ⟨B, hB, hiB⟩ : ∃ B ∈ Bs, i ∈ B.l := by
        rcases List.mem_append.1 him with h1 | h1
        · exact absurd h1 hip
        · rcases List.mem_append.1 h1 with h1 | h1
          · exact List.mem_flatMap.1 h1
          · exact absurd h1 hir
      rcases List.mem_cons.1 hiB with rfl | hit
      case inr => exact (hdepB B hB ((List.pairwise_cons.1 (inv.p2 B hB).2.2.1).1 i hit)).elim
      obtain ⟨l1, l2, hsp⟩ := List.append_of_mem hB
      have hp2 := inv.p2 B hB
      have hs3 := inv.p3
      rw [hsp] at hs3
      have hno : ∀ B' ∈ l1 ++ l2, depT ops ops.size B.1 B'.1 = true → False := fun B' hB' hd => nodep B'.1 (hinB (by
        rw [hsp]
        rcases List.mem_append.1 hB' with h | h
        · exact List.mem_append_left _ h
        · exact List.mem_append_right _ (List.mem_cons_of_mem _ h)) (by simp [Blk.l])) hd
      have hsep : ∀ B' ∈ l1 ++ l2, Sep ops anc B B' := fun B' hB' => by
        have h1 := List.pairwise_append.1 hs3
        rcases List.mem_append.1 hB' with hm | hm
        · rcases (h1.2.2 B' hm B (by simp)).2 with h2 | h2
          · exact h2
          · exact (hno B' (List.mem_append_left _ hm) h2).elim
        · exact ((List.pairwise_cons.1 h1.2.1).1 B' hm).1
      have hown := List.pairwise_cons.1 hp2.2.2.1
      have hpw : (pre ++ (B.1 :: (B.2 ++ rest))).Pairwise (pkk ops anc) := by
        have h1 := List.pairwise_append.1 inv.p1
        have h2 : (B.l ++ rest).Pairwise (pkk ops anc) := List.pairwise_append.2 ⟨hp2.2.2.1, h1.2.1, fun k hk i hi => hp2.2.2.2 k hk i hi⟩
        refine List.pairwise_append.2 ⟨h1.1, h2, fun k hk i hi => ?_⟩
        rcases List.mem_append.1 (show i ∈ B.l ++ rest from hi) with hi | hi
        · exact hp2.2.1 k hk i hi
        · exact h1.2.2 k hk i hi
      have hbl : Bs.length = (l1 ++ l2).length + 1 := by rw [hsp]; simp; omega
      rw [hbl] at h
      have hm0 : mix P ops C anc (blD P ops C anc (mix P ops C anc R rest) (l1 ++ l2).length (l1 ++ l2)) (pre ++ B.l) a W := mix_app B.l pre (mix_weak' (fun a W hh => hh (B, l1 ++ l2) (by rw [hsp]; exact mem_picks) (fun B' hB' => by
        cases hd : depT ops ops.size B.1 B'.1 with
        | false => rfl
        | true => exact (hno B' hB' hd).elim)) pre h)
      have hm := mix_front hsel hoi (post := B.2) pre (pre_apart inv.size inv.closed hoi hall (chk_pw hpw) (post := B.2 ++ rest) rfl fun k hk => hunl k (by simp [hk])) hm0
      have hmemB : ∀ {j : Nat}, j ∈ Bs.flatMap Blk.l ↔ j ∈ (l1 ++ l2).flatMap Blk.l ∨ j ∈ B.l := fun {j} => by
        rw [hsp]
        simp only [List.flatMap_append, List.flatMap_cons, List.mem_append]
        constructor
        · rintro (h | h | h)
          · exact .inl (.inl h)
          · exact .inr h
          · exact .inl (.inr h)
        · rintro ((h | h) | h)
          · exact .inl h
          · exact .inr (.inr h)
          · exact .inr (.inl h)
      have hni : B.1 ∉ (pre ++ B.2) ++ ((l1 ++ l2).flatMap Blk.l ++ rest) := by
        intro hx
        rcases List.mem_append.1 hx with hx | hx
        · rcases List.mem_append.1 hx with hx | hx
          · exact hip hx
          · exact (hown.1 B.1 hx).1 rfl
        · rcases List.mem_append.1 hx with hx | hx
          · obtain ⟨B', hB', hx⟩ := List.mem_flatMap.1 hx
            exact ((hsep B' hB').h B.1 hx).1 rfl
          · exact hir hx
      have hiff : ∀ j, j ≠ B.1 → (j ∈ pre ++ (Bs.flatMap Blk.l ++ rest) ↔ j ∈ (pre ++ B.2) ++ ((l1 ++ l2).flatMap Blk.l ++ rest)) := fun j hj => by
        simp only [List.mem_append (s := pre), List.mem_append (t := rest), hmemB, List.mem_append (s := pre ++ B.2), List.mem_append (t := B.2)]
        have e : j ∈ B.l ↔ j ∈ B.2 := ⟨fun h => (List.mem_cons.1 h).resolve_left hj, fun h => List.mem_cons_of_mem _ h⟩
        rw [e]
        constructor
        · rintro (h | (h | h) | h)
          · exact .inl (.inl h)
          · exact .inr (.inl h)
          · exact .inl (.inr h)
          · exact .inr (.inr h)
        · rintro ((h | h) | h | h)
          · exact .inl h
          · exact .inr (.inl (.inr h))
          · exact .inr (.inl (.inl h))
          · exact .inr (.inr h)
      have hsub : ∀ j, j ∈ (pre ++ B.2) ++ ((l1 ++ l2).flatMap Blk.l ++ rest) → j ∈ pre ++ (Bs.flatMap Blk.l ++ rest) := fun j hj => (hiff j fun e => hni (e ▸ hj)).2 hj
      have hlen : ((pre ++ B.2) ++ ((l1 ++ l2).flatMap Blk.l ++ rest)).length = fuel := by
        rw [hsp] at hl
        simp only [List.length_append, List.flatMap_append, List.flatMap_cons, Blk.l, List.length_cons] at hl ⊢
        omega
      have hpw2 : ((pre ++ B.2) ++ rest).Pairwise (pkk ops anc) := by
        rw [List.append_assoc]
        exact hpw.sublist (List.Sublist.append_left (List.sublist_cons_self _ _) pre)
      have hsl : (l1 ++ l2).Sublist Bs := by rw [hsp]; exact List.Sublist.append_left (List.sublist_cons_self _ _) l1
      refine step_mix hoi hs hc hw hm fun a W w hs hc hw hm => ih (pre ++ B.2) (l1 ++ l2) _ a W w hlen ⟨by simp [inv.size], fun j hj => mem_set hsz hni hiff (inv.mem j hj), fun j hj => inv.lt j (hsub j hj), fun j hj => inv.one j (hsub j hj), hcl', hpw2, fun B' hB' => ?_, inv.p3.sublist hsl⟩ hs hc hw hm
      have hB'' : B' ∈ Bs := hsl.subset hB'
      refine ⟨(inv.p2 B' hB'').1, fun k hk j hj => ?_, (inv.p2 B' hB'').2.2⟩
      rcases List.mem_append.1 hk with hk | hk
      · exact (inv.p2 B' hB'').2.1 k hk j hj
      · exact (hsep B' hB').t k hk j hj
end
section
variable {ops : List Oper} {anc : Nat → Bool}
def depB (ops : List Oper) (i k : Nat) : Bool := Nat.blt i ops.length && ((masksFrom [] ops).getD i 0).testBit k
theorem depB_of {i k : Nat} (h : depB ops i k = true) : depT ops.toArray ops.toArray.size i k = true := by
  unfold depB at h
  simp only [Bool.and_eq_true, Nat.blt_eq] at h
  have hm' : MInv ops.toArray (masksFrom [] ops) := minv_from ops [] (fun i hi => by simp at hi) (fun j o hj => by simpa using hj)
  exact depT_le (by simp; omega) (hm' i (by rw [masks_length]; simpa using h.1) k h.2)
def chkDag (ops : List Oper) (anc : Nat → Bool) (pre : List Nat) (Bs : List Blk) (rest : List Nat) : Bool :=
  (Region.noSelect ops.toArray && Nat.beq (pre ++ (Bs.flatMap Blk.l ++ rest)).length ops.length && ((pre ++ (Bs.flatMap Blk.l ++ rest)).all fun i => Nat.blt i ops.length) && ((List.range ops.length).all fun i => (pre ++ (Bs.flatMap Blk.l ++ rest)).contains i) && ((withOps ops (pre ++ (Bs.flatMap Blk.l ++ rest))).all fun p => Nat.blt p.1 ops.length && !(p.2.after.toList.any fun e => Region.binds .any e && Nat.beq e.on p.1) && p.2.after.toList.all fun e => !Region.binds .any e || Nat.blt e.on ops.length)) &&
  (pairA (pkB ops anc (masksFrom [] ops)) (pre ++ rest) && ((Bs.all fun B => anc B.1 && ((pre.all fun k => B.l.all fun i => pkB ops anc (masksFrom [] ops) k i) && (pairA (pkB ops anc (masksFrom [] ops)) B.l && B.l.all fun k => rest.all fun i => pkB ops anc (masksFrom [] ops) k i))) && pairA (fun B B' => sepB ops anc (masksFrom [] ops) B B' && (sepB ops anc (masksFrom [] ops) B' B || depB ops B'.1 B.1)) Bs))
theorem wp_region_dag {P : Program} {C : World → Prop} {R : Act → (World → Prop) → Prop} {id : Nat} {Q : Exit → Act → World → Prop} {a : Act} {w : World} {W : World → Prop} {pre : List Nat} {Bs : List Blk} {rest : List Nat} (hm : P.follows .mixedOrders = true) (hk : chkDag ops anc pre Bs rest = true)
    (hR : ∀ a W, R a W → ∀ w, W w → Q .normal a w) (hs : Stb W) (hc : ∀ w, W w → C w) (hw : W { w with drawn := w.drawn + 1 }) (h : mix P ops.toArray C anc (blD P ops.toArray C anc (mix P ops.toArray C anc R rest) Bs.length Bs) pre a W) : (Code.region id ops.toArray true).wp P Q a w := by
  simp only [chkDag, Bool.and_eq_true] at hk
  obtain ⟨⟨⟨⟨⟨h1, h2⟩, h0⟩, h3⟩, h4⟩, h5, h6, h7⟩ := hk
  have h2 : (pre ++ (Bs.flatMap Blk.l ++ rest)).length = ops.length := Nat.eq_of_beq_eq_true h2
  have hl : ∀ i ∈ pre ++ (Bs.flatMap Blk.l ++ rest), i < ops.length := fun i hi => by
    have := List.all_eq_true.1 h0 i hi
    simpa only [Nat.blt_eq] using this
  refine wp_region_any hm (any_of_dag h1 hR ops.toArray.size pre Bs _ a W _ (by simpa using h2) ⟨by simp, fun i hi => ⟨fun _ => repl_t hi, fun _ => ?_⟩, fun i hi => by simpa using hl i hi, fun i hi => ?_, fun j oj _ hj => (by rw [repl_f] at hj; cases hj), pairA_of (fun _ _ => pkB_of) h5, fun B hB => ?_, pairA_of (fun B B' h => ?_) h7⟩ hs hc hw h)
  · have := List.all_eq_true.1 h3 i (List.mem_range.2 (by simpa using hi))
    simpa using this
  · have hil := hl i hi
    obtain ⟨oi, hoi⟩ : ∃ o, nthO ops i = some o := by rw [← nthO_eq ops i]; simp [hil]
    have h6 := List.all_eq_true.1 h4 (i, oi) (mem_withOps hoi _ hi)
    simp only [Bool.and_eq_true, Bool.not_eq_true'] at h6
    obtain ⟨⟨_, h7⟩, h8⟩ := h6
    simp only [Bool.and_eq_true, decide_eq_true_eq, chkOne, Bool.not_eq_true']
    refine ⟨by rw [waits_eq hoi]; exact h7, ?_⟩
    rw [nthO_eq, hoi]
    simp only
    rw [Array.all_eq_true']
    intro e he
    have := List.all_eq_true.1 h8 e (by simpa using he)
    simp only [Bool.or_eq_true, Bool.not_eq_true', Nat.blt_eq] at this
    simp only [Bool.or_eq_true, Bool.not_eq_true', decide_eq_true_eq]
    simpa using this
  · have := List.all_eq_true.1 h6 B hB
    simp only [Bool.and_eq_true] at this
    obtain ⟨a1, a2, a3, a4⟩ := this
    exact ⟨a1, fun k hk i hi => pkB_of (List.all_eq_true.1 (List.all_eq_true.1 a2 k hk) i hi), pairA_of (fun _ _ => pkB_of) a3, fun k hk i hi => pkB_of (List.all_eq_true.1 (List.all_eq_true.1 a4 k hk) i hi)⟩
  · simp only [Bool.and_eq_true, Bool.or_eq_true] at h
    exact ⟨sepB_of h.1, h.2.imp sepB_of depB_of⟩
end
section
variable {P : Program} {Q : Exit → Act → World → Prop} {n : Nat} {st : Slots} {S : Nat → Prop} {w0 : World} {H H' HC : List Res}
structure DgW (P : Program) (ops : List Oper) (C : World → Prop) (anc : Nat → Bool) (R : Act → (World → Prop) → Prop) (rest : List Nat) (k : Nat) (Bs : List Blk) (a : Act) (W : World → Prop) : Prop where
  run : blD P ops.toArray C anc (mix P ops.toArray C anc R rest) k Bs a W
theorem cw_dag {id : Nat} {ops : List Oper} (pre : List Nat) (Bs : List Blk) (rest : List Nat) (anc : Nat → Bool) (HC : List Res) (hm : P.follows .mixedOrders = true) (hk : chkDag ops anc pre Bs rest = true) (hc : ∀ w, Ok S w0 H w → Ok S w0 HC w)
    (h : MX P ops (Ok S w0 HC) anc (DgW P ops (Ok S w0 HC) anc (RW Q) rest Bs.length Bs) pre n st S w0 H) : CW P (.region id ops.toArray true) Q n st S w0 H := ⟨fun w hw =>
  wp_region_dag (C := Ok S w0 HC) hm hk (fun a W h => h) stb_ok hc hw.drawn (mix_weak' (fun a W h => h.run) pre (h.run hc))⟩
theorem mx_dag0 {ops : List Oper} {C : World → Prop} {anc : Nat → Bool} {R : Act → (World → Prop) → Prop} {rest : List Nat} {Bs : List Blk} (h : MX P ops C anc R rest n st S w0 H) : MX P ops C anc (DgW P ops C anc R rest 0 Bs) [] n st S w0 H := ⟨fun hc => ⟨h.run hc⟩⟩
/-- Those that may come next. -/
def rdy (ops : List Oper) (Bs : List Blk) : List (Blk × List Blk) := (picks Bs).filter fun q => q.2.all fun B' => !depB ops q.1.1 B'.1
theorem mx_dag {ops : List Oper} {C : World → Prop} {anc : Nat → Bool} {R : Act → (World → Prop) → Prop} {rest : List Nat} {k : Nat} {Bs : List Blk} (qs : List (Blk × List Blk)) (hq : rdy ops Bs = qs) (h : ∀ q ∈ qs, MX P ops C anc (DgW P ops C anc R rest k q.2) q.1.l n st S w0 H) : MX P ops C anc (DgW P ops C anc R rest (k + 1) Bs) [] n st S w0 H := ⟨fun hc => ⟨fun q hqm hd => mix_weak' (fun _ _ h => h.run) q.1.l ((h q (by
  rw [← hq]
  refine List.mem_filter.2 ⟨hqm, List.all_eq_true.2 fun B' hB' => ?_⟩
  cases hx : depB ops q.1.1 B'.1 with
  | false => rfl
  | true => have := hd B' hB'; rw [depB_of hx] at this; cases this)).run hc)⟩⟩
theorem mix_weakG {P : Program} {ops : Array Oper} {C : World → Prop} {anc : Nat → Bool} {R : Act → (World → Prop) → Prop} (hR : ∀ a (W W' : World → Prop), (∀ w, W w → W' w) → R a W' → R a W) {W W' : World → Prop} (hW : ∀ w, W w → W' w) : ∀ (l : List Nat) (a : Act), mix P ops C anc R l a W' → mix P ops C anc R l a W
  | [], a, h => hR a W W' hW h
  | i :: l, a, h => by
    simp only [mix] at h ⊢
    cases ho : ops[i]? with
    | none => simp only [ho] at h ⊢; exact mix_weakG hR hW l a h
    | some o =>
      simp only [ho] at h ⊢
      split
      · rename_i hg
        simp only [hg, if_true] at h
        split
        · rename_i ha
          simp only [ha, if_true] at h
          exact fun w hw => h w (hW w hw)
        · rename_i ha
          simp only [ha] at h
          obtain ⟨v, h1, h2⟩ := h
          exact ⟨v, h1, mix_weakG hR hW l _ h2⟩
      · rename_i hg
        simp only [hg] at h
        exact mix_weakG hR hW l _ h
/-- What is known may be told otherwise, within a region too. -/
theorem blD_weak {P : Program} {ops : Array Oper} {C : World → Prop} {anc : Nat → Bool} {E : Act → (World → Prop) → Prop} (hE : ∀ a (W W' : World → Prop), (∀ w, W w → W' w) → E a W' → E a W) : ∀ (k : Nat) (Bs : List Blk) (a : Act) (W W' : World → Prop), (∀ w, W w → W' w) → blD P ops C anc E k Bs a W' → blD P ops C anc E k Bs a W
  | 0, _, a, W, W', hW, h => hE a W W' hW h
  | k + 1, Bs, a, W, W', hW, h => fun q hq hd => mix_weakG (fun a W W' hW h => blD_weak hE k q.2 a W W' hW h) hW q.1.l a (h q hq hd)
/-- A meeting place within a region. -/
theorem mx_re {ops : List Oper} {C : World → Prop} {anc : Nat → Bool} {rest : List Nat} {k : Nat} {Bs : List Blk} {l : List Nat} (L : Slots) (ha : agree L st) (hH : ∀ w, Ok S w0 H w → Ok S w0 H' w) (hC : ∀ w, Ok S w0 H' w → C w) (h : ∀ jk, MX P ops C anc (DgW P ops C anc (RW Q) rest k Bs) l n (L ++ jk) S w0 H') : MX P ops C anc (DgW P ops C anc (RW Q) rest k Bs) l n st S w0 H := ⟨fun _ => by
  have h1 := (h st).run hC
  rw [fr_agree ha] at h1
  exact mix_weakG (fun a W W' hW h => ⟨blD_weak (fun a W W' hW h => mix_weakG (fun a W W' hW h w hw => h w (hW w hw)) hW rest a h) k Bs a W W' hW h.run⟩) hH l _ h1⟩
end
end Go.Sx
