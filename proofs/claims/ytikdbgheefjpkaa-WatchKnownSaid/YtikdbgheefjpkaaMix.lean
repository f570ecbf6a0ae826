/- A region of operations, whatever order the tape picks: one walk in a given order serves all, where operations that float (one value in every world of a class, leaving nothing but new blocks) stand as early as may be. Plain theorems over any program. -/
import Derived.WalkKit
import Derived.Still
set_option linter.unusedVariables false
set_option linter.unusedSimpArgs false
namespace Go.Sx
open Go.RowKit

/-- What is asked of one operation: it runs (no panic), and what it yields, and the world behind it, are as K says. -/
def runsUpon (P : Program) (K : Value → World → Prop) : Result Next → Prop
  | .ok (.value v) w' => K v w'
  | .ok .skip w' => K undef w'
  | .ok (.enter f args) w' => Calls P f args w' fun e w'' => ∃ v, e = .returned v ∧ K v w''
  | _ => False
def runs (P : Program) (o : Oper) (ρ : Operand → Value) (w : World) (K : Value → World → Prop) : Prop := runsUpon P K ((execOp ρ o).run P w)

theorem runs_mono {P : Program} {o : Oper} {ρ : Operand → Value} {w : World} {K K' : Value → World → Prop} (h : runs P o ρ w K) (hk : ∀ v w', K v w' → K' v w') : runs P o ρ w K' := by
  unfold runs at *
  generalize (execOp ρ o).run P w = r at *
  cases r with
  | ok n w' =>
    cases n <;> simp only [runsUpon] at h ⊢
    case value v => exact hk _ _ h
    case skip => exact hk _ _ h
    case enter f args => exact h.mono fun e w'' ⟨v, he, hv⟩ => ⟨v, he, hk _ _ hv⟩
  | halt x w' => simp only [runsUpon] at h

theorem wp_of_runs {P : Program} {o : Oper} {a : Act} {w : World} {K : Value → World → Prop} {K' : Act → World → Prop} {Q : Exit → Act → World → Prop} (h : runs P o a.eval w K) (hk : ∀ v w', K v w' → K' (a.put o.dst v) w') : o.wp P a w K' Q := by
  unfold Oper.wp
  unfold runs at h
  generalize (execOp a.eval o).run P w = r at *
  cases r with
  | ok n w' =>
    cases n <;> simp only [runsUpon] at h <;> simp only [Oper.upon]
    case value v => exact hk _ _ h
    case skip => exact hk _ _ h
    case enter f args => exact h.mono fun e w'' ⟨v, he, hv⟩ => by subst he; exact hk _ _ hv
  | halt x w' => simp only [runsUpon] at h

/-- Nothing that was there has turned. -/
abbrev Grow (w w' : World) : Prop := Below w.heap.size w w'
theorem Grow.tr {a b c : World} (h : Grow a b) (k : Grow b c) : Grow a c := h.trans (k.mono h.size)
def Stb (W : World → Prop) : Prop := ∀ w w', W w → Grow w w' → W w'

section
variable (P : Program) (ops : Array Oper) (C : World → Prop) (anc : Nat → Bool) (R : Act → (World → Prop) → Prop)
/-- The walk: 'anc': the operations that are taken in the world as it stands; all others float. -/
def mix : List Nat → Act → (World → Prop) → Prop
  | [], a, W => R a W
  | i :: l, a, W =>
    match ops[i]? with
    | none => mix l a W
    | some o =>
      if Region.wanted o (yielded ops a.tmps) = true then
        if anc i = true then
          ∀ w, W w → runs P o a.eval w fun v w' => ∃ W' : World → Prop, Stb W' ∧ (∀ w, W' w → C w) ∧ W' w' ∧ mix l (a.put o.dst v) W'
        else ∃ v, (∀ w, C w → runs P o a.eval w fun u w' => u = v ∧ Grow w w') ∧ mix l (a.put o.dst v) W
      else mix l (a.put o.dst undef) W
end

section
variable {P : Program} {ops : Array Oper} {C : World → Prop} {anc : Nat → Bool} {R : Act → (World → Prop) → Prop}

/-- In the order of the text, nothing drawn. -/
theorem ops_of_mix {Q : Exit → Act → World → Prop} (hC : Stb C) (hR : ∀ a W, R a W → ∀ w, W w → Q .normal a w) : ∀ (l : List Nat) (a : Act) (W : World → Prop) (w : World), Stb W → (∀ w, W w → C w) → W w → mix P ops C anc R l a W → wpOps P ops Q l a w
  | [], a, W, w, _, _, hw, h => hR a W h w hw
  | i :: l, a, W, w, hs, hc, hw, h => by
    rw [wpOps_cons]
    unfold wpOp
    simp only [mix] at h
    cases ho : ops[i]? with
    | none =>
      simp only [ho] at h ⊢
      exact ops_of_mix hC hR l a W w hs hc hw h
    | some o =>
      simp only [ho] at h ⊢
      split at h
      · rename_i hg
        simp only [hg, if_true]
        refine .inl ?_
        split at h
        · exact wp_of_runs (h w hw) fun v w' ⟨W', hs', hc', hw', hm⟩ => ops_of_mix hC hR l _ W' w' hs' hc' hw' hm
        · obtain ⟨v, h1, h2⟩ := h
          refine wp_of_runs (h1 w (hc w hw)) fun u w' ⟨hu, hg'⟩ => ?_
          subst hu
          exact ops_of_mix hC hR l _ W w' hs hc (hs _ _ hw hg') h2
      · rename_i hg
        simp only [hg]
        exact ops_of_mix hC hR l _ W w hs hc hw h

/-- Two operations that are apart, the first of them floating: the second may be taken first. -/
theorem mix_swap (hsel : Region.noSelect ops = true) {k i : Nat} {ok oi : Oper} (hk : ops[k]? = some ok) (hi : ops[i]? = some oi) (hap : ok.apart ops oi = true) (hka : anc k = false) {l : List Nat} {a : Act} {W : World → Prop}
    (h : mix P ops C anc R (k :: i :: l) a W) : mix P ops C anc R (i :: k :: l) a W := by
  obtain ⟨h1, h2, h3⟩ := Oper.apart_spec hap
  have sk : ∀ cs b, ok.op ≠ .select cs b := fun cs b => Region.noSelect_spec hsel k ok cs b hk
  have si : ∀ cs b, oi.op ≠ .select cs b := fun cs b => Region.noSelect_spec hsel i oi cs b hi
  have ek : ∀ u, execOp (a.put oi.dst u).eval ok = execOp a.eval ok := fun u => execOp_put ok sk a oi.dst u h3
  have ei : ∀ u, execOp (a.put ok.dst u).eval oi = execOp a.eval oi := fun u => execOp_put oi si a ok.dst u h1
  have gk : ∀ u, Region.wanted ok (yielded ops (a.put oi.dst u).tmps) = Region.wanted ok (yielded ops a.tmps) := fun u => wanted_put ok a oi.dst u h3
  have gi : ∀ u, Region.wanted oi (yielded ops (a.put ok.dst u).tmps) = Region.wanted oi (yielded ops a.tmps) := fun u => wanted_put oi a ok.dst u h1
  have pc : ∀ u v, (a.put ok.dst u).put oi.dst v = (a.put oi.dst v).put ok.dst u := fun u v => Act.put_comm a u v h2
  simp only [mix, hk, hi, hka, Bool.false_eq_true, if_false, runs] at h ⊢
  by_cases wk : Region.wanted ok (yielded ops a.tmps) = true
  · simp only [wk, if_true] at h
    obtain ⟨v, hv, h⟩ := h
    by_cases wi : Region.wanted oi (yielded ops a.tmps) = true
    · simp only [gi, wi, if_true, ei] at h ⊢
      by_cases ia : anc i = true
      · simp only [ia, if_true] at h ⊢
        intro w hw
        refine runs_mono (o := oi) (ρ := a.eval) (h w hw) ?_
        rintro u w' ⟨W', hs', hc', hw', hm⟩
        refine ⟨W', hs', hc', hw', ?_⟩
        simp only [gk, wk, if_true, ek]
        exact ⟨v, hv, by rw [← pc]; exact hm⟩
      · simp only [ia, if_false] at h ⊢
        obtain ⟨u, hu, hm⟩ := h
        refine ⟨u, hu, ?_⟩
        simp only [gk, wk, if_true, ek]
        exact ⟨v, hv, by rw [← pc]; exact hm⟩
    · simp only [gi, wi, if_false, Bool.false_eq_true, gk, wk, if_true, ek] at h ⊢
      exact ⟨v, hv, by rw [← pc]; exact h⟩
  · simp only [wk, if_false, Bool.false_eq_true] at h
    by_cases wi : Region.wanted oi (yielded ops a.tmps) = true
    · simp only [gi, wi, if_true, ei] at h ⊢
      by_cases ia : anc i = true
      · simp only [ia, if_true] at h ⊢
        intro w hw
        refine runs_mono (o := oi) (ρ := a.eval) (h w hw) ?_
        rintro u w' ⟨W', hs', hc', hw', hm⟩
        refine ⟨W', hs', hc', hw', ?_⟩
        simp only [gk, wk, if_false, Bool.false_eq_true]
        rw [← pc]; exact hm
      · simp only [ia, if_false] at h ⊢
        obtain ⟨u, hu, hm⟩ := h
        refine ⟨u, hu, ?_⟩
        simp only [gk, wk, if_false, Bool.false_eq_true]
        rw [← pc]; exact hm
    · simp only [gi, wi, if_false, Bool.false_eq_true, gk, wk] at h ⊢
      rw [← pc]; exact h

theorem mix_mono {l l' : List Nat} (h : ∀ a W, mix P ops C anc R l a W → mix P ops C anc R l' a W) (k : Nat) {a : Act} {W : World → Prop} (hm : mix P ops C anc R (k :: l) a W) : mix P ops C anc R (k :: l') a W := by
  simp only [mix] at hm ⊢
  cases hk : ops[k]? with
  | none => simp only [hk] at hm ⊢; exact h _ _ hm
  | some o =>
    simp only [hk] at hm ⊢
    split
    · rename_i hw
      simp only [hw, if_true] at hm
      split
      · rename_i ha
        simp only [ha, if_true] at hm
        intro w hww
        exact runs_mono (hm w hww) fun v w' ⟨W', a1, a2, a3, a4⟩ => ⟨W', a1, a2, a3, h _ _ a4⟩
      · rename_i ha
        simp only [ha] at hm
        obtain ⟨v, h1, h2⟩ := hm
        exact ⟨v, h1, h _ _ h2⟩
    · rename_i hw
      simp only [hw] at hm
      exact h _ _ hm

theorem mix_front (hsel : Region.noSelect ops = true) {i : Nat} {oi : Oper} (hi : ops[i]? = some oi) {post : List Nat} : ∀ (pre : List Nat), (∀ k ∈ pre, ∃ ok, ops[k]? = some ok ∧ ok.apart ops oi = true ∧ anc k = false) →
    ∀ {a : Act} {W : World → Prop}, mix P ops C anc R (pre ++ i :: post) a W → mix P ops C anc R (i :: (pre ++ post)) a W
  | [], _, _, _, h => h
  | k :: pre, hp, a, W, h => by
    obtain ⟨ok, hk, hap, hka⟩ := hp k (by simp)
    have h1 : mix P ops C anc R (k :: i :: (pre ++ post)) a W := mix_mono (fun a W hm => mix_front hsel hi pre (fun k' hk' => hp k' (by simp [hk'])) hm) k h
    exact mix_swap hsel hk hi hap hka h1

variable (ops anc)
def waits (i k : Nat) : Bool := match ops[i]? with
  | some o => o.after.any fun e => Region.binds .any e && e.on == k
  | none => false
def depT : Nat → Nat → Nat → Bool
  | 0, _, _ => false
  | n + 1, i, k => match ops[i]? with
    | some o => o.after.any fun e => Region.binds .any e && (e.on == k || depT n e.on k)
    | none => false
def apartAt (k i : Nat) : Bool := match ops[k]?, ops[i]? with
  | some a, some b => a.apart ops b
  | _, _ => false
def chkPairs : List Nat → Bool
  | [] => true
  | k :: l => (l.all fun i => k != i && !waits ops k i && (depT ops ops.size i k || (apartAt ops k i && !anc k))) && chkPairs l
def chkOne (i : Nat) : Bool := !waits ops i i && match ops[i]? with
  | some o => o.after.all fun e => !Region.binds .any e || decide (e.on < ops.size)
  | none => false
def chk (ord : List Nat) : Bool := Region.noSelect ops && (ord.length == ops.size) && ((List.range ops.size).all fun i => ord.contains i) && (ord.all fun i => decide (i < ops.size) && chkOne ops i) && chkPairs ops anc ord
variable {ops anc}

theorem depT_listed {listed : Array Bool} (hcl : ∀ j oj, ops[j]? = some oj → listed.getD j false = true → ∀ e ∈ oj.after, Region.binds .any e = true → listed.getD e.on false = true) {k : Nat} :
    ∀ (n i : Nat) (o : Oper), ops[i]? = some o → (∀ e ∈ o.after, Region.binds .any e = true → listed.getD e.on false = true) → depT ops n i k = true → listed.getD k false = true
  | 0, _, _, _, _, h => by simp [depT] at h
  | n + 1, i, o, ho, hall, h => by
    simp only [depT, ho] at h
    obtain ⟨e, he, hb⟩ := Array.any_eq_true'.1 h
    simp only [Bool.and_eq_true, Bool.or_eq_true, beq_iff_eq] at hb
    obtain ⟨hb1, hb2⟩ := hb
    rcases hb2 with hb2 | hb2
    · exact hb2 ▸ hall e he hb1
    · cases hoe : ops[e.on]? with
      | none =>
        cases n with
        | zero => simp [depT] at hb2
        | succ n => simp [depT, hoe] at hb2
      | some oe => exact depT_listed hcl n e.on oe hoe (fun e' he' hb' => hcl _ _ hoe (hall e he hb1) e' he' hb') hb2

structure MixInv (ops : Array Oper) (anc : Nat → Bool) (listed : Array Bool) (l : List Nat) : Prop where
  size : listed.size = ops.size
  mem : ∀ i, i < ops.size → (i ∈ l ↔ listed.getD i true = false)
  lt : ∀ i ∈ l, i < ops.size
  one : ∀ i ∈ l, chkOne ops i = true
  closed : ∀ j oj, ops[j]? = some oj → listed.getD j false = true → ∀ e ∈ oj.after, Region.binds .any e = true → listed.getD e.on false = true
  pairs : chkPairs ops anc l = true

theorem chkPairs_mem : ∀ {l : List Nat}, chkPairs ops anc l = true → ∀ {pre post : List Nat} {i : Nat}, l = pre ++ i :: post → ∀ k ∈ pre, k ≠ i ∧ waits ops k i = false ∧ (depT ops ops.size i k = true ∨ (apartAt ops k i = true ∧ anc k = false))
  | [], _, pre, post, i, h, k, hk => by simp at h
  | x :: l, hc, pre, post, i, h, k, hk => by
    simp only [chkPairs, Bool.and_eq_true] at hc
    cases pre with
    | nil => simp at hk
    | cons y pre =>
      simp only [List.cons_append, List.cons.injEq] at h
      obtain ⟨rfl, h⟩ := h
      rcases List.mem_cons.1 hk with rfl | hk
      · have := List.all_eq_true.1 hc.1 i (by rw [h]; simp)
        simp only [Bool.and_eq_true, bne_iff_ne, ne_eq, Bool.not_eq_true', Bool.or_eq_true] at this
        exact ⟨this.1.1, this.1.2, this.2.imp id (fun h => ⟨h.1, h.2⟩)⟩
      · exact chkPairs_mem hc.2 h k hk
theorem chkPairs_nodup : ∀ {l : List Nat}, chkPairs ops anc l = true → l.Nodup
  | [], _ => List.nodup_nil
  | x :: l, hc => by
    simp only [chkPairs, Bool.and_eq_true] at hc
    refine List.nodup_cons.2 ⟨fun hm => ?_, chkPairs_nodup hc.2⟩
    have := List.all_eq_true.1 hc.1 x hm
    simp at this
theorem chkPairs_sub {l l' : List Nat} (hc : chkPairs ops anc l = true) (h : l'.Sublist l) : chkPairs ops anc l' = true := by
  induction h with
  | slnil => rfl
  | cons a h ih =>
    simp only [chkPairs, Bool.and_eq_true] at hc
    exact ih hc.2
  | cons_cons a h ih =>
    simp only [chkPairs, Bool.and_eq_true] at hc ⊢
    exact ⟨List.all_eq_true.2 fun i hi => List.all_eq_true.1 hc.1 i (h.subset hi), ih hc.2⟩

theorem any_of_mix {Q : Exit → Act → World → Prop} (hsel : Region.noSelect ops = true) (hR : ∀ a W, R a W → ∀ w, W w → Q .normal a w) : ∀ (fuel : Nat) (l : List Nat) (listed : Array Bool) (a : Act) (W : World → Prop) (w : World),
    l.length = fuel → MixInv ops anc listed l → Stb W → (∀ w, W w → C w) → W w → mix P ops C anc R l a W → wpAny P .any ops Q fuel listed a w := by
  intro fuel
  induction fuel with
  | zero =>
    intro l listed a W w hl inv _ _ hw h
    obtain rfl : l = [] := List.eq_nil_of_length_eq_zero hl
    refine ⟨?_, hR a W h w hw⟩
    cases hr : Region.ready .any ops listed with
    | nil => rfl
    | cons x xs =>
      have hx : x ∈ Region.ready .any ops listed := by rw [hr]; simp
      obtain ⟨h0, o, ho, _⟩ := mem_ready.1 hx
      have hlt : x < ops.size := (Array.getElem?_eq_some_iff.1 ho).1
      exact absurd ((inv.mem x hlt).2 h0) (by simp)
  | succ fuel ih =>
    intro l listed a W w hl inv hs hc hw h
    refine ⟨fun hr => ?_, fun i hi => ?_⟩
    · exfalso
      cases l with
      | nil => simp at hl
      | cons x t =>
        have hx : x < ops.size := inv.lt x (by simp)
        have h1 := inv.one x (by simp)
        unfold chkOne at h1
        have hox : ops[x]? = some ops[x] := Array.getElem?_eq_getElem hx
        simp only [hox, Bool.and_eq_true, Bool.not_eq_true'] at h1
        have : x ∈ Region.ready .any ops listed := by
          refine mem_ready.2 ⟨(inv.mem x hx).1 (by simp), _, hox, fun e he hb => ?_⟩
          have h2 := Array.all_eq_true'.1 h1.2 e he
          simp only [hb, Bool.not_true, Bool.false_or, decide_eq_true_eq] at h2
          have hnot : e.on ∉ x :: t := by
            intro hm
            have hw : waits ops x e.on = true := by
              unfold waits
              simp only [hox]
              exact Array.any_eq_true'.2 ⟨e, he, by simp [hb]⟩
            rcases List.mem_cons.1 hm with hm | hm
            · rw [hm] at hw; rw [hw] at h1; simp at h1
            · have hp := inv.pairs
              simp only [chkPairs, Bool.and_eq_true] at hp
              have := List.all_eq_true.1 hp.1 _ hm
              simp [hw] at this
          have h3 := mt (inv.mem e.on h2).2 hnot
          rcases Nat.lt_or_ge e.on listed.size with h' | h'
          · simp [h'] at h3 ⊢; exact h3
          · have := inv.size; omega
        rw [hr] at this
        cases this
    · obtain ⟨h0, oi, hoi, hall⟩ := mem_ready.1 hi
      have hlt : i < ops.size := (Array.getElem?_eq_some_iff.1 hoi).1
      have him : i ∈ l := (inv.mem i hlt).2 h0
      obtain ⟨pre, post, rfl⟩ := List.append_of_mem him
      have hpre : ∀ k ∈ pre, ∃ ok, ops[k]? = some ok ∧ ok.apart ops oi = true ∧ anc k = false := by
        intro k hk
        obtain ⟨_, _, hd⟩ := chkPairs_mem inv.pairs rfl k hk
        have hkl : k < ops.size := inv.lt k (by simp [hk])
        rcases hd with hd | ⟨hd, hd'⟩
        · exfalso
          have h1 := depT_listed inv.closed _ i oi hoi hall hd
          have h2 := (inv.mem k hkl).1 (by simp [hk])
          have hks : k < listed.size := by rw [inv.size]; exact hkl
          simp [hks] at h1 h2
          rw [h1] at h2
          cases h2
        · have hok : ops[k]? = some ops[k] := Array.getElem?_eq_getElem hkl
          unfold apartAt at hd
          simp only [hok, hoi] at hd
          exact ⟨_, hok, hd, hd'⟩
      have hm := mix_front hsel hoi pre hpre h
      have hnd := chkPairs_nodup inv.pairs
      have hni : i ∉ pre ++ post := by
        have := List.nodup_append.1 hnd
        intro hx
        rcases List.mem_append.1 hx with hx | hx
        · exact this.2.2 i hx i (by simp) rfl
        · exact (List.nodup_cons.1 this.2.1).1 hx
      have inv' : MixInv ops anc (listed.setIfInBounds i true) (pre ++ post) := by
        refine ⟨by simp [inv.size], fun j hj => ?_, fun j hj => inv.lt j ?_, fun j hj => inv.one j ?_, fun j oj hj hl' e he hb => ?_, chkPairs_sub inv.pairs ?_⟩
        · by_cases hij : i = j
          · subst hij
            have hsz : i < listed.size := by rw [inv.size]; exact hlt
            simp [hsz] at *
            exact hni
          · rw [getD_set_ne true hij, ← inv.mem j hj]
            simp only [List.mem_append, List.mem_cons]
            constructor
            · rintro (h | h)
              · exact .inl h
              · exact .inr (.inr h)
            · rintro (h | h | h)
              · exact .inl h
              · exact absurd h.symm hij
              · exact .inr h
        · simp only [List.mem_append, List.mem_cons] at hj ⊢
          exact hj.imp id .inr
        · simp only [List.mem_append, List.mem_cons] at hj ⊢
          exact hj.imp id .inr
        · by_cases hij : i = j
          · subst hij
            have : oj = oi := Option.some.inj (hj.symm.trans hoi)
            subst this
            exact getD_set_true (hall e he hb)
          · rw [getD_set_ne false hij] at hl'
            exact getD_set_true (inv.closed j oj hj hl' e he hb)
        · exact List.Sublist.append_left (List.sublist_cons_self i post) pre
      have hlen : (pre ++ post).length = fuel := by simp at hl ⊢; omega
      unfold wpOp
      simp only [hoi]
      simp only [mix, hoi] at hm
      split
      · rename_i hg
        simp only [hg, if_true] at hm
        refine .inl ?_
        split at hm
        · exact wp_of_runs (hm w hw) fun v w' ⟨W', hs', hc', hw', hm'⟩ => ih _ _ _ W' w' hlen inv' hs' hc' hw' hm'
        · obtain ⟨v, h1, h2⟩ := hm
          refine wp_of_runs (h1 w (hc w hw)) fun u w' ⟨hu, hg'⟩ => ?_
          subst hu
          exact ih _ _ _ W w' hlen inv' hs hc (hs _ _ hw hg') h2
      · rename_i hg
        simp only [hg] at hm
        exact ih _ _ _ W w hlen inv' hs hc hw hm

/-- **A region that draws its order.** -/
theorem wp_region_mix {id : Nat} {Q : Exit → Act → World → Prop} {a : Act} {w : World} {W : World → Prop} (ord : List Nat) (hm : P.follows .mixedOrders = true) (hk : chk ops anc ord = true)
    (hR : ∀ a W, R a W → ∀ w, W w → Q .normal a w) (hs : Stb W) (hc : ∀ w, W w → C w) (hw : W { w with drawn := w.drawn + 1 }) (h : mix P ops C anc R ord a W) : (Code.region id ops true).wp P Q a w := by
  simp only [chk, Bool.and_eq_true, beq_iff_eq] at hk
  obtain ⟨⟨⟨⟨h1, h2⟩, h3⟩, h4⟩, h5⟩ := hk
  have h4' : ∀ i ∈ ord, i < ops.size ∧ chkOne ops i = true := fun i hi => by
    have := List.all_eq_true.1 h4 i hi
    simpa using this
  have hall : ∀ i, (Array.replicate ops.size false).getD i false = false := fun i => by
    rcases Nat.lt_or_ge i ops.size with h' | h'
    · simp [h']
    · simp [h']
  refine wp_region_any hm (any_of_mix h1 hR ops.size ord _ a W _ h2 ⟨by simp, fun i hi => ⟨fun _ => by simp [hi], fun _ => ?_⟩, fun i hi => (h4' i hi).1, fun i hi => (h4' i hi).2, fun j oj _ hj => (by rw [hall] at hj; cases hj), h5⟩ hs hc hw h)
  have := List.all_eq_true.1 h3 i (List.mem_range.2 hi)
  simpa using this
/-- A region in the order of the text. -/
theorem wp_region_line {id : Nat} {Q : Exit → Act → World → Prop} {a : Act} {w : World} {W : World → Prop} (hC : Stb C)
    (hR : ∀ a W, R a W → ∀ w, W w → Q .normal a w) (hs : Stb W) (hc : ∀ w, W w → C w) (hw : W w) (h : mix P ops C anc R (List.range ops.size) a W) : (Code.region id ops false).wp P Q a w :=
  wp_region (ops_of_mix hC hR _ a W w hs hc hw h)
end
end Go.Sx
