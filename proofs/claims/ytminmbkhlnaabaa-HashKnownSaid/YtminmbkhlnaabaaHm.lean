/- What a table holds, as a map: put, taken away, found. Plain. -/
import Derived.Test.YtminmbkhlnaabaaHl
set_option maxRecDepth 100000
set_option maxHeartbeats 8000000
set_option linter.unusedSimpArgs false
set_option linter.unusedVariables false
namespace Go.Proofs.Ytminmbkhlnaabaa
open Go Go.Sx Go.RowKit
def Good (kl : Nat) (pl : List PLc) : Prop := ∀ (p : Nat) (c : PLc), pl[p]? = some c → c.s = 1 → lookH pl kl c.k = some p
def getH (pl : List PLc) (kl : Nat) (k : List Int) : Option Int := (lookH pl kl k).map fun p => (pl.getD p default).c
theorem lookH_fs {pl : List PLc} {kl : Nat} {k : List Int} {q : Nat} : lookH pl kl k = some q ↔ k.length = kl ∧ (wayL (homeK k pl.length) pl.length).findSome? (stpH pl k) = some (some q) := by
  unfold lookH
  constructor
  · intro h
    split at h
    · rename_i hk
      refine ⟨hk, ?_⟩
      cases hf : (wayL (homeK k pl.length) pl.length).findSome? (stpH pl k) with
      | none => rw [hf] at h; cases h
      | some r => rw [hf] at h; rw [show r = some q from h]
    · cases h
  · rintro ⟨h1, h2⟩
    rw [if_pos h1, h2]
    rfl
theorem fs_turn {α β : Type} {f g : α → Option β} {r : β} : ∀ {l : List α}, l.findSome? f = some r → (∀ x ∈ l, f x = none → g x = none) → (∀ x ∈ l, f x = some r → g x = some r) → l.findSome? g = some r
  | [], h, _, _ => by cases h
  | x :: l, h, h1, h2 => by
    rw [List.findSome?_cons] at h ⊢
    cases hf : f x with
    | none =>
      rw [hf] at h
      rw [h1 x (by simp) hf]
      exact fs_turn h (fun y hy => h1 y (by simp [hy])) (fun y hy => h2 y (by simp [hy]))
    | some y =>
      rw [hf] at h
      obtain rfl : y = r := by simpa using h
      rw [h2 x (by simp) hf]
theorem fs_of_find {α β : Type} {f : α → Bool} {g : α → Option β} {p : α} {r : β} : ∀ {l : List α}, l.find? f = some p → (∀ x ∈ l, f x = false → g x = none) → g p = some r → l.findSome? g = some r
  | [], h, _, _ => by cases h
  | x :: l, h, h1, h2 => by
    rw [List.findSome?_cons]
    rw [List.find?_cons] at h
    cases hf : f x with
    | true =>
      rw [hf] at h
      obtain rfl : x = p := by simpa using h
      rw [h2]
    | false =>
      rw [hf] at h
      rw [h1 x (by simp) hf]
      exact fs_of_find h (fun y hy => h1 y (by simp [hy])) h2
theorem stpH_set_ne {pl : List PLc} {p x : Nat} (h : x ≠ p) (c : PLc) (k : List Int) : stpH (pl.set p c) k x = stpH pl k x := by
  unfold stpH
  rw [List.getElem?_set_ne (Ne.symm h)]
theorem stpH_set_eq {pl : List PLc} {p : Nat} (hp : p < pl.length) (c : PLc) (k : List Int) : stpH (pl.set p c) k p = if c.s = 0 then some none else if c.s = 1 ∧ c.k = k then some (some p) else none := by
  unfold stpH
  rw [List.getElem?_set_self hp]
theorem stpH_at {pl : List PLc} {p : Nat} {c : PLc} (h : pl[p]? = some c) (k : List Int) : stpH pl k p = if c.s = 0 then some none else if c.s = 1 ∧ c.k = k then some (some p) else none := by
  unfold stpH
  rw [h]
/-- What was found is found still, where what turned was neither empty nor it. -/
theorem look_keep {pl : List PLc} {kl : Nat} {k : List Int} {q p : Nat} {c c' : PLc} (hc : pl[p]? = some c) (h : lookH pl kl k = some q) (hq : q ≠ p) (h1 : stpH pl k p = none → stpH (pl.set p c') k p = none) : lookH (pl.set p c') kl k = some q := by
  obtain ⟨h2, h3⟩ := lookH_fs.1 h
  refine lookH_fs.2 ⟨h2, ?_⟩
  rw [List.length_set]
  refine fs_turn h3 (fun x _ hx => ?_) (fun x _ hx => ?_)
  · by_cases e : x = p
    · subst e; exact h1 hx
    · rw [stpH_set_ne e]; exact hx
  · by_cases e : x = p
    · subst e
      rw [stpH_at hc] at hx
      split at hx
      · cases hx
      · split at hx
        · exact absurd (by simpa using hx : x = q).symm hq
        · cases hx
    · rw [stpH_set_ne e]; exact hx
/-- What is found after a turn was there ahead of it. -/
theorem look_back {pl : List PLc} {kl : Nat} {k : List Int} {q p : Nat} {c' : PLc} (hg : Good kl pl) (h : lookH (pl.set p c') kl k = some q) (hq : q ≠ p) : lookH pl kl k = some q := by
  obtain ⟨h1, h2, c, hc, h3, h4⟩ := lookH_some h
  rw [List.getElem?_set_ne (Ne.symm hq)] at hc
  rw [← h4]
  exact hg q c hc h3
theorem look_none {pl : List PLc} {kl : Nat} {k : List Int} (hg : Good kl pl) (h : lookH pl kl k = none) {p : Nat} {c : PLc} (hc : pl[p]? = some c) (h1 : c.s = 1) : c.k ≠ k := fun e => by
  have := hg p c hc h1
  rw [e, h] at this
  cases this
structure GH (kl mx : Nat) (pl : List PLc) (m : List Int → Option Int) (n : Nat) : Prop where
  wf : WfH kl mx pl
  good : Good kl pl
  cnt : cntH pl = n
  le : n ≤ mx
  mP : mx < pl.length
  get : ∀ k, k.length = kl → getH pl kl k = m k
def mput (m : List Int → Option Int) (k : List Int) (v : Int) : List Int → Option Int := fun x => if x = k then some v else m x
def mdel (m : List Int → Option Int) (k : List Int) : List Int → Option Int := fun x => if x = k then none else m x
section
variable {kl mx : Nat} {pl : List PLc} {m : List Int → Option Int} {n : Nat}
theorem GH.look_none (h : GH kl mx pl m n) {k : List Int} (hk : k.length = kl) (hm : m k = none) : lookH pl kl k = none := by
  have := h.get k hk
  rw [hm] at this
  unfold getH at this
  cases hf : lookH pl kl k with
  | none => rfl
  | some p => rw [hf] at this; cases this
theorem GH.look_some (h : GH kl mx pl m n) {k : List Int} (hk : k.length = kl) {v : Int} (hm : m k = some v) : ∃ p c, lookH pl kl k = some p ∧ pl[p]? = some c ∧ c.s = 1 ∧ c.k = k ∧ c.c = v := by
  have := h.get k hk
  rw [hm] at this
  unfold getH at this
  cases hf : lookH pl kl k with
  | none => rw [hf] at this; cases this
  | some p =>
    rw [hf] at this
    obtain ⟨_, _, c, hc, h1, h2⟩ := lookH_some hf
    have hg : pl.getD p default = c := by simp [List.getD, hc]
    refine ⟨p, c, rfl, hc, h1, h2, ?_⟩
    have h3 : (pl.getD p default).c = v := by simpa using this
    rw [← hg]
    exact h3
theorem GH.find (h : GH kl mx pl m n) {k : List Int} (hk : k.length = kl) : fdH pl kl k = match m k with | some v => (v, true) | none => (0, false) := by
  cases hm : m k with
  | none =>
    unfold fdH
    rw [h.look_none hk hm]
  | some v =>
    obtain ⟨p, c, h1, hc, _, _, h4⟩ := h.look_some hk hm
    have hg : pl.getD p default = c := by simp [List.getD, hc]
    unfold fdH
    rw [h1]
    dsimp only
    rw [hg, h4]
theorem find_len {k : List Int} (hk : k.length ≠ kl) : fdH pl kl k = (0, false) := by
  unfold fdH lookH
  rw [if_neg hk]
theorem GH.e (h : GH kl mx pl m n) (k : List Int) : hpE pl kl mx k = if k.length ≠ kl then 14 else if (m k).isSome = true then 11 else if n = mx then 12 else 0 := by
  unfold hpE
  by_cases hk : k.length = kl
  · have hk' : ¬ k.length ≠ kl := fun hh => hh hk
    rw [if_neg hk', if_neg hk', h.cnt]
    cases hm : m k with
    | none => rw [h.look_none hk hm]; rfl
    | some v => obtain ⟨p, c, h1, _⟩ := h.look_some hk hm; rw [h1]; rfl
  · rw [if_pos hk, if_pos hk]
theorem GH.put (h : GH kl mx pl m n) {k : List Int} (hk : k.length = kl) (hb : BytK k) (hm : m k = none) (hn : n ≠ mx) (v : Int) : GH kl mx (putH pl kl mx k v) (mput m k v) (n + 1) := by
  have hE : hpE pl kl mx k = 0 := by rw [h.e, if_neg (fun h => h hk), hm, if_neg (by decide), if_neg hn]
  have hlen := h.mP
  have hle := h.le
  have hcn := h.cnt
  have hnone := h.look_none hk hm
  obtain ⟨p, hp⟩ := frH_some (pl := pl) (by omega) k
  obtain ⟨c, hc, hs⟩ := frH_at hp
  have hpl : p < pl.length := (List.getElem?_eq_some_iff.1 hc).1
  have e : putH pl kl mx k v = pl.set p ⟨1, k, v⟩ := by unfold putH; rw [if_pos hE, hp]; rfl
  have hc2 := cnt_put (kl := kl) k v (by omega : cntH pl ≤ mx) hlen
  rw [hcn] at hc2
  have hself : lookH (pl.set p ⟨1, k, v⟩) kl k = some p := by
    refine lookH_fs.2 ⟨hk, ?_⟩
    rw [List.length_set]
    refine fs_of_find hp (fun x hx hfx => ?_) (by rw [stpH_set_eq hpl]; simp)
    by_cases e : x = p
    · subst e
      unfold freeH at hfx
      rw [hc] at hfx
      simp at hfx
      exact absurd hfx hs
    · rw [stpH_set_ne e]
      unfold freeH at hfx
      cases hx' : pl[x]? with
      | none => unfold stpH; rw [hx']
      | some d =>
        rw [hx'] at hfx
        have hd1 : d.s = 1 := by simpa using hfx
        rw [stpH_at hx', if_neg (by omega), if_neg fun hh => Proofs.Ytminmbkhlnaabaa.look_none h.good hnone hx' hd1 hh.2]
  have hkeep : ∀ k' q, k' ≠ k → (lookH (pl.set p ⟨1, k, v⟩) kl k' = some q ↔ lookH pl kl k' = some q) := fun k' q hne => by
    constructor
    · intro hl
      refine look_back h.good hl fun e => ?_
      subst e
      obtain ⟨_, _, d, hd, _, h4⟩ := lookH_some hl
      rw [List.getElem?_set_self hpl] at hd
      obtain rfl : (⟨1, k, v⟩ : PLc) = d := by simpa using hd
      exact hne h4.symm
    · intro hl
      refine look_keep hc hl (fun e => ?_) (fun _ => ?_)
      · subst e
        obtain ⟨_, _, d, hd, h3, _⟩ := lookH_some hl
        rw [hc] at hd
        obtain rfl : c = d := by simpa using hd
        exact hs h3
      · rw [stpH_set_eq hpl, if_neg (by simp), if_neg fun hh => hne hh.2.symm]
  rw [e] at hc2 ⊢
  have hwf := h.wf.put k hb v
  rw [e] at hwf
  refine ⟨hwf, fun q d hd hd1 => ?_, hc2.2 hE, by omega, by rw [List.length_set]; exact hlen, fun k' hk' => ?_⟩
  · by_cases eq : q = p
    · subst eq
      rw [List.getElem?_set_self hpl] at hd
      obtain rfl : (⟨1, k, v⟩ : PLc) = d := by simpa using hd
      exact hself
    · rw [List.getElem?_set_ne (Ne.symm eq)] at hd
      have hne : d.k ≠ k := Proofs.Ytminmbkhlnaabaa.look_none h.good hnone hd hd1
      exact (hkeep d.k q hne).2 (h.good q d hd hd1)
  · unfold mput
    by_cases ek : k' = k
    · subst ek
      rw [if_pos rfl]
      unfold getH
      rw [hself]
      simp [List.getD, List.getElem?_set_self hpl]
    · rw [if_neg ek, ← h.get k' hk']
      unfold getH
      cases hf : lookH pl kl k' with
      | none =>
        cases hf2 : lookH (pl.set p ⟨1, k, v⟩) kl k' with
        | none => rfl
        | some q => rw [(hkeep k' q ek).1 hf2] at hf; cases hf
      | some q =>
        rw [(hkeep k' q ek).2 hf]
        obtain ⟨_, _, d, hd, h3, _⟩ := lookH_some hf
        have hqp : q ≠ p := fun e => by
          subst e
          rw [hc] at hd
          obtain rfl : c = d := by simpa using hd
          exact hs h3
        simp [List.getD, List.getElem?_set_ne (Ne.symm hqp)]
theorem GH.del (h : GH kl mx pl m n) {k : List Int} (hk : k.length = kl) {v : Int} (hm : m k = some v) : GH kl mx (delH pl kl k) (mdel m k) (n - 1) ∧ 1 ≤ n := by
  obtain ⟨p, c, hl, hc, hc1, hck, _⟩ := h.look_some hk hm
  have hpl : p < pl.length := (List.getElem?_eq_some_iff.1 hc).1
  have hg : pl.getD p default = c := by simp [List.getD, hc]
  have e : delH pl kl k = pl.set p { c with s := 2 } := by unfold delH; rw [hl]; dsimp only; rw [hg]
  have hcd := cnt_del (pl := pl) (kl := kl) k
  rw [hl, h.cnt] at hcd
  have hcd' : cntH (delH pl kl k) + 1 = n := hcd
  have hle := h.le
  have hwf := h.wf.del k
  rw [e] at hcd' hwf ⊢
  have hne2 : ∀ q d, pl[q]? = some d → d.s = 1 → q ≠ p → d.k ≠ k := fun q d hd hd1 hqp ek => by
    have h1 := h.good q d hd hd1
    rw [ek, hl] at h1
    exact hqp (by simpa using h1.symm)
  have hkeep : ∀ k' q, k' ≠ k → (lookH (pl.set p { c with s := 2 }) kl k' = some q ↔ lookH pl kl k' = some q) := fun k' q hne => by
    constructor
    · intro hl'
      refine look_back h.good hl' fun e => ?_
      subst e
      obtain ⟨_, _, d, hd, h3, _⟩ := lookH_some hl'
      rw [List.getElem?_set_self hpl] at hd
      obtain rfl : ({ c with s := 2 } : PLc) = d := by simpa using hd
      exact absurd h3 (by simp)
    · intro hl'
      refine look_keep hc hl' (fun e => ?_) (fun _ => ?_)
      · subst e
        obtain ⟨_, _, d, hd, _, h4⟩ := lookH_some hl'
        rw [hc] at hd
        obtain rfl : c = d := by simpa using hd
        exact hne (by rw [← h4, hck])
      · rw [stpH_set_eq hpl]
        simp
  have hself : lookH (pl.set p { c with s := 2 }) kl k = none := by
    cases hf : lookH (pl.set p { c with s := 2 }) kl k with
    | none => rfl
    | some q =>
      exfalso
      obtain ⟨_, _, d, hd, h3, h4⟩ := lookH_some hf
      by_cases eq : q = p
      · subst eq
        rw [List.getElem?_set_self hpl] at hd
        obtain rfl : ({ c with s := 2 } : PLc) = d := by simpa using hd
        exact absurd h3 (by simp)
      · rw [List.getElem?_set_ne (Ne.symm eq)] at hd
        exact hne2 q d hd h3 eq h4
  refine ⟨⟨hwf, fun q d hd hd1 => ?_, by omega, by omega, by rw [List.length_set]; exact h.mP, fun k' hk' => ?_⟩, by omega⟩
  · by_cases eq : q = p
    · subst eq
      rw [List.getElem?_set_self hpl] at hd
      obtain rfl : ({ c with s := 2 } : PLc) = d := by simpa using hd
      exact absurd hd1 (by simp)
    · rw [List.getElem?_set_ne (Ne.symm eq)] at hd
      exact (hkeep d.k q (hne2 q d hd hd1 eq)).2 (h.good q d hd hd1)
  · unfold mdel
    by_cases ek : k' = k
    · subst ek
      rw [if_pos rfl]
      unfold getH
      rw [hself]
      rfl
    · rw [if_neg ek, ← h.get k' hk']
      unfold getH
      cases hf : lookH pl kl k' with
      | none =>
        cases hf2 : lookH (pl.set p { c with s := 2 }) kl k' with
        | none => rfl
        | some q => rw [(hkeep k' q ek).1 hf2] at hf; cases hf
      | some q =>
        rw [(hkeep k' q ek).2 hf]
        obtain ⟨_, _, d, hd, h3, h4⟩ := lookH_some hf
        have hqp : q ≠ p := fun e => by
          subst e
          rw [hc] at hd
          obtain rfl : c = d := by simpa using hd
          exact ek (by rw [← h4, hck])
        simp [List.getD, List.getElem?_set_ne (Ne.symm hqp)]
end
theorem GH.start (kl mx : Nat) (hk0 : 1 ≤ kl) (hk : kl ≤ 16) (h0 : 1 ≤ mx) (hm : mx ≤ 64) : GH kl mx (noneH kl mx) (fun _ => none) 0 := by
  have hno : ∀ (p : Nat) (c : PLc), (noneH kl mx)[p]? = some c → c.s ≠ 1 := fun p c hc => by
    have := List.eq_of_mem_replicate (List.mem_of_getElem? hc)
    subst this
    simp
  refine ⟨WfH.none kl mx hk0 hk h0 hm, fun p c hc h1 => absurd h1 (hno p c hc), cnt_none kl mx, by omega, by rw [len_none]; have := plcs_rng mx h0 hm; omega, fun k hk' => ?_⟩
  unfold getH
  cases hf : lookH (noneH kl mx) kl k with
  | none => rfl
  | some p =>
    obtain ⟨_, _, c, hc, h1, _⟩ := lookH_some hf
    exact absurd h1 (hno p c hc)
end Go.Proofs.Ytminmbkhlnaabaa
