/- The program's cells and the document's: the same, plain. -/
import Derived.Test.YtfekmflnfhjebaaXe
import Derived.Test.YtfekmflnfhjebaaCu
set_option linter.unusedVariables false
set_option linter.unusedSimpArgs false
namespace Go.Proofs.Ytfekmflnfhjebaa
open Go Go.Sx Go.RowKit
/-- A cell of the program and one of the document. -/
structure Pair (c : PC) (m : MC) : Prop where
  bs : c.bs = m.bs
  wr : c.wr = m.wr
  bt : c.bt = wrs m.ts
  dr : c.dr = m.gone
structure Rl8 (cs : List PC) (ms : List MC) (L n : Nat) : Prop where
  wf : WF cs L n
  len : ms.length = L
  at' : ∀ j m, ms[j]? = some m → (m.swept = true → lc ((j + 1 : Nat) : Int) cs = none ∧ m.gone = true) ∧ (m.swept = false → ∃ c, lc ((j + 1 : Nat) : Int) cs = some c ∧ Pair c m)
  ok : ∀ m ∈ ms, m.ts.length ≤ n ∧ m.wr ≤ n ∧ m.bs.length ≤ 64 ∧ Byts m.bs
  c1 : liv cs = ms.countP fun m => !m.gone
  c2 : cs.length = ms.countP fun m => !m.swept
theorem Rl8.nil : Rl8 [] [] 0 0 := ⟨WF.nil, rfl, fun j m h => by simp at h, fun m h => (by cases h), rfl, rfl⟩
theorem Rl8.find {cs : List PC} {ms : List MC} {L n : Nat} (h : Rl8 cs ms L n) (k : Int) : (lc k cs = none ∧ NoM ms k) ∨ ∃ j m c, ThM ms k j m ∧ lc k cs = some c ∧ Pair c m ∧ k = ((j + 1 : Nat) : Int) := by
  have hout : (k < 1 ∨ (ms.length : Int) < k) → lc k cs = none := fun hk => by
    cases hc : lc k cs with
    | none => rfl
    | some c =>
      obtain ⟨h1, h2⟩ := lc_mem hc
      have h3 := h.wf.ids c h1
      have h4 := h.len
      omega
  rcases th_or ms k with hn | ⟨j, m, ht⟩
  · refine .inl ⟨?_, hn⟩
    rcases hn with h1 | h1 | ⟨j, m, h1, h2, h3⟩
    · exact hout (.inl h1)
    · exact hout (.inr h1)
    · have := ((h.at' j m h1).1 h3).1
      rwa [show k = ((j + 1 : Nat) : Int) by omega]
  · obtain ⟨h1, h2, h3⟩ := ht
    obtain ⟨c, hc, hp⟩ := (h.at' j m h1).2 h3
    have e : k = ((j + 1 : Nat) : Int) := by omega
    exact .inr ⟨j, m, c, ⟨h1, h2, h3⟩, by rw [e]; exact hc, hp, e⟩
theorem countP_set' {α : Type} {p : α → Bool} {xs : List α} {j : Nat} {x : α} (hj : xs[j]? = some x) (y : α) : (xs.set j y).countP p + (if p x = true then 1 else 0) = xs.countP p + if p y = true then 1 else 0 := by
  obtain ⟨h1, h2⟩ := list_cut hj
  rw [h2 y]
  conv => rhs; rw [h1]
  rw [List.countP_append, List.countP_append, List.countP_cons, List.countP_cons]
  omega
theorem Rl8.mono {cs : List PC} {ms : List MC} {L n k : Nat} (h : Rl8 cs ms L n) (hk : n ≤ k) : Rl8 cs ms L k :=
  ⟨h.wf.mono hk, h.len, h.at', fun m hm => by have := h.ok m hm; exact ⟨by omega, by omega, this.2.2⟩, h.c1, h.c2⟩
theorem Rl8.make {cs : List PC} {ms : List MC} {L n : Nat} (h : Rl8 cs ms L n) (a : Nat × Option Addr × Nat) (b : Option Addr × Nat) {bs : List Int} (hb : Byts bs) : Rl8 (cs ++ [newC L a bs]) (ms ++ [nMC b (bs.take 64)]) (L + 1) (n + 1) := by
  have hl := h.len
  refine ⟨h.wf.make a hb, by simp [hl], fun j m hj => ?_, fun m hm => ?_, ?_, ?_⟩
  · rw [lc_snoc]
    by_cases hjl : j < ms.length
    · rw [List.getElem?_append_left hjl] at hj
      have h1 := h.at' j m hj
      have h2 : ¬ (newC L a bs).id = ((j + 1 : Nat) : Int) := by show ¬ ((L + 1 : Nat) : Int) = _; omega
      rw [if_neg h2]
      constructor
      · intro hs
        rw [(h1.1 hs).1]
        exact ⟨rfl, (h1.1 hs).2⟩
      · intro hs
        obtain ⟨c, hc, hp⟩ := h1.2 hs
        rw [hc]
        exact ⟨c, rfl, hp⟩
    · have hj2 : j = ms.length := by
        have := (List.getElem?_eq_some_iff.1 hj).1
        simp at this
        omega
      subst hj2
      obtain rfl : nMC b (bs.take 64) = m := by simpa using hj
      have e1 : lc ((ms.length + 1 : Nat) : Int) cs = none := by
        cases hc : lc ((ms.length + 1 : Nat) : Int) cs with
        | none => rfl
        | some c =>
          obtain ⟨h1, h2⟩ := lc_mem hc
          have h3 := h.wf.ids c h1
          omega
      rw [e1, if_pos (by show ((L + 1 : Nat) : Int) = _; omega)]
      exact ⟨fun hs => (by cases hs), fun _ => ⟨_, rfl, ⟨rfl, rfl, rfl, rfl⟩⟩⟩
  · rcases List.mem_append.1 hm with hm | hm
    · have := h.ok m hm
      exact ⟨by omega, by omega, this.2.2⟩
    · obtain rfl := List.mem_singleton.1 hm
      exact ⟨Nat.zero_le _, Nat.zero_le _, by show (bs.take 64).length ≤ 64; rw [List.length_take]; omega, take_byts hb 64⟩
  · rw [List.countP_append, ← h.c1]
    unfold liv
    rw [List.filter_append, List.length_append]
    rfl
  · rw [List.countP_append, ← h.c2, List.length_append]
    rfl
theorem Rl8.upd {cs : List PC} {ms : List MC} {L n : Nat} (h : Rl8 cs ms L n) {k : Int} {j : Nat} {m m' : MC} {c : PC} {f : PC → PC} (ht : ThM ms k j m) (hc : lc k cs = some c) (hf : ∀ c, (f c).id = c.id) (hwf : WF (updC k f cs) L (n + 1)) (hp : Pair (f c) m') (hs : m'.swept = false) (hk : m'.ts.length ≤ n + 1 ∧ m'.wr ≤ n + 1 ∧ m'.bs.length ≤ 64 ∧ Byts m'.bs) (hl : liv (updC k f cs) + (if (!m.gone) = true then 1 else 0) = liv cs + if (!m'.gone) = true then 1 else 0) : Rl8 (updC k f cs) (ms.set j m') L (n + 1) := by
  obtain ⟨hj, hkj, hsw⟩ := ht
  have hlt := (List.getElem?_eq_some_iff.1 hj).1
  refine ⟨hwf, by rw [List.length_set]; exact h.len, fun i x hi => ?_, fun x hx => ?_, ?_, ?_⟩
  · rw [lc_updC _ _ _ hf]
    by_cases e : i = j
    · subst e
      rw [List.getElem?_set_self hlt] at hi
      obtain rfl := Option.some.inj hi
      rw [show ((i + 1 : Nat) : Int) = k by omega, hc]
      exact ⟨fun h2 => (by rw [hs] at h2; cases h2), fun _ => ⟨f c, by simp, hp⟩⟩
    · rw [List.getElem?_set_ne (fun e' => e e'.symm)] at hi
      have h1 := h.at' i x hi
      have e2 : ¬ ((i + 1 : Nat) : Int) = k := by omega
      constructor
      · intro h2
        rw [(h1.1 h2).1]
        exact ⟨rfl, (h1.1 h2).2⟩
      · intro h2
        obtain ⟨d, hd, hp2⟩ := h1.2 h2
        rw [hd]
        exact ⟨d, by rw [Option.map_some, if_neg e2], hp2⟩
  · rcases List.mem_or_eq_of_mem_set hx with h1 | rfl
    · have := h.ok x h1
      exact ⟨by omega, by omega, this.2.2⟩
    · exact hk
  · have := countP_set' (p := fun m : MC => !m.gone) hj m'
    have := h.c1
    omega
  · have h1 := countP_set' (p := fun m : MC => !m.swept) hj m'
    rw [hs, hsw] at h1
    have h2 := h.c2
    have h3 : (updC k f cs).length = cs.length := by unfold updC; rw [List.length_map]
    simp at h1
    omega
theorem swp_g (m : MC) : (swp m).gone = m.gone := by unfold swp; split <;> rfl
theorem Rl8.sweep {cs : List PC} {ms : List MC} {L n : Nat} (h : Rl8 cs ms L n) : Rl8 (cs.filter fun c => !c.dr) (ms.map swp) L n := by
  refine ⟨h.wf.sweep, by rw [List.length_map]; exact h.len, fun j x hj => ?_, fun x hx => ?_, ?_, ?_⟩
  · rw [List.getElem?_map] at hj
    obtain ⟨m, hm, rfl⟩ := Option.map_eq_some_iff.1 hj
    have h1 := h.at' j m hm
    rw [lc_filter _ _ _ h.wf.uni]
    cases hs : m.swept with
    | true =>
      have h2 := h1.1 hs
      have e : swp m = m := by unfold swp; rw [hs]; simp
      rw [e, h2.1]
      exact ⟨fun _ => ⟨rfl, h2.2⟩, fun h3 => (by rw [hs] at h3; cases h3)⟩
    | false =>
      obtain ⟨c, hc, hp⟩ := h1.2 hs
      rw [hc]
      have hd := hp.dr
      cases hg : m.gone with
      | true =>
        have e : swp m = m.sw := by unfold swp; rw [hs, hg]; rfl
        rw [hg] at hd
        rw [e, Option.filter_some, hd]
        exact ⟨fun _ => ⟨rfl, hg⟩, fun h3 => (by cases h3)⟩
      | false =>
        have e : swp m = m := by unfold swp; rw [hs, hg]; rfl
        rw [hg] at hd
        rw [e, Option.filter_some, hd]
        exact ⟨fun h3 => (by rw [hs] at h3; cases h3), fun _ => ⟨c, rfl, hp⟩⟩
  · obtain ⟨m, hm, rfl⟩ := List.mem_map.1 hx
    have e : (swp m).ts = m.ts ∧ (swp m).wr = m.wr ∧ (swp m).bs = m.bs := by unfold swp; split <;> exact ⟨rfl, rfl, rfl⟩
    rw [e.1, e.2.1, e.2.2]
    exact h.ok m hm
  · rw [liv_sweep, h.c1, List.countP_map]
    exact List.countP_congr fun m _ => by simp [swp_g]
  · have e : (cs.filter fun c => !c.dr).length = liv cs := rfl
    rw [e, h.c1, List.countP_map]
    refine List.countP_congr fun m hm => ?_
    obtain ⟨j, hj⟩ := List.mem_iff_getElem?.1 hm
    have h1 := h.at' j m hj
    simp only [Function.comp, Bool.not_eq_true']
    unfold swp
    cases hs : m.swept with
    | true => rw [(h1.1 hs).2]; simp [hs]
    | false => cases hg : m.gone <;> simp [hs, MC.sw]
theorem Rl8.cnt {cs : List PC} {ms : List MC} {L n : Nat} (h : Rl8 cs ms L n) : (goneTo cs L).length = cntG ms := by
  have h1 := gone_len h.wf.uni h.wf.ids
  have h2 := h.c1
  have h3 := h.c2
  have key : ∀ l : List MC, (∀ m ∈ l, m.swept = true → m.gone = true) → cntG l + l.countP (fun m => !m.gone) = l.countP fun m => !m.swept := by
    intro l
    induction l with
    | nil => intro _; rfl
    | cons m l ih =>
      intro hl
      have ih := ih fun x hx => hl x (by simp [hx])
      have hm := hl m (by simp)
      unfold cntG at ih ⊢
      rw [List.countP_cons, List.countP_cons, List.countP_cons]
      cases hs : m.swept with
      | true => rw [hm hs]; simp; omega
      | false => cases hg : m.gone <;> simp <;> omega
  have h4 := key ms fun m hm hs => by
    obtain ⟨j, hj⟩ := List.mem_iff_getElem?.1 hm
    exact ((h.at' j m hj).1 hs).2
  omega
/-! ### What is told of a cell -/
def bsM (k : Int) (cs : List PC) : List Int := bsOf k cs
theorem Rl8.bsl {cs : List PC} {ms : List MC} {L n : Nat} (h : Rl8 cs ms L n) (k : Int) : (bsOf k cs).length ≤ 64 := by
  unfold bsOf
  cases hc : lc k cs with
  | none => exact Nat.zero_le _
  | some c => exact h.wf.bs c (lc_mem hc).1
theorem ldV_none {k off size : Int} {cs : List PC} (h : lc k cs = none) : ldV k off size cs = 0 ∧ ldB k off size cs = false := by
  unfold ldV ldB
  rw [h]
  exact ⟨rfl, rfl⟩
end Go.Proofs.Ytfekmflnfhjebaa
