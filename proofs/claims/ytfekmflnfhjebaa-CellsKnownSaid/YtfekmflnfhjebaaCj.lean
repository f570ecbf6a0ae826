/- What a call of chapter 8 leaves of the program's cells, and what it answers: plain. -/
import Derived.Test.YtfekmflnfhjebaaCi
import Derived.Test.YtfekmflnfhjebaaCq
import Derived.Test.YtfekmflnfhjebaaCl
set_option linter.unusedVariables false
set_option linter.unusedSimpArgs false
namespace Go.Proofs.Ytfekmflnfhjebaa
open Go Go.Sx Go.RowKit
/-- Cells of which that of a number is another one. -/
def updC (k : Int) (f : PC → PC) (cs : List PC) : List PC := cs.map fun c => if c.id = k then f c else c
theorem updC_none {k : Int} {f : PC → PC} {cs : List PC} (h : ∀ c ∈ cs, c.id ≠ k) : updC k f cs = cs := by
  unfold updC
  conv => rhs; rw [← List.map_id cs]
  exact List.map_congr_left fun c hc => by rw [if_neg (h c hc)]; rfl
theorem set_updC {k : Int} {f : PC → PC} : ∀ {cs : List PC} {i : Nat} {c : PC}, Uni cs → cs[i]? = some c → c.id = k → cs.set i (f c) = updC k f cs
  | [], i, c, _, h, _ => by simp at h
  | a :: cs, 0, c, hu, h, hk => by
    obtain rfl : a = c := by simpa using h
    have h1 := (List.pairwise_cons.1 hu).1
    rw [List.set_cons_zero]
    show f a :: cs = (if a.id = k then f a else a) :: updC k f cs
    rw [if_pos hk, updC_none fun q hq e => h1 q hq (by rw [hk, e])]
  | a :: cs, i + 1, c, hu, h, hk => by
    have h' : cs[i]? = some c := by simpa using h
    have h1 := (List.pairwise_cons.1 hu).1
    rw [List.set_cons_succ, set_updC (List.pairwise_cons.1 hu).2 h' hk]
    show a :: updC k f cs = (if a.id = k then f a else a) :: updC k f cs
    rw [if_neg fun e => h1 c (List.mem_of_getElem? h') (by rw [hk, e])]
theorem lc_cons (k : Int) (c : PC) (cs : List PC) : lc k (c :: cs) = if c.id = k then some c else lc k cs := by
  unfold lc
  rw [List.find?_cons]
  by_cases h : c.id = k
  · rw [decide_eq_true h, if_pos h]
  · rw [decide_eq_false h, if_neg h]
theorem lc_updC (k' k : Int) (f : PC → PC) (hf : ∀ c, (f c).id = c.id) : ∀ (cs : List PC), lc k' (updC k f cs) = (lc k' cs).map fun c => if k' = k then f c else c
  | [] => rfl
  | c :: cs => by
    have ih := lc_updC k' k f hf cs
    show lc k' ((if c.id = k then f c else c) :: updC k f cs) = _
    rw [lc_cons, lc_cons, ih]
    have e : (if c.id = k then f c else c).id = c.id := by split; exact hf c; rfl
    rw [e]
    by_cases h : c.id = k'
    · rw [if_pos h, if_pos h, ← h]; rfl
    · rw [if_neg h, if_neg h]
theorem lc_snoc (k : Int) (c : PC) : ∀ (cs : List PC), lc k (cs ++ [c]) = (lc k cs).or (if c.id = k then some c else none)
  | [] => by rw [List.nil_append, lc_cons]; rfl
  | a :: cs => by
    rw [List.cons_append, lc_cons, lc_cons, lc_snoc k c cs]
    split <;> rfl
theorem lc_filter (k : Int) (p : PC → Bool) : ∀ (cs : List PC), Uni cs → lc k (cs.filter p) = (lc k cs).filter p
  | [], _ => rfl
  | c :: cs, hu => by
    have hu' := List.pairwise_cons.1 hu
    have ih := lc_filter k p cs hu'.2
    rw [lc_cons, List.filter_cons]
    by_cases h : c.id = k
    · rw [if_pos h]
      cases hp : p c with
      | true => rw [if_pos rfl, lc_cons, if_pos h, Option.filter_some, hp]; rfl
      | false =>
        rw [if_neg (by simp), ih, Option.filter_some, hp]
        cases hc : lc k cs with
        | none => rfl
        | some q =>
          obtain ⟨h1, h2⟩ := lc_mem hc
          exact absurd (h.trans h2.symm) (hu'.1 q h1)
    · rw [if_neg h]
      split
      · rw [lc_cons, if_neg h, ih]
      · exact ih
theorem uni_updC {k : Int} {f : PC → PC} (hf : ∀ c, (f c).id = c.id) {cs : List PC} (h : Uni cs) : Uni (updC k f cs) := by
  unfold Uni updC
  rw [List.pairwise_map]
  refine h.imp fun {a b} hab => ?_
  have e : ∀ c : PC, (if c.id = k then f c else c).id = c.id := fun c => by split; exact hf c; rfl
  rw [e, e]
  exact hab
theorem mem_updC {k : Int} {f : PC → PC} {cs : List PC} {c : PC} (h : c ∈ updC k f cs) : c ∈ cs ∧ c.id ≠ k ∨ ∃ d ∈ cs, d.id = k ∧ c = f d := by
  obtain ⟨d, hd, rfl⟩ := List.mem_map.1 h
  by_cases e : d.id = k
  · rw [if_pos e]; exact .inr ⟨d, hd, e, rfl⟩
  · rw [if_neg e]; exact .inl ⟨hd, e⟩
/-- Cells as they may be behind n calls. -/
structure WF (cs : List PC) (L n : Nat) : Prop where
  uni : Uni cs
  ids : ∀ c ∈ cs, 1 ≤ c.id ∧ c.id ≤ L
  le : L ≤ n
  bs : ∀ c ∈ cs, c.bs.length ≤ 64
  by' : ∀ c ∈ cs, Byts c.bs
  ok : ∀ c ∈ cs, c.bt.ok ∧ c.bt.n ≤ n ∧ c.wr ≤ n
theorem WF.nil : WF [] 0 0 := ⟨List.Pairwise.nil, fun c h => (by cases h), Nat.le_refl _, fun c h => (by cases h), fun c h => (by cases h), fun c h => (by cases h)⟩
theorem WF.mono {cs : List PC} {L n m : Nat} (h : WF cs L n) (hm : n ≤ m) : WF cs L m := ⟨h.uni, h.ids, Nat.le_trans h.le hm, h.bs, h.by', fun c hc => by have := h.ok c hc; exact ⟨this.1, by omega, by omega⟩⟩
theorem WF.len {cs : List PC} {L n : Nat} (h : WF cs L n) : cs.length ≤ L := by
  have hn : (cs.map fun c => (c.id - 1).toNat).Nodup := by
    rw [List.nodup_iff_pairwise_ne, List.pairwise_map]
    refine List.Pairwise.imp_of_mem (fun {a b} ha hb hab e => hab ?_) h.uni
    have h1 := h.ids a ha
    have h2 := h.ids b hb
    omega
  have hs : (cs.map fun c => (c.id - 1).toNat) ⊆ List.range L := fun x hx => by
    obtain ⟨c, hc, rfl⟩ := List.mem_map.1 hx
    have := h.ids c hc
    exact List.mem_range.2 (by omega)
  have hp : (cs.map fun c => (c.id - 1).toNat).Perm ((List.range L).filter fun x => decide (x ∈ cs.map fun c => (c.id - 1).toNat)) := by
    rw [List.perm_ext_iff_of_nodup hn ((List.nodup_range).filter _)]
    intro x
    rw [List.mem_filter, decide_eq_true_iff]
    exact ⟨fun hx => ⟨hs hx, hx⟩, fun hx => hx.2⟩
  have h1 := hp.length_eq
  have h2 := List.length_filter_le (fun x => decide (x ∈ cs.map fun c => (c.id - 1).toNat)) (List.range L)
  rw [List.length_range] at h2
  rw [List.length_map] at h1
  omega
theorem Byts.wr {bs : List Int} (h : Byts bs) (off nb : Nat) (v : Int) : Byts (wrB bs off (byts v nb)) := by
  intro x hx
  unfold wrB at hx
  rcases List.mem_append.1 hx with hx | hx
  · rcases List.mem_append.1 hx with hx | hx
    · exact h x (List.mem_of_mem_take hx)
    · obtain ⟨i, _, rfl⟩ := List.mem_map.1 hx
      unfold bytw
      rw [IntKind.wrap_u8]
      have h1 := Int.emod_nonneg (v / 2 ^ (8 * i)) (show (256 : Int) ≠ 0 by decide)
      have h2 := Int.emod_lt_of_pos (v / 2 ^ (8 * i)) (show (0 : Int) < 256 by decide)
      omega
  · exact h x (List.mem_of_mem_drop hx)
instance (c : PC) (off size : Int) : Decidable (fits c off size) := by unfold fits; infer_instance
def okS (o : CO) (cs : List PC) : Bool := match lc o.id cs with
  | some c => decide (fits c o.off o.size)
  | none => false
def okW (o : CO) (cs : List PC) : Bool := match lc o.id cs with
  | some c => decide (c.bs.length = o.bs.length)
  | none => false
def okD (k : Int) (cs : List PC) : Bool := match lc k cs with
  | some c => !c.dr
  | none => false
def putS (o : CO) (c : PC) : PC := c.put (wrB c.bs o.off.toNat (byts o.v o.size.toNat)) o.now
def putW (o : CO) (c : PC) : PC := c.put o.bs o.now
@[reducible] def newC (L : Nat) (a : Nat × Option Addr × Nat) (bs : List Int) : PC := ⟨((L + 1 : Nat) : Int), a.1, a.2.1, a.2.2, bs.take 64, 0, Bt.o, false⟩
def stpS (o : CO) (cs : List PC) : List PC := if okS o cs = true then updC o.id (putS o) cs else cs
def stpW (o : CO) (cs : List PC) : List PC := if okW o cs = true then updC o.id (putW o) cs else cs
def stpD (k : Int) (cs : List PC) : List PC := if okD k cs = true then updC k PC.gon cs else cs
def stpC (o : CO) (a : Nat × Option Addr × Nat) (cs : List PC) (L : Nat) : List PC :=
  if o.kind = 0 then cs ++ [newC L a o.bs] else if o.kind = 2 then stpS o cs else if o.kind = 3 then stpW o cs else if o.kind = 4 then stpD o.id cs else if o.kind = 5 then cs.filter (fun c => !c.dr) else cs
def stpL (o : CO) (L : Nat) : Nat := if o.kind = 0 then L + 1 else L
theorem okS_some {o : CO} {cs : List PC} (h : okS o cs = true) : ∃ c, lc o.id cs = some c ∧ fits c o.off o.size := by
  unfold okS at h
  cases hc : lc o.id cs with
  | none => rw [hc] at h; cases h
  | some c => rw [hc] at h; exact ⟨c, rfl, by simpa using h⟩
theorem okS_not {o : CO} {cs : List PC} (h : okS o cs = false) : ∀ c, lc o.id cs = some c → ¬ fits c o.off o.size := fun c hc => by
  unfold okS at h
  rw [hc] at h
  simpa using h
theorem okW_some {o : CO} {cs : List PC} (h : okW o cs = true) : ∃ c, lc o.id cs = some c ∧ c.bs.length = o.bs.length := by
  unfold okW at h
  cases hc : lc o.id cs with
  | none => rw [hc] at h; cases h
  | some c => rw [hc] at h; exact ⟨c, rfl, by simpa using h⟩
theorem okW_not {o : CO} {cs : List PC} (h : okW o cs = false) : ∀ c, lc o.id cs = some c → c.bs.length ≠ o.bs.length := fun c hc => by
  unfold okW at h
  rw [hc] at h
  simpa using h
theorem okD_some {k : Int} {cs : List PC} (h : okD k cs = true) : ∃ c, lc k cs = some c ∧ c.dr = false := by
  unfold okD at h
  cases hc : lc k cs with
  | none => rw [hc] at h; cases h
  | some c => rw [hc] at h; exact ⟨c, rfl, by simpa using h⟩
theorem okD_not {k : Int} {cs : List PC} (h : okD k cs = false) : ∀ c, lc k cs = some c → c.dr = true := fun c hc => by
  unfold okD at h
  rw [hc] at h
  simpa using h
theorem put_ok {c : PC} {n : Nat} (h : c.bt.ok ∧ c.bt.n ≤ n ∧ c.wr ≤ n) (xs : List Int) (now : Int) : (c.put xs now).bt.ok ∧ (c.put xs now).bt.n ≤ n + 1 ∧ (c.put xs now).wr ≤ n + 1 := by
  obtain ⟨h1, h2, h3⟩ := h
  refine ⟨Bt.wr_ok h1 now, ?_, ?_⟩
  · show c.bt.n + 1 ≤ n + 1
    omega
  · show c.wr + 1 ≤ n + 1
    omega
theorem WF.upd {cs : List PC} {L n : Nat} (h : WF cs L n) (k : Int) (f : PC → PC) (hf : ∀ c, (f c).id = c.id) (hb : ∀ c, lc k cs = some c → (f c).bs.length ≤ 64 ∧ Byts (f c).bs ∧ (f c).bt.ok ∧ (f c).bt.n ≤ n + 1 ∧ (f c).wr ≤ n + 1) : WF (updC k f cs) L (n + 1) := by
  have key : ∀ c ∈ updC k f cs, (c ∈ cs) ∨ ∃ d, lc k cs = some d ∧ d ∈ cs ∧ c = f d := fun c hc => by
    rcases mem_updC hc with ⟨h1, _⟩ | ⟨d, h1, h2, h3⟩
    · exact .inl h1
    · exact .inr ⟨d, by rw [← h2]; exact h.uni.lc d h1, h1, h3⟩
  refine ⟨uni_updC hf h.uni, fun c hc => ?_, by have := h.le; omega, fun c hc => ?_, fun c hc => ?_, fun c hc => ?_⟩
  all_goals rcases key c hc with h1 | ⟨d, h1, h2, rfl⟩
  · exact h.ids c h1
  · rw [hf]; exact h.ids d h2
  · exact h.bs c h1
  · exact (hb d h1).1
  · exact h.by' c h1
  · exact (hb d h1).2.1
  · have := h.ok c h1; exact ⟨this.1, by omega, by omega⟩
  · exact (hb d h1).2.2
theorem WF.make {cs : List PC} {L n : Nat} (h : WF cs L n) (a : Nat × Option Addr × Nat) {bs : List Int} (hb : Byts bs) : WF (cs ++ [newC L a bs]) (L + 1) (n + 1) := by
  have key : ∀ c ∈ cs ++ [newC L a bs], c ∈ cs ∨ c = newC L a bs := fun c hc => by
    rcases List.mem_append.1 hc with hc | hc
    · exact .inl hc
    · exact .inr (List.mem_singleton.1 hc)
  refine ⟨?_, fun c hc => ?_, by have := h.le; omega, fun c hc => ?_, fun c hc => ?_, fun c hc => ?_⟩
  · unfold Uni
    rw [List.pairwise_append]
    refine ⟨h.uni, List.pairwise_singleton _ _, fun c hc d hd => ?_⟩
    obtain rfl := List.mem_singleton.1 hd
    have := h.ids c hc
    dsimp only
    omega
  all_goals rcases key c hc with h1 | rfl
  · have := h.ids c h1; omega
  · dsimp only; omega
  · exact h.bs c h1
  · rw [List.length_take]; omega
  · exact h.by' c h1
  · exact take_byts hb 64
  · have := h.ok c h1; exact ⟨this.1, by omega, by omega⟩
  · exact ⟨by show (0 : Int).natAbs + (0 : Int).natAbs ≤ 0; decide, by show 0 ≤ n + 1; omega, by show 0 ≤ n + 1; omega⟩
theorem WF.sweep {cs : List PC} {L n : Nat} (h : WF cs L n) : WF (cs.filter fun c => !c.dr) L n :=
  ⟨h.uni.filter _, fun c hc => h.ids c (List.mem_filter.1 hc).1, h.le, fun c hc => h.bs c (List.mem_filter.1 hc).1, fun c hc => h.by' c (List.mem_filter.1 hc).1, fun c hc => h.ok c (List.mem_filter.1 hc).1⟩
theorem WF.step {cs : List PC} {L n : Nat} (h : WF cs L n) (o : CO) (a : Nat × Option Addr × Nat) (hb : Byts o.bs) : WF (stpC o a cs L) (stpL o L) (n + 1) := by
  unfold stpC stpL
  by_cases k0 : o.kind = 0
  · rw [if_pos k0, if_pos k0]; exact h.make a hb
  rw [if_neg k0, if_neg k0]
  by_cases k2 : o.kind = 2
  · rw [if_pos k2]
    unfold stpS
    split
    · rename_i hs
      refine h.upd _ _ (fun c => rfl) fun c hc => ?_
      obtain ⟨c', hc', hf⟩ := okS_some hs
      rw [hc] at hc'
      obtain rfl := Option.some.inj hc'
      have hm := (lc_mem hc).1
      refine ⟨?_, (h.by' c hm).wr _ _ _, put_ok (h.ok c hm) _ _⟩
      show (wrB c.bs o.off.toNat (byts o.v o.size.toNat)).length ≤ 64
      obtain ⟨f1, f2, f3⟩ := hf
      rw [wrB_len (by rw [byts_len]; omega)]
      exact h.bs c hm
    · exact h.mono (by omega)
  rw [if_neg k2]
  by_cases k3 : o.kind = 3
  · rw [if_pos k3]
    unfold stpW
    split
    · rename_i hs
      refine h.upd _ _ (fun c => rfl) fun c hc => ?_
      obtain ⟨c', hc', hf⟩ := okW_some hs
      rw [hc] at hc'
      obtain rfl := Option.some.inj hc'
      have hm := (lc_mem hc).1
      have := h.bs c hm
      exact ⟨by show o.bs.length ≤ 64; omega, hb, put_ok (h.ok c hm) _ _⟩
    · exact h.mono (by omega)
  rw [if_neg k3]
  by_cases k4 : o.kind = 4
  · rw [if_pos k4]
    unfold stpD
    split
    · refine h.upd _ _ (fun c => rfl) fun c hc => ?_
      have hm := (lc_mem hc).1
      have := h.ok c hm
      exact ⟨h.bs c hm, h.by' c hm, this.1, by show c.bt.n ≤ n + 1; omega, by show c.wr ≤ n + 1; omega⟩
    · exact h.mono (by omega)
  rw [if_neg k4]
  by_cases k5 : o.kind = 5
  · rw [if_pos k5]; exact h.sweep.mono (by omega)
  · rw [if_neg k5]; exact h.mono (by omega)
/-- What is read of a number in a cell. -/
def ldB (k off size : Int) (cs : List PC) : Bool := match lc k cs with
  | some c => decide (fits c off size)
  | none => false
def ldV (k off size : Int) (cs : List PC) : Int := match lc k cs with
  | some c => if fits c off size then numB ((c.bs.drop off.toNat).take size.toNat) else 0
  | none => 0
theorem ldB_some {k off size : Int} {cs : List PC} (h : ldB k off size cs = true) : ∃ c, lc k cs = some c ∧ fits c off size := by
  unfold ldB at h
  cases hc : lc k cs with
  | none => rw [hc] at h; cases h
  | some c => rw [hc] at h; exact ⟨c, rfl, by simpa using h⟩
theorem ldB_not {k off size : Int} {cs : List PC} (h : ldB k off size cs = false) : ∀ c, lc k cs = some c → ¬ fits c off size := fun c hc => by
  unfold ldB at h
  rw [hc] at h
  simpa using h
theorem ldV_not {k off size : Int} {cs : List PC} (h : ldB k off size cs = false) : ldV k off size cs = 0 := by
  have h1 := ldB_not h
  unfold ldV
  cases hc : lc k cs with
  | none => rfl
  | some c => exact if_neg (h1 c hc)
theorem ldV_some {k off size : Int} {cs : List PC} {c : PC} (hc : lc k cs = some c) (hf : fits c off size) : ldV k off size cs = numB ((c.bs.drop off.toNat).take size.toNat) := by
  unfold ldV
  rw [hc]
  exact if_pos hf
/-! ### How many live -/
theorem liv_upd {k : Int} {f : PC → PC} (hf : ∀ c, (f c).dr = c.dr) (cs : List PC) : liv (updC k f cs) = liv cs := by
  unfold liv updC
  rw [List.filter_map, List.length_map]
  congr 1
  refine List.filter_congr fun c _ => ?_
  simp only [Function.comp]
  split
  · rw [hf]
  · rfl
theorem liv_cons (c : PC) (cs : List PC) : liv (c :: cs) = (if c.dr = true then 0 else 1) + liv cs := by
  unfold liv
  rw [List.filter_cons]
  cases c.dr <;> simp <;> omega
theorem liv_gon : ∀ {cs : List PC} {k : Int} {c : PC}, Uni cs → lc k cs = some c → c.dr = false → liv (updC k PC.gon cs) + 1 = liv cs
  | [], _, _, _, h, _ => by cases h
  | a :: cs, k, c, hu, h, hd => by
    have hu' := List.pairwise_cons.1 hu
    rw [lc_cons] at h
    show liv ((if a.id = k then PC.gon a else a) :: updC k PC.gon cs) + 1 = _
    by_cases e : a.id = k
    · rw [if_pos e] at h ⊢
      obtain rfl := Option.some.inj h
      rw [updC_none fun q hq e2 => hu'.1 q hq (by rw [e, e2]), liv_cons, liv_cons, hd]
      show (if (PC.gon a).dr = true then 0 else 1) + liv cs + 1 = _
      rw [show (PC.gon a).dr = true from rfl]
      simp
      omega
    · rw [if_neg e] at h ⊢
      have := liv_gon hu'.2 h hd
      rw [liv_cons, liv_cons]
      omega
theorem liv_sweep (cs : List PC) : liv (cs.filter fun c => !c.dr) = liv cs := by
  unfold liv
  rw [List.filter_filter]
  simp
theorem liv_snoc (cs : List PC) (c : PC) (h : c.dr = false) : liv (cs ++ [c]) = liv cs + 1 := by
  unfold liv
  rw [List.filter_append, List.length_append]
  simp [h]
/-- How many live behind a call. -/
theorem liv_stp {cs : List PC} {L n : Nat} (h : WF cs L n) (o : CO) (a : Nat × Option Addr × Nat) (hk : o.kind ≠ 0) : liv (stpC o a cs L) + (if o.kind = 4 ∧ okD o.id cs = true then 1 else 0) = liv cs := by
  unfold stpC
  rw [if_neg hk]
  by_cases k2 : o.kind = 2
  · rw [if_pos k2, if_neg (by omega)]
    unfold stpS
    split
    · exact liv_upd (f := putS o) (fun c => rfl) cs
    · rfl
  rw [if_neg k2]
  by_cases k3 : o.kind = 3
  · rw [if_pos k3, if_neg (by omega)]
    unfold stpW
    split
    · exact liv_upd (f := putW o) (fun c => rfl) cs
    · rfl
  rw [if_neg k3]
  by_cases k4 : o.kind = 4
  · rw [if_pos k4]
    unfold stpD
    cases hd : okD o.id cs with
    | true =>
      obtain ⟨c, h1, h2⟩ := okD_some hd
      have := liv_gon h.uni h1 h2
      simp only [if_true, k4, and_self]
      omega
    | false => simp
  rw [if_neg k4, if_neg (c := o.kind = 4 ∧ okD o.id cs = true) fun h => k4 h.1]
  split
  · exact liv_sweep cs
  · rfl
theorem wrB_len' {c : PC} {o : CO} (hf : fits c o.off o.size) : (putS o c).bs.length = c.bs.length := by
  obtain ⟨f1, f2, f3⟩ := hf
  exact wrB_len (by rw [byts_len]; omega)
/-- What a call leaves of a cell. -/
theorem lc_stp {cs : List PC} {L n : Nat} (h : WF cs L n) (o : CO) (a : Nat × Option Addr × Nat) (k : Int) : lc k (stpC o a cs L) =
    if o.kind = 0 then (lc k cs).or (if ((L + 1 : Nat) : Int) = k then some (newC L a o.bs) else none)
    else if o.kind = 5 then (lc k cs).filter (fun c => !c.dr)
    else (lc k cs).map fun c => if k = o.id then (if o.kind = 2 ∧ okS o cs = true then putS o c else if o.kind = 3 ∧ okW o cs = true then putW o c else if o.kind = 4 ∧ okD o.id cs = true then c.gon else c) else c := by
  have hid : ∀ x : Option PC, x = x.map fun c => c := fun x => by cases x <;> rfl
  unfold stpC
  by_cases k0 : o.kind = 0
  · rw [if_pos k0, if_pos k0, lc_snoc]
  rw [if_neg k0, if_neg k0]
  by_cases k2 : o.kind = 2
  · rw [if_pos k2, if_neg (by omega)]
    unfold stpS
    cases hs : okS o cs with
    | true => rw [if_pos rfl, lc_updC k o.id (putS o) (fun c => rfl)]; simp only [k2, and_self, if_true]
    | false => simp only [k2, Bool.false_eq_true, and_false, if_false, ite_self]; simp
  rw [if_neg k2]
  by_cases k3 : o.kind = 3
  · rw [if_pos k3, if_neg (by omega)]
    unfold stpW
    cases hs : okW o cs with
    | true => rw [if_pos rfl, lc_updC k o.id (putW o) (fun c => rfl)]; simp [k3]
    | false => simp [k3]
  rw [if_neg k3]
  by_cases k4 : o.kind = 4
  · rw [if_pos k4, if_neg (by omega)]
    unfold stpD
    cases hs : okD o.id cs with
    | true => rw [if_pos rfl, lc_updC k o.id PC.gon (fun c => rfl)]; simp [k4]
    | false => simp [k4]
  rw [if_neg k4]
  by_cases k5 : o.kind = 5
  · rw [if_pos k5, if_pos k5, lc_filter _ _ _ h.uni]
  · rw [if_neg k5, if_neg k5]
    simp [k2, k3, k4]
end Go.Proofs.Ytfekmflnfhjebaa
