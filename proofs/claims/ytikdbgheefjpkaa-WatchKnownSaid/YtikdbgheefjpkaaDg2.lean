/- A region with operations in a partial order, walked state by state: what stands behind each set of those that are done is told by a family; each step once. Plain theorems over any program. -/
import Derived.Test.YtikdbgheefjpkaaDag
set_option linter.unusedVariables false
set_option linter.unusedSimpArgs false
namespace Go.Sx
open Go.RowKit
section
variable {P : Program} {Q : Exit → Act → World → Prop} {n : Nat} {st : Slots} {S : Nat → Prop} {w0 : World} {H H' HC : List Res} {ι : Type}
/-- Behind a step: some state whose rest is told. -/
structure DgT (n : Nat) (S : Nat → Prop) (w0 : World) (live : ι → Slots) (res : ι → List Res) (ok : ι → Prop) (tgt : ι → List Blk) (Bs : List Blk) (a : Act) (W : World → Prop) : Prop where
  run : ∃ s jk, tgt s = Bs ∧ ok s ∧ a = fr n (live s ++ jk) ∧ ∀ w, W w → Ok S w0 (res s) w
theorem mx_dgt {ops : List Oper} {C : World → Prop} {anc : Nat → Bool} {live : ι → Slots} {res : ι → List Res} {ok : ι → Prop} {tgt : ι → List Blk} {Bs : List Blk} (s : ι) (ht : tgt s = Bs) (hok : ok s) (ha : agree (live s) st) (hH : ∀ w, Ok S w0 H w → Ok S w0 (res s) w) : MX P ops C anc (DgT n S w0 live res ok tgt Bs) [] n st S w0 H :=
  ⟨fun _ => ⟨s, st, ht, hok, (fr_agree ha).symm, hH⟩⟩
/-- What is known may be told otherwise. -/
theorem mx_weakT {ops : List Oper} {C : World → Prop} {anc : Nat → Bool} {live : ι → Slots} {res : ι → List Res} {ok : ι → Prop} {tgt : ι → List Blk} {Bs : List Blk} {l : List Nat} (hW : ∀ w, Ok S w0 H w → Ok S w0 H' w) (hC : ∀ w, Ok S w0 H' w → C w) (h : MX P ops C anc (DgT n S w0 live res ok tgt Bs) l n st S w0 H') : MX P ops C anc (DgT n S w0 live res ok tgt Bs) l n st S w0 H :=
  ⟨fun _ => mix_weakG (fun a W W' hW h => ⟨by
    obtain ⟨s, jk, h1, h2, h3, h4⟩ := h.run
    exact ⟨s, jk, h1, h2, h3, fun w hw => h4 w (hW w hw)⟩⟩) hW l _ (h.run hC)⟩
/-- Slots that stand so may be told ahead. -/
theorem mx_live {ops : List Oper} {C : World → Prop} {anc : Nat → Bool} {R : Act → (World → Prop) → Prop} {l : List Nat} (L : Slots) (ha : agree L st) (h : MX P ops C anc R l n (L ++ st) S w0 H) : MX P ops C anc R l n st S w0 H := ⟨fun hC => by
  have h1 := h.run hC
  rwa [fr_agree ha] at h1⟩
theorem agree_app : ∀ {L M st : Slots}, agree L st → agree M st → agree (L ++ M) st
  | [], _, _, _, h => h
  | (_, _) :: L, _, _, h, h' => ⟨h.1, agree_app h.2 h'⟩
theorem dagI {ops : List Oper} {C : World → Prop} {anc : Nat → Bool} {rest : List Nat} (live : ι → Slots) (res : ι → List Res) (ok : ι → Prop) (tgt : ι → List Blk) (nxt : ι → List (Blk × List Blk))
    (hn : ∀ s, ok s → rdy ops (tgt s) = nxt s) (hl : ∀ s, ok s → ∀ q ∈ nxt s, q.2.length + 1 = (tgt s).length) (hC : ∀ s w, ok s → Ok S w0 (res s) w → C w)
    (hend : ∀ s jk, ok s → tgt s = [] → MX P ops C anc (RW Q) rest n (live s ++ jk) S w0 (res s))
    (hstep : ∀ s jk, ok s → ∀ q ∈ nxt s, MX P ops C anc (DgT n S w0 live res ok tgt q.2) q.1.l n (live s ++ jk) S w0 (res s)) :
    ∀ (k : Nat) (s : ι) (jk : Slots), ok s → (tgt s).length = k → MX P ops C anc (DgW P ops C anc (RW Q) rest k (tgt s)) [] n (live s ++ jk) S w0 (res s) := by
  intro k
  induction k with
  | zero =>
    intro s jk hs hk
    have h0 := List.eq_nil_of_length_eq_zero hk
    rw [h0]
    exact mx_dag0 (Bs := []) (hend s jk hs h0)
  | succ k ih =>
    intro s jk hs hk
    refine mx_dag (nxt s) (hn s hs) fun q hq => ⟨fun hc => mix_weak' (fun a W h => ?_) q.1.l ((hstep s jk hs q hq).run hc)⟩
    obtain ⟨s', jk', ht, hok, rfl, hW⟩ := h.run
    have hk' : (tgt s').length = k := by rw [ht]; have := hl s hs q hq; omega
    have h1 := (ih s' jk' hok hk').run (hC s' · hok)
    refine ⟨blD_weak (fun a W W' hW h => mix_weakG (fun a W W' hW h w hw => h w (hW w hw)) hW rest a h) k q.2 _ W _ hW ?_⟩
    rw [← ht]
    exact h1.run
/-- Walks such a region from its first state on. -/
theorem mx_dagI {ops : List Oper} {C : World → Prop} {anc : Nat → Bool} {rest : List Nat} {k : Nat} {Bs : List Blk} (live : ι → Slots) (res : ι → List Res) (ok : ι → Prop) (tgt : ι → List Blk) (nxt : ι → List (Blk × List Blk)) (s0 : ι)
    (ht : tgt s0 = Bs) (hk : Bs.length = k) (h0 : ok s0) (ha : agree (live s0) st) (hH : ∀ w, Ok S w0 H w → Ok S w0 (res s0) w)
    (hn : ∀ s, ok s → rdy ops (tgt s) = nxt s) (hl : ∀ s, ok s → ∀ q ∈ nxt s, q.2.length + 1 = (tgt s).length) (hC : ∀ s w, ok s → Ok S w0 (res s) w → C w)
    (hend : ∀ s jk, ok s → tgt s = [] → MX P ops C anc (RW Q) rest n (live s ++ jk) S w0 (res s))
    (hstep : ∀ s jk, ok s → ∀ q ∈ nxt s, MX P ops C anc (DgT n S w0 live res ok tgt q.2) q.1.l n (live s ++ jk) S w0 (res s)) :
    MX P ops C anc (DgW P ops C anc (RW Q) rest k Bs) [] n st S w0 H := by
  subst ht
  exact mx_re (live s0) ha hH (fun w h => hC s0 w h0 h) fun jk => dagI live res ok tgt nxt hn hl hC hend hstep k s0 jk h0 hk
end
end Go.Sx
