/- Numbers of cells, and how many live: plain. -/
import Derived.Test.YtfekmflnfhjebaaCv
import Derived.Test.YtfekmflnfhjebaaPk
set_option linter.unusedVariables false
set_option linter.unusedSimpArgs false
namespace Go.Proofs.Ytfekmflnfhjebaa
open Go Go.Sx Go.RowKit
def liv (cs : List PC) : Nat := (cs.filter fun c => !c.dr).length
structure Inv (cs : List PC) (L n : Nat) : Prop where
  uni : Uni cs
  ids : ∀ c ∈ cs, 1 ≤ c.id ∧ c.id ≤ L
  bs : ∀ c ∈ cs, c.bs.length ≤ 1
  liv : liv cs = n
theorem Inv.make {cs : List PC} {L n : Nat} (h : Inv cs L n) (a : Nat × Option Addr × Nat) (x : Int) : Inv (cs ++ [⟨((L + 1 : Nat) : Int), a.1, a.2.1, a.2.2, [x], 0, Bt.o, false⟩]) (L + 1) (n + 1) := by
  refine ⟨?_, fun c hc => ?_, fun c hc => ?_, ?_⟩
  · unfold Uni
    rw [List.pairwise_append]
    refine ⟨h.uni, List.pairwise_singleton _ _, fun c hc d hd => ?_⟩
    obtain rfl := List.mem_singleton.1 hd
    have := h.ids c hc
    dsimp only
    omega
  · rcases List.mem_append.1 hc with hc | hc
    · have := h.ids c hc
      omega
    · obtain rfl := List.mem_singleton.1 hc
      dsimp only
      omega
  · rcases List.mem_append.1 hc with hc | hc
    · exact h.bs c hc
    · obtain rfl := List.mem_singleton.1 hc
      exact Nat.le_refl _
  · have := h.liv
    unfold Go.Proofs.Ytfekmflnfhjebaa.liv at this ⊢
    rw [List.filter_append, List.length_append, this]
    rfl
theorem uni_kv (cs : List PC) : Uni cs ↔ ((kvC cs).map (·.1)).Pairwise (· ≠ ·) := by
  unfold Uni kvC
  rw [List.map_map, List.pairwise_map]
  rfl
theorem Inv.drop {cs : List PC} {L n : Nat} (h : Inv cs L (n + 1)) {j : Nat} {c : PC} (hj : cs[j]? = some c) (hd : c.dr = false) : Inv (cs.set j c.gon) L n := by
  have hcm := List.mem_of_getElem? hj
  refine ⟨?_, fun q hq => ?_, fun q hq => ?_, ?_⟩
  · rw [uni_kv, kvC_set (c' := c.gon) hj rfl rfl, ← uni_kv]
    exact h.uni
  · rcases List.mem_or_eq_of_mem_set hq with hq | rfl
    · exact h.ids q hq
    · exact h.ids c hcm
  · rcases List.mem_or_eq_of_mem_set hq with hq | rfl
    · exact h.bs q hq
    · exact h.bs c hcm
  · have h1 := ((perm_at hj).filter fun c => !c.dr).length_eq
    have h2 := ((perm_set (c' := c.gon) hj).filter fun c => !c.dr).length_eq
    have h3 := h.liv
    unfold Go.Proofs.Ytfekmflnfhjebaa.liv at h3 ⊢
    rw [List.filter_cons, hd] at h1
    rw [List.filter_cons, show c.gon.dr = true from rfl] at h2
    have h1' : ((cs.eraseIdx j).filter fun c => !c.dr).length + 1 = (cs.filter fun c => !c.dr).length := h1
    have h2' : ((cs.eraseIdx j).filter fun c => !c.dr).length = ((cs.set j c.gon).filter fun c => !c.dr).length := h2
    omega
theorem Inv.sweep {cs : List PC} {L n : Nat} (h : Inv cs L n) : Inv (cs.filter fun c => !c.dr) L n := by
  refine ⟨h.uni.filter _, fun c hc => h.ids c (List.mem_filter.1 hc).1, fun c hc => h.bs c (List.mem_filter.1 hc).1, ?_⟩
  have := h.liv
  unfold Go.Proofs.Ytfekmflnfhjebaa.liv at this ⊢
  rw [List.filter_filter]
  simpa using this
theorem sweep_lc {cs : List PC} {k : Int} (hu : Uni cs) (h : ∀ c, lc k cs = some c → c.dr = true) : lc k (cs.filter fun c => !c.dr) = none := by
  cases hc : lc k (cs.filter fun c => !c.dr) with
  | none => rfl
  | some c =>
    obtain ⟨h1, h2⟩ := lc_mem hc
    obtain ⟨h3, h4⟩ := List.mem_filter.1 h1
    have h5 := hu.lc c h3
    rw [h2] at h5
    have := h c h5
    rw [this] at h4
    cases h4
theorem gone_len {cs : List PC} {L : Nat} (hu : Uni cs) (hid : ∀ c ∈ cs, 1 ≤ c.id ∧ c.id ≤ L) : (goneTo cs L).length + liv cs = cs.length := by
  have hn1 : (goneTo cs L).Nodup := by
    unfold goneTo
    rw [List.nodup_iff_pairwise_ne]
    refine List.Pairwise.filter _ ?_
    rw [List.pairwise_map]
    exact (List.nodup_iff_pairwise_ne.1 List.nodup_range).imp fun hab e => hab (by omega)
  have hn2 : ((cs.filter fun c => c.dr).map (·.id)).Nodup := by
    rw [List.nodup_iff_pairwise_ne, List.pairwise_map]
    exact hu.filter _
  have hp : (goneTo cs L).Perm ((cs.filter fun c => c.dr).map (·.id)) := by
    rw [List.perm_ext_iff_of_nodup hn1 hn2]
    intro x
    constructor
    · intro hx
      unfold goneTo at hx
      have h1 := (List.mem_filter.1 hx).2
      unfold isG at h1
      cases hc : lc x cs with
      | none => rw [hc] at h1; cases h1
      | some c =>
        rw [hc] at h1
        obtain ⟨h2, h3⟩ := lc_mem hc
        exact List.mem_map.2 ⟨c, List.mem_filter.2 ⟨h2, h1⟩, h3⟩
    · intro hx
      obtain ⟨c, hc, rfl⟩ := List.mem_map.1 hx
      obtain ⟨h1, h2⟩ := List.mem_filter.1 hc
      obtain ⟨h3, h4⟩ := hid c h1
      unfold goneTo
      rw [List.mem_filter]
      refine ⟨List.mem_map.2 ⟨(c.id - 1).toNat, List.mem_range.2 (by omega), by omega⟩, ?_⟩
      unfold isG
      rw [hu.lc c h1]
      exact h2
  rw [hp.length_eq, List.length_map]
  unfold liv
  rw [← List.countP_eq_length_filter, ← List.countP_eq_length_filter, List.length_eq_countP_add_countP (fun c : PC => c.dr) (l := cs)]
  congr 1
  exact List.countP_congr fun c _ => by simp
end Go.Proofs.Ytfekmflnfhjebaa
