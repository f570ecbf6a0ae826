/- Just those programs are hit that lean on something that happened: the walk of the law WatchHits. -/
import Derived.Test.YtikdbgheefjpkaaKm
set_option maxRecDepth 100000
set_option maxHeartbeats 8000000
set_option linter.unusedSimpArgs false
set_option linter.unusedVariables false
namespace Go.Proofs.Ytikdbgheefjpkaa
open Go Go.Sx Go.RowKit
theorem b32 (a : Option Addr) (n c : Nat) : Blt Try.prog 32 [(2, .slice a n c)] [.int .i64 0, .int .i64 0, .slice a n c] := ⟨by kernel_rfl⟩
/-- Events that came in. -/
structure EvL (w : World) (ad : Option Addr) (xs : List EV) : Prop where
  l : InL w ad 5 cEV xs
  k : ∀ x ∈ xs, InL w x.ka 1 cU x.v.key ∧ BytK x.v.key
theorem EvL.grow {w0 w : World} {ad : Option Addr} {xs : List EV} (h : EvL w0 ad xs) (hg : Grow w0 w) : EvL w ad xs := ⟨h.l.grow hg, fun x hx => ⟨(h.k x hx).1.grow hg, (h.k x hx).2⟩⟩
@[reducible] def opE (ad : Option Addr) (cap : Nat) (xs : List EV) : OPW := ⟨0, 0, ad, cap, xs⟩
theorem EvL.r {w : World} {ad : Option Addr} {xs : List EV} (h : EvL w ad xs) (hn : ∀ x ∈ xs, x.v.key.length ≤ 100) : EvR w ad xs := ⟨h.l, fun x hx => ⟨(h.k x hx).1, (h.k x hx).2, by have := hn x hx; omega⟩⟩
theorem opsR_one {w : World} {b : Nat} {os : List OPW} (h : (row b 32 (os.flatMap cOW)).holds w) (he : ∀ o ∈ os, EvL w o.la o.evs) : OpsR w (some ⟨b, 0, none⟩) os := ⟨row_in len_OW h, fun o ho => (he o ho).l, fun o ho => (he o ho).k⟩
theorem inl_tail {α : Type} {w : World} {ad : Option Addr} {z cap : Nat} {c : α → List Value} {x : α} {t : List α} (h : InL w ad z c (x :: t)) (hc : (x :: t).length ≤ cap) : InL w (sla ad cap 1 z) z c t := fun hne => by
  obtain ⟨b, off, e, hh⟩ := h (by simp)
  subst e
  have h1 : cap ≠ 1 := by
    have := List.length_pos_iff.2 hne
    simp at hc
    omega
  refine ⟨b, off + 1 * z, ?_, fun i y hy k v hv => ?_⟩
  · unfold sla
    rw [if_neg h1]
    simp [Addr.add]
  · have := hh (i + 1) y (by simpa using hy) k v hv
    rw [show off + 1 * z + i * z + k = off + (i + 1) * z + k by rw [Nat.add_mul]; omega]
    exact this
theorem progs_mem {L : List (Int × List VE)} {x : Int} : x ∈ progsV L ↔ ∃ q ∈ L, q.1 = x := by
  unfold progsV thoseV
  rw [srt_mem, List.mem_map]
  constructor
  · rintro ⟨q, hq, e⟩
    exact ⟨q, (List.mem_filter.1 hq).1, e⟩
  · rintro ⟨q, hq, e⟩
    exact ⟨q, List.mem_filter.2 ⟨hq, rfl⟩, e⟩
theorem those_rise {p : List VE → Bool} {L : List (Int × List VE)} (h : (L.map (·.1)).Nodup) : (thoseV p L).Pairwise (· < ·) := srt_rise (h.sublist (List.filter_sublist.map _))
theorem those_len {p : List VE → Bool} {L : List (Int × List VE)} : (thoseV p L).length ≤ L.length := by
  unfold thoseV
  rw [srt_len, List.length_map]
  exact List.length_filter_le ..
/-- Of one program. -/
structure One (hap : List EV) (A P : List Int) (p : Nat) (e : LE) (ops : List OPW) : Prop where
  ex : (e.es = [] ∧ (p : Int) ∉ A ∧ (p : Int) ∉ P) ∨ ∃ o ∈ ops, e.es = zEV :: o.evs ∧ ((brkV (hap.map EV.v) (o.evs.map EV.v) = true ∧ (p : Int) ∈ A ∧ (p : Int) ∉ P) ∨ (brkV (hap.map EV.v) (o.evs.map EV.v) = false ∧ (p : Int) ∉ A ∧ (p : Int) ∈ P))
theorem one_of {ops : List OPW} {L : List (Int × List VE)} {ls : List LE} (h : WL ops L ls) (hn : (L.map (·.1)).Nodup) (hap : List EV) {p : Nat} {e : LE} (he : ls[p]? = some e) : One hap (hitV (hap.map EV.v) L) (progsV (L.filter fun q => decide (q.1 ∉ hitV (hap.map EV.v) L))) p e ops := by
  rcases h.at' p e he with ⟨h1, h2⟩ | ⟨o, h1, h2, h3⟩
  · refine ⟨.inl ⟨h1, fun hm => ?_, fun hm => ?_⟩⟩
    · unfold hitV thoseV at hm
      rw [srt_mem] at hm
      obtain ⟨q, hq, e⟩ := List.mem_map.1 hm
      exact h2 q (List.mem_filter.1 hq).1 e
    · obtain ⟨q, hq, e⟩ := progs_mem.1 hm
      exact h2 q (List.mem_filter.1 hq).1 e
  · refine ⟨.inr ⟨o, h1, h2, ?_⟩⟩
    have hm := hit_mem hn (hap.map EV.v) h3
    cases hb : brkV (hap.map EV.v) (o.evs.map EV.v) with
    | true =>
      refine .inl ⟨rfl, hm.2 hb, fun hP => ?_⟩
      obtain ⟨q, hq, e⟩ := progs_mem.1 hP
      have := (List.mem_filter.1 hq).2
      rw [e] at this
      simp at this
      exact this (hm.2 hb)
    | false =>
      have hA : (p : Int) ∉ hitV (hap.map EV.v) L := fun h => by rw [hm.1 h] at hb; cases hb
      exact .inr ⟨rfl, hA, progs_mem.2 ⟨_, List.mem_filter.2 ⟨h3, by simpa using hA⟩, rfl⟩⟩
theorem pair_at {A : List Int} (h : A.Pairwise (· < ·)) {j : Nat} {x y : Int} (hx : A[j]? = some x) (hy : A[j + 1]? = some y) : x < y := by
  obtain ⟨h1, rfl⟩ := List.getElem?_eq_some_iff.1 hx
  obtain ⟨h2, rfl⟩ := List.getElem?_eq_some_iff.1 hy
  exact List.pairwise_iff_getElem.1 h j (j + 1) h1 h2 (by omega)
end Go.Proofs.Ytikdbgheefjpkaa
