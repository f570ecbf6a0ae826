/- What is known of forms that came in, and of those that are answered. -/
import Derived.Test.YtdkolggmabnifaaIm
import Derived.Test.YtdkolggmabnifaaOpI
set_option maxRecDepth 100000
set_option maxHeartbeats 8000000
set_option linter.unusedSimpArgs false
set_option linter.unusedVariables false
namespace Go.Proofs.Ytdkolggmabnifaa
open Go Go.Sx Go.RowKit
theorem inN_of {α : Type} {c : α → List Value} {z : Nat} (hz : ∀ x, (c x).length = z) (hp : 0 < z) {w : World} {ad : Option Addr} {xs : List α} (h : InL w ad z c xs) : InN w.heap.size w ad z c xs := ⟨h, fun hne b off e => by
  obtain ⟨b', off', e', hc⟩ := h hne
  rw [e] at e'
  obtain ⟨rfl, rfl⟩ : b = b' ∧ off = off' := by simpa using e'
  cases xs with
  | nil => exact absurd rfl hne
  | cons x xs =>
    have hx := hz x
    cases hcx : c x with
    | nil => rw [hcx] at hx; simp at hx; omega
    | cons v vs => exact World.block_lt_of_cell? w _ (hc 0 x rfl 0 v (by rw [hcx]; rfl))⟩
theorem inN_own {α : Type} {c : α → List Value} {z : Nat} (hz : ∀ x, (c x).length = z) (hp : 0 < z) {w : World} {ad : Option Addr} {cap e len : Nat} {xs : List α} (h : (ownd ad cap e z len (xs.flatMap c)).holds w) (hl : xs.length ≤ len) : InN w.heap.size w ad z c xs := inN_of hz hp (own_in hz h hl)
theorem inN_le {α : Type} {c : α → List Value} {z N M : Nat} {w : World} {ad : Option Addr} {xs : List α} (h : InN N w ad z c xs) (hm : N ≤ M) : InN M w ad z c xs := ⟨h.1, fun a b c d => Nat.lt_of_lt_of_le (h.2 a b c d) hm⟩
theorem CdP.rd {w : World} {c : CD} (h : CdP w c) (r : Rt c) : RdC w.heap.size w c := ⟨inN_of len_OP (by omega) h.o, fun x hx => ⟨inN_of len_FL (by omega) (h.os x hx).1, inN_of len_FL (by omega) (h.os x hx).2.2.1, by have := (r.os x hx).2.2.1; omega, by have := (r.os x hx).2.2.2; omega⟩, inN_of len_I (by omega) h.t, inN_of len_EV (by omega) h.e, fun x hx => ⟨inN_of len_U (by omega) (h.es x hx).1, (h.es x hx).2.2, by have := r.ks x hx; omega⟩⟩
theorem Rt.ok {c : CD} (r : Rt c) : OkC c := ⟨by have := r.ol; omega, by have := r.el; omega, fun o ho => by have := r.os o ho; have := r.ol; omega, by
  obtain ⟨a, l, h1, h2, h3⟩ := r.a0
  have := r.ol
  exact ⟨a, l, h1, h2, by omega⟩⟩
theorem Rt.okv {w : World} {c : CD} (r : Rt c) (h : CdP w c) : OkV c.vc := ⟨by show (c.ops.map _).length ≤ 400; rw [List.length_map]; exact r.ol, by show (c.evs.map _).length ≤ 100; rw [List.length_map]; have := r.el; omega, fun v hv => by
  obtain ⟨e, he, rfl⟩ := List.mem_map.1 hv
  exact (h.es e he).2.2⟩
theorem CdP.sz {w : World} {c : CD} (h : CdP w c) : c.ops.length ≤ maxLen ∧ c.at'.length ≤ maxLen ∧ c.evs.length ≤ maxLen ∧ (∀ o ∈ c.ops, o.v.held.length ≤ maxLen ∧ o.v.need.length ≤ maxLen) ∧ ∀ e ∈ c.evs, e.v.key.length ≤ maxLen := ⟨h.ol, h.tl, h.el, fun o ho => ⟨(h.os o ho).2.1, (h.os o ho).2.2.2⟩, fun e he => (h.es e he).2.1⟩
/-- What is told of a form that is answered. -/
theorem in_allF {l : List OP} {w : World} (h : (allF l).holds w) {o : OP} (ho : o ∈ l) : InL w o.ha 2 cFL o.v.held ∧ InL w o.na 2 cFL o.v.need := ⟨own_in len_FL (star_holds h (r := ownd o.ha o.hc 51 2 o.v.held.length (o.v.held.flatMap cFL)) (List.mem_flatMap.2 ⟨o, ho, by simp [RF]⟩)) (Nat.le_refl _), own_in len_FL (star_holds h (r := ownd o.na o.nc 51 2 o.v.need.length (o.v.need.flatMap cFL)) (List.mem_flatMap.2 ⟨o, ho, by simp [RF]⟩)) (Nat.le_refl _)⟩
theorem rdC_own {w : World} {a : CD} (h1 : (ownd a.oa a.oc 36 15 a.ops.length (a.ops.flatMap cOP)).holds w) (h2 : (allF a.ops).holds w) (h3 : (ownd a.ta a.tc 3 1 a.at'.length (a.at'.flatMap cI)).holds w) (h4 : (ownd a.ea a.ec 47 5 a.evs.length (a.evs.flatMap cEV)).holds w) (h5 : (allK a.evs).holds w) (ho : ∀ o ∈ a.ops, o.v.held.length ≤ 20 ∧ o.v.need.length ≤ 20) (he : ∀ e ∈ a.evs, BytK e.v.key ∧ e.v.key.length ≤ 1000) : RdC w.heap.size w a := ⟨inN_own len_OP (by omega) h1 (Nat.le_refl _), fun x hx => ⟨inN_of len_FL (by omega) (in_allF h2 hx).1, inN_of len_FL (by omega) (in_allF h2 hx).2, by have := (ho x hx).1; omega, by have := (ho x hx).2; omega⟩, inN_own len_I (by omega) h3 (Nat.le_refl _), inN_own len_EV (by omega) h4 (Nat.le_refl _), fun x hx => ⟨inN_of len_U (by omega) (inK h5 hx), he x hx⟩⟩
theorem RdC.d {N : Nat} {w : World} {c : CD} (h : RdC N w c) : RdD w c := ⟨h.o.1, fun x hx => ⟨(h.os x hx).1.1, (h.os x hx).2.1.1, (h.os x hx).2.2⟩, h.t.1, h.e.1, fun x hx => ⟨(h.es x hx).1.1, (h.es x hx).2.2⟩⟩
/-- What a form that is answered has of those it was made of: lengths, keys. -/
theorem keys_fold {l : List VE} (h : ∀ v ∈ l, BytK v.key ∧ v.key.length ≤ 100) : ∀ v ∈ l.foldl addE [], BytK v.key ∧ v.key.length ≤ 100 := fun v hv => by
  rcases fold_mem hv with h1 | h1
  · cases h1
  · exact h v h1
end Go.Proofs.Ytdkolggmabnifaa
