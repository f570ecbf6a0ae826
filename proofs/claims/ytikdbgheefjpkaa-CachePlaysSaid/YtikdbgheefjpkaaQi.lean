/- The program's cache: Put, Resize. -/
import Derived.Test.YtikdbgheefjpkaaQh
set_option maxRecDepth 100000
set_option maxHeartbeats 8000000
set_option linter.unusedSimpArgs false
set_option linter.unusedVariables false
namespace Go.Proofs.Ytikdbgheefjpkaa
open Go Go.Sx Go.RowKit
def putV (v : VC) (L : List VC) : List VC := if hasV v.prog L = true then L.map (fun y => if y.prog = v.prog then v else y) else L ++ [v]
/-- What Put answers, and leaves. -/
def putC (most : Int) (r : Int → Int) (x : VC) (L : List VC) : List Int × List VC :=
  if most = 0 then ([x.prog], delV x.prog L)
  else if ((putV x L).length : Int) ≤ most then ([], putV x L)
  else ([evV r ((progsL (putV x L)).filter fun q => decide (q ≠ x.prog))], delV (evV r ((progsL (putV x L)).filter fun q => decide (q ≠ x.prog))) (putV x L))
theorem set_map {x : VC} : ∀ {L : List VC} {j : Nat} {y : VC}, (L.map VC.prog).Nodup → L[j]? = some y → y.prog = x.prog → L.set j x = L.map fun z => if z.prog = x.prog then x else z
  | [], j, y, _, h, _ => by simp at h
  | z :: L, 0, y, hn, h, hy => by
    obtain rfl : z = y := by simpa using h
    have hn' := List.nodup_cons.1 hn
    rw [List.set_cons_zero, List.map_cons, if_pos hy]
    congr 1
    conv => lhs; rw [← List.map_id L]
    exact List.map_congr_left fun u hu => by
      have : u.prog ≠ x.prog := fun e => hn'.1 (List.mem_map.2 ⟨u, hu, e.trans hy.symm⟩)
      rw [if_neg this]
      rfl
  | z :: L, j + 1, y, hn, h, hy => by
    have hn' := List.nodup_cons.1 hn
    have h2 : L[j]? = some y := by simpa using h
    have hz : z.prog ≠ x.prog := fun e => hn'.1 (List.mem_map.2 ⟨y, List.mem_of_getElem? h2, hy.trans e.symm⟩)
    rw [List.set_cons_succ, List.map_cons, if_neg hz, set_map hn'.2 h2 hy]
theorem putV_prog {x : VC} {L : List VC} : (putV x L).map VC.prog = if hasV x.prog L = true then L.map VC.prog else L.map VC.prog ++ [x.prog] := by
  unfold putV
  by_cases h : hasV x.prog L = true
  · rw [if_pos h, if_pos h, List.map_map]
    exact List.map_congr_left fun y _ => by
      show VC.prog (if y.prog = x.prog then x else y) = y.prog
      by_cases hy : y.prog = x.prog
      · rw [if_pos hy, hy]
      · rw [if_neg hy]
  · rw [if_neg h, if_neg h, List.map_append]
    rfl
theorem hasV_iff {p : Int} {L : List VC} : hasV p L = true ↔ p ∈ L.map VC.prog := by
  unfold hasV
  rw [List.any_eq_true, List.mem_map]
  constructor
  · rintro ⟨v, hv, h⟩; exact ⟨v, hv, of_decide_eq_true h⟩
  · rintro ⟨v, hv, h⟩; exact ⟨v, hv, decide_eq_true h⟩
theorem OkC.put {L : List VC} {n : Nat} (h : OkC L n) {x : VC} (hx : OkF x) (hw : wfI x.prog) : OkC (putV x L) (n + 1) := by
  refine ⟨?_, ?_, fun v hv => ?_, fun v hv => ?_⟩
  · have := congrArg List.length (putV_prog (x := x) (L := L))
    rw [List.length_map] at this
    rw [this]
    have hl := h.len
    split <;> simp <;> omega
  · rw [putV_prog]
    split
    · exact h.nd
    · rename_i hh
      refine List.nodup_append.2 ⟨h.nd, by simp, fun a ha b hb e => ?_⟩
      obtain rfl : b = x.prog := by simpa using hb
      exact hh (hasV_iff.2 (e ▸ ha))
  all_goals (
    unfold putV at hv
    split at hv
    · obtain ⟨y, hy, rfl⟩ := List.mem_map.1 hv
      split
      · first | exact hw | exact hx
      · first | exact h.wf y hy | exact h.ok y hy
    · rcases List.mem_append.1 hv with hv | hv
      · first | exact h.wf v hv | exact h.ok v hv
      · obtain rfl := List.mem_singleton.1 hv
        first | exact hw | exact hx)
theorem stay0 {S : Nat → Prop} {w0 w w' : World} {H : List Res} (h : Ok S w0 H w) {D : Nat → Prop} (hc : Chg D w w') (j : Nat) {r : Res} (hj : H[j]? = some r) (hd : ∀ b, r.dom b → ¬ D b) : r.holds w' :=
  r.loc w w' (fun b hb => hc.old b (h.own j r hj b hb).1 (hd b hb)) (h.holds j r hj)
theorem staySplit {S : Nat → Prop} {w0 w w' : World} {L H2 : List Res} (h : Ok S w0 (L ++ H2) w) (j : Nat) {r : Res} (hj : H2[j]? = some r) (hc : Chg (domL L) w w') : r.holds w' := by
  have hj' : (L ++ H2)[L.length + j]? = some r := by rw [List.getElem?_append_right (by omega)]; simpa using hj
  refine stay0 h hc (L.length + j) hj' fun b hb hd => ?_
  obtain ⟨k, q, hk, hq⟩ := hd
  have hkl : k < L.length := (List.getElem?_eq_some_iff.1 hk).1
  exact h.sep (L.length + j) k r q hj' (by rw [List.getElem?_append_left hkl]; exact hk) (by omega) b hb hq
theorem okD_put {S : Nat → Prop} {w0 w : World} {H : List Res} {l m : List CD} {c : CD} (hs : m.Sublist l) {l' : List CD} (hp : (m ++ [c]).Perm l') (h : Ok S w0 (OCd c ++ (allD l :: H)) w) : Ok S w0 (allD l' :: H) w := by
  have h1 : Ok S w0 (allD l :: (OCd c ++ H)) w := h.perm (List.perm_middle (l₁ := OCd c) (a := allD l) (l₂ := H))
  have h2 := allD_sub hs h1
  exact allD_perm hp (allD_snoc (h2.perm (List.perm_middle (l₁ := OCd c) (a := allD m) (l₂ := H)).symm))
theorem del66o (ad : Option Addr) (cap n : Nat) (P : List Int) (x : CD) (bq : Nat) (hn : P.Nodup) (hm : x.prog ∈ P) (hl : P.length = n) (hs : n ≤ 1000000) (Q : List Int) (hQ : (P.filter fun q => decide (q ≠ x.prog)) = Q) (w : World) (hq : ∀ w', Chg (domL [ownd ad cap 3 1 n (P.flatMap cI)]) w w' → (row bq 59 (cCD x)).holds w') (h0 : Ok (domL [ownd ad cap 3 1 n (P.flatMap cI)]) w [ownd ad cap 3 1 n (P.flatMap cI)] w) :
    Calls Try.prog 66 #[.slice ad n cap, .func (.func 67) #[] #[.pointer (some ⟨bq, 0, none⟩)]] w fun e w' => ∃ u : Unit, e = .returned (.slice ad Q.length cap) ∧ Ok (domL [ownd ad cap 3 1 n (P.flatMap cI)]) w [ownd ad cap 3 1 Q.length (Q.flatMap cI)] w' := by
  subst hl
  obtain ⟨A, B, rfl⟩ := List.append_of_mem hm
  obtain ⟨b, rfl⟩ : ∃ b, ad = some ⟨b, 0, none⟩ := by
    obtain ⟨b, e, _⟩ := (own_at (h0.holds 0 _ rfl)).2.1 (by simp; omega)
    exact ⟨b, e⟩
  have h1 := (List.perm_middle (a := x.prog) (l₁ := A) (l₂ := B)).nodup_iff.1 hn
  have h2 := (List.nodup_cons.1 h1).1
  have hA : ∀ y ∈ A, y ≠ x.prog := fun y hy e => h2 (e ▸ List.mem_append_left _ hy)
  have hB : ∀ y ∈ B, y ≠ x.prog := fun y hy e => h2 (e ▸ List.mem_append_right _ hy)
  have hQ' : Q = A ++ B := by
    rw [← hQ, List.filter_append, List.filter_cons_of_neg (by simp), List.filter_eq_self.2 (fun y hy => by simpa using hA y hy), List.filter_eq_self.2 (fun y hy => by simpa using hB y hy)]
  rw [hQ']
  exact del66 b cap A B x bq hA hB hs w hq h0
end Go.Proofs.Ytikdbgheefjpkaa
