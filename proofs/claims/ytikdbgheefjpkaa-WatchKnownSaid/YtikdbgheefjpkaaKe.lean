/- The program's watch: a map of lists of events; its methods. -/
import Derived.Test.YtikdbgheefjpkaaKd
import Derived.Test.YtikdbgheefjpkaaSrt
import Derived.Test.YtikdbgheefjpkaaOb2
set_option maxRecDepth 100000
set_option maxHeartbeats 8000000
set_option linter.unusedSimpArgs false
set_option linter.unusedVariables false
namespace Go.Proofs.Ytikdbgheefjpkaa
open Go Go.Sx Go.RowKit
theorem mt78 : MapT Try.prog 78 (.slice none 0 0) := ⟨⟨3, 29, by kernel_rfl, by kernel_rfl, fun _ => rfl⟩⟩
theorem b80 (m : Nat) : Blt Try.prog 80 [(0, .map (some m))] [.map (some m)] := ⟨by kernel_rfl⟩
/-- What is known of a program: on what it leans. -/
structure WE where
  k : Int
  ad : Option Addr
  cap : Nat
  evs : List EV
  deriving Inhabited
def WE.vs (e : WE) : List VE := e.evs.map (·.v)
def WE.vw (e : WE) : Int × List VE := (e.k, e.vs)
def wV (e : WE) : Int × Value := (e.k, .slice e.ad e.evs.length e.cap)
def RE (e : WE) : List Res := [ownd e.ad e.cap 49 5 e.evs.length (e.evs.flatMap cEV), allK e.evs]
def allW (l : List WE) : Res := star (l.flatMap RE)
theorem allW_nil {S : Nat → Prop} {w0 w : World} {H : List Res} (h : Ok S w0 H w) : Ok S w0 (allW [] :: H) w := Ok.star (L := []) h
theorem allW_snoc {S : Nat → Prop} {w0 w : World} {H : List Res} {l : List WE} {e : WE} (h : Ok S w0 (ownd e.ad e.cap 49 5 e.evs.length (e.evs.flatMap cEV) :: allK e.evs :: allW l :: H) w) : Ok S w0 (allW (l ++ [e]) :: H) w := by
  have h1 := star_snoc (L1 := l.flatMap RE) (L2 := RE e) (H := H) h
  unfold allW
  rw [List.flatMap_append]
  simpa [RE] using h1
theorem allW_perm {S : Nat → Prop} {w0 w : World} {H : List Res} {l l' : List WE} (hp : l.Perm l') (h : Ok S w0 (allW l :: H) w) : Ok S w0 (allW l' :: H) w :=
  Ok.star ((Ok.unstar h).perm ((hp.flatMap_right RE).append_right H))
theorem flatMap_sub {α β : Type} (f : α → List β) : ∀ {l l' : List α}, l'.Sublist l → (l'.flatMap f).Sublist (l.flatMap f)
  | _, _, .slnil => by simp
  | _, _, .cons x h => by
    rw [List.flatMap_cons]
    exact (flatMap_sub f h).trans (List.sublist_append_right _ _)
  | _, _, .cons_cons x h => by
    rw [List.flatMap_cons, List.flatMap_cons]
    exact (flatMap_sub f h).append_left _
theorem allW_sub {S : Nat → Prop} {w0 w : World} {H : List Res} {l l' : List WE} (hp : l'.Sublist l) (h : Ok S w0 (allW l :: H) w) : Ok S w0 (allW l' :: H) w :=
  Ok.star ((Ok.unstar h).sub ((flatMap_sub RE hp).append_right H))
theorem inW {l : List WE} {w : World} (h : (allW l).holds w) {e : WE} (he : e ∈ l) : InL w e.ad 5 cEV e.evs ∧ ∀ x ∈ e.evs, InL w x.ka 1 cU x.v.key :=
  ⟨own_in len_EV (star_holds h (r := ownd e.ad e.cap 49 5 e.evs.length (e.evs.flatMap cEV)) (List.mem_flatMap.2 ⟨e, he, by simp [RE]⟩)) (Nat.le_refl _), fun x hx => inK (star_holds h (r := allK e.evs) (List.mem_flatMap.2 ⟨e, he, by simp [RE]⟩)) hx⟩
/-- Programs, each with its list; none twice. -/
structure OkP (L : List (Int × List VE)) (n : Nat) : Prop where
  len : L.length ≤ n
  nd : (L.map (·.1)).Nodup
  ok : ∀ p ∈ L, p.2.length ≤ 1000 ∧ ∀ v ∈ p.2, BytK v.key ∧ v.key.length ≤ 1000
theorem evR_of {l : List WE} {n : Nat} (hk : OkP (l.map WE.vw) n) {w : World} (h : (allW l).holds w) {e : WE} (he : e ∈ l) : EvR w e.ad e.evs ∧ e.evs.length ≤ 1000 := by
  have h1 := hk.ok e.vw (List.mem_map.2 ⟨e, he, rfl⟩)
  obtain ⟨h2, h3⟩ := inW h he
  refine ⟨⟨h2, fun x hx => ⟨h3 x hx, h1.2 x.v (List.mem_map.2 ⟨x, hx, rfl⟩)⟩⟩, ?_⟩
  have := h1.1
  simpa [WE.vw, WE.vs] using this
/-- The watch. -/
def OW (bx mp : Nat) (l : List WE) : List Res := [row bx 80 [.map (some mp)], mapR mp (l.map wV), allW l]
theorem new13 (w : World) : Calls Try.prog 13 #[] w fun e w' => ∃ a : Nat × Nat, e = .returned (.pointer (some ⟨a.1, 0, none⟩)) ∧ Ok (domL []) w (OW a.1 a.2 []) w' := by
  refine enter0 (S := domL []) 4 Try.func13 rfl rfl rfl (Ok.start w) ?_
  (repeat (first | ((refine (?_ : MX _ _ _ _ _ _ _ _ _ _ _)); first | refine mx_end ?_ | (refine mx_as _ rfl rfl (by conv => {lhs; whnf}) ?_) ) | refine cw_seq ?_ | refine cw_line rfl ?_ | refine pw_then ?_ ))
  refine a_mmap rfl rfl rfl rfl rfl (fun r => ?_)
  (repeat (first | ((refine (?_ : MX _ _ _ _ _ _ _ _ _ _ _)); first | refine mx_end ?_ | (refine mx_as _ rfl rfl (by conv => {lhs; whnf}) ?_) | (refine g_build rfl ?_; refine mx_build rfl rfl rfl rfl (b80 _) rfl ?_) | (refine g_box rfl ?_; refine a_boxl rfl rfl rfl rfl rfl rfl (fun _ => ?_) ) ) | refine cw_ret ?_ | refine pw_then ?_ ))
  refine pw_ret rfl rfl rfl rfl fun w' hw => ⟨(_, r), rfl, ?_⟩
  exact (allW_nil hw).pick [1, 2, 0] (by simp) rfl
/-! ### A key taken away -/
theorem delK_filter {k : Int} : ∀ (l : List WE), (l.map (·.k)).Nodup → delK k (l.map wV) = (l.filter fun e => decide (e.k ≠ k)).map wV := by
  have hno : ∀ l : List WE, (∀ e ∈ l, e.k ≠ k) → (l.filter fun e => decide (e.k ≠ k)) = l := fun l h => List.filter_eq_self.2 fun e he => by simpa using h e he
  have key : ∀ (l : List WE) (i : Nat), (l.map (·.k)).Nodup → (match fnd k (l.map wV) i with
      | some q => (l.map wV).eraseIdx (q.1 - i)
      | none => l.map wV) = (l.filter fun e => decide (e.k ≠ k)).map wV := by
    intro l
    induction l with
    | nil => intro i _; rfl
    | cons x l ih =>
      intro i hn
      have hn' := List.nodup_cons.1 hn
      rw [List.map_cons]
      unfold fnd
      by_cases hx : x.k = k
      · rw [if_pos (show (wV x).1 = k from hx)]
        have h2 : ∀ e ∈ l, e.k ≠ k := fun e he h => hn'.1 (List.mem_map.2 ⟨e, he, h.trans hx.symm⟩)
        rw [List.filter_cons_of_neg (by simp [hx]), hno l h2]
        simp
      · rw [if_neg (show ¬ (wV x).1 = k from hx), List.filter_cons_of_pos (by simpa using hx), List.map_cons, ← ih (i + 1) hn'.2]
        cases hf : fnd k (l.map wV) (i + 1) with
        | none => rfl
        | some q =>
          have := (fnd_at k (l.map wV) (i + 1) q.1 q.2 hf).1
          simp only
          rw [show q.1 - i = (q.1 - (i + 1)) + 1 by omega, List.eraseIdx_cons_succ]
  intro l hn
  have := key l 0 hn
  unfold delK
  cases hf : fnd k (l.map wV) 0 with
  | none => rw [hf] at this; exact this
  | some q => rw [hf] at this; exact this
theorem nd_k {l : List WE} {n : Nat} (h : OkP (l.map WE.vw) n) : (l.map (·.k)).Nodup := by
  have := h.nd
  rw [List.map_map] at this
  exact this
theorem drop18 (bx mp : Nat) (l : List WE) (k : Int) (hn : (l.map (·.k)).Nodup) (w : World) (h0 : Ok (domL (OW bx mp l)) w (OW bx mp l) w) :
    Calls Try.prog 18 #[.pointer (some ⟨bx, 0, none⟩), .int .i64 k] w fun e w' => ∃ u : Unit, e = .returned (.tuple #[]) ∧ Ok (domL (OW bx mp l)) w (OW bx mp (l.filter fun e => decide (e.k ≠ k))) w' := by
  refine enter2 (S := domL (OW bx mp l)) (H := [row bx 80 [.map (some mp)], mapR mp (l.map wV), allW l]) 9 Try.func18 rfl rfl rfl h0 ?_
  (repeat (first | ((refine (?_ : MX _ _ _ _ _ _ _ _ _ _ _)); first | (refine mx_mv _ rfl rfl (by conv => {lhs; whnf}) ?_) | (refine mx_fa0 E rfl rfl rfl rfl ?_ ) | (refine g_load rfl ?_; refine mx_get E rfl rfl rfl rfl rfl (by rfl) rfl ?_ ) | (refine mx_nc rfl rfl rfl ?_) ) | refine cw_line rfl ?_ ))
  refine g_bi .delete rfl ?_
  refine a_mdel mt78 rfl rfl rfl rfl rfl rfl (fun _ _ => trivial) rfl ?_
  rw [delK_filter l hn]
  (repeat (((refine (?_ : MX _ _ _ _ _ _ _ _ _ _ _)); refine mx_end ?_ ) ))
  exact pw_ret0 rfl rfl fun w' hw => ⟨(), rfl, (allW_sub (l' := l.filter fun e => decide (e.k ≠ k)) List.filter_sublist (hw.pick (H' := [allW l, row bx 80 [.map (some mp)], mapR mp ((l.filter fun e => decide (e.k ≠ k)).map wV)]) [2, 0, 1] (by simp) rfl)).pick [1, 2, 0] (by simp) rfl⟩
end Go.Proofs.Ytikdbgheefjpkaa
