/- The program's watch: which programs answer a question; Hit, Progs. -/
import Derived.Test.YtikdbgheefjpkaaKe
set_option maxRecDepth 100000
set_option maxHeartbeats 8000000
set_option linter.unusedSimpArgs false
set_option linter.unusedVariables false
namespace Go.Proofs.Ytikdbgheefjpkaa
open Go Go.Sx Go.RowKit
/-- Of which something is so, rising. -/
def thoseV (p : List VE → Bool) (L : List (Int × List VE)) : List Int := srt ((L.filter fun q => p q.2).map (·.1))
theorem srt_congr {l m : List Int} (h : l.Perm m) : srt l = srt m := by
  have h1 : (srt l).Perm (srt m) := (srt_perm l).trans (h.trans (srt_perm m).symm)
  exact h1.eq_of_pairwise (fun a b _ _ h1 h2 => by omega) (srt_le l) (srt_le m)
theorem those_congr {p : List VE → Bool} {L M : List (Int × List VE)} (h : L.Perm M) : thoseV p L = thoseV p M := srt_congr ((h.filter _).map _)
def keysW (p : List VE → Bool) (l : List WE) : List Int := (l.filter fun e => p e.vs).map (·.k)
theorem keysW_v (p : List VE → Bool) (l : List WE) : keysW p l = ((l.map WE.vw).filter fun q => p q.2).map (·.1) := by
  unfold keysW
  rw [List.filter_map, List.map_map]
  rfl
theorem chg_dom {w0 w w' : World} {H H' : List Res} {S : Nat → Prop} (h : Ok S w0 H w) : Chg S w0 w := h.keep
theorem those53 (f : FuncId) (fn : Func) (hf : Try.prog.funcs[f]? = some fn) (hfb : fn.body.isSome = true) (hfn : (fn.name == "runtime.NumGoroutine") = false) (vc : List Value) (p : List VE → Bool) (bx mp : Nat) (l : List WE) (hk : OkP (l.map WE.vw) 1000) (w : World) (h0 : Ok (domL (OW bx mp l)) w (OW bx mp l) w)
    (hp : ∀ e ∈ l, ∀ w', Chg (domL (OW bx mp l)) w w' → EvR w' e.ad e.evs → Calls Try.prog f ([Value.slice e.ad e.evs.length e.cap] ++ vc).toArray w' fun r w'' => r = .returned (.bool (p e.vs)) ∧ Grow w' w'') :
    Calls Try.prog 53 #[.pointer (some ⟨bx, 0, none⟩), .func (.func f) #[] vc.toArray] w fun e w' => ∃ a : Option Addr × Nat, e = .returned (.slice a.1 (thoseV p (l.map WE.vw)).length a.2) ∧ Ok (domL (OW bx mp l)) w ([ownd a.1 a.2 3 1 (thoseV p (l.map WE.vw)).length ((thoseV p (l.map WE.vw)).flatMap cI)] ++ OW bx mp l) w' := by
  have hlen : l.length ≤ 1000 := by have := hk.len; simpa using this
  refine enter2 (S := domL (OW bx mp l)) (H := [row bx 80 [.map (some mp)], mapR mp (l.map wV), allW l]) 28 Try.func53 rfl rfl rfl h0 ?_
  (repeat (first | ((refine (?_ : MX _ _ _ _ _ _ _ _ _ _ _)); first | refine mx_end ?_ | (refine mx_mv _ rfl rfl (by conv => {lhs; whnf}) ?_) | (refine mx_as _ rfl rfl (by conv => {lhs; whnf}) ?_) | (refine mx_fa0 E rfl rfl rfl rfl ?_ ) | (refine g_load rfl ?_; refine mx_get E rfl rfl rfl rfl rfl (by rfl) rfl ?_ ) | (refine mx_nc rfl rfl rfl ?_) ) | refine cw_seq ?_ | refine cw_line rfl ?_ | refine pw_then ?_ ))
  refine a_mrange mt78 rfl rfl rfl rfl rfl 1 rfl rfl (fun _ _ _ => trivial) (fun r => ?_)
  (repeat (first | ((refine (?_ : MX _ _ _ _ _ _ _ _ _ _ _)); refine mx_end ?_ ) | refine cw_block ?_ | refine pw_then ?_ ))
  refine cw_loop (ι := (List WE × List WE) × (Option Addr × Nat) × Option (Int × Value)) (fun q => [(5, .slice q.2.1.1 (keysW p q.1.1).length q.2.1.2), (12, .pointer (some ⟨r, 0, none⟩)), (1, .func (.func f) #[] vc.toArray)]) (fun q => [rngR mp r (l.map wV) (q.1.2.map wV) q.2.2, row bx 80 [.map (some mp)], allW l, ownd q.2.1.1 q.2.1.2 3 1 (keysW p q.1.1).length ((keysW p q.1.1).flatMap cI)]) (fun q => (q.1.1 ++ q.1.2).Perm l) (fun q => q.1.2.length) (([], l), (none, 0), none) (by simp) ⟨rfl, rfl, rfl, trivial⟩ (fun w h => (h.own_nil 3 1).pick [2, 1, 3, 0] (by simp) rfl) ?_
  rintro ⟨⟨done, todo⟩, ⟨a1, c1⟩, cur⟩ jk hperm
  dsimp only at hperm ⊢
  have hdl : done.length ≤ 1000 := by have := hperm.length_eq; simp at this; omega
  have hkl : (keysW p done).length ≤ 1000 := by
    unfold keysW
    rw [List.length_map]
    exact Nat.le_trans (List.length_filter_le ..) hdl
  (repeat (first | refine cw_seq ?_ | refine cw_line rfl ?_ ))
  refine a_mnext rfl rfl rfl rfl rfl 0 rfl rfl (fun _ _ _ _ => trivial) (fun h0 => ?_) (fun pre q post hsp => ?_)
  · have e0 : todo = [] := by simpa using h0
    subst e0
    rw [List.append_nil] at hperm
    have hk2 : srt (keysW p done) = thoseV p (l.map WE.vw) := by
      rw [keysW_v]
      exact those_congr (hperm.map _)
    have hl2 : (keysW p done).length = (thoseV p (l.map WE.vw)).length := by rw [← hk2, srt_len]
    (repeat (first | ((refine (?_ : MX _ _ _ _ _ _ _ _ _ _ _)); first | refine mx_end ?_ | (refine mx_mv _ rfl rfl (by conv => {lhs; whnf}) ?_) | (refine mx_ex _ rfl rfl rfl (by conv => {lhs; whnf}) ?_) ) | refine cw_seq ?_ | refine cw_line rfl ?_ | refine cw_cond_f rfl ?_ | refine cw_exit ?_ | refine pw_then ?_ | refine pw_then_x ?_ | refine pw_block_e ?_ ))
    refine mx_weak (H' := [ownd a1 c1 3 1 (keysW p done).length ((keysW p done).flatMap cI), row bx 80 [.map (some mp)], mapR mp (l.map wV), allW l]) (fun w1 h => (show Ok _ _ [mapR mp (l.map wV), row bx 80 [.map (some mp)], allW l, ownd a1 c1 3 1 (keysW p done).length ((keysW p done).flatMap cI)] w1 from Ok.unrange (H := [rngR mp r (l.map wV) (([] : List WE).map wV) cur, row bx 80 [.map (some mp)], allW l, ownd a1 c1 3 1 (keysW p done).length ((keysW p done).flatMap cI)]) 0 rfl h).pick [3, 1, 0, 2] (by simp) rfl) (fun _ _ => trivial) ?_
    refine g_cf 78 rfl ?_
    refine a_callL rfl rfl rfl rfl Try.func78 rfl rfl rfl [ownd a1 c1 3 1 (keysW p done).length ((keysW p done).flatMap cI)] _ rfl (fun _ : Unit => .tuple #[]) (fun _ => [ownd a1 c1 3 1 (keysW p done).length ((srt (keysW p done)).flatMap cI)]) (fun w' _ h => sort78 a1 c1 (keysW p done) (by omega) w' h) (fun _ => rfl) (fun _ _ _ => trivial) (fun _ => ?_)
    rw [hk2, hl2]
    (repeat (first | ((refine (?_ : MX _ _ _ _ _ _ _ _ _ _ _)); first | refine mx_end ?_ | (refine mx_mv _ rfl rfl (by conv => {lhs; whnf}) ?_) | (refine mx_as _ rfl rfl (by conv => {lhs; whnf}) ?_) ) | refine cw_seq ?_ | refine cw_line rfl ?_ | refine cw_ret ?_ | refine pw_then ?_ ))
    exact pw_ret rfl rfl rfl rfl fun w' hw => ⟨(a1, c1), rfl, hw⟩
  · obtain ⟨preW, r1, e1, e2, e3⟩ := List.map_eq_append_iff.1 hsp
    obtain ⟨e, postW, e4, e5, e6⟩ := List.map_eq_cons_iff.1 e3
    subst e4
    subst e5 e1 e2 e6
    have hmem : e ∈ l := hperm.mem_iff.1 (by simp)
    have hpm : (e :: (preW ++ postW)).Perm (preW ++ e :: postW) := List.perm_middle.symm
    refine mx_weak (H' := [rngR mp r (l.map wV) ((preW ++ postW).map wV) (some (wV e)), row bx 80 [.map (some mp)], allW l, ownd a1 c1 3 1 (keysW p done).length ((keysW p done).flatMap cI)]) (fun w h => by rw [List.map_append]; exact h) (fun _ _ => trivial) ?_
    (repeat (first | ((refine (?_ : MX _ _ _ _ _ _ _ _ _ _ _)); first | refine mx_end ?_ | (refine mx_ex _ rfl rfl rfl (by conv => {lhs; whnf}) ?_) ) | refine cw_seq ?_ | refine cw_line rfl ?_ | refine cw_block ?_ | refine cw_cond_t rfl ?_ | refine cw_skip ?_ | refine pw_then ?_ ))
    refine a_mentry rfl rfl rfl rfl rfl 0 rfl rfl ?_
    (repeat (first | ((refine (?_ : MX _ _ _ _ _ _ _ _ _ _ _)); first | refine mx_end ?_ | (refine mx_mv _ rfl rfl (by conv => {lhs; whnf}) ?_) | (refine mx_as _ rfl rfl (by conv => {lhs; whnf}) ?_) | (refine mx_ex _ rfl rfl rfl (by conv => {lhs; whnf}) ?_) ) | refine cw_seq ?_ | refine cw_line rfl ?_ | refine pw_then ?_ ))
    refine a_fcall (vf := []) (vc := vc) rfl rfl rfl rfl rfl hf hfb hfn rfl (.bool (p e.vs)) (fun w' hw => hp e hmem w' hw.keep (evR_of hk (hw.holds 2 _ rfl) hmem).1) rfl ?_
    cases hpe : p e.vs with
    | true =>
      have hkd : keysW p (done ++ [e]) = keysW p done ++ [e.k] := by unfold keysW; rw [List.filter_append, List.map_append]; simp [hpe]
      have hfl : (keysW p done).flatMap cI ++ [.int .i64 e.k] = (keysW p (done ++ [e])).flatMap cI := by rw [hkd, List.flatMap_append]; simp
      have hle : (keysW p done).length + 1 = (keysW p (done ++ [e])).length := by rw [hkd]; simp
      (repeat (first | ((refine (?_ : MX _ _ _ _ _ _ _ _ _ _ _)); first | refine mx_end ?_ | (refine mx_mv _ rfl rfl (by conv => {lhs; whnf}) ?_) | (refine g_bs rfl ?_; refine a_bsi E rfl rfl rfl rfl rfl (by (repeat (first | exact EvI.nil | (apply EvI.cons; rfl)))) (by rfl) (by rfl) (by rfl) rfl (fun _ => ?_)) ) | refine cw_line rfl ?_ | refine cw_cond_t rfl ?_ | refine pw_then ?_ ))
      rename_i b9
      refine g_bi .append rfl ?_
      refine a_app E rfl rfl rfl rfl rfl rfl rfl rfl [.int .i64 e.k] rfl (fun w hw => fun _ => ⟨b9, 0, rfl, fun j u hj => by rw [add_at, Nat.zero_add]; exact row_cell (hw.holds 0 _ rfl) hj⟩) rfl (by omega) rfl (fun _ _ _ _ => trivial) (fun a2 c2 => ?_)
      rw [hfl, hle]
      (repeat (first | ((refine (?_ : MX _ _ _ _ _ _ _ _ _ _ _)); first | refine mx_end ?_ | (refine mx_as _ rfl rfl (by conv => {lhs; whnf}) ?_) ) | refine pw_block ?_ ))
      exact pw_round ((done ++ [e], preW ++ postW), (a2, c2), some (wV e)) (by
        show ((done ++ [e]) ++ (preW ++ postW)).Perm l
        refine .trans ?_ hperm
        rw [List.append_assoc]
        exact List.Perm.append_left _ hpm) (by show (preW ++ postW).length < (preW ++ e :: postW).length; simp) ⟨rfl, rfl, rfl, trivial⟩ (fun w h => by
        have h2 := h
        exact h2.pick [1, 2, 3, 4] (by simp) rfl)
    | false =>
      have hkd : keysW p (done ++ [e]) = keysW p done := by unfold keysW; rw [List.filter_append, List.map_append]; simp [hpe]
      (repeat (first | ((refine (?_ : MX _ _ _ _ _ _ _ _ _ _ _)); refine mx_end ?_ ) | refine cw_cond_f rfl ?_ | refine cw_skip ?_ | refine pw_then ?_ | refine pw_block ?_ ))
      exact pw_round ((done ++ [e], preW ++ postW), (a1, c1), some (wV e)) (by
        show ((done ++ [e]) ++ (preW ++ postW)).Perm l
        refine .trans ?_ hperm
        rw [List.append_assoc]
        exact List.Perm.append_left _ hpm) (by show (preW ++ postW).length < (preW ++ e :: postW).length; simp) (by dsimp only; rw [hkd]; exact ⟨rfl, rfl, rfl, trivial⟩) (fun w h => by
        have h2 := h
        dsimp only
        rw [hkd]
        exact h2)
end Go.Proofs.Ytikdbgheefjpkaa
