/- The chapter's example of layer 10; what a table keeps. -/
import Derived.Test.YtminmbkhlnaabaaHf
set_option maxRecDepth 100000
set_option maxHeartbeats 8000000
set_option linter.unusedSimpArgs false
set_option linter.unusedVariables false
namespace Go.Proofs.Ytminmbkhlnaabaa
open Go Go.Sx Go.RowKit
theorem WfH.none (kl mx : Nat) (hk0 : 1 ≤ kl) (hk : kl ≤ 16) (h0 : 1 ≤ mx) (hm : mx ≤ 64) : WfH kl mx (noneH kl mx) := by
  obtain ⟨h1, h2, h3, h4⟩ := plcs_rng mx (by omega) hm
  refine ⟨by rw [len_none]; omega, by rw [len_none]; omega, by omega, by omega, by omega, fun c hc => ?_⟩
  have := List.eq_of_mem_replicate hc
  subst this
  refine ⟨by simp, fun x hx => ?_⟩
  have := List.eq_of_mem_replicate hx
  omega
theorem OkP.set {kl : Nat} {pl : List PLc} (h : OkP kl pl) (p : Nat) (c : PLc) (h1 : c.k.length = kl) (h2 : BytK c.k) : OkP kl (pl.set p c) := fun x hx => by
  rcases List.mem_or_eq_of_mem_set hx with h' | rfl
  · exact h x h'
  · exact ⟨h1, h2⟩
theorem WfH.set {kl mx : Nat} {pl : List PLc} (h : WfH kl mx pl) (p : Nat) (c : PLc) (h1 : c.k.length = kl) (h2 : BytK c.k) : WfH kl mx (pl.set p c) := ⟨by rw [List.length_set]; exact h.P0, by rw [List.length_set]; exact h.P1, h.k0, h.k1, h.m1, h.ok.set p c h1 h2⟩
theorem hpE_0 {pl : List PLc} {kl mx : Nat} {k : List Int} (h : hpE pl kl mx k = 0) : k.length = kl ∧ lookH pl kl k = none ∧ cntH pl ≠ mx := by
  unfold hpE at h
  split at h
  · omega
  · rename_i h1
    split at h
    · omega
    · rename_i h2
      split at h
      · omega
      · rename_i h3
        refine ⟨by omega, ?_, h3⟩
        cases hf : lookH pl kl k with
        | none => rfl
        | some p => rw [hf] at h2; exact absurd rfl h2
theorem WfH.put {kl mx : Nat} {pl : List PLc} (h : WfH kl mx pl) (k : List Int) (hk : BytK k) (v : Int) : WfH kl mx (putH pl kl mx k v) := by
  unfold putH
  split
  · rename_i he
    cases hf : frH pl k with
    | none => exact h
    | some p => exact h.set p ⟨1, k, v⟩ (hpE_0 he).1 hk
  · exact h
theorem WfH.del {kl mx : Nat} {pl : List PLc} (h : WfH kl mx pl) (k : List Int) : WfH kl mx (delH pl kl k) := by
  unfold delH
  split
  · rename_i p hf
    obtain ⟨_, hp, c, hc, _⟩ := lookH_some hf
    have hg : pl.getD p default = c := by simp [List.getD, hc]
    rw [hg]
    exact h.set p _ (h.ok c (List.mem_of_getElem? hc)).1 (h.ok c (List.mem_of_getElem? hc)).2
  · exact h
theorem put35e (bx kb sb cb kl mx : Nat) (pl pl' : List PLc) (E : Int) (k : List Int) (v : Int) (hE : hpE pl kl mx k = E) (hp : putH pl kl mx k v = pl') (hwf : WfH kl mx pl) (ad : Option Addr) (m cap : Nat) (hkb : BytK k) (hm : k.length = m) (hs : m ≤ 1000000) (w : World)
    (h0 : Ok (domL (OH bx kb sb cb kl mx pl)) w (OH bx kb sb cb kl mx pl) w) (hl : InL w ad 1 cU k) (hne : k ≠ [] → ∀ b off, ad = some ⟨b, off, none⟩ → ¬ domL (OH bx kb sb cb kl mx pl) b) :
    Calls Try.prog 35 #[.pointer (some ⟨bx, 0, none⟩), .slice ad m cap, .int .i64 v] w fun e w' => e = .returned (.int .i64 E) ∧ Ok (domL (OH bx kb sb cb kl mx pl)) w (OH bx kb sb cb kl mx pl') w' := by
  subst hE hp
  exact put35 bx kb sb cb kl mx pl hwf ad m cap k hkb hm hs v w h0 hl hne
theorem del37e (bx kb sb cb kl mx : Nat) (pl pl' : List PLc) (a : Int) (b : Bool) (k : List Int) (hE : fdH pl kl k = (a, b)) (hp : delH pl kl k = pl') (hwf : WfH kl mx pl) (ad : Option Addr) (m cap : Nat) (hkb : BytK k) (hm : k.length = m) (hs : m ≤ 1000000) (w : World)
    (h0 : Ok (domL (OH bx kb sb cb kl mx pl)) w (OH bx kb sb cb kl mx pl) w) (hl : InL w ad 1 cU k) (hne : k ≠ [] → ∀ b off, ad = some ⟨b, off, none⟩ → ¬ domL (OH bx kb sb cb kl mx pl) b) :
    Calls Try.prog 37 #[.pointer (some ⟨bx, 0, none⟩), .slice ad m cap] w fun e w' => e = .returned (.tuple #[.int .i64 a, .bool b]) ∧ Ok (domL (OH bx kb sb cb kl mx pl)) w (OH bx kb sb cb kl mx pl') w' := by
  have := del37 bx kb sb cb kl mx pl hwf ad m cap k hkb hm hs w h0 hl hne
  rw [hE, hp] at this
  exact this
theorem find39e (bx kb sb cb kl mx : Nat) (pl : List PLc) (a : Int) (b : Bool) (k : List Int) (hE : fdH pl kl k = (a, b)) (hwf : WfH kl mx pl) (ad : Option Addr) (m cap : Nat) (hkb : BytK k) (hm : k.length = m) (hs : m ≤ 1000000) (w : World) (ho : (Sx.star (OH bx kb sb cb kl mx pl)).holds w) (hl : InL w ad 1 cU k) :
    Calls Try.prog 39 #[.pointer (some ⟨bx, 0, none⟩), .slice ad m cap] w fun e w' => e = .returned (.tuple #[.int .i64 a, .bool b]) ∧ Grow w w' := by
  have := find39 bx kb sb cb kl mx pl hwf ad m cap k hkb hm hs w (fun r hr => star_holds ho hr) hl
  rw [hE] at this
  exact this
theorem row_new {S : Nat → Prop} {w0 w : World} {H : List Res} {L : List Res} (hw : Ok S w0 H w) (i j : Nat) {b T : Nat} {vs : List Value} (hi : H[i]? = some (row b T vs)) (hj : H[j]? = some (Sx.star L)) (hij : i ≠ j) {k : List Int} : k ≠ [] → ∀ b' off, (some ⟨b, 0, none⟩ : Option Addr) = some ⟨b', off, none⟩ → ¬ domL L b' := fun _ b' off e hd => by
  have : b = b' := by simpa using congrArg (fun o => o.map (·.block)) e
  subst this
  exact hw.sep i j _ _ hi hj hij b rfl hd
def pl0 : List PLc := noneH 1 2
def pl1 : List PLc := putH pl0 1 2 [97] 7
def pl2 : List PLc := putH pl1 1 2 [98] 9
def pl3 : List PLc := delH pl2 1 [97]
theorem b97 : BytK [97] := by intro x hx; simp at hx; omega
theorem b98 : BytK [98] := by intro x hx; simp at hx; omega
theorem b99 : BytK [99] := by intro x hx; simp at hx; omega
theorem wf0 : WfH 1 2 pl0 := WfH.none 1 2 (by omega) (by omega) (by omega) (by omega)
theorem wf1 : WfH 1 2 pl1 := wf0.put _ b97 _
theorem wf2 : WfH 1 2 pl2 := wf1.put _ b98 _
theorem wf3 : WfH 1 2 pl3 := wf2.del _
theorem e_0 : hpE pl0 1 2 [97] = 0 := by decide +kernel
theorem e_1 : hpE pl1 1 2 [97] = 11 := by decide +kernel
theorem e_2 : hpE pl1 1 2 [98] = 0 := by decide +kernel
theorem e_3 : hpE pl2 1 2 [99] = 12 := by decide +kernel
theorem p_1 : putH pl1 1 2 [97] 8 = pl1 := by decide +kernel
theorem p_3 : putH pl2 1 2 [99] 1 = pl2 := by decide +kernel
theorem f_2 : fdH pl2 1 [97] = (7, true) := by decide +kernel
theorem f_3 : fdH pl3 1 [97] = (0, false) := by decide +kernel
theorem f_4 : fdH pl3 1 [98] = (9, true) := by decide +kernel
theorem s_nil : sumK [] = 2166136261 := rfl
attribute [irreducible] pl0 pl1 pl2 pl3
theorem works29 (w : World) : Calls Try.prog 29 #[] w fun e w' => e = .returned (.bool true) ∧ Grow w w' := by
  refine enter0 (S := fun _ => False) 79 Try.func29 rfl rfl rfl (Ok.start w) ?_
  (repeat (first | ((refine (?_ : MX _ _ _ _ _ _ _ _ _ _ _)); first | refine mx_end ?_ | (refine mx_as _ rfl rfl (by conv => {lhs; whnf}) ?_) ) | refine cw_seq ?_ | refine cw_line rfl ?_ | refine pw_then ?_ ))
  refine g_cf 34 rfl ?_
  refine a_callL rfl rfl rfl rfl Try.func34 rfl rfl rfl [] _ rfl (fun a : Nat × Nat × Nat × Nat => .pointer (some ⟨a.1, 0, none⟩)) (fun a => OH a.1 a.2.1 a.2.2.1 a.2.2.2 1 2 pl0) (fun w' hw _ => by have := new34 1 2 w'; unfold pl0; exact this) (fun _ => rfl) (fun _ _ _ => trivial) (fun q => ?_)
  obtain ⟨bx, kb, sb, cb⟩ := q
  refine mx_weak (H' := [Sx.star (OH bx kb sb cb 1 2 pl0)]) (fun w h => h.star) (fun _ _ => trivial) ?_
  (repeat (first | ((refine (?_ : MX _ _ _ _ _ _ _ _ _ _ _)); first | refine mx_end ?_ | (refine mx_mv _ rfl rfl (by conv => {lhs; whnf}) ?_) | (refine mx_as _ rfl rfl (by conv => {lhs; whnf}) ?_) | (refine g_bs rfl ?_; refine a_bsi E rfl rfl rfl rfl rfl (by (repeat (first | exact EvI.nil | (apply EvI.cons; rfl)))) (by rfl) (by rfl) (by rfl) rfl (fun _ => ?_)) ) | refine cw_seq ?_ | refine cw_line rfl ?_ | refine pw_then ?_ ))
  rename_i b1
  refine g_cf 35 rfl ?_; refine a_cou rfl rfl rfl rfl Try.func35 rfl rfl rfl (OH bx kb sb cb 1 2 pl0) (.int .i64 0) (OH bx kb sb cb 1 2 pl1) (fun w' hw h => put35e bx kb sb cb 1 2 pl0 pl1 0 [97] 7 e_0 (by unfold pl1; rfl) wf0 (some ⟨b1, 0, none⟩) 1 1 b97 rfl (by decide) w' h (row_in (c := cU) (xs := [97]) len_U (hw.holds 0 _ rfl)) (row_new hw 0 1 rfl rfl (by decide))) rfl (fun _ _ => trivial) ?_
  (repeat (first | ((refine (?_ : MX _ _ _ _ _ _ _ _ _ _ _)); first | refine mx_end ?_ | (refine mx_mv _ rfl rfl (by conv => {lhs; whnf}) ?_) | (refine mx_as _ rfl rfl (by conv => {lhs; whnf}) ?_) | (refine g_bs rfl ?_; refine a_bsi E rfl rfl rfl rfl rfl (by (repeat (first | exact EvI.nil | (apply EvI.cons; rfl)))) (by rfl) (by rfl) (by rfl) rfl (fun _ => ?_)) ) | refine cw_seq ?_ | refine cw_line rfl ?_ | refine pw_then ?_ ))
  rename_i b2
  refine g_cf 35 rfl ?_; refine a_cou rfl rfl rfl rfl Try.func35 rfl rfl rfl (OH bx kb sb cb 1 2 pl1) (.int .i64 11) (OH bx kb sb cb 1 2 pl1) (fun w' hw h => put35e bx kb sb cb 1 2 pl1 pl1 11 [97] 8 e_1 p_1 wf1 (some ⟨b2, 0, none⟩) 1 1 b97 rfl (by decide) w' h (row_in (c := cU) (xs := [97]) len_U (hw.holds 0 _ rfl)) (row_new hw 0 2 rfl rfl (by decide))) rfl (fun _ _ => trivial) ?_
  (repeat (first | ((refine (?_ : MX _ _ _ _ _ _ _ _ _ _ _)); first | refine mx_end ?_ | (refine mx_mv _ rfl rfl (by conv => {lhs; whnf}) ?_) | (refine mx_as _ rfl rfl (by conv => {lhs; whnf}) ?_) | (refine g_bs rfl ?_; refine a_bsi E rfl rfl rfl rfl rfl (by (repeat (first | exact EvI.nil | (apply EvI.cons; rfl)))) (by rfl) (by rfl) (by rfl) rfl (fun _ => ?_)) ) | refine cw_seq ?_ | refine cw_line rfl ?_ | refine pw_then ?_ ))
  rename_i b3
  refine g_cf 35 rfl ?_; refine a_cou rfl rfl rfl rfl Try.func35 rfl rfl rfl (OH bx kb sb cb 1 2 pl1) (.int .i64 0) (OH bx kb sb cb 1 2 pl2) (fun w' hw h => put35e bx kb sb cb 1 2 pl1 pl2 0 [98] 9 e_2 (by unfold pl2; rfl) wf1 (some ⟨b3, 0, none⟩) 1 1 b98 rfl (by decide) w' h (row_in (c := cU) (xs := [98]) len_U (hw.holds 0 _ rfl)) (row_new hw 0 3 rfl rfl (by decide))) rfl (fun _ _ => trivial) ?_
  (repeat (first | ((refine (?_ : MX _ _ _ _ _ _ _ _ _ _ _)); first | refine mx_end ?_ | (refine mx_mv _ rfl rfl (by conv => {lhs; whnf}) ?_) | (refine mx_as _ rfl rfl (by conv => {lhs; whnf}) ?_) | (refine g_bs rfl ?_; refine a_bsi E rfl rfl rfl rfl rfl (by (repeat (first | exact EvI.nil | (apply EvI.cons; rfl)))) (by rfl) (by rfl) (by rfl) rfl (fun _ => ?_)) ) | refine cw_seq ?_ | refine cw_line rfl ?_ | refine pw_then ?_ ))
  rename_i b4
  refine g_cf 35 rfl ?_; refine a_cou rfl rfl rfl rfl Try.func35 rfl rfl rfl (OH bx kb sb cb 1 2 pl2) (.int .i64 12) (OH bx kb sb cb 1 2 pl2) (fun w' hw h => put35e bx kb sb cb 1 2 pl2 pl2 12 [99] 1 e_3 p_3 wf2 (some ⟨b4, 0, none⟩) 1 1 b99 rfl (by decide) w' h (row_in (c := cU) (xs := [99]) len_U (hw.holds 0 _ rfl)) (row_new hw 0 4 rfl rfl (by decide))) rfl (fun _ _ => trivial) ?_
  (repeat (first | ((refine (?_ : MX _ _ _ _ _ _ _ _ _ _ _)); first | refine mx_end ?_ | (refine mx_mv _ rfl rfl (by conv => {lhs; whnf}) ?_) | (refine mx_as _ rfl rfl (by conv => {lhs; whnf}) ?_) | (refine g_bs rfl ?_; refine a_bsi E rfl rfl rfl rfl rfl (by (repeat (first | exact EvI.nil | (apply EvI.cons; rfl)))) (by rfl) (by rfl) (by rfl) rfl (fun _ => ?_)) ) | refine cw_seq ?_ | refine cw_line rfl ?_ | refine pw_then ?_ ))
  rename_i b5
  refine g_cf 37 rfl ?_
  refine a_cou rfl rfl rfl rfl Try.func37 rfl rfl rfl (OH bx kb sb cb 1 2 pl2) (.tuple #[.int .i64 7, .bool true]) (OH bx kb sb cb 1 2 pl3) (fun w' hw h => del37e bx kb sb cb 1 2 pl2 pl3 7 true [97] f_2 (by unfold pl3; rfl) wf2 (some ⟨b5, 0, none⟩) 1 1 b97 rfl (by decide) w' h (row_in (c := cU) (xs := [97]) len_U (hw.holds 0 _ rfl)) (row_new hw 0 5 rfl rfl (by decide))) rfl (fun _ _ => trivial) ?_
  (repeat (first | ((refine (?_ : MX _ _ _ _ _ _ _ _ _ _ _)); first | refine mx_end ?_ | (refine mx_mv _ rfl rfl (by conv => {lhs; whnf}) ?_) | (refine mx_as _ rfl rfl (by conv => {lhs; whnf}) ?_) | (refine mx_ex _ rfl rfl rfl (by conv => {lhs; whnf}) ?_) | (refine g_bs rfl ?_; refine a_bsi E rfl rfl rfl rfl rfl (by (repeat (first | exact EvI.nil | (apply EvI.cons; rfl)))) (by rfl) (by rfl) (by rfl) rfl (fun _ => ?_)) ) | refine cw_seq ?_ | refine cw_line rfl ?_ | refine pw_then ?_ ))
  rename_i b6
  refine g_cf 39 rfl ?_; refine a_callv rfl rfl rfl rfl Try.func39 rfl rfl rfl (.tuple #[.int .i64 0, .bool false]) (fun w' hw => find39e bx kb sb cb 1 2 pl3 0 false [97] f_3 wf3 (some ⟨b6, 0, none⟩) 1 1 b97 rfl (by decide) w' (hw.holds 6 _ rfl) (row_in (c := cU) (xs := [97]) len_U (hw.holds 0 _ rfl))) rfl ?_
  (repeat (first | ((refine (?_ : MX _ _ _ _ _ _ _ _ _ _ _)); first | refine mx_end ?_ | (refine mx_mv _ rfl rfl (by conv => {lhs; whnf}) ?_) | (refine mx_as _ rfl rfl (by conv => {lhs; whnf}) ?_) | (refine mx_ex _ rfl rfl rfl (by conv => {lhs; whnf}) ?_) | (refine g_bs rfl ?_; refine a_bsi E rfl rfl rfl rfl rfl (by (repeat (first | exact EvI.nil | (apply EvI.cons; rfl)))) (by rfl) (by rfl) (by rfl) rfl (fun _ => ?_)) ) | refine cw_seq ?_ | refine cw_line rfl ?_ | refine pw_then ?_ ))
  rename_i b7
  refine g_cf 39 rfl ?_; refine a_callv rfl rfl rfl rfl Try.func39 rfl rfl rfl (.tuple #[.int .i64 9, .bool true]) (fun w' hw => find39e bx kb sb cb 1 2 pl3 9 true [98] f_4 wf3 (some ⟨b7, 0, none⟩) 1 1 b98 rfl (by decide) w' (hw.holds 7 _ rfl) (row_in (c := cU) (xs := [98]) len_U (hw.holds 0 _ rfl))) rfl ?_
  (repeat (first | ((refine (?_ : MX _ _ _ _ _ _ _ _ _ _ _)); first | refine mx_end ?_ | (refine mx_mv _ rfl rfl (by conv => {lhs; whnf}) ?_) | (refine mx_as _ rfl rfl (by conv => {lhs; whnf}) ?_) | (refine g_bin rfl ?_; ((refine mx_cmpl .eql rfl rfl rfl rfl rfl (by exact cmp_eq_t (by omega) ) ?_) ) ) | (refine mx_not rfl rfl rfl ?_) | (refine mx_ex _ rfl rfl rfl (by conv => {lhs; whnf}) ?_) | (refine g_pick rfl ?_; refine mx_and rfl rfl rfl rfl rfl rfl ?_ ) ) | refine cw_seq ?_ | refine cw_line rfl ?_ | refine pw_then ?_ ))
  refine g_cf 31 rfl ?_
  refine a_callv rfl rfl rfl rfl Try.func31 rfl rfl rfl (.int .u32 2166136261) (fun w' hw => sum31 none 0 0 [] rfl (by omega) w' (fun h => absurd rfl h)) rfl ?_
  (repeat (first | ((refine (?_ : MX _ _ _ _ _ _ _ _ _ _ _)); first | refine mx_end ?_ | (refine mx_as _ rfl rfl (by conv => {lhs; whnf}) ?_) | (refine g_bin rfl ?_; ((refine mx_cmpl .eql rfl rfl rfl rfl rfl (by exact cmp_eq_t (by omega) ) ?_) ) ) | (refine g_pick rfl ?_; refine mx_and rfl rfl rfl rfl rfl rfl ?_ ) ) | refine cw_ret ?_ | refine pw_then ?_ ))
  exact pw_ret rfl rfl rfl rfl fun w hw => ⟨rfl, hw.keep.grow⟩
end Go.Proofs.Ytminmbkhlnaabaa
