/- The example of chapter 8: a number is stored and loaded; a dropped cell is there until the sweep. -/
import Derived.Test.YtfekmflnfhjebaaCs
set_option maxRecDepth 100000
set_option maxHeartbeats 8000000
set_option linter.unusedSimpArgs false
set_option linter.unusedVariables false
namespace Go.Proofs.Ytfekmflnfhjebaa
open Go Go.Sx Go.RowKit
theorem works47 (w : World) : Calls Try.prog 47 #[] w fun e w' => e = .returned (.bool true) ∧ Grow w w' := by
  refine enter0 (S := fun _ => False) 89 Try.func47 rfl rfl rfl (Ok.start w) ?_
  (repeat (first | ((refine (?_ : MX _ _ _ _ _ _ _ _ _ _ _)); first | refine mx_end ?_ | (refine mx_as _ rfl rfl (by conv => {lhs; whnf}) ?_) ) | refine cw_seq ?_ | refine cw_line rfl ?_ | refine pw_then ?_ ))
  refine g_cf 27 rfl ?_
  refine a_callL rfl rfl rfl rfl Try.func27 rfl rfl rfl [] _ rfl (fun a : Nat × Nat => .pointer (some ⟨a.1, 0, none⟩)) (fun a => OC a.1 a.2 0 []) (fun w' hw _ => new27 w') (fun _ => rfl) (fun _ _ _ => trivial) (fun a => ?_)
  obtain ⟨bx, r⟩ := a
  refine mx_weak (H' := [Sx.star (OC bx r ((0 : Nat) : Int) [])]) (fun w h => h.star) (fun _ _ => trivial) ?_
  (repeat (first | ((refine (?_ : MX _ _ _ _ _ _ _ _ _ _ _)); first | refine mx_end ?_ | (refine mx_mv _ rfl rfl (by conv => {lhs; whnf}) ?_) | (refine mx_as _ rfl rfl (by conv => {lhs; whnf}) ?_) | (refine g_bs rfl ?_; refine a_bsi E rfl rfl rfl rfl rfl (by (repeat (first | exact EvI.nil | (apply EvI.cons; rfl)))) (by rfl) (by rfl) (by rfl) rfl (fun _ => ?_)) ) | refine cw_seq ?_ | refine cw_line rfl ?_ | refine pw_then ?_ ))
  rename_i b1
  refine g_cf 45 rfl ?_
  refine a_callo rfl rfl rfl rfl Try.func45 rfl rfl rfl 1 rfl (fun a : Nat × Option Addr × Nat => .int .i64 1) (fun a => []) (fun a => OC bx r 1 [⟨1, a.1, a.2.1, a.2.2, [1, 2, 3], 0, Bt.o, false⟩]) (fun w' hw h => make45n bx r 0 [] (some ⟨b1, 0, none⟩) 3 3 [1, 2, 3] rfl (by omega) (by omega) (by omega) (fun c hc => by simp at hc) w' h (row_in len_U (hw.holds 0 _ rfl)) (row_new hw 0 1 rfl rfl (by decide))) (fun _ => rfl) (fun _ _ _ => trivial) (fun a => ?_)
  obtain ⟨pb, q1, q2⟩ := a
  refine mx_weak (H' := [Sx.star (OC bx r 1 [⟨1, pb, q1, q2, [1, 2, 3], 0, Bt.o, false⟩])]) (fun w h => h.pick [1] (by simp) rfl) (fun _ _ => trivial) ?_
  (repeat (first | ((refine (?_ : MX _ _ _ _ _ _ _ _ _ _ _)); first | refine mx_end ?_ | (refine mx_as _ rfl rfl (by conv => {lhs; whnf}) ?_) ) | refine pw_then ?_))
  refine cw_know (p := ∃ b, q1 = some ⟨b, 0, none⟩) (fun w hw => by
    obtain ⟨b, e, _⟩ := (own_at (inB (oc3 (hw.holds 0 _ rfl)) (List.mem_singleton.2 rfl))).2.1 (Nat.zero_lt_succ _)
    exact ⟨b, e⟩) (fun ⟨bb, e⟩ => ?_)
  subst e
  generalize hcc : (⟨1, pb, some ⟨bb, 0, none⟩, q2, [1, 2, 3], 0, Bt.o, false⟩ : PC) = c
  have hc1 : lc 1 [c] = some c := by subst hcc; rfl
  have hcb : c.bs = [1, 2, 3] := by subst hcc; rfl
  have hca : c.ba = some ⟨bb, 0, none⟩ := by subst hcc; rfl
  have hcd : c.dr = false := by subst hcc; rfl
  have hci : c.id = 1 := by subst hcc; rfl
  have hct : c.bt = Bt.o := by subst hcc; rfl
  have hcw : c.wr = 0 := by subst hcc; rfl
  clear hcc
  have hby : Byts c.bs := by rw [hcb]; intro x hx; simp at hx; omega
  (repeat (first | ((refine (?_ : MX _ _ _ _ _ _ _ _ _ _ _)); (refine mx_mv _ rfl rfl (by conv => {lhs; whnf}) ?_) ) | refine cw_seq ?_ | refine cw_line rfl ?_ ))
  refine g_cf 49 rfl ?_
  refine a_callv rfl rfl rfl rfl Try.func49 rfl rfl rfl (.tuple #[.int .u64 770, .bool true]) (fun w' hw => by
    have h := load49y bx r 1 1 [c] c hc1 1 2 bb hca (by omega) (by rw [hcb]; decide) hby (by rw [hcb]; decide) w' (oc1 (hw.holds 0 _ rfl)) (oc2 (hw.holds 0 _ rfl)) (oc3 (hw.holds 0 _ rfl))
    rw [hcb] at h
    exact h) rfl ?_
  (repeat (first | ((refine (?_ : MX _ _ _ _ _ _ _ _ _ _ _)); first | refine mx_end ?_ | (refine mx_mv _ rfl rfl (by conv => {lhs; whnf}) ?_) | (refine mx_as _ rfl rfl (by conv => {lhs; whnf}) ?_) | (refine mx_ex _ rfl rfl rfl (by conv => {lhs; whnf}) ?_) ) | refine cw_seq ?_ | refine cw_line rfl ?_ | refine pw_then ?_ ))
  refine g_cf 49 rfl ?_
  refine a_callv rfl rfl rfl rfl Try.func49 rfl rfl rfl (.tuple #[.int .u64 0, .bool false]) (fun w' hw => load49n bx r 1 1 2 2 [c] (fun c' h' => by
    rw [hc1] at h'
    obtain rfl := Option.some.inj h'
    unfold fits
    rw [hcb]
    simp) (by decide) (fun c' h' => by
    obtain rfl := List.mem_singleton.1 h'
    rw [hcb]
    decide) w' (oc1 (hw.holds 0 _ rfl)) (oc2 (hw.holds 0 _ rfl)) (oc3 (hw.holds 0 _ rfl))) rfl ?_
  (repeat (first | ((refine (?_ : MX _ _ _ _ _ _ _ _ _ _ _)); first | refine mx_end ?_ | (refine mx_mv _ rfl rfl (by conv => {lhs; whnf}) ?_) | (refine mx_as _ rfl rfl (by conv => {lhs; whnf}) ?_) | (refine mx_ex _ rfl rfl rfl (by conv => {lhs; whnf}) ?_) ) | refine cw_seq ?_ | refine cw_line rfl ?_ | refine pw_then ?_ ))
  refine g_cf 48 rfl ?_
  refine a_callo rfl rfl rfl rfl Try.func48 rfl rfl rfl 0 rfl (fun a : Unit => .bool true) (fun a => []) (fun a => OC bx r 1 [c.put [205, 171, 3] 5]) (fun w' hw h => (store48y bx r 1 1 [c] 0 c rfl hc1 0 2 43981 5 (by omega) (by rw [hcb]; decide) (by rw [hcb]; decide) (by rw [hct]; show (0 : Int).natAbs + (0 : Int).natAbs ≤ 0; decide) (by rw [hct]; decide) (by rw [hcw]; decide) w' h).mono fun e w' h => ⟨(), h.1, by
    have h2 := h.2
    rw [hcb] at h2
    exact h2⟩) (fun _ => rfl) (fun _ _ _ => trivial) (fun a => ?_)
  have hd1 : lc 1 [c.put [205, 171, 3] 5] = some (c.put [205, 171, 3] 5) := by
    unfold lc
    rw [List.find?_cons, decide_eq_true (show (c.put [205, 171, 3] 5).id = 1 from hci)]
  have hd2 : (c.put [205, 171, 3] 5).dr = false := hcd
  have hd3 : (c.put [205, 171, 3] 5).ba = some ⟨bb, 0, none⟩ := hca
  have hd4 : (c.put [205, 171, 3] 5).bs = [205, 171, 3] := rfl
  have hd5 : (c.put [205, 171, 3] 5).id = 1 := hci
  generalize c.put [205, 171, 3] 5 = d at hd1 hd2 hd3 hd4 hd5 ⊢
  refine mx_weak (H' := [Sx.star (OC bx r 1 [d])]) (fun w h => h) (fun _ _ => trivial) ?_
  (repeat (first | ((refine (?_ : MX _ _ _ _ _ _ _ _ _ _ _)); first | refine mx_end ?_ | (refine mx_mv _ rfl rfl (by conv => {lhs; whnf}) ?_) | (refine mx_as _ rfl rfl (by conv => {lhs; whnf}) ?_) ) | refine cw_seq ?_ | refine cw_line rfl ?_ | refine pw_then ?_ ))
  refine g_cf 50 rfl ?_
  refine a_callo rfl rfl rfl rfl Try.func50 rfl rfl rfl 0 rfl (fun a : Unit => .bool true) (fun a => []) (fun a => OC bx r 1 [d.gon]) (fun w' hw h => (drop50y bx r 1 1 [d] 0 d rfl hd1 hd2 w' h).mono fun e w' h => ⟨(), h.1, h.2⟩) (fun _ => rfl) (fun _ _ _ => trivial) (fun a => ?_)
  have he1 : lc 1 [d.gon] = some d.gon := by
    unfold lc
    rw [List.find?_cons, decide_eq_true (show d.gon.id = 1 from hd5)]
  have he2 : d.gon.dr = true := rfl
  have he3 : d.gon.ba = some ⟨bb, 0, none⟩ := hd3
  have he4 : d.gon.bs = [205, 171, 3] := hd4
  have he5 : d.gon.id = 1 := hd5
  generalize d.gon = f at he1 he2 he3 he4 he5 ⊢
  have hby2 : Byts f.bs := by rw [he4]; intro x hx; simp at hx; omega
  have hgo : goneTo [f] 1 = [1] := by
    have h1 := goneTo_s [f] 0
    have h2 : isG [f] ((0 + 1 : Nat) : Int) = true := by
      unfold isG
      rw [show ((0 + 1 : Nat) : Int) = 1 from rfl, he1]
      exact he2
    rw [h2] at h1
    exact h1
  refine mx_weak (H' := [Sx.star (OC bx r 1 [f])]) (fun w h => h) (fun _ _ => trivial) ?_
  (repeat (first | ((refine (?_ : MX _ _ _ _ _ _ _ _ _ _ _)); first | refine mx_end ?_ | (refine mx_mv _ rfl rfl (by conv => {lhs; whnf}) ?_) | (refine mx_as _ rfl rfl (by conv => {lhs; whnf}) ?_) ) | refine cw_seq ?_ | refine cw_line rfl ?_ | refine pw_then ?_ ))
  refine g_cf 49 rfl ?_
  refine a_callv rfl rfl rfl rfl Try.func49 rfl rfl rfl (.tuple #[.int .u64 205, .bool true]) (fun w' hw => by
    have h := load49y bx r 1 1 [f] f he1 0 1 bb he3 (by omega) (by rw [he4]; decide) hby2 (by rw [he4]; decide) w' (oc1 (hw.holds 0 _ rfl)) (oc2 (hw.holds 0 _ rfl)) (oc3 (hw.holds 0 _ rfl))
    rw [he4] at h
    exact h) rfl ?_
  (repeat (first | ((refine (?_ : MX _ _ _ _ _ _ _ _ _ _ _)); first | refine mx_end ?_ | (refine mx_mv _ rfl rfl (by conv => {lhs; whnf}) ?_) | (refine mx_as _ rfl rfl (by conv => {lhs; whnf}) ?_) | (refine mx_ex _ rfl rfl rfl (by conv => {lhs; whnf}) ?_) ) | refine cw_seq ?_ | refine cw_line rfl ?_ | refine pw_then ?_ ))
  refine g_cf 46 rfl ?_
  refine a_callo rfl rfl rfl rfl Try.func46 rfl rfl rfl 0 rfl (fun a : Unit => .int .i64 1) (fun a => []) (fun a => OC bx r ((1 : Nat) : Int) []) (fun w' hw h => (sweep46g bx r 1 [f] (List.pairwise_singleton _ _) (fun c hc => by
    obtain rfl := List.mem_singleton.1 hc
    rw [he5]
    decide) (by omega) w' h).mono fun e w' h => ⟨(), by rw [h.1, hgo]; rfl, by
    have h2 := h.2
    rw [List.filter_cons, he2] at h2
    exact h2⟩) (fun _ => rfl) (fun _ _ _ => trivial) (fun a => ?_)
  refine mx_weak (H' := [Sx.star (OC bx r ((1 : Nat) : Int) [])]) (fun w h => h) (fun _ _ => trivial) ?_
  (repeat (first | ((refine (?_ : MX _ _ _ _ _ _ _ _ _ _ _)); first | refine mx_end ?_ | (refine mx_mv _ rfl rfl (by conv => {lhs; whnf}) ?_) | (refine mx_as _ rfl rfl (by conv => {lhs; whnf}) ?_) ) | refine cw_seq ?_ | refine cw_line rfl ?_ | refine pw_then ?_ ))
  refine g_cf 49 rfl ?_
  refine a_callv rfl rfl rfl rfl Try.func49 rfl rfl rfl (.tuple #[.int .u64 0, .bool false]) (fun w' hw => load49n bx r 1 1 0 1 [] (fun c' h' => by cases h') (by decide) (fun c' h' => by cases h') w' (oc1 (hw.holds 0 _ rfl)) (oc2 (hw.holds 0 _ rfl)) (oc3 (hw.holds 0 _ rfl))) rfl ?_
  (repeat (first | ((refine (?_ : MX _ _ _ _ _ _ _ _ _ _ _)); first | refine mx_end ?_ | (refine mx_mv _ rfl rfl (by conv => {lhs; whnf}) ?_) | (refine mx_as _ rfl rfl (by conv => {lhs; whnf}) ?_) | (refine g_bin rfl ?_; ((refine mx_cmpl .eql rfl rfl rfl rfl rfl (by exact cmp_eq_t (by omega) ) ?_) ) ) | (refine mx_not rfl rfl rfl ?_) | (refine mx_ex _ rfl rfl rfl (by conv => {lhs; whnf}) ?_) | (refine g_pick rfl ?_; refine mx_and rfl rfl rfl rfl rfl rfl ?_ ) ) | refine cw_seq ?_ | refine cw_line rfl ?_ | refine pw_then ?_ ))
  refine g_cf 45 rfl ?_
  refine a_callo rfl rfl rfl rfl Try.func45 rfl rfl rfl 0 rfl (fun a : Nat × Option Addr × Nat => .int .i64 2) (fun a => []) (fun a => OC bx r 2 [⟨2, a.1, a.2.1, a.2.2, [], 0, Bt.o, false⟩]) (fun w' hw h => make45n bx r 1 [] none 0 0 [] rfl (by omega) (by omega) (by omega) (fun c hc => by simp at hc) w' h (fun h => absurd rfl h) (fun h => absurd rfl h)) (fun _ => rfl) (fun _ _ _ => trivial) (fun a => ?_)
  (repeat (first | ((refine (?_ : MX _ _ _ _ _ _ _ _ _ _ _)); first | refine mx_end ?_ | (refine mx_as _ rfl rfl (by conv => {lhs; whnf}) ?_) | (refine g_bin rfl ?_; ((refine mx_cmpl .eql rfl rfl rfl rfl rfl (by exact cmp_eq_t (by omega) ) ?_) ) ) | (refine g_pick rfl ?_; refine mx_and rfl rfl rfl rfl rfl rfl ?_ ) ) | refine cw_ret ?_ | refine pw_then ?_ ))
  exact pw_ret rfl rfl rfl rfl fun w' hw => ⟨rfl, hw.keep.grow⟩
end Go.Proofs.Ytfekmflnfhjebaa
