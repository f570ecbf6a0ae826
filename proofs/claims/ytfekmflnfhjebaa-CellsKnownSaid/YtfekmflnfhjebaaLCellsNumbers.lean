/- The law CellsNumbers: the numbers of cells rise by one from 1 on, whatever was dropped and swept meanwhile. -/
import Derived.Test.YtfekmflnfhjebaaCi
set_option maxRecDepth 100000
set_option maxHeartbeats 8000000
set_option linter.unusedSimpArgs false
set_option linter.unusedVariables false
namespace Go.Proofs.Ytfekmflnfhjebaa
open Go Go.Sx Go.RowKit
theorem of_I (vs : List Value) (h : allFit [.int .i64] vs = true) : ∃ x : Int, vs = cI x := by
  match vs, h with
  | [v], h =>
    cases v <;> simp [allFit, LK.fits] at h
    rename_i k a
    subst h
    exact ⟨a, rfl⟩
  | [], h => simp [allFit] at h
  | _ :: _ :: _, h => simp [allFit] at h
theorem live33w (bx r L n : Nat) (cs : List PC) (h : Inv cs L n) (hL : L ≤ 100000) (hcl : cs.length ≤ 100000) (w : World) (h1 : (row bx 83 (hdC r L)).holds w) (h2 : (mapR r (kvC cs)).holds w) (h3 : (allC cs).holds w) :
    Calls Try.prog 33 #[.pointer (some ⟨bx, 0, none⟩)] w fun e w' => e = .returned (.int .i64 n) ∧ Grow w w' := by
  have := live33 bx r L cs hL hcl w h1 h2 h3
  have hg := gone_len h.uni h.ids
  have hn := h.liv
  rw [show (cs.length : Int) - ((goneTo cs L).length : Int) = (n : Int) by omega] at this
  exact this
theorem inv_len {cs : List PC} {L n : Nat} (h : Inv cs L n) : cs.length ≤ L + n := by
  have h1 := gone_len h.uni h.ids
  have h2 := goneTo_len cs L
  have h3 := h.liv
  omega
theorem lawCellsNumbers (ad : Option Addr) (cap : Nat) (l : List Int) (w : World) (hl : InL w ad 1 cI l) :
    Calls Try.prog 11 #[.slice ad l.length cap] w fun e w' => e = .returned (.bool true) ∧ Grow w w' := by
  refine enter1 (S := fun _ => False) 76 Try.func11 rfl rfl rfl (Ok.start w) ?_
  (repeat (first | ((refine (?_ : MX _ _ _ _ _ _ _ _ _ _ _)); first | refine mx_end ?_ | (refine mx_as _ rfl rfl (by conv => {lhs; whnf}) ?_) ) | refine cw_seq ?_ | refine cw_line rfl ?_ | refine pw_then ?_ ))
  refine g_cf 27 rfl ?_
  refine a_callL rfl rfl rfl rfl Try.func27 rfl rfl rfl [] _ rfl (fun a : Nat × Nat => .pointer (some ⟨a.1, 0, none⟩)) (fun a => OC a.1 a.2 0 []) (fun w' hw _ => new27 w') (fun _ => rfl) (fun _ _ _ => trivial) (fun a => ?_)
  obtain ⟨bx, r⟩ := a
  refine mx_weak (H' := [Sx.star (OC bx r ((0 : Nat) : Int) [])]) (fun w h => h.star) (fun _ _ => trivial) ?_
  (repeat (first | ((refine (?_ : MX _ _ _ _ _ _ _ _ _ _ _)); first | refine mx_end ?_ | (refine mx_as _ rfl rfl (by conv => {lhs; whnf}) ?_) ) | refine cw_seq ?_ | refine cw_line rfl ?_ | refine cw_block ?_ | refine pw_then ?_ ))
  refine cw_loop (ι := Nat × List PC × Nat) (fun q => [(5, .int .i64 q.1), (4, .int .i64 q.2.2), (3, .pointer (some ⟨bx, 0, none⟩)), (0, .slice ad l.length cap)]) (fun q => [Sx.star (OC bx r ((q.1 : Nat) : Int) q.2.1)]) (fun q => q.1 ≤ 100 ∧ q.2.2 ≤ q.1 ∧ Inv q.2.1 q.1 q.2.2) (fun q => 100 - q.1) (0, [], 0) ⟨by show 0 ≤ 100; omega, Nat.le_refl _, ⟨List.Pairwise.nil, fun c h => by simp at h, fun c h => by simp at h, rfl⟩⟩ ⟨rfl, rfl, rfl, rfl, trivial⟩ (fun w h => h) ?_
  rintro ⟨i, cs, n⟩ jk ⟨hi, hni, hI⟩
  dsimp only at hi hni hI ⊢
  by_cases hb : (i : Int) < l.length ∧ (i : Int) < 100
  case neg =>
    by_cases hb2 : (i : Int) < l.length
    · (repeat (first | ((refine (?_ : MX _ _ _ _ _ _ _ _ _ _ _)); first | refine mx_end ?_ | (refine mx_mv _ rfl rfl (by conv => {lhs; whnf}) ?_) | (refine mx_as _ rfl rfl (by conv => {lhs; whnf}) ?_) | (refine g_bin rfl ?_; ( (refine mx_cmpl .lss rfl rfl rfl rfl rfl (by first | exact cmp_lt_t (by omega) | exact cmp_lt_f (by omega) ) ?_) ) ) | (refine g_bi .len rfl ?_; refine mx_len E rfl rfl rfl rfl ?_) | (refine g_pick rfl ?_; refine mx_and rfl rfl rfl rfl rfl rfl ?_ ) | (refine g_call rfl ?_; (refine g_cf 47 rfl ?_; refine mx_call rfl rfl rfl Try.func47 rfl rfl rfl _ (fun w => works47 w) rfl ?_))) | refine cw_seq ?_ | refine cw_line rfl ?_ | refine cw_cond_f rfl ?_ | refine cw_exit ?_ | refine cw_ret ?_ | refine pw_then ?_ | refine pw_then_x ?_ | refine pw_block_e ?_ ))
      exact pw_ret rfl rfl rfl rfl fun w' hw => ⟨rfl, hw.keep.grow⟩
    · (repeat (first | ((refine (?_ : MX _ _ _ _ _ _ _ _ _ _ _)); first | refine mx_end ?_ | (refine mx_mv _ rfl rfl (by conv => {lhs; whnf}) ?_) | (refine mx_as _ rfl rfl (by conv => {lhs; whnf}) ?_) | (refine g_bin rfl ?_; ( (refine mx_cmpl .lss rfl rfl rfl rfl rfl (by first | exact cmp_lt_f (by omega) | rfl) ?_) ) ) | (refine g_bi .len rfl ?_; refine mx_len E rfl rfl rfl rfl ?_) | (refine mx_skip rfl rfl rfl ?_) | (refine g_pick rfl ?_; refine mx_andf rfl rfl rfl rfl rfl ?_ ) | (refine g_call rfl ?_; (refine g_cf 47 rfl ?_; refine mx_call rfl rfl rfl Try.func47 rfl rfl rfl _ (fun w => works47 w) rfl ?_))) | refine cw_seq ?_ | refine cw_line rfl ?_ | refine cw_cond_f rfl ?_ | refine cw_exit ?_ | refine cw_ret ?_ | refine pw_then ?_ | refine pw_then_x ?_ | refine pw_block_e ?_ ))
      exact pw_ret rfl rfl rfl rfl fun w' hw => ⟨rfl, hw.keep.grow⟩
  case pos =>
    obtain ⟨hb1, hb2⟩ := hb
    obtain ⟨x, hx⟩ := getElem_some (xs := l) (i := i) (by omega)
    obtain ⟨b4, off, e, hcc⟩ := inl_at hl hx
    subst e
    have hS : ¬ (fun _ : Nat => False) b4 := id
    have hc0 : w.cell? ⟨b4, off + i * 1, none⟩ = some (.int .i64 x) := hcc 0 _ rfl
    have hcv : IntKind.u8.wrap (i : Int) = (i : Int) := IntWalk.u8_in _ (by omega)
    have hn1 : (n : Int) + 1 = ((n + 1 : Nat) : Int) := rfl
    have hn2 : ((n + 1 : Nat) : Int) - 1 = (n : Int) := by omega
    have hi1 : (i : Int) + 1 = ((i + 1 : Nat) : Int) := rfl
    obtain ⟨p, hp⟩ := Int.eq_ofNat_of_zero_le (Int.emod_nonneg x (show ((i + 1 : Nat) : Int) ≠ 0 by omega))
    have hpi := Int.emod_lt_of_pos x (show (0 : Int) < ((i + 1 : Nat) : Int) by omega)
    (repeat (first | ((refine (?_ : MX _ _ _ _ _ _ _ _ _ _ _)); first | refine mx_end ?_ | (refine mx_mv _ rfl rfl (by conv => {lhs; whnf}) ?_) | (refine g_bin rfl ?_; ( (refine mx_cmpl .lss rfl rfl rfl rfl rfl (by exact cmp_lt_t (by omega) ) ?_) ) ) | (refine g_bi .len rfl ?_; refine mx_len E rfl rfl rfl rfl ?_) | (refine g_pick rfl ?_; refine mx_and rfl rfl rfl rfl rfl rfl ?_ ) | (refine g_bs rfl ?_; refine a_bsi E rfl rfl rfl rfl rfl (by (repeat (first | exact EvI.nil | (apply EvI.cons; rfl)))) (by rfl) (by rfl) (by rfl) rfl (fun _ => ?_)) | (refine g_conv rfl ?_; refine mx_cv E rfl rfl rfl rfl rfl rfl (by assumption) rfl ?_ ) ) | refine cw_seq ?_ | refine cw_line rfl ?_ | refine cw_block ?_ | refine cw_cond_t rfl ?_ | refine cw_skip ?_ | refine pw_then ?_ ))
    rename_i b1
    refine g_cf 45 rfl ?_
    refine a_callo rfl rfl rfl rfl Try.func45 rfl rfl rfl 1 rfl (fun a : Nat × Option Addr × Nat => .int .i64 ((i + 1 : Nat) : Int)) (fun a => []) (fun a => OC bx r ((i + 1 : Nat) : Int) (cs ++ [⟨((i + 1 : Nat) : Int), a.1, a.2.1, a.2.2, [(i : Int)], 0, Bt.o, false⟩])) (fun w' hw h => by
      have h45 := make45n bx r i cs (some ⟨b1, 0, none⟩) 1 1 [(i : Int)] rfl (by omega) (by omega) (by omega) (fun c hc => by have := hI.ids c hc; omega) w' h (row_in len_U (hw.holds 0 _ rfl)) (row_new hw 0 1 rfl rfl (by decide))
      rw [show List.take 64 [(i : Int)] = [(i : Int)] from rfl] at h45
      exact h45) (fun _ => rfl) (fun _ _ _ => trivial) (fun a => ?_)
    have hI1 := hI.make a (i : Int)
    generalize cs ++ [(⟨((i + 1 : Nat) : Int), a.1, a.2.1, a.2.2, [(i : Int)], 0, Bt.o, false⟩ : PC)] = cs1 at hI1 ⊢
    refine mx_weak (H' := [Sx.star (OC bx r ((i + 1 : Nat) : Int) cs1)]) (fun w h => h.pick [1] (by simp) rfl) (fun _ _ => trivial) ?_
    (repeat (first | ((refine (?_ : MX _ _ _ _ _ _ _ _ _ _ _)); first | refine mx_end ?_ | (refine mx_mv _ rfl rfl (by conv => {lhs; whnf}) ?_) | (refine mx_as _ rfl rfl (by conv => {lhs; whnf}) ?_) | (refine g_load rfl ?_; refine mx_old1 E rfl rfl rfl rfl rfl (by assumption) (by assumption) rfl ?_ ) | (refine g_bin rfl ?_; (refine mx_ar rfl rfl rfl rfl rfl rfl ((IntWalk.i64_in _ (by omega)).trans (by with_reducible assumption)) rfl ?_ ) ) | (refine g_ix rfl ?_; refine mx_ixsn E rfl rfl rfl rfl rfl rfl (by omega) rfl ?_ ) ) | refine cw_seq ?_ | refine cw_line rfl ?_ | refine pw_then ?_ ))
    refine g_cf 43 rfl ?_
    refine mx_call rfl rfl rfl Try.func43 rfl rfl rfl _ (fun w => pickE x ((i + 1 : Nat) : Int) p (by omega) (by omega) hp w) rfl ?_
    (repeat (first | ((refine (?_ : MX _ _ _ _ _ _ _ _ _ _ _)); first | refine mx_end ?_ | (refine mx_mv _ rfl rfl (by conv => {lhs; whnf}) ?_) | (refine mx_as _ rfl rfl (by conv => {lhs; whnf}) ?_) | (refine g_bin rfl ?_; ( refine mx_ar rfl rfl rfl rfl rfl rfl (IntWalk.i64_in _ (by omega)) rfl ?_) ) ) | refine cw_seq ?_ | refine cw_line rfl ?_ | refine pw_then ?_ ))
    by_cases hD : ∃ c, lc (1 + (p : Int)) cs1 = some c ∧ c.dr = false
    case' pos =>
      obtain ⟨c, hc, hcd⟩ := hD
      obtain ⟨hcm, hcid⟩ := lc_mem hc
      obtain ⟨j, hj⟩ := List.mem_iff_getElem?.1 hcm
      have hI2 := hI1.drop hj hcd
      have hnl : ∀ c', lc (1 + (p : Int)) (cs1.set j c.gon) = some c' → c'.dr = true := fun c' h' => by
        have hlt := (List.getElem?_eq_some_iff.1 hj).1
        have h5 := hI2.uni.lc c.gon (List.mem_of_getElem? (List.getElem?_set_self hlt))
        rw [show c.gon.id = 1 + (p : Int) from hcid] at h5
        rw [h5] at h'
        obtain rfl := Option.some.inj h'
        rfl
      have hg1 : 1 ≤ (goneTo (cs1.set j c.gon) (i + 1)).length := by
        have h6 := gone_len hI2.uni hI2.ids
        have h7 := hI2.liv
        have h8 : (cs1.set j c.gon).length = cs1.length := List.length_set
        have h9 := hI1.liv
        have h10 : liv cs1 ≤ cs1.length := List.length_filter_le _ _
        omega
      refine g_cf 50 rfl ?_
      refine a_callo rfl rfl rfl rfl Try.func50 rfl rfl rfl 0 rfl (fun a : Unit => .bool true) (fun a => []) (fun a => OC bx r ((i + 1 : Nat) : Int) (cs1.set j c.gon)) (fun w' hw h => (drop50y bx r ((i + 1 : Nat) : Int) (1 + (p : Int)) cs1 j c hj hc hcd w' h).mono fun e w' h => ⟨(), h.1, h.2⟩) (fun _ => rfl) (fun _ _ _ => trivial) (fun a => ?_)
      generalize cs1.set j c.gon = cs2 at hI2 hnl hg1 ⊢
      refine mx_weak (H' := [Sx.star (OC bx r ((i + 1 : Nat) : Int) cs2)]) (fun w h => h) (fun _ _ => trivial) ?_
    case' neg =>
      have hnl : ∀ c', lc (1 + (p : Int)) cs1 = some c' → c'.dr = true := fun c' h' => by
        cases hd : c'.dr with
        | true => rfl
        | false => exact absurd ⟨c', h', hd⟩ hD
      have hI2 := hI1
      generalize cs1 = cs2 at hI2 hnl ⊢
      refine g_cf 50 rfl ?_
      refine a_callv rfl rfl rfl rfl Try.func50 rfl rfl rfl (.bool false) (fun w' hw => drop50n bx r ((i + 1 : Nat) : Int) (1 + (p : Int)) cs2 hnl w' (oc1 (hw.holds 0 _ rfl)) (oc2 (hw.holds 0 _ rfl)) (oc3 (hw.holds 0 _ rfl))) rfl ?_
    all_goals (
      by_cases h2 : x.tmod 2 = 0
      case pos =>
        (repeat (first | ((refine (?_ : MX _ _ _ _ _ _ _ _ _ _ _)); first | refine mx_end ?_ | (refine mx_mv _ rfl rfl (by conv => {lhs; whnf}) ?_) | (refine mx_as _ rfl rfl (by conv => {lhs; whnf}) ?_) | (refine g_load rfl ?_; refine mx_old1 E rfl rfl rfl rfl rfl (by assumption) (by assumption) rfl ?_ ) | (refine g_bin rfl ?_; first | ((refine mx_cmpl .eql rfl rfl rfl rfl rfl (by exact cmp_eq_t (by omega) ) ?_) ) | (refine mx_ar rfl rfl rfl rfl rfl rfl ((IntWalk.i64_in _ (by omega)).trans (by with_reducible assumption)) rfl ?_ ) | refine mx_dv rfl rfl rfl rfl rfl (by decide) (congrArg some (by assumption)) rfl rfl ?_ ) | (refine g_ix rfl ?_; refine mx_ixsn E rfl rfl rfl rfl rfl rfl (by omega) rfl ?_ ) ) | refine cw_seq ?_ | refine cw_line rfl ?_ | refine cw_cond_f rfl ?_ | refine cw_cond_t rfl ?_ | refine cw_skip ?_ | refine pw_then ?_ ))
        refine g_cf 46 rfl ?_
        refine a_callo rfl rfl rfl rfl Try.func46 rfl rfl rfl 0 rfl (fun a : Unit => .int .i64 ((goneTo cs2 (i + 1)).length : Nat)) (fun a => []) (fun a => OC bx r ((i + 1 : Nat) : Int) (cs2.filter fun c => !c.dr)) (fun w' hw h => (sweep46g bx r (i + 1) cs2 hI2.uni hI2.ids (by omega) w' h).mono fun e w' h => ⟨(), h.1, h.2⟩) (fun _ => rfl) (fun _ _ _ => trivial) (fun a => ?_)
        have hI3 := hI2.sweep
        have hn3 := sweep_lc hI2.uni hnl
        have hnl3 : ∀ c', lc (1 + (p : Int)) (cs2.filter fun c => !c.dr) = some c' → c'.dr = true := fun c' h' => by rw [hn3] at h'; cases h'
        have hb3 : bsOf (1 + (p : Int)) (cs2.filter fun c => !c.dr) = [] := by unfold bsOf; rw [hn3]
        generalize (cs2.filter fun c => !c.dr) = cs3 at hI3 hn3 hnl3 hb3 ⊢
        refine mx_weak (H' := [Sx.star (OC bx r ((i + 1 : Nat) : Int) cs3)]) (fun w h => h) (fun _ _ => trivial) ?_
        (repeat (first | ((refine (?_ : MX _ _ _ _ _ _ _ _ _ _ _)); first | refine mx_end ?_ | (refine mx_mv _ rfl rfl (by conv => {lhs; whnf}) ?_) | (refine mx_as _ rfl rfl (by conv => {lhs; whnf}) ?_) ) | refine cw_seq ?_ | refine cw_line rfl ?_ | refine pw_then ?_ ))
        refine g_cf 37 rfl ?_
        refine a_callv rfl rfl rfl rfl Try.func37 rfl rfl rfl (.int .i64 0) (fun w' hw => by
          have h37 := size37 bx r ((i + 1 : Nat) : Int) (1 + (p : Int)) cs3 (fun c hc => by have := hI3.bs c hc; omega) w' (oc1 (hw.holds 0 _ rfl)) (oc2 (hw.holds 0 _ rfl)) (oc3 (hw.holds 0 _ rfl))
          rw [hb3] at h37
          exact h37) rfl ?_
        (repeat (first | ((refine (?_ : MX _ _ _ _ _ _ _ _ _ _ _)); first | refine mx_end ?_ | (refine mx_mv _ rfl rfl (by conv => {lhs; whnf}) ?_) | (refine g_bin rfl ?_; first | (first | (refine mx_cmpl .neq rfl rfl rfl rfl rfl (by exact cmp_ne_f (by omega) ) ?_) | (refine mx_cmpl .lss rfl rfl rfl rfl rfl (by first | exact cmp_lt_t (by omega) | exact cmp_lt_f (by omega) | rfl) ?_) ) | (refine mx_ar rfl rfl rfl rfl rfl rfl ((IntWalk.i64_in _ (by omega)).trans (by with_reducible assumption)) rfl ?_ ) ) | (refine mx_skip rfl rfl rfl ?_) | (refine g_pick rfl ?_; first | refine mx_andf rfl rfl rfl rfl rfl ?_ | refine mx_and rfl rfl rfl rfl rfl rfl ?_ | refine mx_or rfl rfl rfl rfl rfl rfl ?_ ) ) | refine cw_seq ?_ | refine cw_line rfl ?_ | refine cw_cond_f rfl ?_ | refine cw_skip ?_ | refine pw_then ?_ ))
        refine g_cf 33 rfl ?_; refine a_callv rfl rfl rfl rfl Try.func33 rfl rfl rfl _ (fun w' hw => live33w bx r (i + 1) _ _ hI3 (by omega) (by have := inv_len hI3; omega) w' (oc1 (hw.holds 0 _ rfl)) (oc2 (hw.holds 0 _ rfl)) (oc3 (hw.holds 0 _ rfl))) rfl ?_
        (repeat (((refine (?_ : MX _ _ _ _ _ _ _ _ _ _ _)); first | (refine mx_mv _ rfl rfl (by conv => {lhs; whnf}) ?_) | (refine g_bin rfl ?_; ( (refine mx_cmpl .neq rfl rfl rfl rfl rfl (by exact cmp_ne_f (by omega) ) ?_) ) ) | (refine g_pick rfl ?_; refine mx_or rfl rfl rfl rfl rfl rfl ?_ ) ) ))
        refine g_cf 50 rfl ?_; refine a_callv rfl rfl rfl rfl Try.func50 rfl rfl rfl (.bool false) (fun w' hw => drop50n bx r ((i + 1 : Nat) : Int) (1 + (p : Int)) _ hnl3 w' (oc1 (hw.holds 0 _ rfl)) (oc2 (hw.holds 0 _ rfl)) (oc3 (hw.holds 0 _ rfl))) rfl ?_
        (repeat (first | ((refine (?_ : MX _ _ _ _ _ _ _ _ _ _ _)); first | refine mx_end ?_ | (refine mx_mv _ rfl rfl (by conv => {lhs; whnf}) ?_) | (refine mx_as _ rfl rfl (by conv => {lhs; whnf}) ?_) | (refine g_bin rfl ?_; (refine mx_ar rfl rfl rfl rfl rfl rfl ((IntWalk.i64_in _ (by omega)).trans (by with_reducible assumption)) rfl ?_ ) ) | (refine g_pick rfl ?_; refine mx_or rfl rfl rfl rfl rfl rfl ?_ ) ) | refine cw_line rfl ?_ | refine cw_cond_f rfl ?_ | refine cw_skip ?_ | refine pw_then ?_ | refine pw_block ?_ ))
        first | exact pw_round (i + 1, cs3, n) ⟨by show i + 1 ≤ 100; omega, by show n ≤ i + 1; omega, hI3⟩ (by show 100 - (i + 1) < 100 - i; omega) ⟨rfl, rfl, rfl, rfl, trivial⟩ (fun w h => h) | exact pw_round (i + 1, cs3, (n + 1)) ⟨by show i + 1 ≤ 100; omega, by show n + 1 ≤ i + 1; omega, hI3⟩ (by show 100 - (i + 1) < 100 - i; omega) ⟨rfl, rfl, rfl, rfl, trivial⟩ (fun w h => h)
      case neg =>
        have hI3 := hI2
        have hnl3 := hnl
        (repeat (first | ((refine (?_ : MX _ _ _ _ _ _ _ _ _ _ _)); first | refine mx_end ?_ | (refine mx_mv _ rfl rfl (by conv => {lhs; whnf}) ?_) | (refine mx_as _ rfl rfl (by conv => {lhs; whnf}) ?_) | (refine g_load rfl ?_; refine mx_old1 E rfl rfl rfl rfl rfl (by assumption) (by assumption) rfl ?_ ) | (refine g_bin rfl ?_; first | (first | (refine mx_cmpl .eql rfl rfl rfl rfl rfl (by first | exact cmp_eq_t (by omega) | exact cmp_eq_f (by omega) ) ?_) | (refine mx_cmpl .neq rfl rfl rfl rfl rfl (by first | exact cmp_ne_t (by omega) | exact cmp_ne_f (by omega) ) ?_) ) | (refine mx_ar rfl rfl rfl rfl rfl rfl ((IntWalk.i64_in _ (by omega)).trans (by with_reducible assumption)) rfl ?_ ) | refine mx_dv rfl rfl rfl rfl rfl (by decide) rfl rfl rfl ?_ ) | (refine g_ix rfl ?_; refine mx_ixsn E rfl rfl rfl rfl rfl rfl (by omega) rfl ?_ ) ) | refine cw_seq ?_ | refine cw_line rfl ?_ | refine cw_cond_f rfl ?_ | refine cw_cond_t rfl ?_ | refine cw_skip ?_ | refine pw_then ?_ ))
        refine g_cf 33 rfl ?_; refine a_callv rfl rfl rfl rfl Try.func33 rfl rfl rfl _ (fun w' hw => live33w bx r (i + 1) _ _ hI3 (by omega) (by have := inv_len hI3; omega) w' (oc1 (hw.holds 0 _ rfl)) (oc2 (hw.holds 0 _ rfl)) (oc3 (hw.holds 0 _ rfl))) rfl ?_
        (repeat (((refine (?_ : MX _ _ _ _ _ _ _ _ _ _ _)); first | (refine mx_mv _ rfl rfl (by conv => {lhs; whnf}) ?_) | (refine g_bin rfl ?_; ( (refine mx_cmpl .neq rfl rfl rfl rfl rfl (by exact cmp_ne_f (by omega) ) ?_) ) ) | (refine g_pick rfl ?_; refine mx_or rfl rfl rfl rfl rfl rfl ?_ ) ) ))
        refine g_cf 50 rfl ?_; refine a_callv rfl rfl rfl rfl Try.func50 rfl rfl rfl (.bool false) (fun w' hw => drop50n bx r ((i + 1 : Nat) : Int) (1 + (p : Int)) _ hnl3 w' (oc1 (hw.holds 0 _ rfl)) (oc2 (hw.holds 0 _ rfl)) (oc3 (hw.holds 0 _ rfl))) rfl ?_
        (repeat (first | ((refine (?_ : MX _ _ _ _ _ _ _ _ _ _ _)); first | refine mx_end ?_ | (refine mx_mv _ rfl rfl (by conv => {lhs; whnf}) ?_) | (refine mx_as _ rfl rfl (by conv => {lhs; whnf}) ?_) | (refine g_bin rfl ?_; (refine mx_ar rfl rfl rfl rfl rfl rfl ((IntWalk.i64_in _ (by omega)).trans (by with_reducible assumption)) rfl ?_ ) ) | (refine g_pick rfl ?_; refine mx_or rfl rfl rfl rfl rfl rfl ?_ ) ) | refine cw_line rfl ?_ | refine cw_cond_f rfl ?_ | refine cw_skip ?_ | refine pw_then ?_ | refine pw_block ?_ ))
        first | exact pw_round (i + 1, cs2, n) ⟨by show i + 1 ≤ 100; omega, by show n ≤ i + 1; omega, hI3⟩ (by show 100 - (i + 1) < 100 - i; omega) ⟨rfl, rfl, rfl, rfl, trivial⟩ (fun w h => h) | exact pw_round (i + 1, cs2, (n + 1)) ⟨by show i + 1 ≤ 100; omega, by show n + 1 ≤ i + 1; omega, hI3⟩ (by show 100 - (i + 1) < 100 - i; omega) ⟨rfl, rfl, rfl, rfl, trivial⟩ (fun w h => h))
end Go.Proofs.Ytfekmflnfhjebaa
