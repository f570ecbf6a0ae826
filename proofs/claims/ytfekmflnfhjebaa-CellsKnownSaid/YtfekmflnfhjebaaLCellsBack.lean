/- The law CellsBack: what is stored in a cell, inside, is loaded, byte by byte too; all other bytes are as they were. -/
import Derived.Test.YtfekmflnfhjebaaCu
import Derived.Test.YtfekmflnfhjebaaCv
import Derived.Test.YtfekmflnfhjebaaOb2
set_option maxRecDepth 100000
set_option maxHeartbeats 8000000
set_option linter.unusedSimpArgs false
set_option linter.unusedVariables false
namespace Go.Proofs.Ytfekmflnfhjebaa
open Go Go.Sx Go.RowKit
theorem wrB_at {bs us : List Int} {off : Nat} (h : off + us.length ≤ bs.length) (i : Nat) : (wrB bs off us)[i]? = if off ≤ i ∧ i < off + us.length then us[i - off]? else bs[i]? := by
  unfold wrB
  by_cases h1 : i < off
  · rw [if_neg (by omega), List.append_assoc, List.getElem?_append_left (by rw [List.length_take]; omega), List.getElem?_take_of_lt h1]
  · rw [List.append_assoc, List.getElem?_append_right (by rw [List.length_take]; omega), List.length_take, Nat.min_eq_left (by omega)]
    by_cases h2 : i < off + us.length
    · rw [if_pos (by omega), List.getElem?_append_left (by omega)]
    · rw [if_neg (by omega), List.getElem?_append_right (by omega), List.getElem?_drop]
      congr 1
      omega
theorem wrB_mid {bs us : List Int} {off : Nat} (h : off + us.length ≤ bs.length) : ((wrB bs off us).drop off).take us.length = us := by
  unfold wrB
  rw [List.append_assoc, List.drop_append_of_le_length (by rw [List.length_take]; omega), List.drop_of_length_le (by rw [List.length_take]; omega), List.nil_append, List.take_left' rfl]
theorem take1 {bs : List Int} {i : Nat} {x : Int} (h : bs[i]? = some x) : (bs.drop i).take 1 = [x] := by
  have hi := (List.getElem?_eq_some_iff.1 h).1
  rw [List.drop_eq_getElem_cons hi, (List.getElem?_eq_some_iff.1 h).2]
  rfl
theorem lawCellsBack (ad : Option Addr) (cap : Nat) (b : List Int) (off size v : Int) (hb : Byts b) (hoff : -9223372036854775808 ≤ off ∧ off < 9223372036854775808) (hsz : -9223372036854775808 ≤ size ∧ size < 9223372036854775808) (hv : 0 ≤ v ∧ v < 18446744073709551616) (hcap : b.length ≤ cap) (w : World) (hl : InL w ad 1 cU b) :
    Calls Try.prog 10 #[.slice ad b.length cap, .int .i64 off, .int .i64 size, .int .u64 v] w fun e w' => e = .returned (.bool true) ∧ Grow w w' := by
  refine enter4 (S := fun _ => False) 178 Try.func10 rfl rfl rfl (Ok.start w) ?_
  by_cases hlong : (b.length : Int) > 200
  · (repeat (first | ((refine (?_ : MX _ _ _ _ _ _ _ _ _ _ _)); first | refine mx_end ?_ | (refine mx_mv _ rfl rfl (by conv => {lhs; whnf}) ?_) | (refine mx_as _ rfl rfl (by conv => {lhs; whnf}) ?_) | (refine g_bin rfl ?_; ( (refine mx_cmpl .gtr rfl rfl rfl rfl rfl (by exact cmp_gt_t (by omega) ) ?_) ) ) | (refine g_bi .len rfl ?_; refine mx_len E rfl rfl rfl rfl ?_) | (refine g_call rfl ?_; (refine g_cf 47 rfl ?_; refine mx_call rfl rfl rfl Try.func47 rfl rfl rfl _ (fun w => works47 w) rfl ?_))) | refine cw_seq ?_ | refine cw_line rfl ?_ | refine cw_cond_t rfl ?_ | refine cw_ret ?_ | refine pw_then ?_ | refine pw_then_r ?_ ))
    exact pw_ret rfl rfl rfl rfl fun w' hw => ⟨rfl, hw.keep.grow⟩
  (repeat (first | ((refine (?_ : MX _ _ _ _ _ _ _ _ _ _ _)); first | refine mx_end ?_ | (refine mx_mv _ rfl rfl (by conv => {lhs; whnf}) ?_) | (refine mx_as _ rfl rfl (by conv => {lhs; whnf}) ?_) | (refine g_bin rfl ?_; ( (refine mx_cmpl .gtr rfl rfl rfl rfl rfl (by exact cmp_gt_f (by omega) ) ?_) ) ) | (refine g_bi .len rfl ?_; refine mx_len E rfl rfl rfl rfl ?_) ) | refine cw_seq ?_ | refine cw_line rfl ?_ | refine cw_cond_f rfl ?_ | refine cw_skip ?_ | refine pw_then ?_ ))
  refine g_cf 27 rfl ?_
  refine a_callL rfl rfl rfl rfl Try.func27 rfl rfl rfl [] _ rfl (fun a : Nat × Nat => .pointer (some ⟨a.1, 0, none⟩)) (fun a => OC a.1 a.2 0 []) (fun w' hw _ => new27 w') (fun _ => rfl) (fun _ _ _ => trivial) (fun a => ?_)
  obtain ⟨bx, r⟩ := a
  refine mx_weak (H' := [Sx.star (OC bx r ((0 : Nat) : Int) [])]) (fun w h => h.star) (fun _ _ => trivial) ?_
  (repeat (first | ((refine (?_ : MX _ _ _ _ _ _ _ _ _ _ _)); first | refine mx_end ?_ | (refine mx_mv _ rfl rfl (by conv => {lhs; whnf}) ?_) | (refine mx_as _ rfl rfl (by conv => {lhs; whnf}) ?_) ) | refine cw_seq ?_ | refine cw_line rfl ?_ | refine pw_then ?_ ))
  refine g_cf 45 rfl ?_
  refine a_co0 rfl rfl rfl rfl Try.func45 rfl rfl rfl (OC bx r ((0 : Nat) : Int) []) (fun a : Nat × Option Addr × Nat => .int .i64 1) (fun a => OC bx r ((1 : Nat) : Int) [newC 0 a b]) (fun w' hw h => make45n bx r 0 [] ad b.length cap b rfl hcap (by omega) (by omega) (fun c hc => by cases hc) w' h (hl.keep hw fun _ _ _ h => h) (oldNe hw 0 rfl len_U (by omega) hl (fun _ _ _ _ h => h))) (fun _ => rfl) (fun _ _ _ => trivial) (fun a => ?_)
  have hmin : min (b.length : Int) 64 = ((b.take 64).length : Int) := by rw [List.length_take]; omega
  have hwf : WF [newC 0 a b] 1 1 := WF.nil.make a hb
  have hl2 := hl.take 64
  have hb2 : Byts (b.take 64) := take_byts hb 64
  have hbl : (b.take 64).length ≤ 64 := by rw [List.length_take]; omega
  have hcap2 : (b.take 64).length ≤ cap := by rw [List.length_take]; omega
  have hlc : lc 1 [newC 0 a b] = some (newC 0 a b) := rfl
  have hbs : (newC 0 a b).bs = b.take 64 := rfl
  have hwr : (newC 0 a b).id = 1 := rfl
  generalize newC 0 a b = c at hwf hlc hbs hwr ⊢
  generalize b.take 64 = bs at hmin hl2 hb2 hbl hcap2 hbs
  (repeat (first | ((refine (?_ : MX _ _ _ _ _ _ _ _ _ _ _)); first | refine mx_end ?_ | (refine mx_mv _ rfl rfl (by conv => {lhs; whnf}) ?_) | (refine mx_as _ rfl rfl (by conv => {lhs; whnf}) ?_) | (refine g_bi .len rfl ?_; refine mx_len E rfl rfl rfl rfl ?_) | ((refine g_bi .min rfl ?_; refine mx_mini rfl rfl rfl rfl rfl (by with_reducible assumption) rfl ?_)) ) | refine cw_seq ?_ | refine cw_line rfl ?_ | refine pw_then ?_ ))
  refine mx_slice_to E rfl rfl rfl rfl rfl rfl (by omega) (by omega) rfl ?_
  rw [Int.toNat_natCast]
  (repeat (first | ((refine (?_ : MX _ _ _ _ _ _ _ _ _ _ _)); first | refine mx_end ?_ | (refine mx_as _ rfl rfl (by conv => {lhs; whnf}) ?_) ) | refine pw_then ?_))
  obtain ⟨o, ho⟩ : ∃ o : CO, o = ⟨2, 1, off, size, 0, v, none, 0, []⟩ := ⟨_, rfl⟩
  have o1 : o.id = 1 := by rw [ho]
  have o2 : o.off = off := by rw [ho]
  have o3 : o.size = size := by rw [ho]
  have o4 : o.now = 0 := by rw [ho]
  have o5 : o.v = v := by rw [ho]
  have hF : okS o [c] = decide (fits c off size) := by unfold okS; rw [o1, hlc, o2, o3]
  obtain ⟨F, hFF⟩ : ∃ F, okS o [c] = F := ⟨_, rfl⟩
  have hfs : (decide (fits c off size)) = F := hF.symm.trans hFF
  refine cw_mid (ι := Unit) (fun _ => [(11, .bool F), (9, .pointer (some ⟨bx, 0, none⟩)), (10, .int .i64 1), (0, .slice ad bs.length cap), (1, .int .i64 off), (2, .int .i64 size), (3, .int .u64 v)]) (fun _ => [star (OC bx r ((1 : Nat) : Int) [c])]) (fun _ => True) ?_ ?_
  · have yes : fits c off size → true = F := fun h => by rw [← hfs, decide_eq_true h]
    have no : ¬ fits c off size → false = F := fun h => by rw [← hfs, decide_eq_false h]
    unfold fits at yes no
    rw [hbs] at yes no
    by_cases hs : size = 1 ∨ size = 2 ∨ size = 4 ∨ size = 8
    case neg =>
      obtain rfl := no (fun h => hs h.1)
      (repeat (first | ((refine (?_ : MX _ _ _ _ _ _ _ _ _ _ _)); first | refine mx_end ?_ | (refine mx_mv _ rfl rfl (by conv => {lhs; whnf}) ?_) | (refine mx_as _ rfl rfl (by conv => {lhs; whnf}) ?_) | (refine g_bin rfl ?_; ((refine mx_cmpl .eql rfl rfl rfl rfl rfl (by first | exact cmp_eq_t (by omega) | exact cmp_eq_f (by omega) ) ?_) ) ) | (refine mx_skip rfl rfl rfl ?_) | (refine g_pick rfl ?_; first | refine mx_andf rfl rfl rfl rfl rfl ?_ | refine mx_or rfl rfl rfl rfl rfl rfl ?_ ) ) | refine cw_line rfl ?_ ))
      exact pw_mid () trivial ⟨rfl, rfl, rfl, rfl, rfl, rfl, rfl, trivial⟩ (fun w h => h)
    by_cases ho0 : off < 0
    · obtain rfl := no (fun h => by omega)
      rcases hs with hs | hs | hs | hs
      all_goals (
        (repeat (first | ((refine (?_ : MX _ _ _ _ _ _ _ _ _ _ _)); first | refine mx_end ?_ | (refine mx_mv _ rfl rfl (by conv => {lhs; whnf}) ?_) | (refine mx_as _ rfl rfl (by conv => {lhs; whnf}) ?_) | (refine g_bin rfl ?_; (first | (refine mx_cmpl .eql rfl rfl rfl rfl rfl (by first | exact cmp_eq_t (by omega) | exact cmp_eq_f (by omega) | rfl) ?_) | (refine mx_cmpl .geq rfl rfl rfl rfl rfl (by exact cmp_ge_f (by omega) ) ?_)) ) | (refine mx_skip rfl rfl rfl ?_) | (refine g_pick rfl ?_; first | refine mx_andf rfl rfl rfl rfl rfl ?_ | refine mx_ort rfl rfl rfl rfl rfl ?_ | refine mx_and rfl rfl rfl rfl rfl rfl ?_ | refine mx_or rfl rfl rfl rfl rfl rfl ?_ ) ) | refine cw_line rfl ?_ ))
        exact pw_mid () trivial ⟨rfl, rfl, rfl, rfl, rfl, rfl, rfl, trivial⟩ (fun w h => h))
    by_cases ho1 : off > bs.length
    · obtain rfl := no (fun h => by omega)
      rcases hs with hs | hs | hs | hs
      all_goals (
        (repeat (first | ((refine (?_ : MX _ _ _ _ _ _ _ _ _ _ _)); first | refine mx_end ?_ | (refine mx_mv _ rfl rfl (by conv => {lhs; whnf}) ?_) | (refine mx_as _ rfl rfl (by conv => {lhs; whnf}) ?_) | (refine g_bin rfl ?_; (first | (refine mx_cmpl .eql rfl rfl rfl rfl rfl (by first | exact cmp_eq_t (by omega) | exact cmp_eq_f (by omega) | rfl) ?_) | (refine mx_cmpl .leq rfl rfl rfl rfl rfl (by exact cmp_le_f (by omega) ) ?_) | (refine mx_cmpl .geq rfl rfl rfl rfl rfl (by first | exact cmp_ge_t (by omega) | exact cmp_ge_f (by omega) ) ?_)) ) | (refine g_bi .len rfl ?_; refine mx_len E rfl rfl rfl rfl ?_) | (refine mx_skip rfl rfl rfl ?_) | (refine g_pick rfl ?_; first | refine mx_andf rfl rfl rfl rfl rfl ?_ | refine mx_ort rfl rfl rfl rfl rfl ?_ | refine mx_and rfl rfl rfl rfl rfl rfl ?_ | refine mx_or rfl rfl rfl rfl rfl rfl ?_ ) ) | refine cw_line rfl ?_ ))
        exact pw_mid () trivial ⟨rfl, rfl, rfl, rfl, rfl, rfl, rfl, trivial⟩ (fun w h => h))
    by_cases ho2 : size > bs.length - off
    · obtain rfl := no (fun h => by omega)
      rcases hs with hs | hs | hs | hs
      all_goals (
        (repeat (first | ((refine (?_ : MX _ _ _ _ _ _ _ _ _ _ _)); first | refine mx_end ?_ | (refine mx_mv _ rfl rfl (by conv => {lhs; whnf}) ?_) | (refine mx_as _ rfl rfl (by conv => {lhs; whnf}) ?_) | (refine g_bin rfl ?_; first | (first | (refine mx_cmpl .eql rfl rfl rfl rfl rfl (by first | exact cmp_eq_t (by omega) | exact cmp_eq_f (by omega) | rfl) ?_) | (refine mx_cmpl .leq rfl rfl rfl rfl rfl (by first | exact cmp_le_t (by omega) | exact cmp_le_f (by omega) ) ?_) | (refine mx_cmpl .geq rfl rfl rfl rfl rfl (by first | exact cmp_ge_t (by omega) | exact cmp_ge_f (by omega) ) ?_)) | ( refine mx_ar rfl rfl rfl rfl rfl rfl (IntWalk.i64_in _ (by omega)) rfl ?_) ) | (refine g_bi .len rfl ?_; refine mx_len E rfl rfl rfl rfl ?_) | (refine mx_skip rfl rfl rfl ?_) | (refine g_pick rfl ?_; first | refine mx_ort rfl rfl rfl rfl rfl ?_ | refine mx_and rfl rfl rfl rfl rfl rfl ?_ | refine mx_or rfl rfl rfl rfl rfl rfl ?_ ) ) | refine cw_line rfl ?_ ))
        exact pw_mid () trivial ⟨rfl, rfl, rfl, rfl, rfl, rfl, rfl, trivial⟩ (fun w h => h))
    · obtain rfl := yes ⟨hs, by omega, by omega⟩
      rcases hs with hs | hs | hs | hs
      all_goals (
        (repeat (first | ((refine (?_ : MX _ _ _ _ _ _ _ _ _ _ _)); first | refine mx_end ?_ | (refine mx_mv _ rfl rfl (by conv => {lhs; whnf}) ?_) | (refine mx_as _ rfl rfl (by conv => {lhs; whnf}) ?_) | (refine g_bin rfl ?_; first | (first | (refine mx_cmpl .eql rfl rfl rfl rfl rfl (by first | exact cmp_eq_t (by omega) | exact cmp_eq_f (by omega) | rfl) ?_) | (refine mx_cmpl .leq rfl rfl rfl rfl rfl (by first | exact cmp_le_t (by omega) | rfl) ?_) | (refine mx_cmpl .geq rfl rfl rfl rfl rfl (by first | exact cmp_ge_t (by omega) | rfl) ?_)) | ( refine mx_ar rfl rfl rfl rfl rfl rfl (IntWalk.i64_in _ (by omega)) rfl ?_) ) | (refine g_bi .len rfl ?_; refine mx_len E rfl rfl rfl rfl ?_) | (refine mx_skip rfl rfl rfl ?_) | (refine g_pick rfl ?_; first | refine mx_ort rfl rfl rfl rfl rfl ?_ | refine mx_and rfl rfl rfl rfl rfl rfl ?_ | refine mx_or rfl rfl rfl rfl rfl rfl ?_ ) ) | refine cw_line rfl ?_ ))
        exact pw_mid () trivial ⟨rfl, rfl, rfl, rfl, rfl, rfl, rfl, trivial⟩ (fun w h => h))
  rintro ⟨⟩ jk -
  have hwf2 : WF (stpS o [c]) 1 2 := by
    have := hwf.step o (0, none, 0) (by rw [ho]; exact fun x h => by cases h)
    have e1 : stpC o (0, none, 0) [c] 1 = stpS o [c] := by unfold stpC; rw [ho]; rfl
    have e2 : stpL o 1 = 1 := by unfold stpL; rw [ho]; rfl
    rwa [e1, e2] at this
  (repeat (first | ((refine (?_ : MX _ _ _ _ _ _ _ _ _ _ _)); (refine mx_mv _ rfl rfl (by conv => {lhs; whnf}) ?_) ) | refine cw_seq ?_ | refine cw_line rfl ?_ ))
  refine g_cf 48 rfl ?_
  refine a_cou rfl rfl rfl rfl Try.func48 rfl rfl rfl (OC bx r ((1 : Nat) : Int) [c]) (.bool F) (OC bx r ((1 : Nat) : Int) (stpS o [c])) (fun w' hw h => by
    have h48 := store48u hwf (by omega) bx r w' o (by rw [o2]; exact hoff) h
    rw [o1, o2, o3, o4, o5, hFF] at h48
    exact h48) rfl (fun _ _ => trivial) ?_
  cases F with
  | false =>
    have e1 : stpS o [c] = [c] := by unfold stpS; rw [hFF]; rfl
    rw [e1]
    have hb1 : bsOf 1 [c] = bs := by unfold bsOf; rw [hlc]; exact hbs
    (repeat (((refine (?_ : MX _ _ _ _ _ _ _ _ _ _ _)); first | (refine mx_mv _ rfl rfl (by conv => {lhs; whnf}) ?_) | (refine g_bin rfl ?_; refine mx_bnsame E rfl rfl rfl rfl rfl rfl rfl ?_ ) ) ))
    refine g_cf 37 rfl ?_
    refine a_callv rfl rfl rfl rfl Try.func37 rfl rfl rfl (.int .i64 bs.length) (fun w' hw => by
      have h37 := size37 bx r 1 1 [c] (wf_bs hwf (by omega)) w' (oc1 (hw.holds 0 _ rfl)) (oc2 (hw.holds 0 _ rfl)) (oc3 (hw.holds 0 _ rfl))
      rw [hb1] at h37
      exact h37) rfl ?_
    (repeat (first | ((refine (?_ : MX _ _ _ _ _ _ _ _ _ _ _)); first | refine mx_end ?_ | (refine mx_mv _ rfl rfl (by conv => {lhs; whnf}) ?_) | (refine g_bin rfl ?_; ( (refine mx_cmpl .neq rfl rfl rfl rfl rfl (by exact cmp_ne_f (by omega) ) ?_) ) ) | (refine g_bi .len rfl ?_; refine mx_len E rfl rfl rfl rfl ?_) | (refine mx_not rfl rfl rfl ?_) | (refine g_pick rfl ?_; refine mx_or rfl rfl rfl rfl rfl rfl ?_ ) ) | refine cw_seq ?_ | refine cw_line rfl ?_ | refine cw_cond_f rfl ?_ | refine cw_cond_t rfl ?_ | refine cw_skip ?_ | refine pw_then ?_ ))
    refine g_cf 40 rfl ?_
    refine a_cn1 rfl rfl rfl rfl Try.func40 rfl rfl rfl (fun a : Option Addr × Nat => .slice a.1 bs.length a.2) (fun a => ownd a.1 a.2 5 1 bs.length (bs.flatMap cU)) (fun w' hw => by
      have h40 := bytes40 bx r 1 1 [c] (wf_bs hwf (by omega)) w' (oc1 (hw.holds 0 _ rfl)) (oc2 (hw.holds 0 _ rfl)) (oc3 (hw.holds 0 _ rfl))
      rw [hb1] at h40
      exact h40) (fun _ => rfl) (fun _ _ _ => trivial) (fun q => ?_)
    (repeat (((refine (?_ : MX _ _ _ _ _ _ _ _ _ _ _)); (refine mx_mv _ rfl rfl (by conv => {lhs; whnf}) ?_) ) ))
    refine g_cf 39 rfl ?_
    refine a_callv rfl rfl rfl rfl Try.func39 rfl rfl rfl (.bool true) (fun w' hw => by
      have h39 := sameB q.1 ad bs.length bs.length q.2 cap bs bs rfl rfl (by omega) w' (own_in len_U (hw.holds 0 _ rfl) (Nat.le_refl _)) (hl2.keep hw fun _ _ _ h => h)
      rw [decide_eq_true rfl] at h39
      exact h39) rfl ?_
    (repeat (first | ((refine (?_ : MX _ _ _ _ _ _ _ _ _ _ _)); first | refine mx_end ?_ | (refine mx_mv _ rfl rfl (by conv => {lhs; whnf}) ?_) | (refine mx_as _ rfl rfl (by conv => {lhs; whnf}) ?_) | (refine g_pick rfl ?_; refine mx_and rfl rfl rfl rfl rfl rfl ?_ ) | (refine g_call rfl ?_; (refine g_cf 47 rfl ?_; refine mx_call rfl rfl rfl Try.func47 rfl rfl rfl _ (fun w => works47 w) rfl ?_))) | refine cw_ret ?_ | refine pw_then ?_ | refine pw_then_r ?_ ))
    exact pw_ret rfl rfl rfl rfl fun w' hw => ⟨rfl, hw.keep.grow⟩
  | true =>
    have hfit : fits c off size := of_decide_eq_true hfs
    obtain ⟨f1, f2, f3⟩ := hfit
    rw [hbs] at f3
    obtain ⟨ob, hob⟩ := Int.eq_ofNat_of_zero_le f2
    obtain ⟨nb, hnb⟩ := Int.eq_ofNat_of_zero_le (show 0 ≤ size by omega)
    subst hob hnb
    have hwl : (wrB bs ob (byts v nb)).length = bs.length := wrB_len (by rw [byts_len]; omega)
    have hmid : ((wrB bs ob (byts v nb)).drop ob).take nb = byts v nb := by
      have := wrB_mid (bs := bs) (us := byts v nb) (off := ob) (by rw [byts_len]; omega)
      rwa [byts_len] at this
    have hat := fun i => wrB_at (bs := bs) (us := byts v nb) (off := ob) (by rw [byts_len]; omega) i
    obtain ⟨c2, hlc2, hbs2⟩ : ∃ c2, lc 1 (stpS o [c]) = some c2 ∧ c2.bs = wrB bs ob (byts v nb) := by
      refine ⟨putS o c, ?_, ?_⟩
      · unfold stpS
        rw [if_pos hFF, lc_updC 1 o.id (putS o) (fun c => rfl), hlc, o1]
        rfl
      · show wrB c.bs o.off.toNat (byts o.v o.size.toNat) = _
        rw [hbs, o2, o3, o5]
        rfl
    generalize stpS o [c] = cs2 at hwf2 hlc2 ⊢
    have hb1 : bsOf 1 cs2 = wrB bs ob (byts v nb) := by unfold bsOf; rw [hlc2]; exact hbs2
    have hnum : ldV 1 ob nb cs2 = v % 256 ^ nb := by
      rw [ldV_some hlc2 ⟨f1, f2, by rw [hbs2, hwl]; exact f3⟩, hbs2, Int.toNat_natCast, Int.toNat_natCast, hmid, numB_byts]
    have hld : ldB 1 ob nb cs2 = true := by unfold ldB; rw [hlc2]; exact decide_eq_true ⟨f1, f2, by rw [hbs2, hwl]; exact f3⟩
    generalize wrB bs ob (byts v nb) = xs at hwl hmid hat hb1 hbs2
    (repeat (((refine (?_ : MX _ _ _ _ _ _ _ _ _ _ _)); first | (refine mx_mv _ rfl rfl (by conv => {lhs; whnf}) ?_) | (refine g_bin rfl ?_; refine mx_bnsame E rfl rfl rfl rfl rfl rfl rfl ?_ ) ) ))
    refine g_cf 37 rfl ?_
    refine a_callv rfl rfl rfl rfl Try.func37 rfl rfl rfl (.int .i64 bs.length) (fun w' hw => by
      have h37 := size37 bx r 1 1 cs2 (wf_bs hwf2 (by omega)) w' (oc1 (hw.holds 0 _ rfl)) (oc2 (hw.holds 0 _ rfl)) (oc3 (hw.holds 0 _ rfl))
      rw [hb1, hwl] at h37
      exact h37) rfl ?_
    (repeat (first | ((refine (?_ : MX _ _ _ _ _ _ _ _ _ _ _)); first | refine mx_end ?_ | (refine mx_mv _ rfl rfl (by conv => {lhs; whnf}) ?_) | (refine g_bin rfl ?_; ( (refine mx_cmpl .neq rfl rfl rfl rfl rfl (by exact cmp_ne_f (by omega) ) ?_) ) ) | (refine g_bi .len rfl ?_; refine mx_len E rfl rfl rfl rfl ?_) | (refine mx_not rfl rfl rfl ?_) | (refine g_pick rfl ?_; refine mx_or rfl rfl rfl rfl rfl rfl ?_ ) ) | refine cw_seq ?_ | refine cw_line rfl ?_ | refine cw_cond_f rfl ?_ | refine cw_skip ?_ | refine pw_then ?_ ))
    refine g_cf 49 rfl ?_
    refine a_callv rfl rfl rfl rfl Try.func49 rfl rfl rfl (.tuple #[.int .u64 (v % 256 ^ nb), .bool true]) (fun w' hw => by
      have h49 := load49u hwf2 (by omega) bx r w' 1 ob nb (by omega) (oc1 (hw.holds 0 _ rfl)) (oc2 (hw.holds 0 _ rfl)) (oc3 (hw.holds 0 _ rfl))
      rw [hnum, hld] at h49
      exact h49) rfl ?_
    obtain ⟨W, hW⟩ : ∃ W, v % 256 ^ nb = W := ⟨_, rfl⟩
    rw [hW]
    (repeat (first | ((refine (?_ : MX _ _ _ _ _ _ _ _ _ _ _)); first | refine mx_end ?_ | (refine mx_mv _ rfl rfl (by conv => {lhs; whnf}) ?_) | (refine mx_as _ rfl rfl (by conv => {lhs; whnf}) ?_) | (refine mx_ex _ rfl rfl rfl (by conv => {lhs; whnf}) ?_) ) | refine pw_then ?_))
    refine cw_mid (ι := Unit) (fun _ => [(9, .pointer (some ⟨bx, 0, none⟩)), (10, .int .i64 1), (0, .slice ad bs.length cap), (1, .int .i64 ob), (2, .int .i64 nb), (3, .int .u64 v)]) (fun _ => [star (OC bx r ((1 : Nat) : Int) cs2)]) (fun _ => True) ?_ ?_
    · rcases f1 with f1 | f1 | f1 | f1
      · obtain rfl : nb = 1 := by omega
        have hT : v.tmod (IntKind.u64.wrap (1 * 2 ^ min (8 * ((1 : Nat) : Int)).toNat IntKind.u64.bits)) = W := by
          rw [show IntKind.u64.wrap (1 * 2 ^ min (8 * ((1 : Nat) : Int)).toNat IntKind.u64.bits) = 256 ^ 1 from rfl, Int.tmod_eq_emod_of_nonneg hv.1]
          exact hW
        (repeat (first | ((refine (?_ : MX _ _ _ _ _ _ _ _ _ _ _)); first | refine mx_end ?_ | (refine mx_mv _ rfl rfl (by conv => {lhs; whnf}) ?_) | (refine g_bin rfl ?_; first | (first | (refine mx_cmpl .eql rfl rfl rfl rfl rfl (by first | exact cmp_eq_t (by omega) | exact cmp_eq_f (by omega) ) ?_) | (refine mx_cmpl .neq rfl rfl rfl rfl rfl (by exact cmp_ne_f (by omega) ) ?_) | (refine mx_cmpl .lss rfl rfl rfl rfl rfl (by first | exact cmp_lt_t (by omega) | exact cmp_lt_f (by omega) ) ?_) ) | ( refine mx_ar rfl rfl rfl rfl rfl rfl (IntWalk.i64_in _ (by omega)) rfl ?_) | refine mx_dv rfl rfl rfl rfl rfl (by decide) (congrArg some (by assumption)) rfl rfl ?_ | refine mx_sh rfl rfl rfl rfl rfl (by omega) rfl rfl rfl ?_) | (refine mx_not rfl rfl rfl ?_) | (refine mx_skip rfl rfl rfl ?_) | (refine g_pick rfl ?_; first | refine mx_andf rfl rfl rfl rfl rfl ?_ | refine mx_and rfl rfl rfl rfl rfl rfl ?_ | refine mx_or rfl rfl rfl rfl rfl rfl ?_ ) | (refine g_conv rfl ?_; refine mx_cv E rfl rfl rfl rfl rfl rfl (IntWalk.u64_in _ (by omega)) rfl ?_ ) ) | refine cw_seq ?_ | refine cw_line rfl ?_ | refine cw_cond_f rfl ?_ | refine cw_skip ?_ | refine pw_then ?_ ))
        exact pw_mid () trivial ⟨rfl, rfl, rfl, rfl, rfl, rfl, trivial⟩ (fun w h => h)
      · obtain rfl : nb = 2 := by omega
        have hT : v.tmod (IntKind.u64.wrap (1 * 2 ^ min (8 * ((2 : Nat) : Int)).toNat IntKind.u64.bits)) = W := by
          rw [show IntKind.u64.wrap (1 * 2 ^ min (8 * ((2 : Nat) : Int)).toNat IntKind.u64.bits) = 256 ^ 2 from rfl, Int.tmod_eq_emod_of_nonneg hv.1]
          exact hW
        (repeat (first | ((refine (?_ : MX _ _ _ _ _ _ _ _ _ _ _)); first | refine mx_end ?_ | (refine mx_mv _ rfl rfl (by conv => {lhs; whnf}) ?_) | (refine g_bin rfl ?_; first | (first | (refine mx_cmpl .eql rfl rfl rfl rfl rfl (by first | exact cmp_eq_t (by omega) | exact cmp_eq_f (by omega) ) ?_) | (refine mx_cmpl .neq rfl rfl rfl rfl rfl (by exact cmp_ne_f (by omega) ) ?_) | (refine mx_cmpl .lss rfl rfl rfl rfl rfl (by first | exact cmp_lt_t (by omega) | exact cmp_lt_f (by omega) ) ?_) ) | ( refine mx_ar rfl rfl rfl rfl rfl rfl (IntWalk.i64_in _ (by omega)) rfl ?_) | refine mx_dv rfl rfl rfl rfl rfl (by decide) (congrArg some (by assumption)) rfl rfl ?_ | refine mx_sh rfl rfl rfl rfl rfl (by omega) rfl rfl rfl ?_) | (refine mx_not rfl rfl rfl ?_) | (refine mx_skip rfl rfl rfl ?_) | (refine g_pick rfl ?_; first | refine mx_andf rfl rfl rfl rfl rfl ?_ | refine mx_and rfl rfl rfl rfl rfl rfl ?_ | refine mx_or rfl rfl rfl rfl rfl rfl ?_ ) | (refine g_conv rfl ?_; refine mx_cv E rfl rfl rfl rfl rfl rfl (IntWalk.u64_in _ (by omega)) rfl ?_ ) ) | refine cw_seq ?_ | refine cw_line rfl ?_ | refine cw_cond_f rfl ?_ | refine cw_skip ?_ | refine pw_then ?_ ))
        exact pw_mid () trivial ⟨rfl, rfl, rfl, rfl, rfl, rfl, trivial⟩ (fun w h => h)
      · obtain rfl : nb = 4 := by omega
        have hT : v.tmod (IntKind.u64.wrap (1 * 2 ^ min (8 * ((4 : Nat) : Int)).toNat IntKind.u64.bits)) = W := by
          rw [show IntKind.u64.wrap (1 * 2 ^ min (8 * ((4 : Nat) : Int)).toNat IntKind.u64.bits) = 256 ^ 4 from rfl, Int.tmod_eq_emod_of_nonneg hv.1]
          exact hW
        (repeat (first | ((refine (?_ : MX _ _ _ _ _ _ _ _ _ _ _)); first | refine mx_end ?_ | (refine mx_mv _ rfl rfl (by conv => {lhs; whnf}) ?_) | (refine g_bin rfl ?_; first | (first | (refine mx_cmpl .eql rfl rfl rfl rfl rfl (by first | exact cmp_eq_t (by omega) | exact cmp_eq_f (by omega) ) ?_) | (refine mx_cmpl .neq rfl rfl rfl rfl rfl (by exact cmp_ne_f (by omega) ) ?_) | (refine mx_cmpl .lss rfl rfl rfl rfl rfl (by first | exact cmp_lt_t (by omega) | exact cmp_lt_f (by omega) ) ?_) ) | ( refine mx_ar rfl rfl rfl rfl rfl rfl (IntWalk.i64_in _ (by omega)) rfl ?_) | refine mx_dv rfl rfl rfl rfl rfl (by decide) (congrArg some (by assumption)) rfl rfl ?_ | refine mx_sh rfl rfl rfl rfl rfl (by omega) rfl rfl rfl ?_) | (refine mx_not rfl rfl rfl ?_) | (refine mx_skip rfl rfl rfl ?_) | (refine g_pick rfl ?_; first | refine mx_andf rfl rfl rfl rfl rfl ?_ | refine mx_and rfl rfl rfl rfl rfl rfl ?_ | refine mx_or rfl rfl rfl rfl rfl rfl ?_ ) | (refine g_conv rfl ?_; refine mx_cv E rfl rfl rfl rfl rfl rfl (IntWalk.u64_in _ (by omega)) rfl ?_ ) ) | refine cw_seq ?_ | refine cw_line rfl ?_ | refine cw_cond_f rfl ?_ | refine cw_skip ?_ | refine pw_then ?_ ))
        exact pw_mid () trivial ⟨rfl, rfl, rfl, rfl, rfl, rfl, trivial⟩ (fun w h => h)
      · obtain rfl : nb = 8 := by omega
        have hWv : W = v := by rw [← hW]; exact Int.emod_eq_of_lt hv.1 hv.2
        (repeat (first | ((refine (?_ : MX _ _ _ _ _ _ _ _ _ _ _)); first | refine mx_end ?_ | (refine mx_mv _ rfl rfl (by conv => {lhs; whnf}) ?_) | (refine g_bin rfl ?_; (first | (refine mx_cmpl .eql rfl rfl rfl rfl rfl (by exact cmp_eq_t (by omega) ) ?_) | (refine mx_cmpl .neq rfl rfl rfl rfl rfl (by exact cmp_ne_f (by omega) ) ?_) | (refine mx_cmpl .lss rfl rfl rfl rfl rfl (by exact cmp_lt_f (by omega) ) ?_) ) ) | (refine mx_not rfl rfl rfl ?_) | (refine mx_skip rfl rfl rfl ?_) | (refine g_pick rfl ?_; first | refine mx_andf rfl rfl rfl rfl rfl ?_ | refine mx_and rfl rfl rfl rfl rfl rfl ?_ | refine mx_or rfl rfl rfl rfl rfl rfl ?_ ) ) | refine cw_seq ?_ | refine cw_line rfl ?_ | refine cw_cond_f rfl ?_ | refine cw_skip ?_ | refine pw_then ?_ ))
        exact pw_mid () trivial ⟨rfl, rfl, rfl, rfl, rfl, rfl, trivial⟩ (fun w h => h)
    rintro ⟨⟩ jk2 -
    (repeat (first | ((refine (?_ : MX _ _ _ _ _ _ _ _ _ _ _)); (refine mx_mv _ rfl rfl (by conv => {lhs; whnf}) ?_) ) | refine cw_seq ?_ | refine cw_line rfl ?_ ))
    refine g_cf 40 rfl ?_
    refine a_cn1 rfl rfl rfl rfl Try.func40 rfl rfl rfl (fun a : Option Addr × Nat => .slice a.1 bs.length a.2) (fun a => ownd a.1 a.2 5 1 bs.length (xs.flatMap cU)) (fun w' hw => by
      have h40 := bytes40 bx r 1 1 cs2 (wf_bs hwf2 (by omega)) w' (oc1 (hw.holds 0 _ rfl)) (oc2 (hw.holds 0 _ rfl)) (oc3 (hw.holds 0 _ rfl))
      rw [hb1, hwl] at h40
      exact h40) (fun _ => rfl) (fun _ _ _ => trivial) (fun q => ?_)
    obtain ⟨q1, q2⟩ := q
    (repeat (first | ((refine (?_ : MX _ _ _ _ _ _ _ _ _ _ _)); first | refine mx_end ?_ | (refine mx_as _ rfl rfl (by conv => {lhs; whnf}) ?_) ) | refine cw_seq ?_ | refine cw_line rfl ?_ | refine cw_block ?_ | refine pw_then ?_ ))
    refine cw_loop (ι := Nat) (fun i => [(15, .int .i64 i), (14, .slice q1 bs.length q2), (9, .pointer (some ⟨bx, 0, none⟩)), (10, .int .i64 1), (0, .slice ad bs.length cap), (1, .int .i64 ob), (2, .int .i64 nb), (3, .int .u64 v)]) (fun i => [ownd q1 q2 5 1 bs.length (xs.flatMap cU), star (OC bx r ((1 : Nat) : Int) cs2)]) (fun i => i ≤ bs.length) (fun i => bs.length - i) 0 (Nat.zero_le _) ⟨rfl, rfl, rfl, rfl, rfl, rfl, rfl, rfl, trivial⟩ (fun w h => h) ?_
    intro i jk3 hi
    by_cases hil : (i : Int) < bs.length
    case neg =>
      (repeat (first | ((refine (?_ : MX _ _ _ _ _ _ _ _ _ _ _)); first | refine mx_end ?_ | (refine mx_mv _ rfl rfl (by conv => {lhs; whnf}) ?_) | (refine mx_as _ rfl rfl (by conv => {lhs; whnf}) ?_) | (refine g_bin rfl ?_; ( (refine mx_cmpl .lss rfl rfl rfl rfl rfl (by exact cmp_lt_f (by omega) ) ?_) ) ) | (refine g_bi .len rfl ?_; refine mx_len E rfl rfl rfl rfl ?_) | (refine g_call rfl ?_; (refine g_cf 47 rfl ?_; refine mx_call rfl rfl rfl Try.func47 rfl rfl rfl _ (fun w => works47 w) rfl ?_))) | refine cw_seq ?_ | refine cw_line rfl ?_ | refine cw_cond_f rfl ?_ | refine cw_exit ?_ | refine cw_ret ?_ | refine pw_then ?_ | refine pw_then_x ?_ | refine pw_block_e ?_ ))
      exact pw_ret rfl rfl rfl rfl fun w' hw => ⟨rfl, hw.keep.grow⟩
    obtain ⟨y, hy⟩ := getElem_some (xs := bs) (i := i) (by omega)
    obtain ⟨x, hx⟩ := getElem_some (xs := xs) (i := i) (by omega)
    obtain ⟨b4, o4', e, hcc⟩ := inl_at hl2 hy
    subst e
    have hS : ¬ (fun _ : Nat => False) b4 := fun h => h
    have hc0 : w.cell? ⟨b4, o4' + i * 1, none⟩ = some (.int .u8 y) := hcc 0 _ rfl
    have hxx := hat i
    rw [hx, byts_len] at hxx
    have hxb : 0 ≤ x ∧ x < 256 := by have := hwf2.by' c2 (lc_mem hlc2).1; rw [hbs2] at this; exact this x (List.mem_of_getElem? hx)
    have hyb := hb2 y (List.mem_of_getElem? hy)
    have f4 : fits c2 i 1 := ⟨.inl rfl, by omega, by rw [hbs2, hwl]; omega⟩
    have hv1 : ldV 1 i 1 cs2 = x := by
      rw [ldV_some hlc2 f4, hbs2, Int.toNat_natCast, show (1 : Int).toNat = 1 from rfl, take1 hx]
      simp [numB]
    have hd1 : ldB 1 i 1 cs2 = true := by unfold ldB; rw [hlc2]; exact decide_eq_true f4
    refine cw_know (p := ∃ b, q1 = some ⟨b, 0, none⟩) (fun w hw => by
      obtain ⟨b, e, _⟩ := (own_at (hw.holds 0 _ rfl)).2.1 (by omega)
      exact ⟨b, e⟩) (fun ⟨bq, e⟩ => ?_)
    subst e
    (repeat (first | ((refine (?_ : MX _ _ _ _ _ _ _ _ _ _ _)); first | refine mx_end ?_ | (refine mx_mv _ rfl rfl (by conv => {lhs; whnf}) ?_) | (refine g_bin rfl ?_; ( (refine mx_cmpl .lss rfl rfl rfl rfl rfl (by exact cmp_lt_t (by omega) ) ?_) ) ) | (refine g_bi .len rfl ?_; refine mx_len E rfl rfl rfl rfl ?_) ) | refine cw_seq ?_ | refine cw_line rfl ?_ | refine cw_block ?_ | refine cw_cond_t rfl ?_ | refine cw_skip ?_ | refine pw_then ?_ ))
    refine g_cf 49 rfl ?_
    refine a_callv rfl rfl rfl rfl Try.func49 rfl rfl rfl (.tuple #[.int .u64 x, .bool true]) (fun w' hw => by
      have h49 := load49u hwf2 (by omega) bx r w' 1 i 1 (by omega) (oc1 (hw.holds 1 _ rfl)) (oc2 (hw.holds 1 _ rfl)) (oc3 (hw.holds 1 _ rfl))
      rw [hv1, hd1] at h49
      exact h49) rfl ?_
    by_cases hr : ob ≤ i ∧ i < ob + nb
    case pos =>
      rw [if_pos hr, byts_at v (by omega)] at hxx
      have hxv : x = bytw v (i - ob) := Option.some.inj hxx
      have hsub : (i : Int) - (ob : Int) = ((i - ob : Nat) : Int) := by omega
      have hsr := shr64 v (i - ob) (by omega)
      have hcv : IntKind.u8.wrap (v / 2 ^ (8 * (i - ob))) = bytw v (i - ob) := rfl
      rw [← hxv] at hcv
      (repeat (first | ((refine (?_ : MX _ _ _ _ _ _ _ _ _ _ _)); first | refine mx_end ?_ | (refine mx_mv _ rfl rfl (by conv => {lhs; whnf}) ?_) | (refine mx_as _ rfl rfl (by conv => {lhs; whnf}) ?_) | (refine g_load rfl ?_; refine mx_old1 E rfl rfl rfl rfl rfl (by assumption) (by assumption) rfl ?_ ) | (refine g_bin rfl ?_; first | (first | (refine mx_cmpl .neq rfl rfl rfl rfl rfl (by exact cmp_ne_f (by omega) ) ?_) | (refine mx_cmpl .lss rfl rfl rfl rfl rfl (by exact cmp_lt_t (by omega) ) ?_) | (refine mx_cmpl .geq rfl rfl rfl rfl rfl (by exact cmp_ge_t (by omega) ) ?_)) | (first | refine mx_ar rfl rfl rfl rfl rfl rfl ((IntWalk.i64_in _ (by omega)).trans (by with_reducible assumption)) rfl ?_ | refine mx_ar rfl rfl rfl rfl rfl rfl (IntWalk.i64_in _ (by omega)) rfl ?_) | refine mx_sh rfl rfl rfl rfl rfl (by omega) (congrArg some (by assumption)) rfl rfl ?_ ) | (refine g_ix rfl ?_; refine mx_ixsn E rfl rfl rfl rfl rfl rfl (by omega) rfl ?_ ) | (refine mx_not rfl rfl rfl ?_) | (refine mx_ex _ rfl rfl rfl (by conv => {lhs; whnf}) ?_) | (refine g_pick rfl ?_; first | refine mx_and rfl rfl rfl rfl rfl rfl ?_ | refine mx_or rfl rfl rfl rfl rfl rfl ?_ ) | (refine g_conv rfl ?_; first | refine mx_cv E rfl rfl rfl rfl rfl rfl (by assumption) rfl ?_ | refine mx_cv E rfl rfl rfl rfl rfl rfl (IntWalk.u64_in _ (by omega)) rfl ?_ ) ) | refine cw_seq ?_ | refine cw_line rfl ?_ | refine cw_cond_t rfl ?_ | refine pw_then ?_ ))
      refine g_load rfl ?_
      refine a_load1 E rfl rfl rfl rfl rfl rfl (v := .int .u8 x) (fun w hw => by rw [Nat.zero_add]; exact ownGet len_U (hw.holds 0 _ rfl) hx (o := 0) (by omega) rfl) rfl ?_
      (repeat (first | ((refine (?_ : MX _ _ _ _ _ _ _ _ _ _ _)); first | refine mx_end ?_ | (refine mx_mv _ rfl rfl (by conv => {lhs; whnf}) ?_) | (refine mx_as _ rfl rfl (by conv => {lhs; whnf}) ?_) | (refine g_bin rfl ?_; first | ( (refine mx_cmpl .neq rfl rfl rfl rfl rfl (by exact cmp_ne_f (by omega) ) ?_) ) | ( refine mx_ar rfl rfl rfl rfl rfl rfl (IntWalk.i64_in _ (by omega)) rfl ?_) ) | (refine g_pick rfl ?_; refine mx_or rfl rfl rfl rfl rfl rfl ?_ ) ) | refine cw_line rfl ?_ | refine cw_cond_f rfl ?_ | refine cw_skip ?_ | refine pw_then ?_ | refine pw_block ?_ ))
      exact pw_round (i + 1) (by omega) (by omega) ⟨rfl, rfl, rfl, rfl, rfl, rfl, rfl, rfl, trivial⟩ (fun w h => h)
    case neg =>
      rw [if_neg hr, hy] at hxx
      obtain rfl : x = y := Option.some.inj hxx
      by_cases hr1 : ob ≤ i
      all_goals (
        (repeat (first | ((refine (?_ : MX _ _ _ _ _ _ _ _ _ _ _)); first | refine mx_end ?_ | (refine mx_mv _ rfl rfl (by conv => {lhs; whnf}) ?_) | (refine mx_as _ rfl rfl (by conv => {lhs; whnf}) ?_) | (refine g_load rfl ?_; refine mx_old1 E rfl rfl rfl rfl rfl (by assumption) (by assumption) rfl ?_ ) | (refine g_bin rfl ?_; first | (first | (refine mx_cmpl .neq rfl rfl rfl rfl rfl (by exact cmp_ne_f (by omega) ) ?_) | (refine mx_cmpl .lss rfl rfl rfl rfl rfl (by first | exact cmp_lt_t (by omega) | exact cmp_lt_f (by omega) ) ?_) | (refine mx_cmpl .geq rfl rfl rfl rfl rfl (by first | exact cmp_ge_t (by omega) | exact cmp_ge_f (by omega) ) ?_)) | ( refine mx_ar rfl rfl rfl rfl rfl rfl (IntWalk.i64_in _ (by omega)) rfl ?_) ) | (refine g_ix rfl ?_; refine mx_ixsn E rfl rfl rfl rfl rfl rfl (by omega) rfl ?_ ) | (refine mx_not rfl rfl rfl ?_) | (refine mx_ex _ rfl rfl rfl (by conv => {lhs; whnf}) ?_) | (refine mx_skip rfl rfl rfl ?_) | (refine g_pick rfl ?_; first | refine mx_andf rfl rfl rfl rfl rfl ?_ | refine mx_and rfl rfl rfl rfl rfl rfl ?_ | refine mx_or rfl rfl rfl rfl rfl rfl ?_ ) | (refine g_conv rfl ?_; refine mx_cv E rfl rfl rfl rfl rfl rfl (IntWalk.u64_in _ (by omega)) rfl ?_ ) ) | refine cw_seq ?_ | refine cw_line rfl ?_ | refine cw_cond_f rfl ?_ | refine cw_skip ?_ | refine pw_then ?_ ))
        refine g_load rfl ?_
        refine a_load1 E rfl rfl rfl rfl rfl rfl (v := .int .u8 x) (fun w hw => by rw [Nat.zero_add]; exact ownGet len_U (hw.holds 0 _ rfl) hx (o := 0) (by omega) rfl) rfl ?_
        (repeat (first | ((refine (?_ : MX _ _ _ _ _ _ _ _ _ _ _)); first | refine mx_end ?_ | (refine mx_mv _ rfl rfl (by conv => {lhs; whnf}) ?_) | (refine mx_as _ rfl rfl (by conv => {lhs; whnf}) ?_) | (refine g_bin rfl ?_; first | ( (refine mx_cmpl .neq rfl rfl rfl rfl rfl (by exact cmp_ne_f (by omega) ) ?_) ) | ( refine mx_ar rfl rfl rfl rfl rfl rfl (IntWalk.i64_in _ (by omega)) rfl ?_) ) | (refine g_pick rfl ?_; refine mx_or rfl rfl rfl rfl rfl rfl ?_ ) ) | refine cw_line rfl ?_ | refine cw_cond_f rfl ?_ | refine cw_skip ?_ | refine pw_then ?_ | refine pw_block ?_ ))
        exact pw_round (i + 1) (by omega) (by omega) ⟨rfl, rfl, rfl, rfl, rfl, rfl, rfl, rfl, trivial⟩ (fun w h => h))
end Go.Proofs.Ytfekmflnfhjebaa
