/- The document's table: place, found, how many, keys. -/
import Derived.Test.YtminmbkhlnaabaaHs
set_option maxRecDepth 100000
set_option maxHeartbeats 8000000
set_option linter.unusedSimpArgs false
set_option linter.unusedVariables false
namespace Go.Proofs.Ytminmbkhlnaabaa
open Go Go.Sx Go.RowKit
structure DP where
  s : Nat
  ka : Option Addr
  kc : Nat
  k : List Int
  c : Int
  deriving Inhabited
@[reducible] def cDP (d : DP) : List Value := [.int .i64 d.s, .slice d.ka d.k.length d.kc, .int .i64 d.c]
theorem len_DP (d : DP) : (cDP d).length = 3 := rfl
@[reducible] def pP (d : DP) : PLc := ⟨d.s, d.k, d.c⟩
def toP (dpl : List DP) : List PLc := dpl.map pP
theorem toP_len (dpl : List DP) : (toP dpl).length = dpl.length := by simp [toP]
theorem toP_at {dpl : List DP} {p : Nat} {d : DP} (h : dpl[p]? = some d) : (toP dpl)[p]? = some (pP d) := by simp [toP, h]
def RDK (d : DP) : Res := ownd d.ka d.kc 5 1 d.k.length (d.k.flatMap cU)
def dkR (dpl : List DP) : Res where
  dom := fun b => ∃ d ∈ dpl, (RDK d).dom b
  holds := fun w => ∀ d ∈ dpl, (RDK d).holds w
  loc := fun w w' h hh d hd => (RDK d).loc w w' (fun b hb => h b ⟨d, hd, hb⟩) (hh d hd)
def dvE (dpl : List DP) : List Value := dpl.flatMap cDP
attribute [irreducible] dvE
@[reducible] def hdE (lb kl mx P : Nat) : List Value := [.slice (some ⟨lb, 0, none⟩) P P, .int .i64 kl, .int .i64 mx]
def OE (eb lb kl mx : Nat) (dpl : List DP) : List Res := [row eb 93 (hdE lb kl mx dpl.length), row lb 95 (dvE dpl), dkR dpl]
theorem dvE_at {dpl : List DP} {i j : Nat} {d : DP} (h : dpl[i]? = some d) (hj : j < 3) : (dvE dpl)[i * 3 + j]? = (cDP d)[j]? := by
  unfold dvE
  exact fm_at (z := 3) (fun x _ => rfl) h hj
theorem dkR_in {w : World} {dpl : List DP} (h : (dkR dpl).holds w) {d : DP} (hd : d ∈ dpl) : InL w d.ka 1 cU d.k := own_in len_U (h d hd) (Nat.le_refl _)
structure WfE (kl mx : Nat) (dpl : List DP) : Prop where
  P0 : 0 < dpl.length
  P1 : dpl.length ≤ 1000
  k1 : kl ≤ 1000
  m1 : mx ≤ 1000
  ks : ∀ d ∈ dpl, d.k.length ≤ 1000
theorem dcut64 (n hi : Int) (hhi : 1 ≤ hi) (w : World) : Calls Try.prog 64 #[.int .i64 n, .int .i64 hi] w fun e w' => e = .returned (.int .i64 (cutH n hi)) ∧ Grow w w' := by
  refine enter2 (S := fun _ => False) 12 Try.func64 rfl rfl rfl (Ok.start w) ?_
  by_cases h1 : n < 1
  · have e : cutH n hi = 1 := by unfold cutH; omega
    rw [e]
    (repeat (first | ((refine (?_ : MX _ _ _ _ _ _ _ _ _ _ _)); first | refine mx_end ?_ | (refine mx_mv _ rfl rfl (by conv => {lhs; whnf}) ?_) | (refine mx_as _ rfl rfl (by conv => {lhs; whnf}) ?_) | (refine g_bin rfl ?_; ( (refine mx_cmpl .lss rfl rfl rfl rfl rfl (by exact cmp_lt_t (by omega) ) ?_) ) ) ) | refine cw_seq ?_ | refine cw_line rfl ?_ | refine cw_cond_t rfl ?_ | refine cw_ret ?_ | refine pw_then ?_ | refine pw_then_r ?_ ))
    exact pw_ret rfl rfl rfl rfl fun w hw => ⟨rfl, hw.keep.grow⟩
  by_cases h2 : n > hi
  · have e : cutH n hi = hi := by unfold cutH; omega
    rw [e]
    (repeat (first | ((refine (?_ : MX _ _ _ _ _ _ _ _ _ _ _)); first | refine mx_end ?_ | (refine mx_mv _ rfl rfl (by conv => {lhs; whnf}) ?_) | (refine mx_as _ rfl rfl (by conv => {lhs; whnf}) ?_) | (refine g_bin rfl ?_; (first | (refine mx_cmpl .lss rfl rfl rfl rfl rfl (by first | exact cmp_lt_t (by omega) | exact cmp_lt_f (by omega) ) ?_) | (refine mx_cmpl .gtr rfl rfl rfl rfl rfl (by exact cmp_gt_t (by omega) ) ?_) ) ) ) | refine cw_seq ?_ | refine cw_line rfl ?_ | refine cw_cond_f rfl ?_ | refine cw_cond_t rfl ?_ | refine cw_skip ?_ | refine cw_ret ?_ | refine pw_then ?_ | refine pw_then_r ?_ ))
    exact pw_ret rfl rfl rfl rfl fun w hw => ⟨rfl, hw.keep.grow⟩
  have e : cutH n hi = n := by unfold cutH; omega
  rw [e]
  (repeat (first | ((refine (?_ : MX _ _ _ _ _ _ _ _ _ _ _)); first | refine mx_end ?_ | (refine mx_mv _ rfl rfl (by conv => {lhs; whnf}) ?_) | (refine mx_as _ rfl rfl (by conv => {lhs; whnf}) ?_) | (refine g_bin rfl ?_; (first | (refine mx_cmpl .lss rfl rfl rfl rfl rfl (by exact cmp_lt_f (by omega) ) ?_) | (refine mx_cmpl .gtr rfl rfl rfl rfl rfl (by exact cmp_gt_f (by omega) ) ?_) ) ) ) | refine cw_seq ?_ | refine cw_line rfl ?_ | refine cw_cond_f rfl ?_ | refine cw_skip ?_ | refine cw_ret ?_ | refine pw_then ?_ ))
  exact pw_ret rfl rfl rfl rfl fun w hw => ⟨rfl, hw.keep.grow⟩
theorem home_rem (k : List Int) (P : Nat) : (sumK k).tmod (P : Int) = ((homeK k P : Nat) : Int) := by
  have hsr := sumK_rng k
  obtain ⟨a, ha⟩ := Int.eq_ofNat_of_zero_le hsr.1
  unfold homeK
  rw [ha, Int.toNat_natCast, show ((a % P : Nat) : Int) = (a : Int) % (P : Int) from rfl]
  exact (Int.tmod_eq_emod_of_nonneg (by omega))
theorem conv_sum (k : List Int) : IntKind.i64.wrap (sumK k) = sumK k := by
  have hsr := sumK_rng k
  exact IntWalk.i64_in _ (by omega)
theorem stpH_toP {dpl : List DP} {p : Nat} {d : DP} (h : dpl[p]? = some d) (k : List Int) : stpH (toP dpl) k p = if d.s = 0 then some none else if d.s = 1 ∧ d.k = k then some (some p) else none := by
  unfold stpH
  rw [toP_at h]
theorem fs_take {β : Type} {f : Nat → Option β} {home P i : Nat} (hi : i < P) (h : ((wayL home P).take i).findSome? f = none) : ((wayL home P).take (i + 1)).findSome? f = f ((home + i) % P) := by
  rw [List.take_add_one, wayL_at home hi]
  exact fs_snoc h
theorem nx_mod {home P i : Nat} (hP : 0 < P) : (home + (i + 1)) % P = if (home + i) % P + 1 = P then 0 else (home + i) % P + 1 := by
  have h1 := Nat.mod_lt (home + i) hP
  rw [show home + (i + 1) = home + i + 1 by omega, Nat.add_mod]
  rcases Nat.lt_or_ge 1 P with h | h
  · rw [Nat.mod_eq_of_lt (a := 1) h]
    split
    · rename_i h2
      rw [h2, Nat.mod_self]
    · exact Nat.mod_eq_of_lt (by omega)
  · obtain rfl : P = 1 := by omega
    simp [Nat.mod_one]
theorem dplace65 (eb lb kl mx : Nat) (dpl : List DP) (hwf : WfE kl mx dpl) (ad : Option Addr) (m cap : Nat) (k : List Int) (hkb : BytK k) (hm : k.length = m) (hs : m ≤ 1000000) (w : World)
    (hrx : (row eb 93 (hdE lb kl mx dpl.length)).holds w) (hrl : (row lb 95 (dvE dpl)).holds w) (hrk : (dkR dpl).holds w) (hl : InL w ad 1 cU k) :
    Calls Try.prog 65 #[.pointer (some ⟨eb, 0, none⟩), .slice ad m cap] w fun e w' => e = .returned (.int .i64 (oixH (lookH (toP dpl) kl k))) ∧ Grow w w' := by
  refine enter2 (S := fun _ => False) 74 Try.func65 rfl rfl rfl (Ok.start w) ?_
  subst hm
  have hSx : ¬ (fun _ : Nat => False) eb := id
  have hSl : ¬ (fun _ : Nat => False) lb := id
  have hP0 := hwf.P0
  have hP1 := hwf.P1
  by_cases hlen : (k.length : Int) = kl
  case neg =>
    have e : lookH (toP dpl) kl k = none := if_neg (by omega)
    rw [e]
    (repeat (first | ((refine (?_ : MX _ _ _ _ _ _ _ _ _ _ _)); first | refine mx_end ?_ | (refine mx_mv _ rfl rfl (by conv => {lhs; whnf}) ?_) | (refine mx_as _ rfl rfl (by conv => {lhs; whnf}) ?_) | ( refine mx_fa E rfl rfl rfl rfl ?_) | (refine g_load rfl ?_; refine mx_orow E rfl rfl rfl rfl rfl (by assumption) (by assumption) (by rfl) rfl ?_ ) | (refine g_bin rfl ?_; ( (refine mx_cmpl .neq rfl rfl rfl rfl rfl (by exact cmp_ne_t (by omega) ) ?_) ) ) | (refine mx_nc rfl rfl rfl ?_) | (refine g_bi .len rfl ?_; refine mx_len E rfl rfl rfl rfl ?_) ) | refine cw_seq ?_ | refine cw_line rfl ?_ | refine cw_cond_t rfl ?_ | refine cw_ret ?_ | refine pw_then ?_ | refine pw_then_r ?_ ))
    exact pw_ret rfl rfl rfl rfl fun w hw => ⟨rfl, hw.keep.grow⟩
  have e : lookH (toP dpl) kl k = ((wayL (homeK k dpl.length) dpl.length).findSome? (stpH (toP dpl) k)).getD none := by
    unfold lookH
    rw [if_pos (by omega), toP_len]
  have hcv := conv_sum k
  have hrem := home_rem k dpl.length
  have hh := homeK_lt k hP0
  (repeat (first | ((refine (?_ : MX _ _ _ _ _ _ _ _ _ _ _)); first | refine mx_end ?_ | (refine mx_mv _ rfl rfl (by conv => {lhs; whnf}) ?_) | (refine mx_as _ rfl rfl (by conv => {lhs; whnf}) ?_) | ( refine mx_fa E rfl rfl rfl rfl ?_) | (refine g_load rfl ?_; refine mx_orow E rfl rfl rfl rfl rfl (by assumption) (by assumption) (by rfl) rfl ?_ ) | (refine g_bin rfl ?_; ( (refine mx_cmpl .neq rfl rfl rfl rfl rfl (by exact cmp_ne_f (by omega) ) ?_) ) ) | (refine mx_nc rfl rfl rfl ?_) | (refine g_bi .len rfl ?_; refine mx_len E rfl rfl rfl rfl ?_) ) | refine cw_seq ?_ | refine cw_line rfl ?_ | refine cw_cond_f rfl ?_ | refine cw_skip ?_ | refine pw_then ?_ ))
  refine cw_drawm [0, 3, 4, 5, 6, 7, 1, 2, 8, 9] (fun i => Nat.beq i 1) _ mixed (by kernel_rfl) (fun w h => h.nil) ?_
  (repeat (((refine (?_ : MX _ _ _ _ _ _ _ _ _ _ _)); first | (refine mx_mv _ rfl rfl (by conv => {lhs; whnf}) ?_) | (refine mx_fa0 E rfl rfl rfl rfl ?_ ) | (refine g_load rfl ?_; refine mx_orow E rfl rfl rfl rfl rfl (by assumption) (by assumption) (by rfl) rfl ?_ ) | (refine mx_nc rfl rfl rfl ?_) | (refine g_bi .len rfl ?_; refine mx_len E rfl rfl rfl rfl ?_) ) ))
  refine g_cf 32 rfl ?_
  refine a_callv rfl rfl rfl rfl Try.func32 rfl rfl rfl (.int .u32 (sumK k)) (fun w' hw => dsum32 ad k.length cap k hkb rfl (by omega) w' (hl.keep hw fun _ _ _ h => h)) rfl ?_
  (repeat (first | ((refine (?_ : MX _ _ _ _ _ _ _ _ _ _ _)); first | refine mx_end ?_ | (refine mx_as _ rfl rfl (by conv => {lhs; whnf}) ?_) | (refine g_conv rfl ?_; refine mx_cv E rfl rfl rfl rfl rfl rfl (by with_reducible assumption) rfl ?_) | (refine mx_dv rfl rfl rfl rfl rfl (by omega) (congrArg some (by with_reducible assumption)) rfl rfl ?_) ) | refine cw_seq ?_ | refine cw_line rfl ?_ | refine cw_block ?_ | refine pw_then ?_ ))
  rw [e]
  refine cw_loop (fun i : Nat => [(6, .int .i64 i), (5, .int .i64 (((homeK k dpl.length + i) % dpl.length : Nat) : Int)), (0, .pointer (some ⟨eb, 0, none⟩)), (1, .slice ad k.length cap)]) (fun i => []) (fun i => i ≤ dpl.length ∧ ((wayL (homeK k dpl.length) dpl.length).take i).findSome? (stpH (toP dpl) k) = none) (fun i => dpl.length - i) 0 ⟨Nat.zero_le _, rfl⟩ ⟨rfl, by rw [show (homeK k dpl.length + 0) % dpl.length = homeK k dpl.length from Nat.mod_eq_of_lt hh]; rfl, rfl, rfl, trivial⟩ (fun w h => h) ?_
  intro i jk ⟨hi, hfs⟩
  by_cases h0 : (i : Int) < dpl.length
  case neg =>
    have hn : (wayL (homeK k dpl.length) dpl.length).findSome? (stpH (toP dpl) k) = none := by rwa [List.take_of_length_le (by rw [wayL_len]; omega)] at hfs
    rw [hn]
    (repeat (first | ((refine (?_ : MX _ _ _ _ _ _ _ _ _ _ _)); first | refine mx_end ?_ | (refine mx_mv _ rfl rfl (by conv => {lhs; whnf}) ?_) | (refine mx_as _ rfl rfl (by conv => {lhs; whnf}) ?_) | (refine mx_fa0 E rfl rfl rfl rfl ?_ ) | (refine g_load rfl ?_; refine mx_orow E rfl rfl rfl rfl rfl (by assumption) (by assumption) (by rfl) rfl ?_ ) | (refine g_bin rfl ?_; ( (refine mx_cmpl .lss rfl rfl rfl rfl rfl (by first | exact cmp_lt_f (by omega) | rfl) ?_) ) ) | (refine mx_nc rfl rfl rfl ?_) | (refine g_bi .len rfl ?_; refine mx_len E rfl rfl rfl rfl ?_) | (refine mx_skip rfl rfl rfl ?_) | (refine g_pick rfl ?_; refine mx_andf rfl rfl rfl rfl rfl ?_ ) ) | refine cw_seq ?_ | refine cw_line rfl ?_ | refine cw_cond_f rfl ?_ | refine cw_exit ?_ | refine cw_ret ?_ | refine pw_then ?_ | refine pw_then_x ?_ | refine pw_block_e ?_ ))
    exact pw_ret rfl rfl rfl rfl fun w hw => ⟨rfl, hw.keep.grow⟩
  case pos =>
    have hi' : i < dpl.length := by omega
    have hpl := Nat.mod_lt (homeK k dpl.length + i) hP0
    have hnx := nx_mod (home := homeK k dpl.length) (i := i) hP0
    have hft := fs_take (f := stpH (toP dpl) k) hi' hfs
    generalize hp : (homeK k dpl.length + i) % dpl.length = p at *
    obtain ⟨d, hd⟩ := getElem_some (xs := dpl) hpl
    rw [stpH_toP hd] at hft
    have hv0 : (dvE dpl)[0 + p * 3]? = some (.int .i64 d.s) := by rw [Nat.zero_add]; exact dvE_at hd (j := 0) (by omega)
    have hv1 : (dvE dpl)[0 + p * 3 + 1]? = some (.slice d.ka d.k.length d.kc) := by rw [Nat.zero_add]; exact dvE_at hd (j := 1) (by omega)
    have hdk := hwf.ks d (List.mem_of_getElem? hd)
    by_cases hs0 : (d.s : Int) = 0
    · rw [if_pos (by omega)] at hft
      have hn : (wayL (homeK k dpl.length) dpl.length).findSome? (stpH (toP dpl) k) = some none := fs_prefix (List.take_prefix _ _) hft
      rw [hn]
      (repeat (first | ((refine (?_ : MX _ _ _ _ _ _ _ _ _ _ _)); first | refine mx_end ?_ | (refine mx_mv _ rfl rfl (by conv => {lhs; whnf}) ?_) | (refine mx_as _ rfl rfl (by conv => {lhs; whnf}) ?_) | (refine mx_fa0 E rfl rfl rfl rfl ?_ ) | (refine g_load rfl ?_; refine mx_orow E rfl rfl rfl rfl rfl (by assumption) (by assumption) (by first | assumption | rfl) rfl ?_ ) | (refine g_bin rfl ?_; (first | (refine mx_cmpl .neq rfl rfl rfl rfl rfl (by exact cmp_ne_f (by omega) ) ?_) | (refine mx_cmpl .lss rfl rfl rfl rfl rfl (by exact cmp_lt_t (by omega) ) ?_) ) ) | (refine g_ix rfl ?_; refine mx_ixsn E rfl rfl rfl rfl rfl rfl (by omega) rfl ?_ ) | (refine mx_nc rfl rfl rfl ?_) | (refine g_bi .len rfl ?_; refine mx_len E rfl rfl rfl rfl ?_) | (refine g_pick rfl ?_; refine mx_and rfl rfl rfl rfl rfl rfl ?_ ) ) | refine cw_seq ?_ | refine cw_line rfl ?_ | refine cw_cond_f rfl ?_ | refine cw_exit ?_ | refine cw_ret ?_ | refine pw_then ?_ | refine pw_then_x ?_ | refine pw_block_e ?_ ))
      exact pw_ret rfl rfl rfl rfl fun w hw => ⟨rfl, hw.keep.grow⟩
    rw [if_neg (by omega)] at hft
    have hnext : ∀ (h : ¬ (d.s = 1 ∧ d.k = k)), ((wayL (homeK k dpl.length) dpl.length).take (i + 1)).findSome? (stpH (toP dpl) k) = none := fun h => by rw [hft, if_neg h]
    by_cases hs1 : (d.s : Int) = 1
    · by_cases hkk : d.k = k
      · rw [if_pos ⟨by omega, hkk⟩] at hft
        have hn : (wayL (homeK k dpl.length) dpl.length).findSome? (stpH (toP dpl) k) = some (some p) := fs_prefix (List.take_prefix _ _) hft
        rw [hn]
        (repeat (first | ((refine (?_ : MX _ _ _ _ _ _ _ _ _ _ _)); first | refine mx_end ?_ | (refine mx_mv _ rfl rfl (by conv => {lhs; whnf}) ?_) | (first | refine mx_fa0 E rfl rfl rfl rfl ?_ | refine mx_fa E rfl rfl rfl rfl ?_) | (refine g_load rfl ?_; refine mx_orow E rfl rfl rfl rfl rfl (by assumption) (by assumption) (by first | assumption | rfl) rfl ?_ ) | (refine g_bin rfl ?_; (first | (refine mx_cmpl .eql rfl rfl rfl rfl rfl (by exact cmp_eq_t (by omega) ) ?_) | (refine mx_cmpl .neq rfl rfl rfl rfl rfl (by exact cmp_ne_t (by omega) ) ?_) | (refine mx_cmpl .lss rfl rfl rfl rfl rfl (by exact cmp_lt_t (by omega) ) ?_) ) ) | (refine g_ix rfl ?_; refine mx_ixsn E rfl rfl rfl rfl rfl rfl (by omega) rfl ?_ ) | (refine mx_nc rfl rfl rfl ?_) | (refine g_bi .len rfl ?_; refine mx_len E rfl rfl rfl rfl ?_) | (refine g_pick rfl ?_; refine mx_and rfl rfl rfl rfl rfl rfl ?_ ) ) | refine cw_seq ?_ | refine cw_line rfl ?_ | refine cw_block ?_ | refine cw_cond_t rfl ?_ | refine cw_skip ?_ | refine pw_then ?_ ))
        refine g_cf 36 rfl ?_
        refine a_callv rfl rfl rfl rfl Try.func36 rfl rfl rfl (.bool true) (fun w' hw => decide_eq_true hkk ▸ sameB d.ka ad d.k.length k.length d.kc cap d.k k rfl rfl (by omega) w' ((dkR_in hrk (List.mem_of_getElem? hd)).keep hw fun _ _ _ h => h) (hl.keep hw fun _ _ _ h => h)) rfl ?_
        (repeat (first | ((refine (?_ : MX _ _ _ _ _ _ _ _ _ _ _)); first | refine mx_end ?_ | (refine mx_mv _ rfl rfl (by conv => {lhs; whnf}) ?_) | (refine mx_as _ rfl rfl (by conv => {lhs; whnf}) ?_) | (refine g_pick rfl ?_; refine mx_and rfl rfl rfl rfl rfl rfl ?_ ) ) | refine cw_seq ?_ | refine cw_line rfl ?_ | refine cw_cond_t rfl ?_ | refine cw_ret ?_ | refine pw_then ?_ | refine pw_then_r ?_ | refine pw_block_r ?_))
        exact pw_ret rfl rfl rfl rfl fun w hw => ⟨rfl, hw.keep.grow⟩
      · by_cases hpe : ((p + 1 : Nat) : Int) = dpl.length
        all_goals (
          (repeat (first | ((refine (?_ : MX _ _ _ _ _ _ _ _ _ _ _)); first | refine mx_end ?_ | (refine mx_mv _ rfl rfl (by conv => {lhs; whnf}) ?_) | (first | refine mx_fa0 E rfl rfl rfl rfl ?_ | refine mx_fa E rfl rfl rfl rfl ?_) | (refine g_load rfl ?_; refine mx_orow E rfl rfl rfl rfl rfl (by assumption) (by assumption) (by first | assumption | rfl) rfl ?_ ) | (refine g_bin rfl ?_; (first | (refine mx_cmpl .eql rfl rfl rfl rfl rfl (by exact cmp_eq_t (by omega) ) ?_) | (refine mx_cmpl .neq rfl rfl rfl rfl rfl (by exact cmp_ne_t (by omega) ) ?_) | (refine mx_cmpl .lss rfl rfl rfl rfl rfl (by exact cmp_lt_t (by omega) ) ?_) ) ) | (refine g_ix rfl ?_; refine mx_ixsn E rfl rfl rfl rfl rfl rfl (by omega) rfl ?_ ) | (refine mx_nc rfl rfl rfl ?_) | (refine g_bi .len rfl ?_; refine mx_len E rfl rfl rfl rfl ?_) | (refine g_pick rfl ?_; refine mx_and rfl rfl rfl rfl rfl rfl ?_ ) ) | refine cw_seq ?_ | refine cw_line rfl ?_ | refine cw_block ?_ | refine cw_cond_t rfl ?_ | refine cw_skip ?_ | refine pw_then ?_ ))
          refine g_cf 36 rfl ?_
          refine a_callv rfl rfl rfl rfl Try.func36 rfl rfl rfl (.bool false) (fun w' hw => decide_eq_false hkk ▸ sameB d.ka ad d.k.length k.length d.kc cap d.k k rfl rfl (by omega) w' ((dkR_in hrk (List.mem_of_getElem? hd)).keep hw fun _ _ _ h => h) (hl.keep hw fun _ _ _ h => h)) rfl ?_
          (repeat (first | ((refine (?_ : MX _ _ _ _ _ _ _ _ _ _ _)); first | refine mx_end ?_ | (refine mx_mv _ rfl rfl (by conv => {lhs; whnf}) ?_) | (refine mx_as _ rfl rfl (by conv => {lhs; whnf}) ?_) | (refine mx_fa0 E rfl rfl rfl rfl ?_ ) | (refine g_load rfl ?_; refine mx_orow E rfl rfl rfl rfl rfl (by assumption) (by assumption) (by rfl) rfl ?_ ) | (refine g_bin rfl ?_; first | ((refine mx_cmpl .eql rfl rfl rfl rfl rfl (by first | exact cmp_eq_t (by omega) | exact cmp_eq_f (by omega) ) ?_) ) | ( refine mx_ar rfl rfl rfl rfl rfl rfl (IntWalk.i64_in _ (by omega)) rfl ?_) ) | (refine mx_nc rfl rfl rfl ?_) | (refine g_bi .len rfl ?_; refine mx_len E rfl rfl rfl rfl ?_) | (refine g_pick rfl ?_; refine mx_and rfl rfl rfl rfl rfl rfl ?_ ) ) | refine cw_seq ?_ | refine cw_line rfl ?_ | refine cw_cond_f rfl ?_ | refine cw_cond_t rfl ?_ | refine cw_skip ?_ | refine pw_then ?_ | refine pw_block ?_ )))
        · exact pw_round (i + 1) ⟨by omega, hnext fun h => hkk h.2⟩ (by omega) ⟨rfl, by rw [hnx, if_pos (by omega)]; rfl, rfl, rfl, trivial⟩ (fun w h => h)
        · exact pw_round (i + 1) ⟨by omega, hnext fun h => hkk h.2⟩ (by omega) ⟨rfl, by rw [hnx, if_neg (by omega)]; rfl, rfl, rfl, trivial⟩ (fun w h => h)
    · by_cases hpe : ((p + 1 : Nat) : Int) = dpl.length
      all_goals (
        (repeat (first | ((refine (?_ : MX _ _ _ _ _ _ _ _ _ _ _)); first | refine mx_end ?_ | (refine mx_mv _ rfl rfl (by conv => {lhs; whnf}) ?_) | (refine mx_as _ rfl rfl (by conv => {lhs; whnf}) ?_) | (refine mx_fa0 E rfl rfl rfl rfl ?_ ) | (refine g_load rfl ?_; refine mx_orow E rfl rfl rfl rfl rfl (by assumption) (by assumption) (by first | assumption | rfl) rfl ?_ ) | (refine g_bin rfl ?_; first | (first | (refine mx_cmpl .eql rfl rfl rfl rfl rfl (by first | exact cmp_eq_t (by omega) | exact cmp_eq_f (by omega) ) ?_) | (refine mx_cmpl .neq rfl rfl rfl rfl rfl (by exact cmp_ne_t (by omega) ) ?_) | (refine mx_cmpl .lss rfl rfl rfl rfl rfl (by exact cmp_lt_t (by omega) ) ?_) ) | ( refine mx_ar rfl rfl rfl rfl rfl rfl (IntWalk.i64_in _ (by omega)) rfl ?_) ) | (refine g_ix rfl ?_; refine mx_ixsn E rfl rfl rfl rfl rfl rfl (by omega) rfl ?_ ) | (refine mx_nc rfl rfl rfl ?_) | (refine g_bi .len rfl ?_; refine mx_len E rfl rfl rfl rfl ?_) | (refine mx_skip rfl rfl rfl ?_) | (refine g_pick rfl ?_; first | refine mx_andf rfl rfl rfl rfl rfl ?_ | refine mx_and rfl rfl rfl rfl rfl rfl ?_ ) ) | refine cw_seq ?_ | refine cw_line rfl ?_ | refine cw_block ?_ | refine cw_cond_f rfl ?_ | refine cw_cond_t rfl ?_ | refine cw_skip ?_ | refine pw_then ?_ | refine pw_block ?_ )))
      · exact pw_round (i + 1) ⟨by omega, hnext fun h => hs1 (by omega)⟩ (by omega) ⟨rfl, by rw [hnx, if_pos (by omega)]; rfl, rfl, rfl, trivial⟩ (fun w h => h)
      · exact pw_round (i + 1) ⟨by omega, hnext fun h => hs1 (by omega)⟩ (by omega) ⟨rfl, by rw [hnx, if_neg (by omega)]; rfl, rfl, rfl, trivial⟩ (fun w h => h)
end Go.Proofs.Ytminmbkhlnaabaa
