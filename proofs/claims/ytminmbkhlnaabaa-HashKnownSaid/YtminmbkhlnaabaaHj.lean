/- The document's table: a new one, a key put; the program's places as the document has them. -/
import Derived.Test.YtminmbkhlnaabaaHh
set_option maxRecDepth 100000
set_option maxHeartbeats 8000000
set_option linter.unusedSimpArgs false
set_option linter.unusedVariables false
namespace Go.Proofs.Ytminmbkhlnaabaa
open Go Go.Sx Go.RowKit
theorem b95 (a : Int) (ad : Option Addr) (m cap : Nat) (c : Int) : Blt Try.prog 95 [(0, .int .i64 a), (1, .slice ad m cap), (2, .int .i64 c)] [.int .i64 a, .slice ad m cap, .int .i64 c] := ⟨by kernel_rfl⟩
/-! ### The program's places as the document has them -/
def nrmP (c : PLc) : PLc := if c.s = 1 then c else ⟨c.s, [], 0⟩
def nrm (pl : List PLc) : List PLc := pl.map nrmP
theorem nrm_len (pl : List PLc) : (nrm pl).length = pl.length := by simp [nrm]
theorem nrmP_s (c : PLc) : (nrmP c).s = c.s := by unfold nrmP; split <;> rfl
theorem nrm_at {pl : List PLc} {p : Nat} : (nrm pl)[p]? = (pl[p]?).map nrmP := by simp [nrm]
theorem stpH_nrm (pl : List PLc) (k : List Int) (p : Nat) : stpH (nrm pl) k p = stpH pl k p := by
  unfold stpH
  rw [nrm_at]
  cases pl[p]? with
  | none => rfl
  | some c =>
    show (if (nrmP c).s = 0 then some none else if (nrmP c).s = 1 ∧ (nrmP c).k = k then some (some p) else none) = _
    rw [nrmP_s]
    by_cases h1 : c.s = 1
    · have e : nrmP c = c := if_pos h1
      rw [e]
    · simp [h1]
theorem lookH_nrm (pl : List PLc) (kl : Nat) (k : List Int) : lookH (nrm pl) kl k = lookH pl kl k := by
  unfold lookH
  rw [nrm_len, show stpH (nrm pl) k = stpH pl k from funext fun p => stpH_nrm pl k p]
theorem freeH_nrm (pl : List PLc) (p : Nat) : freeH (nrm pl) p = freeH pl p := by
  unfold freeH
  rw [nrm_at]
  cases pl[p]? with
  | none => rfl
  | some c =>
    show ((nrmP c).s != 1) = _
    rw [nrmP_s]
theorem frH_nrm (pl : List PLc) (k : List Int) : frH (nrm pl) k = frH pl k := by
  unfold frH
  rw [nrm_len, show freeH (nrm pl) = freeH pl from funext fun p => freeH_nrm pl p]
theorem cntH_nrm (pl : List PLc) : cntH (nrm pl) = cntH pl := by
  unfold cntH nrm
  rw [List.countP_map]
  congr 1
  funext c
  show ((nrmP c).s == 1) = _
  rw [nrmP_s]
theorem hpE_nrm (pl : List PLc) (kl mx : Nat) (k : List Int) : hpE (nrm pl) kl mx k = hpE pl kl mx k := by
  unfold hpE
  rw [lookH_nrm, cntH_nrm]
theorem nrm_set (pl : List PLc) (p : Nat) (c : PLc) : nrm (pl.set p c) = (nrm pl).set p (nrmP c) := by
  unfold nrm
  rw [List.map_set]
theorem putH_nrm (pl : List PLc) (kl mx : Nat) (k : List Int) (v : Int) : putH (nrm pl) kl mx k v = nrm (putH pl kl mx k v) := by
  unfold putH
  rw [hpE_nrm, frH_nrm]
  split
  · cases frH pl k with
    | none => rfl
    | some p =>
      show (nrm pl).set p ⟨1, k, v⟩ = nrm (pl.set p ⟨1, k, v⟩)
      rw [nrm_set]
      rfl
  · rfl
theorem ddelP_nrm (pl : List PLc) (kl : Nat) (k : List Int) : ddelP (nrm pl) kl k = nrm (delH pl kl k) := by
  unfold ddelP delH
  rw [lookH_nrm]
  cases lookH pl kl k with
  | none => rfl
  | some p =>
    show (nrm pl).set p ⟨2, [], 0⟩ = nrm (pl.set p { pl.getD p default with s := 2 })
    rw [nrm_set]
    rfl
theorem fdH_nrm (pl : List PLc) (kl : Nat) (k : List Int) : fdH (nrm pl) kl k = fdH pl kl k := by
  unfold fdH
  rw [lookH_nrm]
  cases hf : lookH pl kl k with
  | none => rfl
  | some p =>
    obtain ⟨_, _, c, hc, h1, _⟩ := lookH_some hf
    have e1 : pl.getD p default = c := by simp [List.getD, hc]
    have e2 : (nrm pl).getD p default = c := by
      simp [List.getD, nrm_at, hc]
      exact if_pos h1
    dsimp only
    rw [e1, e2]
theorem keysH_nrm (pl : List PLc) : keysH (nrm pl) = keysH pl := by
  unfold keysH nrm
  induction pl with
  | nil => rfl
  | cons c pl ih =>
    rw [List.map_cons, List.filter_cons, List.filter_cons, nrmP_s]
    by_cases h1 : c.s = 1
    · have e : nrmP c = c := if_pos h1
      simp only [h1, e, beq_self_eq_true, if_true, List.map_cons, ih]
    · have e : (c.s == 1) = false := by simpa using h1
      rw [e]
      exact ih
/-! ### Where there is room -/
theorem wayL_mem {home P q : Nat} (hh : home < P) (hq : q < P) : q ∈ wayL home P := by
  unfold wayL
  rw [List.mem_map]
  refine ⟨if home ≤ q then q - home else q + P - home, List.mem_range.2 (by split <;> omega), ?_⟩
  split
  · rw [show home + (q - home) = q by omega]
    exact Nat.mod_eq_of_lt hq
  · rw [show home + (q + P - home) = q + P by omega, Nat.add_mod_right]
    exact Nat.mod_eq_of_lt hq
theorem frH_some {pl : List PLc} (h : cntH pl < pl.length) (k : List Int) : ∃ p, frH pl k = some p := by
  cases hf : frH pl k with
  | some p => exact ⟨p, rfl⟩
  | none =>
    exfalso
    have h1 := List.find?_eq_none.1 hf
    have h2 : cntH pl = pl.length := by
      unfold cntH
      rw [List.countP_eq_length]
      intro c hc
      obtain ⟨p, hp, e⟩ := List.mem_iff_getElem.1 hc
      have h3 := h1 p (wayL_mem (homeK_lt k (by omega)) hp)
      unfold freeH at h3
      rw [List.getElem?_eq_getElem hp, e] at h3
      simpa using h3
    omega
theorem fi_take {f : Nat → Bool} {home P i : Nat} (hi : i < P) (h : ((wayL home P).take i).find? f = none) : ((wayL home P).take (i + 1)).find? f = if f ((home + i) % P) = true then some ((home + i) % P) else none := by
  rw [List.take_add_one, wayL_at home hi]
  exact fi_snoc h
theorem freeH_toP {dpl : List DP} {p : Nat} {d : DP} (h : dpl[p]? = some d) : freeH (toP dpl) p = (d.s != 1) := by
  unfold freeH
  rw [toP_at h]
theorem dput42 (eb lb kl mx : Nat) (dpl : List DP) (hwf : WfE kl mx dpl) (hcm : cntH (toP dpl) ≤ mx) (hmP : mx < dpl.length) (ad : Option Addr) (m cap : Nat) (k : List Int) (hkb : BytK k) (hm : k.length = m) (hs : m ≤ 1000) (v : Int) (w : World)
    (h0 : Ok (domL (OE eb lb kl mx dpl)) w (OE eb lb kl mx dpl) w) (hl : InL w ad 1 cU k) (hne : k ≠ [] → ∀ b off, ad = some ⟨b, off, none⟩ → ¬ domL (OE eb lb kl mx dpl) b) :
    Calls Try.prog 42 #[.pointer (some ⟨eb, 0, none⟩), .slice ad m cap, .int .i64 v] w fun e w' => ∃ q : {d' : List DP // toP d' = putH (toP dpl) kl mx k v ∧ WfE kl mx d' ∧ d'.length = dpl.length}, e = .returned (.int .i64 (hpE (toP dpl) kl mx k)) ∧ Ok (domL (OE eb lb kl mx dpl)) w (OE eb lb kl mx q.1) w' := by
  refine enter3 (S := domL (OE eb lb kl mx dpl)) (H := [row eb 93 (hdE lb kl mx dpl.length), row lb 95 (dvE dpl), dkR dpl]) 62 Try.func42 rfl rfl rfl h0 ?_
  subst hm
  have hP0 := hwf.P0
  have hP1 := hwf.P1
  by_cases hlen : (k.length : Int) = kl
  case neg =>
    have e : hpE (toP dpl) kl mx k = 14 := if_pos (by omega)
    unfold putH
    rw [e, if_neg (by decide)]
    (repeat (first | ((refine (?_ : MX _ _ _ _ _ _ _ _ _ _ _)); first | refine mx_end ?_ | (refine mx_mv _ rfl rfl (by conv => {lhs; whnf}) ?_) | (refine mx_as _ rfl rfl (by conv => {lhs; whnf}) ?_) | ( refine mx_fa E rfl rfl rfl rfl ?_) | (refine g_load rfl ?_; refine mx_get E rfl rfl rfl rfl rfl (by rfl) rfl ?_ ) | (refine g_bin rfl ?_; ( (refine mx_cmpl .neq rfl rfl rfl rfl rfl (by exact cmp_ne_t (by omega) ) ?_) ) ) | (refine mx_nc rfl rfl rfl ?_) | (refine g_bi .len rfl ?_; refine mx_len E rfl rfl rfl rfl ?_) ) | refine cw_seq ?_ | refine cw_line rfl ?_ | refine cw_cond_t rfl ?_ | refine cw_ret ?_ | refine pw_then ?_ | refine pw_then_r ?_ ))
    exact pw_ret rfl rfl rfl rfl fun w hw => ⟨⟨dpl, rfl, hwf, rfl⟩, rfl, hw⟩
  (repeat (first | ((refine (?_ : MX _ _ _ _ _ _ _ _ _ _ _)); first | refine mx_end ?_ | (refine mx_mv _ rfl rfl (by conv => {lhs; whnf}) ?_) | (refine mx_as _ rfl rfl (by conv => {lhs; whnf}) ?_) | ( refine mx_fa E rfl rfl rfl rfl ?_) | (refine g_load rfl ?_; refine mx_get E rfl rfl rfl rfl rfl (by rfl) rfl ?_ ) | (refine g_bin rfl ?_; ( (refine mx_cmpl .neq rfl rfl rfl rfl rfl (by exact cmp_ne_f (by omega) ) ?_) ) ) | (refine mx_nc rfl rfl rfl ?_) | (refine g_bi .len rfl ?_; refine mx_len E rfl rfl rfl rfl ?_) ) | refine cw_seq ?_ | refine cw_line rfl ?_ | refine cw_cond_f rfl ?_ | refine cw_skip ?_ | refine pw_then ?_ ))
  refine g_cf 65 rfl ?_
  refine a_callv rfl rfl rfl rfl Try.func65 rfl rfl rfl _ (fun w' hw => dplace65 eb lb kl mx dpl hwf ad k.length cap k hkb rfl (by omega) w' (hw.holds 0 _ rfl) (hw.holds 1 _ rfl) (hw.holds 2 _ rfl) (hl.keep' hw hne)) rfl ?_
  cases hf : lookH (toP dpl) kl k with
  | some p =>
    have e : hpE (toP dpl) kl mx k = 11 := by unfold hpE; rw [if_neg (by omega), if_pos (by rw [hf]; rfl)]
    unfold putH
    rw [e, if_neg (by decide), oixH_some]
    (repeat (first | ((refine (?_ : MX _ _ _ _ _ _ _ _ _ _ _)); first | refine mx_end ?_ | (refine mx_as _ rfl rfl (by conv => {lhs; whnf}) ?_) | (refine g_bin rfl ?_; ( (refine mx_cmpl .geq rfl rfl rfl rfl rfl (by exact cmp_ge_t (by omega) ) ?_)) ) ) | refine cw_seq ?_ | refine cw_line rfl ?_ | refine cw_cond_t rfl ?_ | refine cw_ret ?_ | refine pw_then ?_ | refine pw_then_r ?_ ))
    exact pw_ret rfl rfl rfl rfl fun w hw => ⟨⟨dpl, rfl, hwf, rfl⟩, rfl, hw⟩
  | none =>
  rw [oixH_none]
  (repeat (first | ((refine (?_ : MX _ _ _ _ _ _ _ _ _ _ _)); first | refine mx_end ?_ | (refine g_bin rfl ?_; ( (refine mx_cmpl .geq rfl rfl rfl rfl rfl (by exact cmp_ge_f (by omega) ) ?_)) ) ) | refine cw_seq ?_ | refine cw_cond_f rfl ?_ | refine cw_skip ?_ | refine pw_then ?_ ))
  refine cw_drawm [0, 2, 3, 4, 5, 1, 6] (fun i => Nat.beq i 1) _ mixed (by kernel_rfl) (fun w h => h.only 0 rfl) ?_
  (repeat (((refine (?_ : MX _ _ _ _ _ _ _ _ _ _ _)); first | (refine mx_mv _ rfl rfl (by conv => {lhs; whnf}) ?_) | ( refine mx_fa E rfl rfl rfl rfl ?_) | (refine g_load rfl ?_; refine mx_get E rfl rfl rfl rfl rfl (by rfl) rfl ?_ ) | (refine mx_nc rfl rfl rfl ?_) ) ))
  refine g_cf 46 rfl ?_
  refine a_callv rfl rfl rfl rfl Try.func46 rfl rfl rfl _ (fun w' hw => dlen46 eb lb kl mx dpl hwf w' (fun r hr => by
    simp only [OE, List.mem_cons, List.not_mem_nil, or_false] at hr
    rcases hr with rfl | rfl | rfl
    · exact hw.holds 0 _ rfl
    · exact hw.holds 1 _ rfl
    · exact hw.holds 2 _ rfl)) rfl ?_
  by_cases hfull : (cntH (toP dpl) : Int) = mx
  · have e : hpE (toP dpl) kl mx k = 12 := by unfold hpE; rw [if_neg (by omega), if_neg (by rw [hf]; decide), if_pos (by omega)]
    unfold putH
    rw [e, if_neg (by decide)]
    (repeat (first | ((refine (?_ : MX _ _ _ _ _ _ _ _ _ _ _)); first | refine mx_end ?_ | (refine mx_as _ rfl rfl (by conv => {lhs; whnf}) ?_) | (refine g_bin rfl ?_; ( (refine mx_cmpl .geq rfl rfl rfl rfl rfl (by exact cmp_ge_t (by omega) ) ?_)) ) ) | refine cw_seq ?_ | refine cw_line rfl ?_ | refine cw_cond_t rfl ?_ | refine cw_ret ?_ | refine pw_then ?_ | refine pw_then_r ?_ ))
    exact pw_ret rfl rfl rfl rfl fun w hw => ⟨⟨dpl, rfl, hwf, rfl⟩, rfl, hw⟩
  have e : hpE (toP dpl) kl mx k = 0 := by unfold hpE; rw [if_neg (by omega), if_neg (by rw [hf]; decide), if_neg (by omega)]
  obtain ⟨p0, hp0⟩ := frH_some (pl := toP dpl) (by rw [toP_len]; omega) k
  have hcv := conv_sum k
  have hrem := home_rem k dpl.length
  have hh := homeK_lt k hP0
  (repeat (first | ((refine (?_ : MX _ _ _ _ _ _ _ _ _ _ _)); first | refine mx_end ?_ | (refine g_bin rfl ?_; ( (refine mx_cmpl .geq rfl rfl rfl rfl rfl (by exact cmp_ge_f (by omega) ) ?_)) ) ) | refine cw_seq ?_ | refine cw_cond_f rfl ?_ | refine cw_skip ?_ | refine pw_then ?_ ))
  refine cw_drawm [0, 3, 4, 5, 6, 7, 1, 2, 8, 9] (fun i => Nat.beq i 1) _ mixed (by kernel_rfl) (fun w h => h.only 0 rfl) ?_
  (repeat (((refine (?_ : MX _ _ _ _ _ _ _ _ _ _ _)); first | (refine mx_mv _ rfl rfl (by conv => {lhs; whnf}) ?_) | (refine mx_fa0 E rfl rfl rfl rfl ?_ ) | (refine g_load rfl ?_; refine mx_get E rfl rfl rfl rfl rfl (by rfl) rfl ?_ ) | (refine mx_nc rfl rfl rfl ?_) | (refine g_bi .len rfl ?_; refine mx_len E rfl rfl rfl rfl ?_) ) ))
  refine g_cf 32 rfl ?_
  refine a_callv rfl rfl rfl rfl Try.func32 rfl rfl rfl (.int .u32 (sumK k)) (fun w' hw => dsum32 ad k.length cap k hkb rfl (by omega) w' (hl.keep' hw hne)) rfl ?_
  (repeat (first | ((refine (?_ : MX _ _ _ _ _ _ _ _ _ _ _)); first | refine mx_end ?_ | (refine mx_as _ rfl rfl (by conv => {lhs; whnf}) ?_) | (refine g_conv rfl ?_; refine mx_cv E rfl rfl rfl rfl rfl rfl (by with_reducible assumption) rfl ?_) | (refine mx_dv rfl rfl rfl rfl rfl (by omega) (congrArg some (by with_reducible assumption)) rfl rfl ?_) ) | refine cw_seq ?_ | refine cw_block ?_ | refine pw_then ?_ ))
  unfold putH
  rw [e, if_pos rfl]
  refine cw_loop (fun i : Nat => [(7, .int .i64 (((homeK k dpl.length + i) % dpl.length : Nat) : Int)), (0, .pointer (some ⟨eb, 0, none⟩)), (1, .slice ad k.length cap), (2, .int .i64 v)]) (fun i => [row eb 93 (hdE lb kl mx dpl.length), row lb 95 (dvE dpl), dkR dpl]) (fun i => i ≤ dpl.length ∧ ((wayL (homeK k dpl.length) dpl.length).take i).find? (freeH (toP dpl)) = none) (fun i => dpl.length - i) 0 ⟨Nat.zero_le _, rfl⟩ ⟨by rw [show (homeK k dpl.length + 0) % dpl.length = homeK k dpl.length from Nat.mod_eq_of_lt hh]; rfl, rfl, rfl, rfl, trivial⟩ (fun w h => h) ?_
  intro i jk ⟨hi, hfi⟩
  have hi' : i < dpl.length := by
    rcases Nat.lt_or_ge i dpl.length with h | h
    · exact h
    · rw [List.take_of_length_le (by rw [wayL_len]; omega)] at hfi
      have h2 : frH (toP dpl) k = none := by unfold frH; rw [toP_len]; exact hfi
      rw [h2] at hp0
      cases hp0
  have hpl := Nat.mod_lt (homeK k dpl.length + i) hP0
  have hft := fi_take (f := freeH (toP dpl)) hi' hfi
  have hnx : (((homeK k dpl.length + i) % dpl.length + 1 : Nat) : Int).tmod (dpl.length : Int) = (((homeK k dpl.length + (i + 1)) % dpl.length : Nat) : Int) := by
    rw [Int.tmod_eq_emod_of_nonneg (by omega)]
    show (((((homeK k dpl.length + i) % dpl.length + 1) % dpl.length : Nat)) : Int) = _
    rw [Nat.mod_add_mod]
    rfl
  generalize hp : (homeK k dpl.length + i) % dpl.length = p at *
  have hp1 : (p : Int) + 1 = ((p + 1 : Nat) : Int) := rfl
  obtain ⟨d, hd⟩ := getElem_some (xs := dpl) hpl
  rw [freeH_toP hd] at hft
  have hv0 : (dvE dpl)[0 + p * 3]? = some (.int .i64 d.s) := by rw [Nat.zero_add]; exact dvE_at hd (j := 0) (by omega)
  by_cases hs1 : (d.s : Int) = 1
  · have e1 : (d.s != 1) = false := by simp; omega
    rw [e1, if_neg (by decide)] at hft
    (repeat (first | ((refine (?_ : MX _ _ _ _ _ _ _ _ _ _ _)); first | refine mx_end ?_ | (refine mx_mv _ rfl rfl (by conv => {lhs; whnf}) ?_) | (refine mx_as _ rfl rfl (by conv => {lhs; whnf}) ?_) | (refine mx_fa0 E rfl rfl rfl rfl ?_ ) | (refine g_load rfl ?_; refine mx_get E rfl rfl rfl rfl rfl (by first | assumption | rfl) rfl ?_ ) | (refine g_bin rfl ?_; first | ((refine mx_cmpl .eql rfl rfl rfl rfl rfl (by exact cmp_eq_t (by omega) ) ?_) ) | (refine mx_ar rfl rfl rfl rfl rfl rfl ((IntWalk.i64_in _ (by omega)).trans (by with_reducible assumption)) rfl ?_ ) ) | (refine g_ix rfl ?_; refine mx_ixsn E rfl rfl rfl rfl rfl rfl (by omega) rfl ?_ ) | (refine mx_nc rfl rfl rfl ?_) | (refine g_bi .len rfl ?_; refine mx_len E rfl rfl rfl rfl ?_) | (refine mx_dv rfl rfl rfl rfl rfl (by omega) (congrArg some (by with_reducible assumption)) rfl rfl ?_) ) | refine cw_seq ?_ | refine cw_line rfl ?_ | refine cw_block ?_ | refine cw_cond_t rfl ?_ | refine cw_skip ?_ | refine pw_then ?_ | refine pw_block ?_ ))
    exact pw_round (i + 1) ⟨by omega, hft⟩ (by omega) ⟨rfl, rfl, rfl, rfl, trivial⟩ (fun w h => h)
  · have e1 : (d.s != 1) = true := by simp; omega
    rw [e1, if_pos rfl] at hft
    have hfr : frH (toP dpl) k = some p := by unfold frH; rw [toP_len]; exact fi_prefix (List.take_prefix _ _) hft
    rw [hfr]
    (repeat (first | ((refine (?_ : MX _ _ _ _ _ _ _ _ _ _ _)); first | refine mx_end ?_ | (refine mx_mv _ rfl rfl (by conv => {lhs; whnf}) ?_) | (refine mx_fa0 E rfl rfl rfl rfl ?_ ) | (refine g_load rfl ?_; refine mx_get E rfl rfl rfl rfl rfl (by first | assumption | rfl) rfl ?_ ) | (refine g_bin rfl ?_; ((refine mx_cmpl .eql rfl rfl rfl rfl rfl (by exact cmp_eq_f (by omega) ) ?_) ) ) | (refine g_ix rfl ?_; refine mx_ixsn E rfl rfl rfl rfl rfl rfl (by omega) rfl ?_ ) | (refine mx_nc rfl rfl rfl ?_) ) | refine cw_seq ?_ | refine cw_line rfl ?_ | refine cw_cond_f rfl ?_ | refine cw_exit ?_ | refine pw_then ?_ | refine pw_then_x ?_ | refine pw_block_e ?_ ))
    refine cw_drawm [0, 1, 2, 3, 4, 5, 7, 6, 8, 9, 10] (fun i => or (Nat.beq i 6) (Nat.beq i 10)) _ mixed (by kernel_rfl) (fun w h => h.only 0 rfl) ?_
    (repeat (((refine (?_ : MX _ _ _ _ _ _ _ _ _ _ _)); first | (refine mx_mv _ rfl rfl (by conv => {lhs; whnf}) ?_) | (refine mx_fa0 E rfl rfl rfl rfl ?_ ) | (refine g_load rfl ?_; refine mx_get E rfl rfl rfl rfl rfl (by rfl) rfl ?_ ) | (refine mx_nc rfl rfl rfl ?_) ) ))
    refine g_cf 50 rfl ?_
    refine a_calln rfl rfl rfl rfl Try.func50 rfl rfl rfl (fun q : Option Addr × Nat => .slice q.1 k.length q.2) (fun q => ownd q.1 q.2 5 1 k.length (k.flatMap cU)) (fun w' hw => copyB ad k.length cap k rfl (by omega) w' (hl.keep' hw hne)) rfl (fun q => ?_)
    obtain ⟨q1, q2⟩ := q
    have hsp : Sp (dvE dpl) (0 + p * 3) [.int .i64 1, .slice q1 k.length q2, .int .i64 v] (dvE (dpl.set p ⟨1, q1, q2, k, v⟩)) := sp_dv hpl ⟨1, q1, q2, k, v⟩
    (repeat (first | ((refine (?_ : MX _ _ _ _ _ _ _ _ _ _ _)); first | refine mx_end ?_ | (refine mx_as _ rfl rfl (by conv => {lhs; whnf}) ?_) | (refine g_ix rfl ?_; refine mx_ixsn E rfl rfl rfl rfl rfl rfl (by omega) rfl ?_ ) | (refine g_store rfl ?_; refine s_l E rfl rfl rfl rfl rfl rfl rfl (by assumption ) rfl ?_ ) | (refine g_build rfl ?_; refine mx_build rfl rfl rfl rfl (b95 _ _ _ _ _) rfl ?_) ) | refine cw_seq ?_ | refine cw_line rfl ?_ | refine cw_ret ?_ | refine pw_then ?_ ))
    refine pw_ret rfl rfl rfl rfl fun w1 hw => ⟨⟨dpl.set p ⟨1, q1, q2, k, v⟩, toP_set _ _ _, ?_, List.length_set⟩, rfl, ?_⟩
    · refine ⟨by rw [List.length_set]; exact hwf.P0, by rw [List.length_set]; exact hwf.P1, hwf.k1, hwf.m1, fun x hx => ?_⟩
      rcases List.mem_or_eq_of_mem_set hx with h | rfl
      · exact hwf.ks x h
      · exact hs
    · have h3 := hw.pick (H' := [RDK ⟨1, q1, q2, k, v⟩, dkR dpl, row eb 93 (hdE lb kl mx dpl.length), row lb 95 (dvE (dpl.set p ⟨1, q1, q2, k, v⟩))]) [0, 3, 1, 2] (by simp) rfl
      have h4 := (h3.merge (r := dkR (dpl.set p ⟨1, q1, q2, k, v⟩)) (fun b hb => by
        obtain ⟨x, hx, hb⟩ := hb
        rcases List.mem_or_eq_of_mem_set hx with h | rfl
        · exact .inr ⟨x, h, hb⟩
        · exact .inl hb) (fun x hx => by
        rcases List.mem_or_eq_of_mem_set hx with h | rfl
        · exact h3.holds 1 _ rfl x h
        · exact h3.holds 0 _ rfl)).pick (H' := [row eb 93 (hdE lb kl mx dpl.length), row lb 95 (dvE (dpl.set p ⟨1, q1, q2, k, v⟩)), dkR (dpl.set p ⟨1, q1, q2, k, v⟩)]) [1, 2, 0] (by simp) rfl
      have e : (dpl.set p (⟨1, q1, q2, k, v⟩ : DP)).length = dpl.length := List.length_set
      have h5 : Ok (domL (OE eb lb kl mx dpl)) w (OE eb lb kl mx (dpl.set p ⟨1, q1, q2, k, v⟩)) w1 := by
        show Ok _ _ [row eb 93 (hdE lb kl mx (dpl.set p ⟨1, q1, q2, k, v⟩).length), _, _] w1
        rw [e]
        exact h4
      exact h5
def dnone (mx : Nat) : List DP := List.replicate (plcs mx) ⟨0, none, 0, [], 0⟩
theorem dnone_toP (kl mx : Nat) : toP (dnone mx) = nrm (noneH kl mx) := by
  unfold toP dnone nrm noneH
  rw [List.map_replicate, List.map_replicate]
  rfl
theorem dnone_wf (kl mx : Nat) (hk : kl ≤ 16) (h0 : 1 ≤ mx) (hm : mx ≤ 64) : WfE kl mx (dnone mx) := by
  obtain ⟨h1, h2, h3, h4⟩ := plcs_rng mx (by omega) hm
  have e : (dnone mx).length = plcs mx := by simp [dnone]
  refine ⟨by omega, by omega, by omega, by omega, fun d hd => ?_⟩
  have := List.eq_of_mem_replicate hd
  subst this
  simp
theorem dnew41 (key most : Int) (w : World) : Calls Try.prog 41 #[.int .i64 key, .int .i64 most] w fun e w' => ∃ a : Nat × Nat, e = .returned (.pointer (some ⟨a.1, 0, none⟩)) ∧ Ok (domL []) w (OE a.1 a.2 (cutH key 16).toNat (cutH most 64).toNat (dnone (cutH most 64).toNat)) w' := by
  refine enter2 (S := domL []) 28 Try.func41 rfl rfl rfl (Ok.start w) ?_
  obtain ⟨kl, hkl⟩ := Int.eq_ofNat_of_zero_le (a := cutH key 16) (by unfold cutH; omega)
  obtain ⟨mx, hmx⟩ := Int.eq_ofNat_of_zero_le (a := cutH most 64) (by unfold cutH; omega)
  have hk1 : 1 ≤ kl ∧ kl ≤ 16 := by unfold cutH at hkl; omega
  have hm1 : 1 ≤ mx ∧ mx ≤ 64 := by unfold cutH at hmx; omega
  (repeat (first | ((refine (?_ : MX _ _ _ _ _ _ _ _ _ _ _)); first | refine mx_end ?_ | (refine mx_mv _ rfl rfl (by conv => {lhs; whnf}) ?_) | (refine mx_as _ rfl rfl (by conv => {lhs; whnf}) ?_) ) | refine cw_seq ?_ | refine cw_line rfl ?_ | refine pw_then ?_ ))
  refine g_cf 64 rfl ?_
  refine a_callv rfl rfl rfl rfl Try.func64 rfl rfl rfl (.int .i64 kl) (fun w' hw => hkl ▸ dcut64 key 16 (by omega) w') rfl ?_
  (repeat (((refine (?_ : MX _ _ _ _ _ _ _ _ _ _ _)); (refine mx_mv _ rfl rfl (by conv => {lhs; whnf}) ?_) ) ))
  refine g_cf 64 rfl ?_
  refine a_callv rfl rfl rfl rfl Try.func64 rfl rfl rfl (.int .i64 mx) (fun w' hw => hmx ▸ dcut64 most 64 (by omega) w') rfl ?_
  (repeat (first | ((refine (?_ : MX _ _ _ _ _ _ _ _ _ _ _)); first | refine mx_end ?_ | (refine mx_as _ rfl rfl (by conv => {lhs; whnf}) ?_) | (refine g_build rfl ?_; refine mx_build rfl rfl rfl rfl (b93 _ _) rfl ?_ ) | (refine g_box rfl ?_; refine a_boxl rfl rfl rfl rfl rfl rfl (fun _ => ?_) ) ) | refine cw_seq ?_ | refine cw_line rfl ?_ | refine cw_block ?_ | refine pw_then ?_ ))
  rename_i eb
  rw [hkl, hmx]
  refine cw_loop (fun p : Nat => [(6, .int .i64 p), (5, .pointer (some ⟨eb, 0, none⟩))]) (fun p => [row eb 93 [.slice none 0 0, .int .i64 kl, .int .i64 mx]]) (fun p => (p = 2 ∨ p = 4 ∨ p = 8 ∨ p = 16 ∨ p = 32 ∨ p = 64 ∨ p = 128) ∧ (p < 4 * mx ∨ p = 2)) (fun p => 200 - p) 2 (by omega) ⟨rfl, rfl, trivial⟩ (fun w h => h) ?_
  intro p jk ⟨hp, hp4⟩
  by_cases h0 : (p : Int) < 2 * (mx : Int)
  case pos =>
    have e1 : 2 * (p : Int) = ((p * 2 : Nat) : Int) := by omega
    (repeat (first | ((refine (?_ : MX _ _ _ _ _ _ _ _ _ _ _)); first | refine mx_end ?_ | (refine mx_mv _ rfl rfl (by conv => {lhs; whnf}) ?_) | (refine mx_as _ rfl rfl (by conv => {lhs; whnf}) ?_) | ( refine mx_fa E rfl rfl rfl rfl ?_) | (refine g_load rfl ?_; refine mx_get E rfl rfl rfl rfl rfl (by rfl) rfl ?_ ) | (refine g_bin rfl ?_; first | ( (refine mx_cmpl .lss rfl rfl rfl rfl rfl (by exact cmp_lt_t (by omega) ) ?_) ) | (first | refine mx_ar rfl rfl rfl rfl rfl rfl ((IntWalk.i64_in _ (by omega)).trans (by with_reducible assumption)) rfl ?_ | refine mx_ar rfl rfl rfl rfl rfl rfl (IntWalk.i64_in _ (by omega)) rfl ?_) ) | (refine mx_nc rfl rfl rfl ?_) ) | refine cw_seq ?_ | refine cw_line rfl ?_ | refine cw_block ?_ | refine cw_cond_t rfl ?_ | refine cw_skip ?_ | refine pw_then ?_ | refine pw_block ?_ ))
    exact pw_round (p * 2) (by omega) (by omega) ⟨rfl, rfl, trivial⟩ (fun w h => h)
  case neg =>
    have e0 : plcs mx = p := by
      unfold plcs
      (repeat' split) <;> omega
    (repeat (first | ((refine (?_ : MX _ _ _ _ _ _ _ _ _ _ _)); first | refine mx_end ?_ | (refine mx_mv _ rfl rfl (by conv => {lhs; whnf}) ?_) | ( refine mx_fa E rfl rfl rfl rfl ?_) | (refine g_load rfl ?_; refine mx_get E rfl rfl rfl rfl rfl (by rfl) rfl ?_ ) | (refine g_bin rfl ?_; first | ( (refine mx_cmpl .lss rfl rfl rfl rfl rfl (by first | exact cmp_lt_f (by omega) | rfl) ?_) ) | ( refine mx_ar rfl rfl rfl rfl rfl rfl (IntWalk.i64_in _ (by omega)) rfl ?_) ) | (refine mx_nc rfl rfl rfl ?_) ) | refine cw_seq ?_ | refine cw_line rfl ?_ | refine cw_cond_f rfl ?_ | refine cw_exit ?_ | refine pw_then ?_ | refine pw_then_x ?_ | refine pw_block_e ?_ ))
    refine a_make E rfl rfl rfl rfl rfl rfl rfl (Nat.le_refl _) (by omega) rfl (fun lb => ?_)
    (repeat (first | ((refine (?_ : MX _ _ _ _ _ _ _ _ _ _ _)); first | refine mx_end ?_ | (refine mx_mv _ rfl rfl (by conv => {lhs; whnf}) ?_) | (refine mx_as _ rfl rfl (by conv => {lhs; whnf}) ?_) | (refine mx_fa0 E rfl rfl rfl rfl ?_ ) | (refine mx_nc rfl rfl rfl ?_) | (refine g_store rfl ?_; refine s_1 E rfl rfl rfl rfl rfl rfl rfl rfl (by exact sp0 ) rfl ?_) ) | refine cw_seq ?_ | refine cw_line rfl ?_ | refine cw_ret ?_ | refine pw_then ?_ ))
    refine pw_ret rfl rfl rfl rfl fun w hw => ⟨(eb, lb), rfl, ?_⟩
    have hdv : dvE (dnone mx) = tab p fun _ => [.int .i64 0, .slice none 0 0, .int .i64 0] := by
      unfold dvE dnone tab
      rw [flat_rep, e0, List.flatMap_def, List.map_replicate]
      rfl
    have hdl : (dnone mx).length = p := by simp [dnone, e0]
    have hmem : ∀ d ∈ dnone mx, d = ⟨0, none, 0, [], 0⟩ := fun d hd => List.eq_of_mem_replicate hd
    unfold OE
    rw [Int.toNat_natCast, Int.toNat_natCast, hdl, hdv]
    exact (hw.push (D := fun _ => False) (Chg.rfl' _ _) (fun _ _ h => h) (dkR (dnone mx)) (fun d hd => by rw [hmem d hd]; exact (Ok.own_nil hw 5 1).holds 0 _ rfl) (fun b ⟨d, hd, hb⟩ => by rw [hmem d hd] at hb; cases hb)).pick [2, 1, 0] (by simp) rfl
end Go.Proofs.Ytminmbkhlnaabaa
