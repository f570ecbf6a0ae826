/- The program's table: a new one; its keys, told. -/
import Derived.Test.YtminmbkhlnaabaaHe
import Derived.Test.YtminmbkhlnaabaaTx
import Derived.Test.YtminmbkhlnaabaaBc
set_option maxRecDepth 100000
set_option maxHeartbeats 8000000
set_option linter.unusedSimpArgs false
set_option linter.unusedVariables false
namespace Go.Proofs.Ytminmbkhlnaabaa
open Go Go.Sx Go.RowKit
theorem b87 (a b : Int) : Blt Try.prog 87 [(0, .int .i64 a), (1, .int .i64 b)] [.int .i64 a, .int .i64 b, .int .i64 0, .slice none 0 0, .slice none 0 0, .slice none 0 0] := ⟨by kernel_rfl⟩
instance : ZeroT Try.prog 5 [.int .u8 0] := ⟨by kernel_rfl⟩
def cutH (n hi : Int) : Int := min (max n 1) hi
theorem cut60 (n hi : Int) (w : World) : Calls Try.prog 60 #[.int .i64 n, .int .i64 hi] w fun e w' => e = .returned (.int .i64 (cutH n hi)) ∧ Grow w w' := by
  refine enter2 (S := fun _ => False) 9 Try.func60 rfl rfl rfl (Ok.start w) ?_
  (repeat (first | ((refine (?_ : MX _ _ _ _ _ _ _ _ _ _ _)); first | refine mx_end ?_ | (refine mx_mv _ rfl rfl (by conv => {lhs; whnf}) ?_) | (refine mx_as _ rfl rfl (by conv => {lhs; whnf}) ?_) | (first | (refine g_bi .max rfl ?_; refine mx_maxi rfl rfl rfl rfl rfl rfl rfl ?_) | (refine g_bi .min rfl ?_; refine mx_mini rfl rfl rfl rfl rfl rfl rfl ?_)) ) | refine cw_seq ?_ | refine cw_line rfl ?_ | refine cw_ret ?_ | refine pw_then ?_ ))
  exact pw_ret rfl rfl rfl rfl fun w hw => ⟨rfl, hw.keep.grow⟩
def plcs (mx : Nat) : Nat := if mx ≤ 1 then 2 else if mx ≤ 2 then 4 else if mx ≤ 4 then 8 else if mx ≤ 8 then 16 else if mx ≤ 16 then 32 else if mx ≤ 32 then 64 else 128
def noneH (kl mx : Nat) : List PLc := List.replicate (plcs mx) ⟨0, List.replicate kl 0, 0⟩
theorem flat_rep {α : Type} (n : Nat) (l : List α) : (List.range n).flatMap (fun _ => l) = (List.replicate n l).flatten := by
  rw [List.flatMap_def]
  congr 1
  induction n with
  | zero => rfl
  | succ n ih => rw [List.range_succ, List.map_append, ih, List.replicate_succ']; rfl
theorem tab_one (n : Nat) (v : Value) : tab n (fun _ => [v]) = List.replicate n v := by
  unfold tab
  rw [flat_rep]
  induction n with
  | zero => rfl
  | succ n ih => rw [List.replicate_succ, List.flatten_cons, ih, List.replicate_succ]; rfl
theorem kv_none (kl mx : Nat) : kvH (noneH kl mx) = List.replicate (plcs mx * kl) (.int .u8 0) := by
  unfold kvH noneH
  generalize plcs mx = n
  induction n with
  | zero => simp
  | succ n ih =>
    rw [List.replicate_succ, List.flatMap_cons, ih, List.map_replicate, List.replicate_append_replicate]
    congr 1
    rw [Nat.succ_mul]
    omega
theorem sv_none (kl mx : Nat) : svH (noneH kl mx) = List.replicate (plcs mx) (.int .u8 0) := by
  unfold svH noneH
  rw [List.map_replicate]
  rfl
theorem cv_none (kl mx : Nat) : cvH (noneH kl mx) = List.replicate (plcs mx) (.int .i64 0) := by
  unfold cvH noneH
  rw [List.map_replicate]
theorem cnt_none (kl mx : Nat) : cntH (noneH kl mx) = 0 := by
  unfold cntH noneH
  rw [List.countP_eq_zero]
  intro c hc
  have := List.eq_of_mem_replicate hc
  subst this
  simp
theorem len_none (kl mx : Nat) : (noneH kl mx).length = plcs mx := by simp [noneH]
theorem plcs_rng (mx : Nat) (h0 : 0 < mx) (h : mx ≤ 64) : 2 * mx ≤ plcs mx ∧ plcs mx < 4 * mx ∧ plcs mx ≤ 128 ∧ 2 ≤ plcs mx := by
  unfold plcs
  (repeat' split) <;> omega
theorem new34 (key most : Int) (w : World) : Calls Try.prog 34 #[.int .i64 key, .int .i64 most] w fun e w' => ∃ a : Nat × Nat × Nat × Nat, e = .returned (.pointer (some ⟨a.1, 0, none⟩)) ∧ Ok (domL []) w (OH a.1 a.2.1 a.2.2.1 a.2.2.2 (cutH key 16).toNat (cutH most 64).toNat (noneH (cutH key 16).toNat (cutH most 64).toNat)) w' := by
  refine enter2 (S := domL []) 43 Try.func34 rfl rfl rfl (Ok.start w) ?_
  obtain ⟨kl, hkl⟩ := Int.eq_ofNat_of_zero_le (a := cutH key 16) (by unfold cutH; omega)
  obtain ⟨mx, hmx⟩ := Int.eq_ofNat_of_zero_le (a := cutH most 64) (by unfold cutH; omega)
  have hk1 : 1 ≤ kl ∧ kl ≤ 16 := by unfold cutH at hkl; omega
  have hm1 : 1 ≤ mx ∧ mx ≤ 64 := by unfold cutH at hmx; omega
  (repeat (first | ((refine (?_ : MX _ _ _ _ _ _ _ _ _ _ _)); first | refine mx_end ?_ | (refine mx_mv _ rfl rfl (by conv => {lhs; whnf}) ?_) | (refine mx_as _ rfl rfl (by conv => {lhs; whnf}) ?_) ) | refine cw_seq ?_ | refine cw_line rfl ?_ | refine pw_then ?_ ))
  refine g_cf 60 rfl ?_
  refine a_callv rfl rfl rfl rfl Try.func60 rfl rfl rfl (.int .i64 kl) (fun w' hw => hkl ▸ cut60 key 16 w') rfl ?_
  (repeat (((refine (?_ : MX _ _ _ _ _ _ _ _ _ _ _)); (refine mx_mv _ rfl rfl (by conv => {lhs; whnf}) ?_) ) ))
  refine g_cf 60 rfl ?_
  refine a_callv rfl rfl rfl rfl Try.func60 rfl rfl rfl (.int .i64 mx) (fun w' hw => hmx ▸ cut60 most 64 w') rfl ?_
  (repeat (first | ((refine (?_ : MX _ _ _ _ _ _ _ _ _ _ _)); first | refine mx_end ?_ | (refine mx_as _ rfl rfl (by conv => {lhs; whnf}) ?_) | (refine g_build rfl ?_; refine mx_build rfl rfl rfl rfl (b87 _ _) rfl ?_) | (refine g_box rfl ?_; refine a_boxl rfl rfl rfl rfl rfl rfl (fun _ => ?_) ) ) | refine cw_seq ?_ | refine cw_line rfl ?_ | refine cw_block ?_ | refine pw_then ?_ ))
  rename_i bx
  rw [hkl, hmx]
  refine cw_loop (fun p : Nat => [(6, .int .i64 p), (5, .pointer (some ⟨bx, 0, none⟩))]) (fun p => [row bx 87 [.int .i64 kl, .int .i64 mx, .int .i64 0, .slice none 0 0, .slice none 0 0, .slice none 0 0]]) (fun p => (p = 1 ∨ p = 2 ∨ p = 4 ∨ p = 8 ∨ p = 16 ∨ p = 32 ∨ p = 64 ∨ p = 128) ∧ p < 4 * mx) (fun p => 200 - p) 1 (by omega) ⟨rfl, rfl, trivial⟩ (fun w h => h) ?_
  intro p jk ⟨hp, hp4⟩
  by_cases h0 : (p : Int) < 2 * (mx : Int)
  case pos =>
    have e1 : (p : Int) * 2 = ((p * 2 : Nat) : Int) := by omega
    (repeat (first | ((refine (?_ : MX _ _ _ _ _ _ _ _ _ _ _)); first | refine mx_end ?_ | (refine mx_mv _ rfl rfl (by conv => {lhs; whnf}) ?_) | (refine mx_as _ rfl rfl (by conv => {lhs; whnf}) ?_) | ( refine mx_fa E rfl rfl rfl rfl ?_) | (refine g_load rfl ?_; refine mx_get E rfl rfl rfl rfl rfl (by rfl) rfl ?_ ) | (refine g_bin rfl ?_; first | ( (refine mx_cmpl .lss rfl rfl rfl rfl rfl (by exact cmp_lt_t (by omega) ) ?_) ) | (first | refine mx_ar rfl rfl rfl rfl rfl rfl ((IntWalk.i64_in _ (by omega)).trans (by with_reducible assumption)) rfl ?_ | refine mx_ar rfl rfl rfl rfl rfl rfl (IntWalk.i64_in _ (by omega)) rfl ?_) ) | (refine mx_nc rfl rfl rfl ?_) ) | refine cw_seq ?_ | refine cw_line rfl ?_ | refine cw_block ?_ | refine cw_cond_t rfl ?_ | refine cw_skip ?_ | refine pw_then ?_ | refine pw_block ?_ ))
    exact pw_round (p * 2) (by omega) (by omega) ⟨rfl, rfl, trivial⟩ (fun w h => h)
  case neg =>
    have e0 : plcs mx = p := by
      unfold plcs
      (repeat' split) <;> omega
    have hpk : p * kl ≤ 128 * 16 := Nat.mul_le_mul (by omega) (by omega)
    have e1 : (p : Int) * (kl : Int) = ((p * kl : Nat) : Int) := (Int.natCast_mul p kl).symm
    (repeat (first | ((refine (?_ : MX _ _ _ _ _ _ _ _ _ _ _)); first | refine mx_end ?_ | (refine mx_mv _ rfl rfl (by conv => {lhs; whnf}) ?_) | (first | refine mx_fa0 E rfl rfl rfl rfl ?_ | refine mx_fa E rfl rfl rfl rfl ?_) | (refine g_load rfl ?_; refine mx_get E rfl rfl rfl rfl rfl (by rfl) rfl ?_ ) | (refine g_bin rfl ?_; first | ( (refine mx_cmpl .lss rfl rfl rfl rfl rfl (by first | exact cmp_lt_f (by omega) | rfl) ?_) ) | (first | refine mx_ar rfl rfl rfl rfl rfl rfl ((IntWalk.i64_in _ (by omega)).trans (by with_reducible assumption)) rfl ?_ | refine mx_ar rfl rfl rfl rfl rfl rfl (IntWalk.i64_in _ (by omega)) rfl ?_) ) | (refine mx_nc rfl rfl rfl ?_) ) | refine cw_seq ?_ | refine cw_line rfl ?_ | refine cw_cond_f rfl ?_ | refine cw_exit ?_ | refine pw_then ?_ | refine pw_then_x ?_ | refine pw_block_e ?_ ))
    refine a_make E rfl rfl rfl rfl rfl rfl rfl (Nat.le_refl _) (by omega) rfl (fun kb => ?_)
    (repeat (first | ((refine (?_ : MX _ _ _ _ _ _ _ _ _ _ _)); first | refine mx_end ?_ | (refine mx_mv _ rfl rfl (by conv => {lhs; whnf}) ?_) | ( refine mx_fa E rfl rfl rfl rfl ?_) | (refine mx_nc rfl rfl rfl ?_) | (refine g_store rfl ?_; refine s_1 E rfl rfl rfl rfl rfl rfl rfl rfl (by exact spS (spS (spS sp0)) ) rfl ?_) ) | refine cw_seq ?_ | refine cw_line rfl ?_ | refine pw_then ?_ ))
    refine a_make E rfl rfl rfl rfl rfl rfl rfl (Nat.le_refl _) (by omega) rfl (fun sb => ?_)
    (repeat (first | ((refine (?_ : MX _ _ _ _ _ _ _ _ _ _ _)); first | refine mx_end ?_ | (refine mx_mv _ rfl rfl (by conv => {lhs; whnf}) ?_) | ( refine mx_fa E rfl rfl rfl rfl ?_) | (refine mx_nc rfl rfl rfl ?_) | (refine g_store rfl ?_; refine s_1 E rfl rfl rfl rfl rfl rfl rfl rfl (by exact spS (spS (spS (spS sp0))) ) rfl ?_) ) | refine cw_seq ?_ | refine cw_line rfl ?_ | refine pw_then ?_ ))
    refine a_make E rfl rfl rfl rfl rfl rfl rfl (Nat.le_refl _) (by omega) rfl (fun cb => ?_)
    (repeat (first | ((refine (?_ : MX _ _ _ _ _ _ _ _ _ _ _)); first | refine mx_end ?_ | (refine mx_mv _ rfl rfl (by conv => {lhs; whnf}) ?_) | (refine mx_as _ rfl rfl (by conv => {lhs; whnf}) ?_) | ( refine mx_fa E rfl rfl rfl rfl ?_) | (refine mx_nc rfl rfl rfl ?_) | (refine g_store rfl ?_; refine s_1 E rfl rfl rfl rfl rfl rfl rfl rfl (by exact spS (spS (spS (spS (spS sp0)))) ) rfl ?_) ) | refine cw_seq ?_ | refine cw_line rfl ?_ | refine cw_ret ?_ | refine pw_then ?_ ))
    refine pw_ret rfl rfl rfl rfl fun w hw => ⟨(bx, kb, sb, cb), rfl, ?_⟩
    unfold OH
    rw [Int.toNat_natCast, Int.toNat_natCast, cnt_none, len_none, kv_none, sv_none, cv_none, e0, ← tab_one, ← tab_one, ← tab_one]
    exact hw.pick [3, 2, 1, 0] (by simp) rfl
/-! ### Its keys -/
def RT (t : TX) : Res := ownd t.ad t.cap 5 1 t.k.length (t.k.flatMap cU)
def allT (ts : List TX) : Res := star (ts.map RT)
theorem allT_snoc {S : Nat → Prop} {w0 w : World} {H : List Res} {rs : List TX} {r : TX} (h : Ok S w0 (RT r :: allT rs :: H) w) : Ok S w0 (allT (rs ++ [r]) :: H) w := by
  have h1 : Ok S w0 (allT rs :: ([RT r] ++ H)) w := h.perm (List.Perm.swap _ _ _)
  have h2 := Ok.unstar h1
  rw [← List.append_assoc] at h2
  have h3 := Ok.star h2
  unfold allT
  rw [List.map_append]
  exact h3
theorem inT {ts : List TX} {w : World} (h : (allT ts).holds w) {t : TX} (ht : t ∈ ts) : InL w t.ad 1 cU t.k := own_in len_U (star_holds h (List.mem_map.2 ⟨t, ht, rfl⟩)) (Nat.le_refl _)
def keysH (pl : List PLc) : List (List Int) := (pl.filter fun c => c.s == 1).map (·.k)
theorem keysH_take {pl : List PLc} {i : Nat} {c : PLc} (hc : pl[i]? = some c) : keysH (pl.take (i + 1)) = keysH (pl.take i) ++ if c.s = 1 then [c.k] else [] := by
  unfold keysH
  rw [List.take_add_one, hc, List.filter_append, List.map_append]
  congr 1
  by_cases h : c.s = 1 <;> simp [h]
theorem keysH_len (pl : List PLc) : (keysH pl).length = cntH pl := by
  unfold keysH cntH
  rw [List.length_map, List.countP_eq_length_filter]
theorem keys45 (bx kb sb cb kl mx : Nat) (pl : List PLc) (hwf : WfH kl mx pl) (w : World) (ho : ∀ r ∈ OH bx kb sb cb kl mx pl, r.holds w) :
    Calls Try.prog 45 #[.pointer (some ⟨bx, 0, none⟩)] w fun e w' => ∃ a : (Option Addr × Nat) × {ts : List TX // ts.map (·.k) = keysH pl}, e = .returned (.slice a.1.1 a.2.1.length a.1.2) ∧ Ok (domL []) w [ownd a.1.1 a.1.2 22 1 a.2.1.length (a.2.1.flatMap cT), allT a.2.1] w' := by
  refine enter1 (S := domL []) 27 Try.func45 rfl rfl rfl (Ok.start w) ?_
  have hP := hwf.P1
  have hrx := ho (row bx 87 (hdH kb sb cb kl mx (cntH pl) pl.length)) (by simp [OH])
  have hrk := ho (row kb 5 (kvH pl)) (by simp [OH])
  have hrs := ho (row sb 5 (svH pl)) (by simp [OH])
  have hno : ∀ b, ¬ (domL [] : Nat → Prop) b := fun b ⟨j, r, h, _⟩ => by simp at h
  have hSx : ¬ (domL [] : Nat → Prop) bx := hno bx
  have hSs : ¬ (domL [] : Nat → Prop) sb := hno sb
  (repeat (first | ((refine (?_ : MX _ _ _ _ _ _ _ _ _ _ _)); first | refine mx_end ?_ | (refine mx_mv _ rfl rfl (by conv => {lhs; whnf}) ?_) | (refine mx_as _ rfl rfl (by conv => {lhs; whnf}) ?_) | ( refine mx_fa E rfl rfl rfl rfl ?_) | (refine g_load rfl ?_; refine mx_orow E rfl rfl rfl rfl rfl (by assumption) (by assumption) (by rfl) rfl ?_ ) | (refine mx_nc rfl rfl rfl ?_) | (refine g_bi .len rfl ?_; refine mx_len E rfl rfl rfl rfl ?_) ) | refine cw_seq ?_ | refine cw_line rfl ?_ | refine cw_block ?_ | refine pw_then ?_ ))
  refine cw_loop (ι := Nat × List TX × Option Addr × Nat) (fun p => [(11, .int .i64 p.1), (10, .int .i64 pl.length), (9, .slice (some ⟨sb, 0, none⟩) pl.length pl.length), (3, .slice p.2.2.1 p.2.1.length p.2.2.2), (0, .pointer (some ⟨bx, 0, none⟩))]) (fun p => [ownd p.2.2.1 p.2.2.2 22 1 p.2.1.length (p.2.1.flatMap cT), allT p.2.1]) (fun p => p.1 ≤ pl.length ∧ p.2.1.map (·.k) = keysH (pl.take p.1)) (fun p => pl.length - p.1) (0, [], none, 0) ⟨Nat.zero_le _, rfl⟩ ⟨rfl, rfl, rfl, rfl, rfl, trivial⟩ (fun w h => (Ok.star (L := []) (h.own_nil 22 1)).pick [1, 0] (by simp) rfl) ?_
  rintro ⟨i, ts, a1, c1⟩ jk ⟨hi, hts⟩
  dsimp only at hi hts ⊢
  have htl : ts.length ≤ 1000 := by
    have h1 := congrArg List.length hts
    rw [List.length_map, keysH_len] at h1
    have h2 := cntH_le (pl.take i)
    rw [List.length_take] at h2
    omega
  by_cases h0 : (i : Int) < pl.length
  case neg =>
    rw [List.take_of_length_le (by omega)] at hts
    (repeat (first | ((refine (?_ : MX _ _ _ _ _ _ _ _ _ _ _)); first | refine mx_end ?_ | (refine mx_mv _ rfl rfl (by conv => {lhs; whnf}) ?_) | (refine mx_as _ rfl rfl (by conv => {lhs; whnf}) ?_) | (refine g_bin rfl ?_; ( (refine mx_cmpl .lss rfl rfl rfl rfl rfl (by exact cmp_lt_f (by omega) ) ?_) ) ) ) | refine cw_seq ?_ | refine cw_line rfl ?_ | refine cw_cond_f rfl ?_ | refine cw_exit ?_ | refine cw_ret ?_ | refine pw_then ?_ | refine pw_then_x ?_ | refine pw_block_e ?_ ))
    exact pw_ret rfl rfl rfl rfl fun w' hw => ⟨((a1, c1), ⟨ts, hts⟩), rfl, hw⟩
  case pos =>
    obtain ⟨c, hc⟩ := getElem_some (xs := pl) (i := i) (by omega)
    have hsv : (svH pl)[0 + i * 1]? = some (.int .u8 c.s) := by rw [Nat.zero_add, Nat.mul_one]; exact svH_at hc
    have hkt := keysH_take hc
    have hckl := (hwf.ok c (List.mem_of_getElem? hc)).1
    by_cases h1 : (c.s : Int) = 1
    · rw [if_pos (by omega)] at hkt
      (repeat (first | ((refine (?_ : MX _ _ _ _ _ _ _ _ _ _ _)); first | refine mx_end ?_ | (refine mx_mv _ rfl rfl (by conv => {lhs; whnf}) ?_) | (refine mx_as _ rfl rfl (by conv => {lhs; whnf}) ?_) | (refine g_load rfl ?_; refine mx_orow E rfl rfl rfl rfl rfl (by assumption) (by assumption) (by assumption ) rfl ?_ ) | (refine g_bin rfl ?_; (first | (refine mx_cmpl .eql rfl rfl rfl rfl rfl (by exact cmp_eq_t (by omega) ) ?_) | (refine mx_cmpl .lss rfl rfl rfl rfl rfl (by exact cmp_lt_t (by omega) ) ?_) ) ) | (refine g_ix rfl ?_; refine mx_ixsn E rfl rfl rfl rfl rfl rfl (by omega) rfl ?_ ) ) | refine cw_seq ?_ | refine cw_line rfl ?_ | refine cw_block ?_ | refine cw_cond_t rfl ?_ | refine cw_skip ?_ | refine pw_then ?_ ))
      refine g_cf 63 rfl ?_
      refine a_callv rfl rfl rfl rfl Try.func63 rfl rfl rfl _ (fun w' hw => at63 bx kb sb cb kl mx (cntH pl) pl.length i (by omega) hwf.k1 hwf.P1 hwf.k0 w' (hw.orow hrx hSx)) rfl ?_
      refine g_cf 66 rfl ?_
      refine a_calln rfl rfl rfl rfl Try.func66 rfl rfl rfl (fun q : Option Addr × Nat => .slice q.1 c.k.length q.2) (fun q => ownd q.1 q.2 5 1 c.k.length (c.k.flatMap cU)) (fun w' hw => hckl ▸ cloneB (some ⟨kb, i * kl, none⟩) kl kl c.k hckl (by have := hwf.k1; omega) w' (kvH_in hwf.ok hc (hw.orow hrk (hno kb)))) rfl (fun q => ?_)
      obtain ⟨q1, q2⟩ := q
      (repeat (first | ((refine (?_ : MX _ _ _ _ _ _ _ _ _ _ _)); first | refine mx_end ?_ | (refine mx_mv _ rfl rfl (by conv => {lhs; whnf}) ?_) | (refine mx_as _ rfl rfl (by conv => {lhs; whnf}) ?_) | (first | refine mx_fa0 E rfl rfl rfl rfl ?_ | refine mx_fa E rfl rfl rfl rfl ?_) | (refine g_load rfl ?_; first | refine mx_get E rfl rfl rfl rfl rfl (by first | assumption | rfl) rfl ?_ | refine mx_getn E rfl rfl rfl rfl rfl (by first | exact Vr.all rfl | exact ⟨⟨rfl⟩, rfl⟩) rfl ?_ | refine mx_oldn E rfl rfl rfl rfl rfl (by assumption) (by assumption) (rfl) rfl ?_ | refine mx_old1 E rfl rfl rfl rfl rfl (by assumption) (by assumption) rfl ?_ | refine mx_orow E rfl rfl rfl rfl rfl (by assumption) (by assumption) (by first | assumption | rfl) rfl ?_ | refine mx_orown E rfl rfl rfl rfl rfl (by assumption) (by assumption) (by first | exact Vr.all rfl | exact ⟨⟨rfl⟩, rfl⟩) rfl ?_ | refine mx_geta E rfl rfl rfl rfl rfl rfl (by first | assumption | rfl) rfl ?_ | refine mx_getna E rfl rfl rfl rfl rfl rfl (by first | exact Vr.all rfl | exact ⟨⟨rfl⟩, rfl⟩) rfl ?_) | (refine g_bin rfl ?_; first | (first | (refine mx_cmpl .eql rfl rfl rfl rfl rfl (by first | exact cmp_eq_t (by omega) | exact cmp_eq_f (by omega) | rfl) ?_) | (refine mx_cmpl .neq rfl rfl rfl rfl rfl (by first | exact cmp_ne_t (by omega) | exact cmp_ne_f (by omega) | rfl) ?_) | (refine mx_cmpl .lss rfl rfl rfl rfl rfl (by first | exact cmp_lt_t (by omega) | exact cmp_lt_f (by omega) | rfl) ?_) | (refine mx_cmpl .leq rfl rfl rfl rfl rfl (by first | exact cmp_le_t (by omega) | exact cmp_le_f (by omega) | rfl) ?_) | (refine mx_cmpl .gtr rfl rfl rfl rfl rfl (by first | exact cmp_gt_t (by omega) | exact cmp_gt_f (by omega) | rfl) ?_) | (refine mx_cmpl .geq rfl rfl rfl rfl rfl (by first | exact cmp_ge_t (by omega) | exact cmp_ge_f (by omega) | rfl) ?_)) | (first | refine mx_ar rfl rfl rfl rfl rfl rfl ((IntWalk.i64_in _ (by omega)).trans (by with_reducible assumption)) rfl ?_ | refine mx_ar rfl rfl rfl rfl rfl rfl (IntWalk.i64_in _ (by omega)) rfl ?_) | (first | refine mx_eqs rfl rfl rfl rfl rfl rfl ?_ | refine mx_nes rfl rfl rfl rfl rfl rfl ?_ | refine mx_eq rfl rfl rfl rfl rfl rfl ?_ | refine mx_ne rfl rfl rfl rfl rfl rfl ?_) | refine mx_bsame E rfl rfl rfl rfl rfl rfl rfl ?_ | refine mx_bnsame E rfl rfl rfl rfl rfl rfl rfl ?_ | refine mx_beq E rfl rfl rfl rfl rfl rfl rfl ?_ | refine mx_bne E rfl rfl rfl rfl rfl rfl rfl ?_ | refine mx_dv rfl rfl rfl rfl rfl (by decide) (congrArg some (by assumption)) rfl rfl ?_ | refine mx_dv rfl rfl rfl rfl rfl (by decide) rfl rfl rfl ?_ | refine mx_bit rfl rfl rfl rfl rfl (congrArg some (by assumption)) rfl rfl ?_ | refine mx_bit rfl rfl rfl rfl rfl rfl rfl rfl ?_ | refine mx_sh rfl rfl rfl rfl rfl (by omega) (congrArg some (by assumption)) rfl rfl ?_ | refine mx_sh rfl rfl rfl rfl rfl (by omega) rfl rfl rfl ?_) | (refine g_ix rfl ?_; first | refine mx_ixan E rfl rfl rfl rfl rfl rfl (by omega) rfl ?_ | refine mx_ixsn E rfl rfl rfl rfl rfl rfl (by omega) rfl ?_ | refine mx_ixsi E rfl rfl rfl rfl rfl rfl (by omega) (by omega) rfl ?_ | refine mx_ixa E rfl rfl rfl rfl rfl rfl (by omega) (by omega) rfl rfl ?_) | (refine mx_nc rfl rfl rfl ?_) | (refine g_bi .len rfl ?_; refine mx_len E rfl rfl rfl rfl ?_) | (refine mx_not rfl rfl rfl ?_) | (refine mx_ex _ rfl rfl rfl (by conv => {lhs; whnf}) ?_) | (refine mx_skip rfl rfl rfl ?_) | (refine g_pick rfl ?_; first | refine mx_andf rfl rfl rfl rfl rfl ?_ | refine mx_ort rfl rfl rfl rfl rfl ?_ | refine mx_and rfl rfl rfl rfl rfl rfl ?_ | refine mx_or rfl rfl rfl rfl rfl rfl ?_ | refine mx_pickt _ rfl rfl rfl rfl (by conv => {lhs; whnf}) rfl ?_ | refine mx_pickf _ rfl rfl rfl rfl (by conv => {lhs; whnf}) rfl ?_) | (refine g_store rfl ?_; first | refine s_l E rfl rfl rfl rfl rfl rfl rfl (by first | exact Sp.all rfl | exact Sp.lit rfl rfl) rfl ?_ | refine s_1 E rfl rfl rfl rfl rfl rfl rfl rfl (by first | assumption | exact sp0 | exact spS sp0 | exact spS (spS sp0) | exact spS (spS (spS sp0)) | exact spS (spS (spS (spS sp0))) | exact spS (spS (spS (spS (spS sp0)))) | exact Sp.lit rfl rfl) rfl ?_) | (refine g_build rfl ?_; first | refine mx_build rfl rfl rfl rfl (b87 _ _) rfl ?_) | (refine a_new rfl rfl rfl rfl rfl (fun _ => ?_)) | (refine g_box rfl ?_; first | refine a_boxl rfl rfl rfl rfl rfl rfl (fun _ => ?_) | refine a_box1 rfl rfl rfl rfl rfl rfl rfl (fun _ => ?_)) | (first | refine mx_indexn E rfl rfl rfl rfl rfl rfl rfl rfl (by omega) (by first | exact vr_RR _ (by omega)) rfl ?_ | refine mx_index E rfl rfl rfl rfl rfl rfl rfl rfl (by omega) (by omega) (by first | exact vr_RR _ (by omega)) rfl ?_) | (refine g_bs rfl ?_; first | refine a_bs0 E rfl rfl rfl rfl rfl rfl (fun _ => ?_) | refine a_bsi E rfl rfl rfl rfl rfl (by (repeat (first | exact EvI.nil | (apply EvI.cons; rfl)))) (by rfl) (by rfl) (by rfl) rfl (fun _ => ?_)) | (refine g_conv rfl ?_; first | refine mx_cv E rfl rfl rfl rfl rfl rfl (by assumption) rfl ?_ | refine mx_cv E rfl rfl rfl rfl rfl rfl (IntWalk.i64_in _ (by omega)) rfl ?_ | refine mx_cv E rfl rfl rfl rfl rfl rfl (IntWalk.u64_in _ (by omega)) rfl ?_ | refine mx_cv E rfl rfl rfl rfl rfl rfl (IntWalk.u8_in _ (by omega)) rfl ?_ | refine mx_cv E rfl rfl rfl rfl rfl rfl rfl rfl ?_) | (first | (refine g_bi .max rfl ?_; refine mx_maxi rfl rfl rfl rfl rfl rfl rfl ?_) | (refine g_bi .min rfl ?_; refine mx_mini rfl rfl rfl rfl rfl rfl rfl ?_)) | (fail) | (fail)) | refine cw_seq ?_ | refine cw_line rfl ?_ | (fail) | refine cw_block ?_ | refine cw_cond_f rfl ?_ | refine cw_cond_t rfl ?_ | refine cw_skip ?_ | refine cw_exit ?_ | refine cw_ret ?_ | refine pw_then ?_ | refine pw_then_x ?_ | refine pw_then_r ?_ | refine pw_block ?_ | refine pw_block_e ?_ | refine pw_block_n rfl ?_ | refine pw_block_r ?_))
      refine g_bs rfl ?_
      refine a_bslice1 E rfl rfl rfl rfl (us := [.slice q1 c.k.length q2]) rfl rfl rfl rfl rfl rfl (fun b6 => ?_)
      refine g_bi .append rfl ?_
      refine a_app E rfl rfl rfl rfl rfl rfl rfl rfl [.slice q1 c.k.length q2] rfl (fun w hw => fun _ => ⟨b6, 0, rfl, fun j u hj => by rw [add_at, Nat.zero_add]; exact row_cell (hw.holds 0 _ rfl) hj⟩) rfl (by omega) rfl (fun _ _ _ _ => trivial) (fun a3 c3 => ?_)
      have e1 : ts.flatMap cT ++ [.slice q1 c.k.length q2] = (ts ++ [(⟨q1, q2, c.k⟩ : TX)]).flatMap cT := by rw [List.flatMap_append]; rfl
      have e2 : ts.length + 1 = (ts ++ [(⟨q1, q2, c.k⟩ : TX)]).length := by simp
      rw [e1, e2]
      (repeat (first | ((refine (?_ : MX _ _ _ _ _ _ _ _ _ _ _)); first | refine mx_end ?_ | (refine mx_mv _ rfl rfl (by conv => {lhs; whnf}) ?_) | (refine mx_as _ rfl rfl (by conv => {lhs; whnf}) ?_) | (refine g_bin rfl ?_; ( refine mx_ar rfl rfl rfl rfl rfl rfl (IntWalk.i64_in _ (by omega)) rfl ?_) ) ) | refine cw_line rfl ?_ | refine pw_then ?_ | refine pw_block ?_ ))
      refine pw_round (i + 1, ts ++ [(⟨q1, q2, c.k⟩ : TX)], a3, c3) ⟨by show i + 1 ≤ pl.length; omega, ?_⟩ (by show pl.length - (i + 1) < pl.length - i; omega) ⟨rfl, rfl, rfl, rfl, rfl, trivial⟩ (fun w h => ?_)
      · show (ts ++ [(⟨q1, q2, c.k⟩ : TX)]).map (·.k) = keysH (pl.take (i + 1))
        rw [hkt, List.map_append, hts]
        rfl
      · exact (allT_snoc (r := ⟨q1, q2, c.k⟩) (h.pick (H' := [RT ⟨q1, q2, c.k⟩, allT ts, ownd a3 c3 22 1 (ts ++ [(⟨q1, q2, c.k⟩ : TX)]).length ((ts ++ [(⟨q1, q2, c.k⟩ : TX)]).flatMap cT)]) [1, 3, 2] (by simp) rfl)).pick [1, 0] (by simp) rfl
    · rw [if_neg (by omega), List.append_nil] at hkt
      (repeat (first | ((refine (?_ : MX _ _ _ _ _ _ _ _ _ _ _)); first | refine mx_end ?_ | (refine mx_mv _ rfl rfl (by conv => {lhs; whnf}) ?_) | (refine mx_as _ rfl rfl (by conv => {lhs; whnf}) ?_) | (refine g_load rfl ?_; refine mx_orow E rfl rfl rfl rfl rfl (by assumption) (by assumption) (by assumption ) rfl ?_ ) | (refine g_bin rfl ?_; first | (first | (refine mx_cmpl .eql rfl rfl rfl rfl rfl (by exact cmp_eq_f (by omega) ) ?_) | (refine mx_cmpl .lss rfl rfl rfl rfl rfl (by exact cmp_lt_t (by omega) ) ?_) ) | ( refine mx_ar rfl rfl rfl rfl rfl rfl (IntWalk.i64_in _ (by omega)) rfl ?_) ) | (refine g_ix rfl ?_; refine mx_ixsn E rfl rfl rfl rfl rfl rfl (by omega) rfl ?_ ) ) | refine cw_seq ?_ | refine cw_line rfl ?_ | refine cw_block ?_ | refine cw_cond_f rfl ?_ | refine cw_cond_t rfl ?_ | refine cw_skip ?_ | refine pw_then ?_ | refine pw_block ?_ ))
      exact pw_round (i + 1, ts, a1, c1) ⟨by show i + 1 ≤ pl.length; omega, by show ts.map (·.k) = keysH (pl.take (i + 1)); rw [hkt]; exact hts⟩ (by show pl.length - (i + 1) < pl.length - i; omega) ⟨rfl, rfl, rfl, rfl, rfl, trivial⟩ (fun w h => h)
end Go.Proofs.Ytminmbkhlnaabaa
