/- The document's table: a new one, found, taken away, keys, how many. -/
import Derived.Test.YtminmbkhlnaabaaHg
set_option maxRecDepth 100000
set_option maxHeartbeats 8000000
set_option linter.unusedSimpArgs false
set_option linter.unusedVariables false
namespace Go.Proofs.Ytminmbkhlnaabaa
open Go Go.Sx Go.RowKit
theorem b93 (a b : Int) : Blt Try.prog 93 [(1, .int .i64 a), (2, .int .i64 b)] [.slice none 0 0, .int .i64 a, .int .i64 b] := ⟨by kernel_rfl⟩
theorem b95i (a : Int) : Blt Try.prog 95 [(0, .int .i64 a)] [.int .i64 a, .slice none 0 0, .int .i64 0] := ⟨by kernel_rfl⟩
instance : ZeroT Try.prog 95 [.int .i64 0, .slice none 0 0, .int .i64 0] := ⟨by kernel_rfl⟩
def ddelP (pl : List PLc) (kl : Nat) (k : List Int) : List PLc := match lookH pl kl k with
  | some p => pl.set p ⟨2, [], 0⟩
  | none => pl
theorem toP_set (dpl : List DP) (p : Nat) (d : DP) : toP (dpl.set p d) = (toP dpl).set p (pP d) := by
  unfold toP
  rw [List.map_set]
theorem sp_dv {dpl : List DP} {p : Nat} (hp : p < dpl.length) (d : DP) : Sp (dvE dpl) (0 + p * 3) (cDP d) (dvE (dpl.set p d)) := by
  rw [Nat.zero_add]
  have hz : ∀ x ∈ dpl, (cDP x).length = 3 := fun x _ => rfl
  refine ⟨?_, ?_⟩
  · unfold dvE
    rw [fm_len hz]
    have : (p + 1) * 3 ≤ dpl.length * 3 := Nat.mul_le_mul_right 3 hp
    show p * 3 + 3 ≤ _
    omega
  · unfold dvE
    exact fm_splice hz hp d rfl
theorem lookH_toP {dpl : List DP} {kl : Nat} {k : List Int} {p : Nat} (h : lookH (toP dpl) kl k = some p) : p < dpl.length ∧ ∃ d, dpl[p]? = some d ∧ d.s = 1 ∧ d.k = k := by
  obtain ⟨_, hp, c, hc, h1, h2⟩ := lookH_some h
  rw [toP_len] at hp
  obtain ⟨d, hd⟩ := getElem_some (xs := dpl) hp
  rw [toP_at hd] at hc
  obtain rfl : pP d = c := by simpa using hc
  exact ⟨hp, d, hd, h1, h2⟩
theorem getD_toP {dpl : List DP} {p : Nat} {d : DP} (hd : dpl[p]? = some d) : (toP dpl).getD p default = pP d := by simp [List.getD, toP_at hd]
theorem dfind43 (eb lb kl mx : Nat) (dpl : List DP) (hwf : WfE kl mx dpl) (ad : Option Addr) (m cap : Nat) (k : List Int) (hkb : BytK k) (hm : k.length = m) (hs : m ≤ 1000000) (w : World)
    (ho : ∀ r ∈ OE eb lb kl mx dpl, r.holds w) (hl : InL w ad 1 cU k) :
    Calls Try.prog 43 #[.pointer (some ⟨eb, 0, none⟩), .slice ad m cap] w fun e w' => e = .returned (.tuple #[.int .i64 (fdH (toP dpl) kl k).1, .bool (fdH (toP dpl) kl k).2]) ∧ Grow w w' := by
  refine enter2 (S := fun _ => False) 20 Try.func43 rfl rfl rfl (Ok.start w) ?_
  have hrx := ho (row eb 93 (hdE lb kl mx dpl.length)) (by simp [OE])
  have hrl := ho (row lb 95 (dvE dpl)) (by simp [OE])
  have hrk := ho (dkR dpl) (by simp [OE])
  have hSx : ¬ (fun _ : Nat => False) eb := id
  have hSl : ¬ (fun _ : Nat => False) lb := id
  have hP1 := hwf.P1
  (repeat (first | ((refine (?_ : MX _ _ _ _ _ _ _ _ _ _ _)); first | refine mx_end ?_ | (refine mx_mv _ rfl rfl (by conv => {lhs; whnf}) ?_) | (refine mx_as _ rfl rfl (by conv => {lhs; whnf}) ?_) ) | refine cw_seq ?_ | refine cw_line rfl ?_ | refine pw_then ?_ ))
  refine g_cf 65 rfl ?_
  refine a_callv rfl rfl rfl rfl Try.func65 rfl rfl rfl _ (fun w' hw => dplace65 eb lb kl mx dpl hwf ad m cap k hkb hm hs w' (hw.orow hrx id) (hw.orow hrl id) ((dkR dpl).loc w w' (fun b hb => hw.keep.old b (by obtain ⟨d, hd, hb⟩ := hb; exact own_lt (hrk d hd) b hb) id) hrk) (hl.keep hw fun _ _ _ h => h)) rfl ?_
  unfold fdH
  cases hf : lookH (toP dpl) kl k with
  | none =>
    rw [oixH_none]
    dsimp only
    (repeat (first | ((refine (?_ : MX _ _ _ _ _ _ _ _ _ _ _)); first | refine mx_end ?_ | (refine mx_mv _ rfl rfl (by conv => {lhs; whnf}) ?_) | (refine mx_as _ rfl rfl (by conv => {lhs; whnf}) ?_) | (refine g_bin rfl ?_; ( (refine mx_cmpl .lss rfl rfl rfl rfl rfl (by exact cmp_lt_t (by omega) ) ?_) ) ) ) | refine cw_seq ?_ | refine cw_line rfl ?_ | refine cw_cond_t rfl ?_ | refine cw_ret ?_ | refine pw_then ?_ | refine pw_then_r ?_ ))
    exact pw_rets rfl [_, _] ⟨rfl, rfl, trivial⟩ rfl fun w hw => ⟨rfl, hw.keep.grow⟩
  | some p =>
    rw [oixH_some]
    dsimp only
    obtain ⟨hp, d, hd, _, _⟩ := lookH_toP hf
    rw [getD_toP hd]
    have hv2 : (dvE dpl)[0 + p * 3 + 2]? = some (.int .i64 d.c) := by rw [Nat.zero_add]; exact dvE_at hd (j := 2) (by omega)
    (repeat (first | ((refine (?_ : MX _ _ _ _ _ _ _ _ _ _ _)); first | refine mx_end ?_ | (refine mx_mv _ rfl rfl (by conv => {lhs; whnf}) ?_) | (refine mx_as _ rfl rfl (by conv => {lhs; whnf}) ?_) | (first | refine mx_fa0 E rfl rfl rfl rfl ?_ | refine mx_fa E rfl rfl rfl rfl ?_) | (refine g_load rfl ?_; refine mx_orow E rfl rfl rfl rfl rfl (by assumption) (by assumption) (by first | assumption | rfl) rfl ?_ ) | (refine g_bin rfl ?_; ( (refine mx_cmpl .lss rfl rfl rfl rfl rfl (by exact cmp_lt_f (by omega) ) ?_) ) ) | (refine g_ix rfl ?_; refine mx_ixsn E rfl rfl rfl rfl rfl rfl (by omega) rfl ?_ ) | (refine mx_nc rfl rfl rfl ?_) ) | refine cw_seq ?_ | refine cw_line rfl ?_ | refine cw_cond_f rfl ?_ | refine cw_skip ?_ | refine cw_ret ?_ | refine pw_then ?_ ))
    exact pw_rets rfl [_, _] ⟨rfl, rfl, trivial⟩ rfl fun w hw => ⟨rfl, hw.keep.grow⟩
theorem dkR_lt {w : World} {dpl : List DP} (h : (dkR dpl).holds w) : ∀ b, (dkR dpl).dom b → b < w.heap.size := fun b hb => by
  obtain ⟨d, hd, hb⟩ := hb
  exact own_lt (h d hd) b hb
theorem ddel44 (eb lb kl mx : Nat) (dpl : List DP) (hwf : WfE kl mx dpl) (ad : Option Addr) (m cap : Nat) (k : List Int) (hkb : BytK k) (hm : k.length = m) (hs : m ≤ 1000000) (w : World)
    (h0 : Ok (domL (OE eb lb kl mx dpl)) w (OE eb lb kl mx dpl) w) (hl : InL w ad 1 cU k) (hne : k ≠ [] → ∀ b off, ad = some ⟨b, off, none⟩ → ¬ domL (OE eb lb kl mx dpl) b) :
    Calls Try.prog 44 #[.pointer (some ⟨eb, 0, none⟩), .slice ad m cap] w fun e w' => ∃ q : {d' : List DP // toP d' = ddelP (toP dpl) kl k ∧ d'.length = dpl.length}, e = .returned (.tuple #[.int .i64 (fdH (toP dpl) kl k).1, .bool (fdH (toP dpl) kl k).2]) ∧ Ok (domL (OE eb lb kl mx dpl)) w (OE eb lb kl mx q.1) w' := by
  refine enter2 (S := domL (OE eb lb kl mx dpl)) (H := [row eb 93 (hdE lb kl mx dpl.length), row lb 95 (dvE dpl), dkR dpl]) 29 Try.func44 rfl rfl rfl h0 ?_
  have hP1 := hwf.P1
  (repeat (first | ((refine (?_ : MX _ _ _ _ _ _ _ _ _ _ _)); first | refine mx_end ?_ | (refine mx_mv _ rfl rfl (by conv => {lhs; whnf}) ?_) | (refine mx_as _ rfl rfl (by conv => {lhs; whnf}) ?_) ) | refine cw_seq ?_ | refine cw_line rfl ?_ | refine pw_then ?_ ))
  refine g_cf 65 rfl ?_
  refine a_callv rfl rfl rfl rfl Try.func65 rfl rfl rfl _ (fun w' hw => dplace65 eb lb kl mx dpl hwf ad m cap k hkb hm hs w' (hw.holds 0 _ rfl) (hw.holds 1 _ rfl) (hw.holds 2 _ rfl) (hl.keep' hw hne)) rfl ?_
  unfold fdH ddelP
  cases hf : lookH (toP dpl) kl k with
  | none =>
    rw [oixH_none]
    dsimp only
    (repeat (first | ((refine (?_ : MX _ _ _ _ _ _ _ _ _ _ _)); first | refine mx_end ?_ | (refine mx_mv _ rfl rfl (by conv => {lhs; whnf}) ?_) | (refine mx_as _ rfl rfl (by conv => {lhs; whnf}) ?_) | (refine g_bin rfl ?_; ( (refine mx_cmpl .lss rfl rfl rfl rfl rfl (by exact cmp_lt_t (by omega) ) ?_) ) ) ) | refine cw_seq ?_ | refine cw_line rfl ?_ | refine cw_cond_t rfl ?_ | refine cw_ret ?_ | refine pw_then ?_ | refine pw_then_r ?_ ))
    exact pw_rets rfl [_, _] ⟨rfl, rfl, trivial⟩ rfl fun w hw => ⟨⟨dpl, rfl, rfl⟩, rfl, hw⟩
  | some p =>
    rw [oixH_some]
    dsimp only
    obtain ⟨hp, d, hd, _, _⟩ := lookH_toP hf
    rw [getD_toP hd]
    have hv2 : (dvE dpl)[0 + p * 3 + 2]? = some (.int .i64 d.c) := by rw [Nat.zero_add]; exact dvE_at hd (j := 2) (by omega)
    have hsp : Sp (dvE dpl) (0 + p * 3) [.int .i64 2, .slice none 0 0, .int .i64 0] (dvE (dpl.set p ⟨2, none, 0, [], 0⟩)) := sp_dv hp ⟨2, none, 0, [], 0⟩
    (repeat (first | ((refine (?_ : MX _ _ _ _ _ _ _ _ _ _ _)); first | refine mx_end ?_ | (refine mx_mv _ rfl rfl (by conv => {lhs; whnf}) ?_) | (refine mx_as _ rfl rfl (by conv => {lhs; whnf}) ?_) | (first | refine mx_fa0 E rfl rfl rfl rfl ?_ | refine mx_fa E rfl rfl rfl rfl ?_) | (refine g_load rfl ?_; refine mx_get E rfl rfl rfl rfl rfl (by first | assumption | rfl) rfl ?_ ) | (refine g_bin rfl ?_; ( (refine mx_cmpl .lss rfl rfl rfl rfl rfl (by exact cmp_lt_f (by omega) ) ?_) ) ) | (refine g_ix rfl ?_; refine mx_ixsn E rfl rfl rfl rfl rfl rfl (by omega) rfl ?_ ) | (refine mx_nc rfl rfl rfl ?_) | (refine g_store rfl ?_; refine s_l E rfl rfl rfl rfl rfl rfl rfl (by assumption ) rfl ?_ ) | (refine g_build rfl ?_; refine mx_build rfl rfl rfl rfl (b95i _) rfl ?_) ) | refine cw_seq ?_ | refine cw_line rfl ?_ | refine cw_cond_f rfl ?_ | refine cw_skip ?_ | refine cw_ret ?_ | refine pw_then ?_ ))
    refine pw_rets rfl [_, _] ⟨rfl, rfl, trivial⟩ rfl fun w1 hw => ⟨⟨dpl.set p ⟨2, none, 0, [], 0⟩, toP_set _ _ _, List.length_set⟩, rfl, ?_⟩
    have hsub : ∀ x ∈ dpl.set p ⟨2, none, 0, [], 0⟩, x ∈ dpl ∨ x = ⟨2, none, 0, [], 0⟩ := fun x hx => List.mem_or_eq_of_mem_set hx
    have h2 := hw.rep 2 rfl (dkR (dpl.set p ⟨2, none, 0, [], 0⟩)) (fun b hb => by
      obtain ⟨x, hx, hb⟩ := hb
      rcases hsub x hx with h | rfl
      · exact ⟨x, h, hb⟩
      · cases hb) (fun x hx => by
      rcases hsub x hx with h | rfl
      · exact hw.holds 2 _ rfl x h
      · exact (Ok.own_nil hw 5 1).holds 0 _ rfl)
    have h3 : Ok (domL (OE eb lb kl mx dpl)) w (OE eb lb kl mx (dpl.set p ⟨2, none, 0, [], 0⟩)) w1 := by
      have e : (dpl.set p (⟨2, none, 0, [], 0⟩ : DP)).length = dpl.length := List.length_set
      show Ok _ _ [row eb 93 (hdE lb kl mx (dpl.set p ⟨2, none, 0, [], 0⟩).length), _, _] w1
      rw [e]
      exact h2
    exact h3
theorem dkeys47 (eb lb kl mx : Nat) (dpl : List DP) (hwf : WfE kl mx dpl) (w : World) (ho : ∀ r ∈ OE eb lb kl mx dpl, r.holds w) :
    Calls Try.prog 47 #[.pointer (some ⟨eb, 0, none⟩)] w fun e w' => ∃ a : (Option Addr × Nat) × {ts : List TX // ts.map (·.k) = keysH (toP dpl)}, e = .returned (.slice a.1.1 a.2.1.length a.1.2) ∧ Ok (domL []) w [ownd a.1.1 a.1.2 22 1 a.2.1.length (a.2.1.flatMap cT), allT a.2.1] w' := by
  refine enter1 (S := domL []) 36 Try.func47 rfl rfl rfl (Ok.start w) ?_
  have hP := hwf.P1
  have hrx := ho (row eb 93 (hdE lb kl mx dpl.length)) (by simp [OE])
  have hrl := ho (row lb 95 (dvE dpl)) (by simp [OE])
  have hrk := ho (dkR dpl) (by simp [OE])
  have hno : ∀ b, ¬ (domL [] : Nat → Prop) b := fun b ⟨j, r, h, _⟩ => by simp at h
  have hSx : ¬ (domL [] : Nat → Prop) eb := hno eb
  have hSl : ¬ (domL [] : Nat → Prop) lb := hno lb
  (repeat (first | ((refine (?_ : MX _ _ _ _ _ _ _ _ _ _ _)); first | refine mx_end ?_ | (refine mx_as _ rfl rfl (by conv => {lhs; whnf}) ?_) ) | refine cw_seq ?_ | refine cw_line rfl ?_ | refine cw_block ?_ | refine pw_then ?_ ))
  refine cw_loop (ι := Nat × List TX × Option Addr × Nat) (fun p => [(4, .int .i64 p.1), (3, .slice p.2.2.1 p.2.1.length p.2.2.2), (0, .pointer (some ⟨eb, 0, none⟩))]) (fun p => [ownd p.2.2.1 p.2.2.2 22 1 p.2.1.length (p.2.1.flatMap cT), allT p.2.1]) (fun p => p.1 ≤ dpl.length ∧ p.2.1.map (·.k) = keysH ((toP dpl).take p.1)) (fun p => dpl.length - p.1) (0, [], none, 0) ⟨Nat.zero_le _, rfl⟩ ⟨rfl, rfl, rfl, trivial⟩ (fun w h => (Ok.star (L := []) (h.own_nil 22 1)).pick [1, 0] (by simp) rfl) ?_
  rintro ⟨i, ts, a1, c1⟩ jk ⟨hi, hts⟩
  dsimp only at hi hts ⊢
  have htl : ts.length ≤ 1000 := by
    have h1 := congrArg List.length hts
    rw [List.length_map, keysH_len] at h1
    have h2 := cntH_le ((toP dpl).take i)
    rw [List.length_take] at h2
    omega
  by_cases h0 : (i : Int) < dpl.length
  case neg =>
    rw [List.take_of_length_le (by rw [toP_len]; omega)] at hts
    (repeat (first | ((refine (?_ : MX _ _ _ _ _ _ _ _ _ _ _)); first | refine mx_end ?_ | (refine mx_mv _ rfl rfl (by conv => {lhs; whnf}) ?_) | (refine mx_as _ rfl rfl (by conv => {lhs; whnf}) ?_) | (refine mx_fa0 E rfl rfl rfl rfl ?_ ) | (refine g_load rfl ?_; refine mx_orow E rfl rfl rfl rfl rfl (by assumption) (by assumption) (by rfl) rfl ?_ ) | (refine g_bin rfl ?_; ( (refine mx_cmpl .lss rfl rfl rfl rfl rfl (by exact cmp_lt_f (by omega) ) ?_) ) ) | (refine mx_nc rfl rfl rfl ?_) | (refine g_bi .len rfl ?_; refine mx_len E rfl rfl rfl rfl ?_) ) | refine cw_seq ?_ | refine cw_line rfl ?_ | refine cw_cond_f rfl ?_ | refine cw_exit ?_ | refine cw_ret ?_ | refine pw_then ?_ | refine pw_then_x ?_ | refine pw_block_e ?_ ))
    exact pw_ret rfl rfl rfl rfl fun w' hw => ⟨((a1, c1), ⟨ts, hts⟩), rfl, hw⟩
  case pos =>
    obtain ⟨d, hd⟩ := getElem_some (xs := dpl) (i := i) (by omega)
    have hv0 : (dvE dpl)[0 + i * 3]? = some (.int .i64 d.s) := by rw [Nat.zero_add]; exact dvE_at hd (j := 0) (by omega)
    have hv1 : (dvE dpl)[0 + i * 3 + 1]? = some (.slice d.ka d.k.length d.kc) := by rw [Nat.zero_add]; exact dvE_at hd (j := 1) (by omega)
    have hkt := keysH_take (toP_at hd)
    have hdk := hwf.ks d (List.mem_of_getElem? hd)
    by_cases h1 : (d.s : Int) = 1
    · rw [if_pos (show (pP d).s = 1 by show d.s = 1; omega)] at hkt
      (repeat (first | ((refine (?_ : MX _ _ _ _ _ _ _ _ _ _ _)); first | refine mx_end ?_ | (refine mx_mv _ rfl rfl (by conv => {lhs; whnf}) ?_) | (first | refine mx_fa0 E rfl rfl rfl rfl ?_ | refine mx_fa E rfl rfl rfl rfl ?_) | (refine g_load rfl ?_; refine mx_orow E rfl rfl rfl rfl rfl (by assumption) (by assumption) (by first | assumption | rfl) rfl ?_ ) | (refine g_bin rfl ?_; (first | (refine mx_cmpl .eql rfl rfl rfl rfl rfl (by exact cmp_eq_t (by omega) ) ?_) | (refine mx_cmpl .lss rfl rfl rfl rfl rfl (by exact cmp_lt_t (by omega) ) ?_) ) ) | (refine g_ix rfl ?_; refine mx_ixsn E rfl rfl rfl rfl rfl rfl (by omega) rfl ?_ ) | (refine mx_nc rfl rfl rfl ?_) | (refine g_bi .len rfl ?_; refine mx_len E rfl rfl rfl rfl ?_) ) | refine cw_seq ?_ | refine cw_line rfl ?_ | refine cw_block ?_ | refine cw_cond_t rfl ?_ | refine cw_skip ?_ | refine pw_then ?_ ))
      refine g_cf 50 rfl ?_
      refine a_calln rfl rfl rfl rfl Try.func50 rfl rfl rfl (fun q : Option Addr × Nat => .slice q.1 d.k.length q.2) (fun q => ownd q.1 q.2 5 1 d.k.length (d.k.flatMap cU)) (fun w' hw => copyB d.ka d.k.length d.kc d.k rfl (by omega) w' ((dkR_in hrk (List.mem_of_getElem? hd)).keep hw fun b _ _ => hno b)) rfl (fun q => ?_)
      obtain ⟨q1, q2⟩ := q
      (repeat (first | ((refine (?_ : MX _ _ _ _ _ _ _ _ _ _ _)); first | refine mx_end ?_ | (refine mx_mv _ rfl rfl (by conv => {lhs; whnf}) ?_) | (refine mx_as _ rfl rfl (by conv => {lhs; whnf}) ?_) | (first | refine mx_fa0 E rfl rfl rfl rfl ?_ | refine mx_fa E rfl rfl rfl rfl ?_) | (refine g_load rfl ?_; first | refine mx_get E rfl rfl rfl rfl rfl (by first | assumption | rfl) rfl ?_ | refine mx_getn E rfl rfl rfl rfl rfl (by first | exact Vr.all rfl | exact ⟨⟨rfl⟩, rfl⟩) rfl ?_ | refine mx_oldn E rfl rfl rfl rfl rfl (by assumption) (by assumption) (rfl) rfl ?_ | refine mx_old1 E rfl rfl rfl rfl rfl (by assumption) (by assumption) rfl ?_ | refine mx_orow E rfl rfl rfl rfl rfl (by assumption) (by assumption) (by first | assumption | rfl) rfl ?_ | refine mx_orown E rfl rfl rfl rfl rfl (by assumption) (by assumption) (by first | exact Vr.all rfl | exact ⟨⟨rfl⟩, rfl⟩) rfl ?_ | refine mx_geta E rfl rfl rfl rfl rfl rfl (by first | assumption | rfl) rfl ?_ | refine mx_getna E rfl rfl rfl rfl rfl rfl (by first | exact Vr.all rfl | exact ⟨⟨rfl⟩, rfl⟩) rfl ?_) | (refine g_bin rfl ?_; first | (first | (refine mx_cmpl .eql rfl rfl rfl rfl rfl (by first | exact cmp_eq_t (by omega) | exact cmp_eq_f (by omega) | rfl) ?_) | (refine mx_cmpl .neq rfl rfl rfl rfl rfl (by first | exact cmp_ne_t (by omega) | exact cmp_ne_f (by omega) | rfl) ?_) | (refine mx_cmpl .lss rfl rfl rfl rfl rfl (by first | exact cmp_lt_t (by omega) | exact cmp_lt_f (by omega) | rfl) ?_) | (refine mx_cmpl .leq rfl rfl rfl rfl rfl (by first | exact cmp_le_t (by omega) | exact cmp_le_f (by omega) | rfl) ?_) | (refine mx_cmpl .gtr rfl rfl rfl rfl rfl (by first | exact cmp_gt_t (by omega) | exact cmp_gt_f (by omega) | rfl) ?_) | (refine mx_cmpl .geq rfl rfl rfl rfl rfl (by first | exact cmp_ge_t (by omega) | exact cmp_ge_f (by omega) | rfl) ?_)) | (first | refine mx_ar rfl rfl rfl rfl rfl rfl ((IntWalk.i64_in _ (by omega)).trans (by with_reducible assumption)) rfl ?_ | refine mx_ar rfl rfl rfl rfl rfl rfl (IntWalk.i64_in _ (by omega)) rfl ?_) | (first | refine mx_eqs rfl rfl rfl rfl rfl rfl ?_ | refine mx_nes rfl rfl rfl rfl rfl rfl ?_ | refine mx_eq rfl rfl rfl rfl rfl rfl ?_ | refine mx_ne rfl rfl rfl rfl rfl rfl ?_) | refine mx_bsame E rfl rfl rfl rfl rfl rfl rfl ?_ | refine mx_bnsame E rfl rfl rfl rfl rfl rfl rfl ?_ | refine mx_beq E rfl rfl rfl rfl rfl rfl rfl ?_ | refine mx_bne E rfl rfl rfl rfl rfl rfl rfl ?_ | refine mx_dv rfl rfl rfl rfl rfl (by decide) (congrArg some (by assumption)) rfl rfl ?_ | refine mx_dv rfl rfl rfl rfl rfl (by decide) rfl rfl rfl ?_ | refine mx_bit rfl rfl rfl rfl rfl (congrArg some (by assumption)) rfl rfl ?_ | refine mx_bit rfl rfl rfl rfl rfl rfl rfl rfl ?_ | refine mx_sh rfl rfl rfl rfl rfl (by omega) (congrArg some (by assumption)) rfl rfl ?_ | refine mx_sh rfl rfl rfl rfl rfl (by omega) rfl rfl rfl ?_) | (refine g_ix rfl ?_; first | refine mx_ixan E rfl rfl rfl rfl rfl rfl (by omega) rfl ?_ | refine mx_ixsn E rfl rfl rfl rfl rfl rfl (by omega) rfl ?_ | refine mx_ixsi E rfl rfl rfl rfl rfl rfl (by omega) (by omega) rfl ?_ | refine mx_ixa E rfl rfl rfl rfl rfl rfl (by omega) (by omega) rfl rfl ?_) | (refine mx_nc rfl rfl rfl ?_) | (refine g_bi .len rfl ?_; refine mx_len E rfl rfl rfl rfl ?_) | (refine mx_not rfl rfl rfl ?_) | (refine mx_ex _ rfl rfl rfl (by conv => {lhs; whnf}) ?_) | (refine mx_skip rfl rfl rfl ?_) | (refine g_pick rfl ?_; first | refine mx_andf rfl rfl rfl rfl rfl ?_ | refine mx_ort rfl rfl rfl rfl rfl ?_ | refine mx_and rfl rfl rfl rfl rfl rfl ?_ | refine mx_or rfl rfl rfl rfl rfl rfl ?_ | refine mx_pickt _ rfl rfl rfl rfl (by conv => {lhs; whnf}) rfl ?_ | refine mx_pickf _ rfl rfl rfl rfl (by conv => {lhs; whnf}) rfl ?_) | (refine g_store rfl ?_; first | refine s_l E rfl rfl rfl rfl rfl rfl rfl (by first | assumption | exact Sp.all rfl | exact Sp.lit rfl rfl) rfl ?_ | refine s_1 E rfl rfl rfl rfl rfl rfl rfl rfl (by first | assumption | exact sp0 | exact spS sp0 | exact spS (spS sp0) | exact Sp.lit rfl rfl) rfl ?_) | (refine g_build rfl ?_; first | refine mx_build rfl rfl rfl rfl (b93 _ _) rfl ?_ | refine mx_build rfl rfl rfl rfl (b95i _) rfl ?_) | (refine a_new rfl rfl rfl rfl rfl (fun _ => ?_)) | (refine g_box rfl ?_; first | refine a_boxl rfl rfl rfl rfl rfl rfl (fun _ => ?_) | refine a_box1 rfl rfl rfl rfl rfl rfl rfl (fun _ => ?_)) | (first | refine mx_indexn E rfl rfl rfl rfl rfl rfl rfl rfl (by omega) (by first | exact vr_RR _ (by omega)) rfl ?_ | refine mx_index E rfl rfl rfl rfl rfl rfl rfl rfl (by omega) (by omega) (by first | exact vr_RR _ (by omega)) rfl ?_) | (refine g_bs rfl ?_; first | refine a_bs0 E rfl rfl rfl rfl rfl rfl (fun _ => ?_) | refine a_bsi E rfl rfl rfl rfl rfl (by (repeat (first | exact EvI.nil | (apply EvI.cons; rfl)))) (by rfl) (by rfl) (by rfl) rfl (fun _ => ?_)) | (refine g_conv rfl ?_; first | refine mx_cv E rfl rfl rfl rfl rfl rfl (by assumption) rfl ?_ | refine mx_cv E rfl rfl rfl rfl rfl rfl (IntWalk.i64_in _ (by omega)) rfl ?_ | refine mx_cv E rfl rfl rfl rfl rfl rfl (IntWalk.u64_in _ (by omega)) rfl ?_ | refine mx_cv E rfl rfl rfl rfl rfl rfl (IntWalk.u8_in _ (by omega)) rfl ?_ | refine mx_cv E rfl rfl rfl rfl rfl rfl rfl rfl ?_) | (first | (refine g_bi .max rfl ?_; refine mx_maxi rfl rfl rfl rfl rfl rfl rfl ?_) | (refine g_bi .min rfl ?_; refine mx_mini rfl rfl rfl rfl rfl rfl rfl ?_)) | (fail) | (fail)) | refine cw_seq ?_ | refine cw_line rfl ?_ | (fail) | refine cw_block ?_ | refine cw_cond_f rfl ?_ | refine cw_cond_t rfl ?_ | refine cw_skip ?_ | refine cw_exit ?_ | refine cw_ret ?_ | refine pw_then ?_ | refine pw_then_x ?_ | refine pw_then_r ?_ | refine pw_block ?_ | refine pw_block_e ?_ | refine pw_block_n rfl ?_ | refine pw_block_r ?_))
      refine g_bs rfl ?_
      refine a_bslice1 E rfl rfl rfl rfl (us := [.slice q1 d.k.length q2]) rfl rfl rfl rfl rfl rfl (fun b6 => ?_)
      refine g_bi .append rfl ?_
      refine a_app E rfl rfl rfl rfl rfl rfl rfl rfl [.slice q1 d.k.length q2] rfl (fun w hw => fun _ => ⟨b6, 0, rfl, fun j u hj => by rw [add_at, Nat.zero_add]; exact row_cell (hw.holds 0 _ rfl) hj⟩) rfl (by omega) rfl (fun _ _ _ _ => trivial) (fun a3 c3 => ?_)
      have e1 : ts.flatMap cT ++ [.slice q1 d.k.length q2] = (ts ++ [(⟨q1, q2, d.k⟩ : TX)]).flatMap cT := by rw [List.flatMap_append]; rfl
      have e2 : ts.length + 1 = (ts ++ [(⟨q1, q2, d.k⟩ : TX)]).length := by simp
      rw [e1, e2]
      (repeat (first | ((refine (?_ : MX _ _ _ _ _ _ _ _ _ _ _)); first | refine mx_end ?_ | (refine mx_mv _ rfl rfl (by conv => {lhs; whnf}) ?_) | (refine mx_as _ rfl rfl (by conv => {lhs; whnf}) ?_) | (refine g_bin rfl ?_; ( refine mx_ar rfl rfl rfl rfl rfl rfl (IntWalk.i64_in _ (by omega)) rfl ?_) ) ) | refine cw_line rfl ?_ | refine pw_then ?_ | refine pw_block ?_ ))
      refine pw_round (i + 1, ts ++ [(⟨q1, q2, d.k⟩ : TX)], a3, c3) ⟨by show i + 1 ≤ dpl.length; omega, ?_⟩ (by show dpl.length - (i + 1) < dpl.length - i; omega) ⟨rfl, rfl, rfl, trivial⟩ (fun w h => ?_)
      · show (ts ++ [(⟨q1, q2, d.k⟩ : TX)]).map (·.k) = keysH ((toP dpl).take (i + 1))
        rw [hkt, List.map_append, hts]
        rfl
      · exact (allT_snoc (r := ⟨q1, q2, d.k⟩) (h.pick (H' := [RT ⟨q1, q2, d.k⟩, allT ts, ownd a3 c3 22 1 (ts ++ [(⟨q1, q2, d.k⟩ : TX)]).length ((ts ++ [(⟨q1, q2, d.k⟩ : TX)]).flatMap cT)]) [1, 3, 2] (by simp) rfl)).pick [1, 0] (by simp) rfl
    · rw [if_neg (show ¬ (pP d).s = 1 by show ¬ d.s = 1; omega), List.append_nil] at hkt
      (repeat (first | ((refine (?_ : MX _ _ _ _ _ _ _ _ _ _ _)); first | refine mx_end ?_ | (refine mx_mv _ rfl rfl (by conv => {lhs; whnf}) ?_) | (refine mx_as _ rfl rfl (by conv => {lhs; whnf}) ?_) | (refine mx_fa0 E rfl rfl rfl rfl ?_ ) | (refine g_load rfl ?_; refine mx_orow E rfl rfl rfl rfl rfl (by assumption) (by assumption) (by first | assumption | rfl) rfl ?_ ) | (refine g_bin rfl ?_; first | (first | (refine mx_cmpl .eql rfl rfl rfl rfl rfl (by exact cmp_eq_f (by omega) ) ?_) | (refine mx_cmpl .lss rfl rfl rfl rfl rfl (by exact cmp_lt_t (by omega) ) ?_) ) | ( refine mx_ar rfl rfl rfl rfl rfl rfl (IntWalk.i64_in _ (by omega)) rfl ?_) ) | (refine g_ix rfl ?_; refine mx_ixsn E rfl rfl rfl rfl rfl rfl (by omega) rfl ?_ ) | (refine mx_nc rfl rfl rfl ?_) | (refine g_bi .len rfl ?_; refine mx_len E rfl rfl rfl rfl ?_) ) | refine cw_seq ?_ | refine cw_line rfl ?_ | refine cw_block ?_ | refine cw_cond_f rfl ?_ | refine cw_cond_t rfl ?_ | refine cw_skip ?_ | refine pw_then ?_ | refine pw_block ?_ ))
      exact pw_round (i + 1, ts, a1, c1) ⟨by show i + 1 ≤ dpl.length; omega, by show ts.map (·.k) = keysH ((toP dpl).take (i + 1)); rw [hkt]; exact hts⟩ (by show dpl.length - (i + 1) < dpl.length - i; omega) ⟨rfl, rfl, rfl, trivial⟩ (fun w h => h)
theorem dlen46 (eb lb kl mx : Nat) (dpl : List DP) (hwf : WfE kl mx dpl) (w : World) (ho : ∀ r ∈ OE eb lb kl mx dpl, r.holds w) :
    Calls Try.prog 46 #[.pointer (some ⟨eb, 0, none⟩)] w fun e w' => e = .returned (.int .i64 (cntH (toP dpl) : Nat)) ∧ Grow w w' := by
  refine enter1 (S := domL []) 6 Try.func46 rfl rfl rfl (Ok.start w) ?_
  have hno : ∀ b, ¬ (domL [] : Nat → Prop) b := fun b ⟨j, r, h, _⟩ => by simp at h
  have hrx := ho (row eb 93 (hdE lb kl mx dpl.length)) (by simp [OE])
  have hrl := ho (row lb 95 (dvE dpl)) (by simp [OE])
  have hrk := ho (dkR dpl) (by simp [OE])
  (repeat (first | ((refine (?_ : MX _ _ _ _ _ _ _ _ _ _ _)); first | refine mx_end ?_ | (refine mx_mv _ rfl rfl (by conv => {lhs; whnf}) ?_) | (refine mx_as _ rfl rfl (by conv => {lhs; whnf}) ?_) ) | refine cw_seq ?_ | refine cw_line rfl ?_ | refine pw_then ?_ ))
  refine g_cf 47 rfl ?_
  refine a_callL rfl rfl rfl rfl Try.func47 rfl rfl rfl [] _ rfl (fun a : (Option Addr × Nat) × {ts : List TX // ts.map (·.k) = keysH (toP dpl)} => .slice a.1.1 a.2.1.length a.1.2) (fun a => [ownd a.1.1 a.1.2 22 1 a.2.1.length (a.2.1.flatMap cT), allT a.2.1]) (fun w' hw _ => dkeys47 eb lb kl mx dpl hwf w' (fun r hr => by
    simp only [OE, List.mem_cons, List.not_mem_nil, or_false] at hr
    rcases hr with rfl | rfl | rfl
    · exact hw.orow hrx (hno eb)
    · exact hw.orow hrl (hno lb)
    · exact (dkR dpl).loc w w' (fun b hb => hw.keep.old b (dkR_lt hrk b hb) (hno b)) hrk)) (fun _ => rfl) (fun _ _ _ => trivial) (fun a => ?_)
  obtain ⟨⟨a1, c1⟩, ⟨ts, hts⟩⟩ := a
  have e : ts.length = cntH (toP dpl) := by
    have h1 := congrArg List.length hts
    rwa [List.length_map, keysH_len] at h1
  dsimp only
  rw [e]
  (repeat (first | ((refine (?_ : MX _ _ _ _ _ _ _ _ _ _ _)); first | refine mx_end ?_ | (refine mx_as _ rfl rfl (by conv => {lhs; whnf}) ?_) | (refine g_bi .len rfl ?_; refine mx_len E rfl rfl rfl rfl ?_) ) | refine cw_ret ?_ | refine pw_then ?_ ))
  exact pw_ret rfl rfl rfl rfl fun w' hw => ⟨rfl, (hw.wide (S' := fun _ => False) fun b hb => hno b hb).keep.grow⟩
end Go.Proofs.Ytminmbkhlnaabaa
