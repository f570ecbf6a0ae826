/- The document's map of which the key goes that was used longest ago: its keys, told; keys told, written over. -/
import Derived.Test.YtminmbkhlnaabaaDm
set_option maxRecDepth 100000
set_option maxHeartbeats 8000000
set_option linter.unusedSimpArgs false
set_option linter.unusedVariables false
namespace Go.Proofs.Ytminmbkhlnaabaa
open Go Go.Sx Go.RowKit
def lev (rows : List DR) (v : Nat) : List (List Int) := (rows.filter fun r => decide (r.u = v)).map (·.k)
def downTo (uses v : Nat) : List Nat := (List.range (uses - v)).map fun j => uses - j
theorem downTo_s {uses v : Nat} (h : v < uses) : downTo uses v = downTo uses (v + 1) ++ [v + 1] := by
  unfold downTo
  rw [show uses - v = (uses - (v + 1)) + 1 by omega, List.range_succ, List.map_append]
  simp
  omega
def keysTo (rows : List DR) (uses v : Nat) : List (List Int) := (downTo uses v).flatMap (lev rows)
def RT (t : TX) : Res := ownd t.ad t.cap 5 1 t.k.length (t.k.flatMap cU)
def allT (ts : List TX) : Res := star (ts.map RT)
theorem allT_snoc {S : Nat → Prop} {w0 w : World} {H : List Res} {rs : List TX} {r : TX} (h : Ok S w0 (RT r :: allT rs :: H) w) : Ok S w0 (allT (rs ++ [r]) :: H) w := by
  have h1 : Ok S w0 (allT rs :: ([RT r] ++ H)) w := h.perm (List.Perm.swap _ _ _)
  have h2 := Ok.unstar h1
  rw [← List.append_assoc] at h2
  have h3 := Ok.star h2
  unfold allT
  rw [List.map_append]
  exact h3
theorem inT {ts : List TX} {w : World} (h : (allT ts).holds w) {t : TX} (ht : t ∈ ts) : InL w t.ad 1 cU t.k := own_in len_U (star_holds h (List.mem_map.2 ⟨t, ht, rfl⟩)) (Nat.le_refl _)
section
variable (mx : Nat) (key most : Int) (uses : Nat) (la : Option Addr) (lc : Nat) (rows : List DR)
theorem dkeys26 (hs : rows.length ≤ 1000) (hu : uses ≤ 1000) (hk : ∀ r ∈ rows, r.k.length ≤ 100000) (w : World) (h1 : (row mx 81 (hdD key most uses la rows.length lc)).holds w) (h2 : InL w la 3 cDR rows) (h3 : ∀ r ∈ rows, InL w r.ka 1 cU r.k) :
    Calls Try.prog 26 #[.pointer (some ⟨mx, 0, none⟩)] w fun e w' => ∃ a : (Option Addr × Nat) × {ts : List TX // ts.map (·.k) = keysTo rows uses 0 ∧ ts.length ≤ 1000000}, e = .returned (.slice a.1.1 a.2.1.length a.1.2) ∧ Ok (domL []) w [ownd a.1.1 a.1.2 22 1 a.2.1.length (a.2.1.flatMap cT), allT a.2.1] w' := by
  refine enter1 (S := domL []) 46 Try.func26 rfl rfl rfl (Ok.start w) ?_
  have hS0 : ¬ (domL [] : Nat → Prop) mx := no_domD mx
  (repeat (first | ((refine (?_ : MX _ _ _ _ _ _ _ _ _ _ _)); first | refine mx_end ?_ | (refine mx_mv _ rfl rfl (by conv => {lhs; whnf}) ?_) | (refine mx_as _ rfl rfl (by conv => {lhs; whnf}) ?_) | ( refine mx_fa E rfl rfl rfl rfl ?_) | (refine g_load rfl ?_; refine mx_orow E rfl rfl rfl rfl rfl (by assumption) (by assumption) (by rfl) rfl ?_ ) | (refine mx_nc rfl rfl rfl ?_) ) | refine cw_seq ?_ | refine cw_line rfl ?_ | refine cw_block ?_ | refine pw_then ?_ ))
  refine cw_loop (ι := Nat × List TX × Option Addr × Nat) (fun p => [(4, .int .i64 p.1), (3, .slice p.2.2.1 p.2.1.length p.2.2.2), (0, .pointer (some ⟨mx, 0, none⟩))]) (fun p => [ownd p.2.2.1 p.2.2.2 22 1 p.2.1.length (p.2.1.flatMap cT), allT p.2.1]) (fun p => p.1 ≤ uses ∧ p.2.1.map (·.k) = keysTo rows uses p.1 ∧ p.2.1.length ≤ (uses - p.1) * 1000) (fun p => p.1) (uses, [], none, 0) ⟨Nat.le_refl _, by show [] = keysTo rows uses uses; simp [keysTo, downTo], Nat.zero_le _⟩ ⟨rfl, rfl, rfl, trivial⟩ (fun w h => (Ok.star (L := []) (h.own_nil 22 1)).pick [1, 0] (by simp) rfl) ?_
  rintro ⟨u, ts, a1, c1⟩ jk ⟨hul, hts, htl⟩
  dsimp only at hul hts htl ⊢
  by_cases hu0 : (u : Int) > 0
  case neg =>
    obtain rfl : u = 0 := by omega
    (repeat (first | ((refine (?_ : MX _ _ _ _ _ _ _ _ _ _ _)); first | refine mx_end ?_ | (refine mx_mv _ rfl rfl (by conv => {lhs; whnf}) ?_) | (refine mx_as _ rfl rfl (by conv => {lhs; whnf}) ?_) | (refine g_bin rfl ?_; ( (refine mx_cmpl .gtr rfl rfl rfl rfl rfl (by exact cmp_gt_f (by omega) ) ?_) ) ) ) | refine cw_seq ?_ | refine cw_line rfl ?_ | refine cw_cond_f rfl ?_ | refine cw_exit ?_ | refine cw_ret ?_ | refine pw_then ?_ | refine pw_then_x ?_ | refine pw_block_e ?_ ))
    exact pw_ret rfl rfl rfl rfl fun w' hw => ⟨((a1, c1), ⟨ts, hts, by omega⟩), rfl, hw⟩
  case pos =>
    obtain ⟨v, rfl⟩ : ∃ v, u = v + 1 := ⟨u - 1, by omega⟩
    have hv1 : ((v + 1 : Nat) : Int) - 1 = (v : Int) := by omega
    (repeat (first | ((refine (?_ : MX _ _ _ _ _ _ _ _ _ _ _)); first | refine mx_end ?_ | (refine mx_mv _ rfl rfl (by conv => {lhs; whnf}) ?_) | (refine mx_as _ rfl rfl (by conv => {lhs; whnf}) ?_) | (refine g_bin rfl ?_; ( (refine mx_cmpl .gtr rfl rfl rfl rfl rfl (by exact cmp_gt_t (by omega) ) ?_) ) ) ) | refine cw_seq ?_ | refine cw_line rfl ?_ | refine cw_block ?_ | refine cw_cond_t rfl ?_ | refine cw_skip ?_ | refine pw_then ?_ ))
    refine cw_loop (ι := Nat × List TX × Option Addr × Nat) (fun p => [(5, .int .i64 p.1), (4, .int .i64 ((v + 1 : Nat) : Int)), (3, .slice p.2.2.1 p.2.1.length p.2.2.2), (0, .pointer (some ⟨mx, 0, none⟩))]) (fun p => [ownd p.2.2.1 p.2.2.2 22 1 p.2.1.length (p.2.1.flatMap cT), allT p.2.1]) (fun p => p.1 ≤ rows.length ∧ p.2.1.map (·.k) = keysTo rows uses (v + 1) ++ lev (rows.take p.1) (v + 1) ∧ p.2.1.length ≤ (uses - (v + 1)) * 1000 + p.1) (fun p => rows.length - p.1) (0, ts, a1, c1) ⟨Nat.zero_le _, by show ts.map (·.k) = _; rw [hts]; simp [lev], htl⟩ ⟨rfl, rfl, rfl, rfl, trivial⟩ (fun w h => h) ?_
    rintro ⟨i, us, a2, c2⟩ jk2 ⟨hi, hus, husl⟩
    dsimp only at hi hus husl ⊢
    by_cases h0 : (i : Int) < rows.length
    case neg =>
      rw [List.take_of_length_le (by omega)] at hus
      (repeat (first | ((refine (?_ : MX _ _ _ _ _ _ _ _ _ _ _)); first | refine mx_end ?_ | (refine mx_mv _ rfl rfl (by conv => {lhs; whnf}) ?_) | (refine mx_as _ rfl rfl (by conv => {lhs; whnf}) ?_) | ( refine mx_fa E rfl rfl rfl rfl ?_) | (refine g_load rfl ?_; refine mx_orow E rfl rfl rfl rfl rfl (by assumption) (by assumption) (by rfl) rfl ?_ ) | (refine g_bin rfl ?_; first | ( (refine mx_cmpl .lss rfl rfl rfl rfl rfl (by first | exact cmp_lt_t (by omega) | exact cmp_lt_f (by omega) ) ?_) ) | (refine mx_ar rfl rfl rfl rfl rfl rfl ((IntWalk.i64_in _ (by omega)).trans (by with_reducible assumption)) rfl ?_ ) ) | (refine mx_nc rfl rfl rfl ?_) | (refine g_bi .len rfl ?_; refine mx_len E rfl rfl rfl rfl ?_) ) | refine cw_seq ?_ | refine cw_line rfl ?_ | refine cw_cond_f rfl ?_ | refine cw_exit ?_ | refine pw_then ?_ | refine pw_then_x ?_ | refine pw_block ?_ | refine pw_block_e ?_ ))
      refine pw_round (v, us, a2, c2) ⟨by show v ≤ uses; omega, ?_, by show us.length ≤ (uses - v) * 1000; omega⟩ (by show v < v + 1; omega) ⟨rfl, rfl, rfl, trivial⟩ (fun w h => h)
      show us.map (·.k) = keysTo rows uses v
      rw [hus]
      unfold keysTo
      rw [downTo_s (by omega : v < uses), List.flatMap_append]
      simp
    case pos =>
      obtain ⟨r, hx⟩ := getElem_some (xs := rows) (i := i) (by omega)
      obtain ⟨b4, off, e, hcc⟩ := inl_at h2 hx
      subst e
      have hS : ¬ (domL [] : Nat → Prop) b4 := no_domD b4
      have hc0 : w.cell? ⟨b4, off + i * 3, none⟩ = some (.slice r.ka r.k.length r.kc) := hcc 0 _ rfl
      have hc2 : w.cell? ⟨b4, off + i * 3 + 2, none⟩ = some (.int .i64 r.u) := hcc 2 _ rfl
      have hrk := hk r (List.mem_of_getElem? hx)
      have hlv : lev (rows.take (i + 1)) (v + 1) = lev (rows.take i) (v + 1) ++ if r.u = v + 1 then [r.k] else [] := by
        unfold lev
        rw [List.take_add_one, hx, List.filter_append, List.map_append]
        congr 1
        by_cases h : r.u = v + 1 <;> simp [h]
      by_cases hru : (r.u : Int) = ((v + 1 : Nat) : Int)
      · rw [if_pos (by omega)] at hlv
        (repeat (first | ((refine (?_ : MX _ _ _ _ _ _ _ _ _ _ _)); first | refine mx_end ?_ | (refine mx_mv _ rfl rfl (by conv => {lhs; whnf}) ?_) | (first | refine mx_fa0 E rfl rfl rfl rfl ?_ | refine mx_fa E rfl rfl rfl rfl ?_) | (refine g_load rfl ?_; first | refine mx_old1 E rfl rfl rfl rfl rfl (by assumption) (by assumption) rfl ?_ | refine mx_orow E rfl rfl rfl rfl rfl (by assumption) (by assumption) (by rfl) rfl ?_ ) | (refine g_bin rfl ?_; (first | (refine mx_cmpl .eql rfl rfl rfl rfl rfl (by exact cmp_eq_t (by omega) ) ?_) | (refine mx_cmpl .lss rfl rfl rfl rfl rfl (by exact cmp_lt_t (by omega) ) ?_) ) ) | (refine g_ix rfl ?_; refine mx_ixsn E rfl rfl rfl rfl rfl rfl (by omega) rfl ?_ ) | (refine mx_nc rfl rfl rfl ?_) | (refine g_bi .len rfl ?_; refine mx_len E rfl rfl rfl rfl ?_) ) | refine cw_seq ?_ | refine cw_line rfl ?_ | refine cw_block ?_ | refine cw_cond_t rfl ?_ | refine cw_skip ?_ | refine pw_then ?_ ))
        refine g_cf 50 rfl ?_
        refine a_calln rfl rfl rfl rfl Try.func50 rfl rfl rfl (fun q : Option Addr × Nat => .slice q.1 r.k.length q.2) (fun q => ownd q.1 q.2 5 1 r.k.length (r.k.flatMap cU)) (fun w' hw => copyB r.ka r.k.length r.kc r.k rfl (by omega) w' ((h3 r (List.mem_of_getElem? hx)).keep' hw fun _ _ _ _ => no_domD _)) rfl (fun q => ?_)
        obtain ⟨q1, q2⟩ := q
        (repeat (first | ((refine (?_ : MX _ _ _ _ _ _ _ _ _ _ _)); first | refine mx_end ?_ | (refine mx_mv _ rfl rfl (by conv => {lhs; whnf}) ?_) | (refine mx_as _ rfl rfl (by conv => {lhs; whnf}) ?_) | (first | refine mx_fa0 E rfl rfl rfl rfl ?_ | refine mx_fa E rfl rfl rfl rfl ?_) | (refine g_load rfl ?_; first | refine mx_get E rfl rfl rfl rfl rfl (by first | assumption | rfl) rfl ?_ | refine mx_getn E rfl rfl rfl rfl rfl (by first | exact Vr.all rfl | exact ⟨⟨rfl⟩, rfl⟩) rfl ?_ | refine mx_oldn E rfl rfl rfl rfl rfl (by assumption) (by assumption) (rfl) rfl ?_ | refine mx_old1 E rfl rfl rfl rfl rfl (by assumption) (by assumption) rfl ?_ | refine mx_orow E rfl rfl rfl rfl rfl (by assumption) (by assumption) (by first | assumption | rfl) rfl ?_ | refine mx_orown E rfl rfl rfl rfl rfl (by assumption) (by assumption) (by first | exact Vr.all rfl | exact ⟨⟨rfl⟩, rfl⟩) rfl ?_ | refine mx_geta E rfl rfl rfl rfl rfl rfl (by first | assumption | rfl) rfl ?_ | refine mx_getna E rfl rfl rfl rfl rfl rfl (by first | exact Vr.all rfl | exact ⟨⟨rfl⟩, rfl⟩) rfl ?_) | (refine g_bin rfl ?_; first | (first | (refine mx_cmpl .eql rfl rfl rfl rfl rfl (by first | exact cmp_eq_t (by omega) | exact cmp_eq_f (by omega) | rfl) ?_) | (refine mx_cmpl .neq rfl rfl rfl rfl rfl (by first | exact cmp_ne_t (by omega) | exact cmp_ne_f (by omega) | rfl) ?_) | (refine mx_cmpl .lss rfl rfl rfl rfl rfl (by first | exact cmp_lt_t (by omega) | exact cmp_lt_f (by omega) | rfl) ?_) | (refine mx_cmpl .leq rfl rfl rfl rfl rfl (by first | exact cmp_le_t (by omega) | exact cmp_le_f (by omega) | rfl) ?_) | (refine mx_cmpl .gtr rfl rfl rfl rfl rfl (by first | exact cmp_gt_t (by omega) | exact cmp_gt_f (by omega) | rfl) ?_) | (refine mx_cmpl .geq rfl rfl rfl rfl rfl (by first | exact cmp_ge_t (by omega) | exact cmp_ge_f (by omega) | rfl) ?_)) | (first | refine mx_ar rfl rfl rfl rfl rfl rfl ((IntWalk.i64_in _ (by omega)).trans (by with_reducible assumption)) rfl ?_ | refine mx_ar rfl rfl rfl rfl rfl rfl (IntWalk.i64_in _ (by omega)) rfl ?_) | (first | refine mx_eqs rfl rfl rfl rfl rfl rfl ?_ | refine mx_nes rfl rfl rfl rfl rfl rfl ?_ | refine mx_eq rfl rfl rfl rfl rfl rfl ?_ | refine mx_ne rfl rfl rfl rfl rfl rfl ?_) | refine mx_bsame E rfl rfl rfl rfl rfl rfl rfl ?_ | refine mx_bnsame E rfl rfl rfl rfl rfl rfl rfl ?_ | refine mx_beq E rfl rfl rfl rfl rfl rfl rfl ?_ | refine mx_bne E rfl rfl rfl rfl rfl rfl rfl ?_ | refine mx_dv rfl rfl rfl rfl rfl (by decide) (congrArg some (by assumption)) rfl rfl ?_ | refine mx_dv rfl rfl rfl rfl rfl (by decide) rfl rfl rfl ?_ | refine mx_bit rfl rfl rfl rfl rfl (congrArg some (by assumption)) rfl rfl ?_ | refine mx_bit rfl rfl rfl rfl rfl rfl rfl rfl ?_ | refine mx_sh rfl rfl rfl rfl rfl (by omega) (congrArg some (by assumption)) rfl rfl ?_ | refine mx_sh rfl rfl rfl rfl rfl (by omega) rfl rfl rfl ?_) | (refine g_ix rfl ?_; first | refine mx_ixan E rfl rfl rfl rfl rfl rfl (by omega) rfl ?_ | refine mx_ixsn E rfl rfl rfl rfl rfl rfl (by omega) rfl ?_ | refine mx_ixsi E rfl rfl rfl rfl rfl rfl (by omega) (by omega) rfl ?_ | refine mx_ixa E rfl rfl rfl rfl rfl rfl (by omega) (by omega) rfl rfl ?_) | (refine mx_nc rfl rfl rfl ?_) | (refine g_bi .len rfl ?_; refine mx_len E rfl rfl rfl rfl ?_) | (refine mx_not rfl rfl rfl ?_) | (refine mx_ex _ rfl rfl rfl (by conv => {lhs; whnf}) ?_) | (refine mx_skip rfl rfl rfl ?_) | (refine g_pick rfl ?_; first | refine mx_andf rfl rfl rfl rfl rfl ?_ | refine mx_ort rfl rfl rfl rfl rfl ?_ | refine mx_and rfl rfl rfl rfl rfl rfl ?_ | refine mx_or rfl rfl rfl rfl rfl rfl ?_ | refine mx_pickt _ rfl rfl rfl rfl (by conv => {lhs; whnf}) rfl ?_ | refine mx_pickf _ rfl rfl rfl rfl (by conv => {lhs; whnf}) rfl ?_) | (refine g_store rfl ?_; first | refine s_l E rfl rfl rfl rfl rfl rfl rfl (by first | exact Sp.all rfl | exact Sp.lit rfl rfl) rfl ?_ | refine s_1 E rfl rfl rfl rfl rfl rfl rfl rfl (by first | exact sp0 | exact spS sp0 | exact Sp.lit rfl rfl) rfl ?_) | (refine g_build rfl ?_; first | refine mx_build rfl rfl rfl rfl b24_0 rfl ?_ | refine mx_build rfl rfl rfl rfl (b28_1 _) rfl ?_ | refine mx_build rfl rfl rfl rfl (b39_2 _ _) rfl ?_ | refine mx_build rfl rfl rfl rfl (b24_1 _) rfl ?_ | refine mx_build rfl rfl rfl rfl (b24_2 _ _) rfl ?_ | refine mx_build rfl rfl rfl rfl b28_0 rfl ?_ | refine mx_build rfl rfl rfl rfl b29_0 rfl ?_ | refine mx_build rfl rfl rfl rfl (b25_1 _ _) rfl ?_ | refine mx_build rfl rfl rfl rfl (b31_1 _ _) rfl ?_ | refine mx_build rfl rfl rfl rfl (b31_2 _ _ _) rfl ?_) | (refine a_new rfl rfl rfl rfl rfl (fun _ => ?_)) | (refine g_box rfl ?_; first | refine a_boxl rfl rfl rfl rfl rfl rfl (fun _ => ?_) | refine a_box1 rfl rfl rfl rfl rfl rfl rfl (fun _ => ?_)) | (first | refine mx_indexn E rfl rfl rfl rfl rfl rfl rfl rfl (by omega) (by first | exact vr_RR _ (by omega)) rfl ?_ | refine mx_index E rfl rfl rfl rfl rfl rfl rfl rfl (by omega) (by omega) (by first | exact vr_RR _ (by omega)) rfl ?_) | (refine g_bs rfl ?_; first | refine a_bs0 E rfl rfl rfl rfl rfl rfl (fun _ => ?_) | refine a_bsi E rfl rfl rfl rfl rfl (by (repeat (first | exact EvI.nil | (apply EvI.cons; rfl)))) (by rfl) (by rfl) (by rfl) rfl (fun _ => ?_)) | (refine g_conv rfl ?_; first | refine mx_cv E rfl rfl rfl rfl rfl rfl (by assumption) rfl ?_ | refine mx_cv E rfl rfl rfl rfl rfl rfl (IntWalk.i64_in _ (by omega)) rfl ?_ | refine mx_cv E rfl rfl rfl rfl rfl rfl (IntWalk.u64_in _ (by omega)) rfl ?_ | refine mx_cv E rfl rfl rfl rfl rfl rfl (IntWalk.u8_in _ (by omega)) rfl ?_ | refine mx_cv E rfl rfl rfl rfl rfl rfl rfl rfl ?_) | (first | (refine g_bi .max rfl ?_; refine mx_maxi rfl rfl rfl rfl rfl rfl rfl ?_) | (refine g_bi .min rfl ?_; refine mx_mini rfl rfl rfl rfl rfl rfl rfl ?_)) | (refine mx_fld rfl rfl rfl rfl (by kernel_rfl) rfl rfl ?_) | (fail)) | refine cw_seq ?_ | refine cw_line rfl ?_ | (fail) | refine cw_block ?_ | refine cw_cond_f rfl ?_ | refine cw_cond_t rfl ?_ | refine cw_skip ?_ | refine cw_exit ?_ | refine cw_ret ?_ | refine pw_then ?_ | refine pw_then_x ?_ | refine pw_then_r ?_ | refine pw_block ?_ | refine pw_block_e ?_ | refine pw_block_n rfl ?_ | refine pw_block_r ?_))
        refine g_bs rfl ?_
        refine a_bslice1 E rfl rfl rfl rfl (us := [.slice q1 r.k.length q2]) rfl rfl rfl rfl rfl rfl (fun b6 => ?_)
        refine g_bi .append rfl ?_
        refine a_app E rfl rfl rfl rfl rfl rfl rfl rfl [.slice q1 r.k.length q2] rfl (fun w hw => fun _ => ⟨b6, 0, rfl, fun j u hj => by rw [add_at, Nat.zero_add]; exact row_cell (hw.holds 0 _ rfl) hj⟩) rfl (by omega) rfl (fun _ _ _ _ => trivial) (fun a3 c3 => ?_)
        have e1 : us.flatMap cT ++ [.slice q1 r.k.length q2] = (us ++ [(⟨q1, q2, r.k⟩ : TX)]).flatMap cT := by rw [List.flatMap_append]; rfl
        have e2 : us.length + 1 = (us ++ [(⟨q1, q2, r.k⟩ : TX)]).length := by simp
        rw [e1, e2]
        (repeat (first | ((refine (?_ : MX _ _ _ _ _ _ _ _ _ _ _)); first | refine mx_end ?_ | (refine mx_mv _ rfl rfl (by conv => {lhs; whnf}) ?_) | (refine mx_as _ rfl rfl (by conv => {lhs; whnf}) ?_) | (refine g_bin rfl ?_; ( refine mx_ar rfl rfl rfl rfl rfl rfl (IntWalk.i64_in _ (by omega)) rfl ?_) ) ) | refine cw_line rfl ?_ | refine pw_then ?_ | refine pw_block ?_ ))
        refine pw_round (i + 1, us ++ [(⟨q1, q2, r.k⟩ : TX)], a3, c3) ⟨by show i + 1 ≤ rows.length; omega, ?_, by show (us ++ [(⟨q1, q2, r.k⟩ : TX)]).length ≤ _ + (i + 1); rw [← e2]; omega⟩ (by show rows.length - (i + 1) < rows.length - i; omega) ⟨rfl, rfl, rfl, rfl, trivial⟩ (fun w h => ?_)
        · show (us ++ [(⟨q1, q2, r.k⟩ : TX)]).map (·.k) = _ ++ lev (rows.take (i + 1)) (v + 1)
          rw [hlv, List.map_append, hus, List.append_assoc]
          rfl
        · exact (allT_snoc (r := ⟨q1, q2, r.k⟩) (h.pick (H' := [RT ⟨q1, q2, r.k⟩, allT us, ownd a3 c3 22 1 (us ++ [(⟨q1, q2, r.k⟩ : TX)]).length ((us ++ [(⟨q1, q2, r.k⟩ : TX)]).flatMap cT)]) [1, 3, 2] (by simp) rfl)).pick [1, 0] (by simp) rfl
      · rw [if_neg (by omega), List.append_nil] at hlv
        (repeat (first | ((refine (?_ : MX _ _ _ _ _ _ _ _ _ _ _)); first | refine mx_end ?_ | (refine mx_mv _ rfl rfl (by conv => {lhs; whnf}) ?_) | (refine mx_as _ rfl rfl (by conv => {lhs; whnf}) ?_) | ( refine mx_fa E rfl rfl rfl rfl ?_) | (refine g_load rfl ?_; first | refine mx_old1 E rfl rfl rfl rfl rfl (by assumption) (by assumption) rfl ?_ | refine mx_orow E rfl rfl rfl rfl rfl (by assumption) (by assumption) (by rfl) rfl ?_ ) | (refine g_bin rfl ?_; first | (first | (refine mx_cmpl .eql rfl rfl rfl rfl rfl (by first | exact cmp_eq_t (by omega) | exact cmp_eq_f (by omega) ) ?_) | (refine mx_cmpl .lss rfl rfl rfl rfl rfl (by exact cmp_lt_t (by omega) ) ?_) ) | ( refine mx_ar rfl rfl rfl rfl rfl rfl (IntWalk.i64_in _ (by omega)) rfl ?_) ) | (refine g_ix rfl ?_; refine mx_ixsn E rfl rfl rfl rfl rfl rfl (by omega) rfl ?_ ) | (refine mx_nc rfl rfl rfl ?_) | (refine g_bi .len rfl ?_; refine mx_len E rfl rfl rfl rfl ?_) ) | refine cw_seq ?_ | refine cw_line rfl ?_ | refine cw_block ?_ | refine cw_cond_f rfl ?_ | refine cw_cond_t rfl ?_ | refine cw_skip ?_ | refine pw_then ?_ | refine pw_block ?_ ))
        refine pw_round (i + 1, us, a2, c2) ⟨by show i + 1 ≤ rows.length; omega, ?_, by show us.length ≤ _ + (i + 1); omega⟩ (by show rows.length - (i + 1) < rows.length - i; omega) ⟨rfl, rfl, rfl, rfl, trivial⟩ (fun w h => h)
        show us.map (·.k) = _ ++ lev (rows.take (i + 1)) (v + 1)
        rw [hlv]
        exact hus
end
end Go.Proofs.Ytminmbkhlnaabaa
