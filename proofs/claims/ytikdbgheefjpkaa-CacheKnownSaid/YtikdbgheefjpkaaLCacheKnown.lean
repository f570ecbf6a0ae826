/- The chapter's examples, sizes at their ends: the walk of the law CacheKnown. -/
import Derived.Test.YtikdbgheefjpkaaQl
set_option maxRecDepth 100000
set_option maxHeartbeats 8000000
set_option linter.unusedSimpArgs false
set_option linter.unusedVariables false
namespace Go.Proofs.Ytikdbgheefjpkaa
open Go Go.Sx Go.RowKit
def E3 : List Int := [-9223372036854775808, -1, 0]
def pvs (p : Nat) : List VC := (List.range p).map fun i : Nat => pv i
theorem pvs_len (p : Nat) : (pvs p).length = p := by simp [pvs]
theorem pvs_prog (p : Nat) : (pvs p).map VC.prog = (List.range p).map fun i : Nat => (i : Int) := by unfold pvs; rw [List.map_map]; rfl
theorem pvs_rise (p : Nat) : ((pvs p).map VC.prog).Pairwise (· < ·) := by
  rw [pvs_prog]
  exact List.pairwise_map.2 (List.pairwise_lt_range.imp fun h => by omega)
theorem pvs_ok {p : Nat} (hp : p ≤ 900) : OkC (pvs p) p := by
  refine ⟨by rw [pvs_len]; exact Nat.le_refl _, (pvs_rise p).imp fun h e => by omega, fun v hv => ?_, fun v hv => ?_⟩
  all_goals (
    obtain ⟨i, hi, rfl⟩ := List.mem_map.1 hv
    have := List.mem_range.1 hi)
  · exact wfI_of (by show (0 : Int) ≤ i; omega) (by show (i : Int) ≤ 1000000; omega)
  · exact okF_pv _
theorem pvs_put (r : Int → Int) (p : Nat) (hp : p ≤ 60) : putC 9223372036854775807 r (pC p).vc (pvs p) = ([], pvs (p + 1)) := by
  have hno : hasV (p : Int) (pvs p) = false := by
    cases h : hasV (p : Int) (pvs p) with
    | false => rfl
    | true =>
      have h2 := hasV_iff.1 h
      rw [pvs_prog] at h2
      obtain ⟨i, hi, e⟩ := List.mem_map.1 h2
      have := List.mem_range.1 hi
      omega
  have hpv : putV (pv p) (pvs p) = pvs (p + 1) := by
    unfold putV
    rw [show (pv (p : Int)).prog = (p : Int) from rfl, hno, if_neg (by simp)]
    unfold pvs
    rw [List.range_succ, List.map_append]
    rfl
  unfold putC
  rw [if_neg (by decide), show (pC p).vc = pv p from rfl, hpv, if_pos (by rw [pvs_len]; omega)]
theorem minV_same {r : Int → Int} (h : ∀ x y, r x = r y) : ∀ (l : List Int) (m : Int), minV r l m = m
  | [], m => rfl
  | x :: l, m => by
    unfold minV
    rw [if_neg (by rw [h x m]; omega)]
    exact minV_same h l m
theorem pvs_res (r : Int → Int) (h : ∀ x y, r x = r y) : resV r 49 50 (pvs 50) = ([0], delV 0 (pvs 50)) := by
  have hp : progsL (pvs 50) = 0 :: ((List.range 49).map fun i : Nat => ((i + 1 : Nat) : Int)) := by
    rw [progs_sorted (pvs_rise 50), pvs_prog]
    rfl
  have he : evV r (progsL (pvs 50)) = 0 := by rw [hp]; exact minV_same h _ 0
  have hl : (delV 0 (pvs 50)).length = 49 := by decide +kernel
  have h49 : resV r 49 49 (delV 0 (pvs 50)) = ([], delV 0 (pvs 50)) := by
    conv => lhs; unfold resV
    rw [if_neg (by rw [hl]; decide)]
  conv => lhs; unfold resV
  rw [if_pos (by rw [pvs_len]; decide), he, h49]
theorem lawCacheKnown (w : World) : Calls Try.prog 8 #[] w fun e w' => e = .returned (.bool true) ∧ Grow w w' := by
  refine enter0 (S := fun _ => False) 78 Try.func8 rfl rfl rfl (Ok.start w) ?_
  (repeat (first | ((refine (?_ : MX _ _ _ _ _ _ _ _ _ _ _)); first | refine mx_end ?_ | (refine mx_as _ rfl rfl (by conv => {lhs; whnf}) ?_) | (refine g_bs rfl ?_; refine a_bsi E rfl rfl rfl rfl rfl (by (repeat (first | exact EvI.nil | (apply EvI.cons; rfl)))) (by rfl) (by rfl) (by rfl) rfl (fun _ => ?_)) ) | refine cw_seq ?_ | refine cw_line rfl ?_ | refine cw_block ?_ | refine pw_then ?_ ))
  rename_i b1
  have hz : ∀ q, 0 ≤ runs q [] ∧ runs q [] ≤ 1000000 := fun q => ⟨Int.le_refl _, by show (0 : Int) ≤ 1000000; decide⟩
  refine cw_loop (ι := Nat) (fun i => [(2, .int .i64 i), (1, .slice (some ⟨b1, 0, none⟩) 3 3)]) (fun i => [row b1 3 (E3.flatMap cI)]) (fun i => i ≤ 3) (fun i => 3 - i) 0 (Nat.zero_le _) ⟨rfl, rfl, trivial⟩ (fun w h => h) ?_
  intro i jk hi
  by_cases h0 : (i : Int) < 3
  case pos =>
    obtain ⟨e, he⟩ := getElem_some (xs := E3) (i := i) (by show i < 3; omega)
    have hem := List.mem_of_getElem? he
    have hmx : max 0 e = 0 := by
      simp only [E3, List.mem_cons, List.mem_nil_iff, or_false] at hem
      rcases hem with rfl | rfl | rfl <;> decide
    have hrk : (E3.flatMap cI)[0 + i * 1]? = some (.int .i64 e) := by
      have := rd_at len_I he (o := 0) (show 0 < 1 by omega) rfl [] (p := 0 + i * 1) (by omega)
      rwa [List.append_nil] at this
    have hlen : (3 : Int) = ((3 : Nat) : Int) := rfl
    (repeat (first | ((refine (?_ : MX _ _ _ _ _ _ _ _ _ _ _)); first | refine mx_end ?_ | (refine mx_mv _ rfl rfl (by conv => {lhs; whnf}) ?_) | (refine g_load rfl ?_; refine mx_get E rfl rfl rfl rfl rfl (by assumption ) rfl ?_ ) | (refine g_bin rfl ?_; ( (refine mx_cmpl .lss rfl rfl rfl rfl rfl (by exact cmp_lt_t (by omega) ) ?_) ) ) | (refine g_ix rfl ?_; refine mx_ixsn E rfl rfl rfl rfl rfl rfl (by omega) rfl ?_ ) | (refine g_bi .len rfl ?_; refine mx_len E rfl rfl rfl rfl ?_) ) | refine cw_seq ?_ | refine cw_line rfl ?_ | refine cw_block ?_ | refine cw_cond_t rfl ?_ | refine cw_skip ?_ | refine pw_then ?_ ))
    refine g_cf 32 rfl ?_
    refine a_callL rfl rfl rfl rfl Try.func32 rfl rfl rfl [] _ rfl (fun a : Nat × Nat × Nat => .pointer (some ⟨a.1, 0, none⟩)) (fun a => OCc a.1 a.2.1 a.2.2 0 [] []) (fun w' hw _ => new32 e 0 hmx w') (fun _ => rfl) (fun _ _ _ => trivial) (fun qn => ?_)
    obtain ⟨bx, fm, rm⟩ := qn
    refine mx_weak (H' := [star (OCc bx fm rm 0 [] []), row b1 3 (E3.flatMap cI)]) (fun w h => Ok.star (H := [row b1 3 (E3.flatMap cI)]) h) (fun _ _ => trivial) ?_
    (repeat (first | ((refine (?_ : MX _ _ _ _ _ _ _ _ _ _ _)); first | refine mx_end ?_ | (refine mx_mv _ rfl rfl (by conv => {lhs; whnf}) ?_) | (refine mx_as _ rfl rfl (by conv => {lhs; whnf}) ?_) | (refine g_build rfl ?_; refine mx_build rfl rfl rfl rfl (b59p _) rfl ?_ ) ) | refine cw_seq ?_ | refine cw_line rfl ?_ | refine pw_then ?_ ))
    refine g_cf 34 rfl ?_; refine a_co1 rfl rfl rfl rfl Try.func34 rfl rfl rfl (OCc bx fm rm 0 [] []) (fun a : (Option Addr × Nat) × {fs' : List CD // fs'.map CD.vc = []} => .slice a.1.1 ([5] : List Int).length a.1.2) (fun a => ownd a.1.1 a.1.2 3 1 ([5] : List Int).length (([5] : List Int).flatMap cI)) (fun a => OCc bx fm rm 0 a.2.1 []) (fun w' hw h => put34 bx fm rm 0 (by omega) [] [] (OkC.nil.le (by decide)) hz (pC 5) (okF_pv 5) (wfI_of (p := 5) (by omega) (by omega)) [5] [] (rfl) w' (fun w2 _ => rd_pC 5 w2) h) (fun _ => rfl) (fun _ _ _ => trivial) (fun qp => ?_)
    obtain ⟨⟨a1, c1⟩, ⟨f1, g1⟩⟩ := qp
    have hf1 : f1 = [] := by cases f1 with | nil => rfl | cons x l => simp at g1
    subst hf1
    refine mx_weak (H' := [ownd a1 c1 3 1 1 (([5] : List Int).flatMap cI), star (OCc bx fm rm 0 [] []), row b1 3 (E3.flatMap cI)]) (fun w h => h) (fun _ _ => trivial) ?_
    (repeat (((refine (?_ : MX _ _ _ _ _ _ _ _ _ _ _)); (refine g_bs rfl ?_; refine a_bsi E rfl rfl rfl rfl rfl (by (repeat (first | exact EvI.nil | (apply EvI.cons; rfl)))) (by rfl) (by rfl) (by rfl) rfl (fun _ => ?_)) ) ))
    refine g_cf 21 rfl ?_
    refine a_callv rfl rfl rfl rfl Try.func21 rfl rfl rfl (.bool true) (fun w' hw => same21 a1 _ c1 _ [5] (by decide) w' (own_in len_I (hw.holds 1 _ rfl) (by decide)) (row_in (c := cI) (xs := [5]) len_I (hw.holds 0 _ rfl))) rfl ?_
    (repeat (((refine (?_ : MX _ _ _ _ _ _ _ _ _ _ _)); first | (refine mx_mv _ rfl rfl (by conv => {lhs; whnf}) ?_) | (refine mx_not rfl rfl rfl ?_) ) ))
    have hp0 : progsL (([] : List CD).map CD.vc) = [] := by simp [progsL, srt]
    refine g_cf 35 rfl ?_; refine a_co1 rfl rfl rfl rfl Try.func35 rfl rfl rfl (OCc bx fm rm 0 [] []) (fun a : Option Addr × Nat => .slice a.1 ([] : List Int).length a.2) (fun a => ownd a.1 a.2 3 1 ([] : List Int).length (([] : List Int).flatMap cI)) (fun _ => OCc bx fm rm 0 [] []) (fun w' hw h => progs35 bx fm rm 0 [] [] (OkC.nil.le (by decide)) [] (hp0) w' h) (fun _ => rfl) (fun _ _ _ => trivial) (fun qp => ?_)
    refine mx_weak (H' := [star (OCc bx fm rm 0 [] []), row b1 3 (E3.flatMap cI)]) (fun w h => h.pick [3, 4] (by simp) rfl) (fun _ _ => trivial) ?_
    (repeat (((refine (?_ : MX _ _ _ _ _ _ _ _ _ _ _)); first | (refine mx_mv _ rfl rfl (by conv => {lhs; whnf}) ?_) | (refine g_bin rfl ?_; ( (refine mx_cmpl .neq rfl rfl rfl rfl rfl (by rfl) ?_) ) ) | (refine g_bi .len rfl ?_; refine mx_len E rfl rfl rfl rfl ?_) | (refine g_pick rfl ?_; refine mx_or rfl rfl rfl rfl rfl rfl ?_ ) ) ))
    refine g_cf 37 rfl ?_; refine a_co1 rfl rfl rfl rfl Try.func37 rfl rfl rfl (OCc bx fm rm 0 [] []) (fun a : (Option Addr × Nat) × {fs' : List CD // fs'.map CD.vc = []} => .slice a.1.1 ([] : List Int).length a.1.2) (fun a => ownd a.1.1 a.1.2 3 1 ([] : List Int).length (([] : List Int).flatMap cI)) (fun a => OCc bx fm rm 1 a.2.1 []) (fun w' hw h => resize37 bx fm rm 0 [] [] (OkC.nil.le (by decide)) hz 1 1 (by rfl ) [] [] (rfl) w' h) (fun _ => rfl) (fun _ _ _ => trivial) (fun qp => ?_)
    obtain ⟨⟨a2, c2⟩, ⟨f2, g2⟩⟩ := qp
    have hf2 : f2 = [] := by cases f2 with | nil => rfl | cons x l => simp at g2
    subst hf2
    refine mx_weak (H' := [star (OCc bx fm rm 1 [] []), row b1 3 (E3.flatMap cI)]) (fun w h => h.pick [1, 2] (by simp) rfl) (fun _ _ => trivial) ?_
    (repeat (((refine (?_ : MX _ _ _ _ _ _ _ _ _ _ _)); first | (refine mx_mv _ rfl rfl (by conv => {lhs; whnf}) ?_) | (refine g_bin rfl ?_; ( (refine mx_cmpl .neq rfl rfl rfl rfl rfl (by rfl) ?_) ) ) | (refine g_bi .len rfl ?_; refine mx_len E rfl rfl rfl rfl ?_) | (refine g_pick rfl ?_; refine mx_or rfl rfl rfl rfl rfl rfl ?_ ) | (refine g_build rfl ?_; refine mx_build rfl rfl rfl rfl (b59p _) rfl ?_ ) ) ))
    refine g_cf 34 rfl ?_; refine a_co1 rfl rfl rfl rfl Try.func34 rfl rfl rfl (OCc bx fm rm 1 [] []) (fun a : (Option Addr × Nat) × {fs' : List CD // fs'.map CD.vc = [pv 5]} => .slice a.1.1 ([] : List Int).length a.1.2) (fun a => ownd a.1.1 a.1.2 3 1 ([] : List Int).length (([] : List Int).flatMap cI)) (fun a => OCc bx fm rm 1 a.2.1 []) (fun w' hw h => put34 bx fm rm 1 (by omega) [] [] (OkC.nil.le (by decide)) hz (pC 5) (okF_pv 5) (wfI_of (p := 5) (by omega) (by omega)) [] [pv 5] (rfl) w' (fun w2 _ => rd_pC 5 w2) h) (fun _ => rfl) (fun _ _ _ => trivial) (fun qp => ?_)
    obtain ⟨⟨a3, c3⟩, ⟨f3, g3⟩⟩ := qp
    refine mx_weak (H' := [star (OCc bx fm rm 1 f3 []), row b1 3 (E3.flatMap cI)]) (fun w h => h.pick [1, 2] (by simp) rfl) (fun _ _ => trivial) ?_
    (repeat (((refine (?_ : MX _ _ _ _ _ _ _ _ _ _ _)); first | (refine mx_mv _ rfl rfl (by conv => {lhs; whnf}) ?_) | (refine g_load rfl ?_; refine mx_get E rfl rfl rfl rfl rfl (by assumption ) rfl ?_ ) | (refine g_bin rfl ?_; ( (refine mx_cmpl .neq rfl rfl rfl rfl rfl (by rfl) ?_) ) ) | (refine g_ix rfl ?_; refine mx_ixsn E rfl rfl rfl rfl rfl rfl (by omega) rfl ?_ ) | (refine g_bi .len rfl ?_; refine mx_len E rfl rfl rfl rfl ?_) | (refine g_pick rfl ?_; refine mx_or rfl rfl rfl rfl rfl rfl ?_ ) ) ))
    have k3 : OkC (f3.map CD.vc) 1000 := by rw [g3]; exact OkC.le (OkC.nil.put (okF_pv 5) (wfI_of (by decide) (by decide))) (by decide)
    have hf3 : f3.length = 1 := by have := congrArg List.length g3; simpa using this
    have q4 : resV (fun q => runs q []) 0 f3.length (f3.map CD.vc) = ([5], []) := by
      rw [g3, hf3]
      have hpb : progsL [pv 5] = [5] := progs_sorted (by decide)
      unfold resV
      rw [if_pos (by decide), hpb]
      rfl
    refine g_cf 37 rfl ?_; refine a_co1 rfl rfl rfl rfl Try.func37 rfl rfl rfl (OCc bx fm rm 1 f3 []) (fun a : (Option Addr × Nat) × {fs' : List CD // fs'.map CD.vc = []} => .slice a.1.1 ([5] : List Int).length a.1.2) (fun a => ownd a.1.1 a.1.2 3 1 ([5] : List Int).length (([5] : List Int).flatMap cI)) (fun a => OCc bx fm rm 0 a.2.1 []) (fun w' hw h => resize37 bx fm rm 1 f3 [] k3 hz e 0 (by assumption ) [5] [] (q4) w' h) (fun _ => rfl) (fun _ _ _ => trivial) (fun qp => ?_)
    obtain ⟨⟨a4, c4⟩, ⟨f4, g4⟩⟩ := qp
    refine mx_weak (H' := [ownd a4 c4 3 1 1 (([5] : List Int).flatMap cI), row b1 3 (E3.flatMap cI)]) (fun w h => h.pick [0, 2] (by simp) rfl) (fun _ _ => trivial) ?_
    (repeat (((refine (?_ : MX _ _ _ _ _ _ _ _ _ _ _)); (refine g_bs rfl ?_; refine a_bsi E rfl rfl rfl rfl rfl (by (repeat (first | exact EvI.nil | (apply EvI.cons; rfl)))) (by rfl) (by rfl) (by rfl) rfl (fun _ => ?_)) ) ))
    refine g_cf 21 rfl ?_
    refine a_callv rfl rfl rfl rfl Try.func21 rfl rfl rfl (.bool true) (fun w' hw => same21 a4 _ c4 _ [5] (by decide) w' (own_in len_I (hw.holds 1 _ rfl) (by decide)) (row_in (c := cI) (xs := [5]) len_I (hw.holds 0 _ rfl))) rfl ?_
    (repeat (first | ((refine (?_ : MX _ _ _ _ _ _ _ _ _ _ _)); first | refine mx_end ?_ | (refine mx_mv _ rfl rfl (by conv => {lhs; whnf}) ?_) | (refine mx_as _ rfl rfl (by conv => {lhs; whnf}) ?_) | (refine g_bin rfl ?_; ( refine mx_ar rfl rfl rfl rfl rfl rfl (IntWalk.i64_in _ (by omega)) rfl ?_ ) ) | (refine mx_not rfl rfl rfl ?_) | (refine g_pick rfl ?_; refine mx_or rfl rfl rfl rfl rfl rfl ?_ ) ) | refine cw_line rfl ?_ | refine cw_cond_f rfl ?_ | refine cw_skip ?_ | refine pw_then ?_ | refine pw_block ?_ ))
    exact pw_round (i + 1) (by omega) (by omega) ⟨rfl, rfl, trivial⟩ (fun w h => h.pick [2] (by simp) rfl)
  (repeat (first | ((refine (?_ : MX _ _ _ _ _ _ _ _ _ _ _)); first | refine mx_end ?_ | (refine mx_mv _ rfl rfl (by conv => {lhs; whnf}) ?_) | (refine g_bin rfl ?_; ( (refine mx_cmpl .lss rfl rfl rfl rfl rfl (by exact cmp_lt_f (by omega) ) ?_) ) ) | (refine g_bi .len rfl ?_; refine mx_len E rfl rfl rfl rfl ?_) ) | refine cw_seq ?_ | refine cw_line rfl ?_ | refine cw_cond_f rfl ?_ | refine cw_exit ?_ | refine pw_then ?_ | refine pw_then_x ?_ | refine pw_block_e ?_ ))
  refine g_cf 32 rfl ?_
  refine a_callL rfl rfl rfl rfl Try.func32 rfl rfl rfl [] _ rfl (fun a : Nat × Nat × Nat => .pointer (some ⟨a.1, 0, none⟩)) (fun a => OCc a.1 a.2.1 a.2.2 9223372036854775807 [] []) (fun w' hw _ => new32 9223372036854775807 9223372036854775807 rfl w') (fun _ => rfl) (fun _ _ _ => trivial) (fun qn => ?_)
  obtain ⟨bx, fm, rm⟩ := qn
  refine mx_weak (H' := [star (OCc bx fm rm 9223372036854775807 [] [])]) (fun w h => (Ok.star (H := [row b1 3 (E3.flatMap cI)]) h).only 0 rfl) (fun _ _ => trivial) ?_
  (repeat (first | ((refine (?_ : MX _ _ _ _ _ _ _ _ _ _ _)); first | refine mx_end ?_ | (refine mx_as _ rfl rfl (by conv => {lhs; whnf}) ?_) ) | refine cw_seq ?_ | refine cw_line rfl ?_ | refine cw_block ?_ | refine pw_then ?_ ))
  refine cw_loop (ι := Nat × List CD) (fun q => [(5, .int .i64 q.1), (4, .pointer (some ⟨bx, 0, none⟩))]) (fun q => [star (OCc bx fm rm 9223372036854775807 q.2 [])]) (fun q => q.1 ≤ 50 ∧ q.2.map CD.vc = pvs q.1) (fun q => 50 - q.1) (0, []) ⟨Nat.zero_le _, rfl⟩ ⟨rfl, rfl, trivial⟩ (fun w h => h) ?_
  rintro ⟨p, fs⟩ jk2 ⟨hp, hfs⟩
  dsimp only at hp hfs ⊢
  have hok : OkC (fs.map CD.vc) 998 := by rw [hfs]; exact (pvs_ok (by omega)).le (by omega)
  by_cases h1 : (p : Int) < 50
  case pos =>
    have hput : putC 9223372036854775807 (fun q => runs q []) (pC p).vc (fs.map CD.vc) = ([], pvs (p + 1)) := by rw [hfs]; exact pvs_put _ p (by omega)
    (repeat (first | ((refine (?_ : MX _ _ _ _ _ _ _ _ _ _ _)); first | refine mx_end ?_ | (refine mx_mv _ rfl rfl (by conv => {lhs; whnf}) ?_) | (refine g_bin rfl ?_; ( (refine mx_cmpl .lss rfl rfl rfl rfl rfl (by exact cmp_lt_t (by omega) ) ?_) ) ) | (refine g_build rfl ?_; refine mx_build rfl rfl rfl rfl (b59p _) rfl ?_ ) ) | refine cw_seq ?_ | refine cw_line rfl ?_ | refine cw_block ?_ | refine cw_cond_t rfl ?_ | refine cw_skip ?_ | refine pw_then ?_ ))
    refine g_cf 34 rfl ?_; refine a_co1 rfl rfl rfl rfl Try.func34 rfl rfl rfl (OCc bx fm rm 9223372036854775807 fs []) (fun a : (Option Addr × Nat) × {fs' : List CD // fs'.map CD.vc = (pvs (p + 1))} => .slice a.1.1 ([] : List Int).length a.1.2) (fun a => ownd a.1.1 a.1.2 3 1 ([] : List Int).length (([] : List Int).flatMap cI)) (fun a => OCc bx fm rm 9223372036854775807 a.2.1 []) (fun w' hw h => put34 bx fm rm 9223372036854775807 (by omega) fs [] hok hz (pC (p : Int)) (okF_pv (p : Int)) (wfI_of (p := (p : Int)) (by omega) (by omega)) [] (pvs (p + 1)) (hput) w' (fun w2 _ => rd_pC (p : Int) w2) h) (fun _ => rfl) (fun _ _ _ => trivial) (fun qp => ?_)
    obtain ⟨⟨a1, c1⟩, ⟨f1, g1⟩⟩ := qp
    (repeat (first | ((refine (?_ : MX _ _ _ _ _ _ _ _ _ _ _)); first | refine mx_end ?_ | (refine mx_mv _ rfl rfl (by conv => {lhs; whnf}) ?_) | (refine mx_as _ rfl rfl (by conv => {lhs; whnf}) ?_) | (refine g_bin rfl ?_; first | ( (refine mx_cmpl .neq rfl rfl rfl rfl rfl (by rfl) ?_) ) | ( refine mx_ar rfl rfl rfl rfl rfl rfl (IntWalk.i64_in _ (by omega)) rfl ?_ ) ) | (refine g_bi .len rfl ?_; refine mx_len E rfl rfl rfl rfl ?_) ) | refine cw_line rfl ?_ | refine cw_cond_f rfl ?_ | refine cw_skip ?_ | refine pw_then ?_ | refine pw_block ?_ ))
    exact pw_round (p + 1, f1) ⟨by show p + 1 ≤ 50; omega, g1⟩ (by show 50 - (p + 1) < 50 - p; omega) ⟨rfl, rfl, trivial⟩ (fun w h => h.only 1 rfl)
  obtain rfl : p = 50 := by omega
  have hok' := hok.le (show 998 ≤ 1000 by omega)
  obtain ⟨P, hP⟩ : ∃ P, progsL (fs.map CD.vc) = P := ⟨_, rfl⟩
  have hPl : (P.length : Int) = 50 := by rw [← hP, progs_len, hfs, pvs_len]; rfl
  have hfl : fs.length = 50 := by have := congrArg List.length hfs; rw [pvs_len] at this; simpa using this
  have hres : resV (fun q => runs q []) 49 fs.length (fs.map CD.vc) = ([0], delV 0 (pvs 50)) := by rw [hfl, hfs]; exact pvs_res _ (fun _ _ => rfl)
  (repeat (first | ((refine (?_ : MX _ _ _ _ _ _ _ _ _ _ _)); first | refine mx_end ?_ | (refine mx_mv _ rfl rfl (by conv => {lhs; whnf}) ?_) | (refine g_bin rfl ?_; ( (refine mx_cmpl .lss rfl rfl rfl rfl rfl (by exact cmp_lt_f (by omega) ) ?_) ) ) ) | refine cw_seq ?_ | refine cw_line rfl ?_ | refine cw_cond_f rfl ?_ | refine cw_exit ?_ | refine pw_then ?_ | refine pw_then_x ?_ | refine pw_block_e ?_ ))
  refine g_cf 35 rfl ?_; refine a_co1 rfl rfl rfl rfl Try.func35 rfl rfl rfl (OCc bx fm rm 9223372036854775807 fs []) (fun a : Option Addr × Nat => .slice a.1 (P : List Int).length a.2) (fun a => ownd a.1 a.2 3 1 (P : List Int).length ((P : List Int).flatMap cI)) (fun _ => OCc bx fm rm 9223372036854775807 fs []) (fun w' hw h => progs35 bx fm rm 9223372036854775807 fs [] hok' P (hP) w' h) (fun _ => rfl) (fun _ _ _ => trivial) (fun qp => ?_)
  obtain ⟨a1, c1⟩ := qp
  refine mx_weak (H' := [star (OCc bx fm rm 9223372036854775807 fs [])]) (fun w h => h.only 1 rfl) (fun _ _ => trivial) ?_
  (repeat (((refine (?_ : MX _ _ _ _ _ _ _ _ _ _ _)); first | (refine mx_mv _ rfl rfl (by conv => {lhs; whnf}) ?_) | (refine g_bin rfl ?_; ((refine mx_cmpl .eql rfl rfl rfl rfl rfl (by exact cmp_eq_t (by omega) ) ?_) ) ) | (refine g_bi .len rfl ?_; refine mx_len E rfl rfl rfl rfl ?_) ) ))
  refine g_cf 37 rfl ?_; refine a_co1 rfl rfl rfl rfl Try.func37 rfl rfl rfl (OCc bx fm rm 9223372036854775807 fs []) (fun a : (Option Addr × Nat) × {fs' : List CD // fs'.map CD.vc = (delV 0 (pvs 50))} => .slice a.1.1 ([0] : List Int).length a.1.2) (fun a => ownd a.1.1 a.1.2 3 1 ([0] : List Int).length (([0] : List Int).flatMap cI)) (fun a => OCc bx fm rm 49 a.2.1 []) (fun w' hw h => resize37 bx fm rm 9223372036854775807 fs [] hok' hz 49 49 (by rfl ) [0] (delV 0 (pvs 50)) (hres) w' h) (fun _ => rfl) (fun _ _ _ => trivial) (fun qp => ?_)
  obtain ⟨⟨a4, c4⟩, ⟨f4, g4⟩⟩ := qp
  (repeat (((refine (?_ : MX _ _ _ _ _ _ _ _ _ _ _)); first | (refine mx_mv _ rfl rfl (by conv => {lhs; whnf}) ?_) | (refine g_bin rfl ?_; ((refine mx_cmpl .eql rfl rfl rfl rfl rfl (by rfl) ?_) ) ) | (refine g_bi .len rfl ?_; refine mx_len E rfl rfl rfl rfl ?_) | (refine g_pick rfl ?_; refine mx_and rfl rfl rfl rfl rfl rfl ?_ ) ) ))
  refine g_cf 38 rfl ?_
  refine a_callv rfl rfl rfl rfl Try.func38 rfl rfl rfl (.bool true) (fun w' hw => known38 w') rfl ?_
  (repeat (first | ((refine (?_ : MX _ _ _ _ _ _ _ _ _ _ _)); first | refine mx_end ?_ | (refine mx_as _ rfl rfl (by conv => {lhs; whnf}) ?_) | (refine g_pick rfl ?_; refine mx_and rfl rfl rfl rfl rfl rfl ?_ ) ) | refine cw_ret ?_ | refine pw_then ?_ ))
  exact pw_ret rfl rfl rfl rfl fun w hw => ⟨rfl, hw.keep.grow⟩
end Go.Proofs.Ytikdbgheefjpkaa
