/- The document's cells: stored, written, dropped, swept away. -/
import Derived.Test.YtfekmflnfhjebaaXc
set_option maxRecDepth 100000
set_option maxHeartbeats 8000000
set_option linter.unusedSimpArgs false
set_option linter.unusedVariables false
namespace Go.Proofs.Ytfekmflnfhjebaa
open Go Go.Sx Go.RowKit
section
variable (mx : Nat) (ma : Option Addr) (mc : Nat) (ms : List MC)
/-- A drop. -/
theorem drop71n (k : Int) (hn : NoM ms k ∨ ∃ j m, ThM ms k j m ∧ m.gone = true) (hml : ms.length ≤ 100000) (w : World) (h1 : (row mx 78 [.slice ma ms.length mc]).holds w) (h2 : (ownd ma mc 89 5 ms.length (ms.flatMap cMC)).holds w) :
    Calls Try.prog 71 #[.pointer (some ⟨mx, 0, none⟩), .int .i64 k] w fun e w' => e = .returned (.bool false) ∧ Grow w w' := by
  rcases hn with hn | ⟨j, m, ht, hg⟩
  · refine enter2 (S := fun _ => False) 28 Try.func71 rfl rfl rfl (Ok.start w) ?_
    (repeat (first | ((refine (?_ : MX _ _ _ _ _ _ _ _ _ _ _)); first | refine mx_end ?_ | (refine mx_mv _ rfl rfl (by conv => {lhs; whnf}) ?_) | (refine mx_as _ rfl rfl (by conv => {lhs; whnf}) ?_) ) | refine cw_seq ?_ | refine cw_line rfl ?_ | refine pw_then ?_ ))
    refine g_cf 62 rfl ?_
    refine a_callv rfl rfl rfl rfl Try.func62 rfl rfl rfl (.bool false) (fun w' hw => there62N mx ma mc ms k hn hml w' (hw.orow h1 id) (oldR hw h2 (own_lt h2))) rfl ?_
    (repeat (first | ((refine (?_ : MX _ _ _ _ _ _ _ _ _ _ _)); first | refine mx_end ?_ | (refine mx_mv _ rfl rfl (by conv => {lhs; whnf}) ?_) | (refine mx_as _ rfl rfl (by conv => {lhs; whnf}) ?_) | (refine mx_not rfl rfl rfl ?_) | (refine mx_skip rfl rfl rfl ?_) | (refine g_pick rfl ?_; refine mx_ort rfl rfl rfl rfl rfl ?_ ) ) | refine cw_seq ?_ | refine cw_line rfl ?_ | refine cw_cond_t rfl ?_ | refine cw_ret ?_ | refine pw_then ?_ | refine pw_then_r ?_ ))
    exact pw_ret rfl rfl rfl rfl fun w' hw => ⟨rfl, hw.keep.grow⟩
  · obtain ⟨hj, hk, hsw⟩ := ht
    have hlt := (List.getElem?_eq_some_iff.1 hj).1
    have h2' := h2
    obtain ⟨b4, off, e, hcc⟩ := inl_at (own_in len_MC h2 (Nat.le_refl _)) hj
    subst e
    refine enter2 (S := fun _ => False) 28 Try.func71 rfl rfl rfl (Ok.start w) ?_
    have hS : ¬ (fun _ : Nat => False) mx := id
    have hS4 : ¬ (fun _ : Nat => False) b4 := id
    have hc0 : w.cell? ⟨b4, off + j * 5 + 3, none⟩ = some (.bool true) := by
      have := hcc 3 (.bool m.gone) rfl
      rwa [hg] at this
    (repeat (first | ((refine (?_ : MX _ _ _ _ _ _ _ _ _ _ _)); first | refine mx_end ?_ | (refine mx_mv _ rfl rfl (by conv => {lhs; whnf}) ?_) | (refine mx_as _ rfl rfl (by conv => {lhs; whnf}) ?_) ) | refine cw_seq ?_ | refine cw_line rfl ?_ | refine pw_then ?_ ))
    refine g_cf 62 rfl ?_
    refine a_callv rfl rfl rfl rfl Try.func62 rfl rfl rfl (.bool true) (fun w' hw => there62y mx _ mc ms k j m hj hk hsw hml w' (hw.orow h1 id) (oldR hw h2' (own_lt h2'))) rfl ?_
    (repeat (first | ((refine (?_ : MX _ _ _ _ _ _ _ _ _ _ _)); first | refine mx_end ?_ | (refine mx_mv _ rfl rfl (by conv => {lhs; whnf}) ?_) | (refine mx_as _ rfl rfl (by conv => {lhs; whnf}) ?_) | (first | refine mx_fa0 E rfl rfl rfl rfl ?_ | refine mx_fa E rfl rfl rfl rfl ?_) | (refine g_load rfl ?_; first | refine mx_old1 E rfl rfl rfl rfl rfl (by assumption) (by assumption) rfl ?_ | refine mx_orow E rfl rfl rfl rfl rfl (by assumption) (by assumption) (by rfl) rfl ?_ ) | (refine g_bin rfl ?_; (refine mx_ar rfl rfl rfl rfl rfl rfl ((IntWalk.i64_in _ (by omega)).trans (by with_reducible assumption)) rfl ?_ ) ) | (refine g_ix rfl ?_; refine mx_ixsn E rfl rfl rfl rfl rfl rfl (by omega) rfl ?_ ) | (refine mx_nc rfl rfl rfl ?_) | (refine mx_not rfl rfl rfl ?_) | (refine g_pick rfl ?_; refine mx_or rfl rfl rfl rfl rfl rfl ?_ ) ) | refine cw_seq ?_ | refine cw_line rfl ?_ | refine cw_cond_t rfl ?_ | refine cw_ret ?_ | refine pw_then ?_ | refine pw_then_r ?_ ))
    exact pw_ret rfl rfl rfl rfl fun w' hw => ⟨rfl, hw.keep.grow⟩
theorem RM_gn (m : MC) : RM m.gn = RM m := rfl
theorem RM_sw (m : MC) : RM m.sw = RM m := rfl
theorem allM_set {j : Nat} {m m' : MC} (hj : ms[j]? = some m) (h : RM m' = RM m) : allM (ms.set j m') = allM ms := by
  obtain ⟨e1, e2⟩ := list_cut hj
  unfold allM
  rw [e2 m']
  conv => rhs; rw [e1]
  rw [List.flatMap_append, List.flatMap_append, List.flatMap_cons, List.flatMap_cons, h]
theorem drop71y (k : Int) (j : Nat) (m : MC) (ht : ThM ms k j m) (hg : m.gone = false) (hml : ms.length ≤ 100000) (w : World) (h0 : Ok (domL (OM mx ma mc ms)) w (OM mx ma mc ms) w) :
    Calls Try.prog 71 #[.pointer (some ⟨mx, 0, none⟩), .int .i64 k] w fun e w' => e = .returned (.bool true) ∧ Ok (domL (OM mx ma mc ms)) w (OM mx ma mc (ms.set j m.gn)) w' := by
  obtain ⟨hj, hk, hsw⟩ := ht
  have hlt := (List.getElem?_eq_some_iff.1 hj).1
  obtain ⟨b4, rfl⟩ := om_ne ma mc ms hj (h0.holds 1 _ rfl)
  obtain ⟨rest, ⟨e1, e2, e3, e4⟩, h1⟩ := ok_open 1 rfl h0
  refine enter2 (S := domL (OM mx (some ⟨b4, 0, none⟩) mc ms)) (H := [row mx 78 [.slice (some ⟨b4, 0, none⟩) ms.length mc], row b4 89 (ms.flatMap cMC ++ rest), allM ms]) 28 Try.func71 rfl rfl rfl h1 ?_
  have hv1 : (ms.flatMap cMC ++ rest)[0 + j * 5 + 3]? = some (.bool false) := by
    have := rd_at len_MC hj (o := 3) (by omega) (v := .bool m.gone) rfl rest (p := 0 + j * 5 + 3) (by omega)
    rwa [hg] at this
  have hs1 : Sp (ms.flatMap cMC ++ rest) (0 + j * 5 + 3) [.bool true] ((ms.set j m.gn).flatMap cMC ++ rest) := sp_at len_MC hj (o := 3) (Sp.lit rfl rfl) rest (by omega)
  (repeat (first | ((refine (?_ : MX _ _ _ _ _ _ _ _ _ _ _)); first | refine mx_end ?_ | (refine mx_mv _ rfl rfl (by conv => {lhs; whnf}) ?_) | (refine mx_as _ rfl rfl (by conv => {lhs; whnf}) ?_) ) | refine cw_seq ?_ | refine cw_line rfl ?_ | refine pw_then ?_ ))
  refine g_cf 62 rfl ?_
  refine a_callv rfl rfl rfl rfl Try.func62 rfl rfl rfl (.bool true) (fun w' hw => there62y mx _ mc ms k j m hj hk hsw hml w' (hw.holds 0 _ rfl) (own_close e1 e2 e3 e4 (hw.holds 1 _ rfl))) rfl ?_
  (repeat (first | ((refine (?_ : MX _ _ _ _ _ _ _ _ _ _ _)); first | refine mx_end ?_ | (refine mx_mv _ rfl rfl (by conv => {lhs; whnf}) ?_) | (refine mx_as _ rfl rfl (by conv => {lhs; whnf}) ?_) | (first | refine mx_fa0 E rfl rfl rfl rfl ?_ | refine mx_fa E rfl rfl rfl rfl ?_) | (refine g_load rfl ?_; refine mx_get E rfl rfl rfl rfl rfl (by first | assumption | rfl) rfl ?_ ) | (refine g_bin rfl ?_; (refine mx_ar rfl rfl rfl rfl rfl rfl ((IntWalk.i64_in _ (by omega)).trans (by with_reducible assumption)) rfl ?_ ) ) | (refine g_ix rfl ?_; refine mx_ixsn E rfl rfl rfl rfl rfl rfl (by omega) rfl ?_ ) | (refine mx_nc rfl rfl rfl ?_) | (refine mx_not rfl rfl rfl ?_) | (refine g_pick rfl ?_; refine mx_or rfl rfl rfl rfl rfl rfl ?_ ) | (refine g_store rfl ?_; refine s_1 E rfl rfl rfl rfl rfl rfl rfl rfl (by assumption ) rfl ?_) ) | refine cw_seq ?_ | refine cw_line rfl ?_ | refine cw_cond_f rfl ?_ | refine cw_skip ?_ | refine cw_ret ?_ | refine pw_then ?_ ))
  refine pw_ret rfl rfl rfl rfl fun w' hw => ⟨rfl, ?_⟩
  have e5 : ((ms.set j m.gn).flatMap cMC).length = ms.length * 5 := by rw [flatMap_len len_MC, List.length_set]
  have h3 := ok_close (xs := (ms.set j m.gn).flatMap cMC) (rest := rest) (len := ms.length) (z := 5) (cap := mc) 1 rfl e5 (by rw [← e2, List.length_append, List.length_append, e5, e1]) e3 e4 hw
  refine om_set mx (some ⟨b4, 0, none⟩) mc ms ?_
  rw [allM_set ms hj (RM_gn m)]
  exact h3
/-! ### A sweep -/
def swp (m : MC) : MC := if m.gone && !m.swept then m.sw else m
def swM (i : Nat) (ms : List MC) : List MC := (ms.take i).map swp ++ ms.drop i
theorem RM_swp (m : MC) : RM (swp m) = RM m := by unfold swp; split <;> rfl
theorem swM_at {i : Nat} {m : MC} (hi : ms[i]? = some m) : (swM i ms)[i]? = some m := by
  have hlt := (List.getElem?_eq_some_iff.1 hi).1
  unfold swM
  rw [List.getElem?_append_right (by simp; omega)]
  simp only [List.length_map, List.length_take, List.getElem?_drop]
  rw [show i + (i - min i ms.length) = i by omega]
  exact hi
theorem swM_s {i : Nat} {m : MC} (hi : ms[i]? = some m) : (swM i ms).set i (swp m) = swM (i + 1) ms := by
  have hlt := (List.getElem?_eq_some_iff.1 hi).1
  have h1 := (list_cut (swM_at ms hi)).2 (swp m)
  rw [h1]
  unfold swM
  have hl : ((ms.take i).map swp).length = i := by simp; omega
  rw [List.take_left' hl, List.take_add_one, hi, List.drop_append, List.drop_of_length_le (by omega), hl, List.drop_drop, show i + (i + 1 - i) = i + 1 by omega]
  simp
theorem swM_len (i : Nat) : (swM i ms).length = ms.length := by unfold swM; simp; omega
theorem swM_all (i : Nat) : allM (swM i ms) = allM ms := by
  unfold allM swM
  congr 1
  have : ∀ l : List MC, (l.map swp).flatMap RM = l.flatMap RM := fun l => by
    rw [List.flatMap_map]
    congr 1
    funext m
    exact RM_swp m
  rw [List.flatMap_append, this, ← List.flatMap_append, List.take_append_drop]
def cntG (ms : List MC) : Nat := ms.countP fun m => m.gone && !m.swept
theorem cntG_le (i : Nat) : cntG (ms.take i) ≤ i := by
  have h3 := List.countP_le_length (p := fun m : MC => m.gone && !m.swept) (l := ms.take i)
  rw [List.length_take] at h3
  unfold cntG
  omega
theorem cntG_s {i : Nat} {m : MC} (hi : ms[i]? = some m) : cntG (ms.take (i + 1)) = cntG (ms.take i) + if (m.gone && !m.swept) = true then 1 else 0 := by
  unfold cntG
  rw [List.take_add_one, hi, List.countP_append]
  show _ + List.countP _ [m] = _
  rw [List.countP_singleton]
theorem sweep72 (hml : ms.length ≤ 100000) (w : World) (h0 : Ok (domL (OM mx ma mc ms)) w (OM mx ma mc ms) w) :
    Calls Try.prog 72 #[.pointer (some ⟨mx, 0, none⟩)] w fun e w' => e = .returned (.int .i64 (cntG ms)) ∧ Ok (domL (OM mx ma mc ms)) w (OM mx ma mc (ms.map swp)) w' := by
  rcases Nat.eq_zero_or_pos ms.length with hz | hp
  · obtain rfl := List.eq_nil_of_length_eq_zero hz
    refine enter1 (S := domL (OM mx ma mc [])) (H := [row mx 78 [.slice ma 0 mc], ownd ma mc 89 5 0 [], allM []]) 43 Try.func72 rfl rfl rfl h0 ?_
    (repeat (first | ((refine (?_ : MX _ _ _ _ _ _ _ _ _ _ _)); first | refine mx_end ?_ | (refine mx_as _ rfl rfl (by conv => {lhs; whnf}) ?_) ) | refine cw_seq ?_ | refine cw_line rfl ?_ | refine cw_block ?_ | refine pw_then ?_ ))
    refine cw_loop (ι := Nat) (fun i => [(4, .int .i64 0), (3, .int .i64 0), (0, .pointer (some ⟨mx, 0, none⟩))]) (fun i => [row mx 78 [.slice ma 0 mc], ownd ma mc 89 5 0 [], allM []]) (fun i => True) (fun i => 0) 0 trivial ⟨rfl, rfl, rfl, trivial⟩ (fun w h => h) ?_
    intro i jk hi
    (repeat (first | ((refine (?_ : MX _ _ _ _ _ _ _ _ _ _ _)); first | refine mx_end ?_ | (refine mx_mv _ rfl rfl (by conv => {lhs; whnf}) ?_) | (refine mx_as _ rfl rfl (by conv => {lhs; whnf}) ?_) | (refine mx_fa0 E rfl rfl rfl rfl ?_ ) | (refine g_load rfl ?_; refine mx_get E rfl rfl rfl rfl rfl (by rfl) rfl ?_ ) | (refine g_bin rfl ?_; ( (refine mx_cmpl .lss rfl rfl rfl rfl rfl (by exact cmp_lt_f (by omega) ) ?_) ) ) | (refine mx_nc rfl rfl rfl ?_) | (refine g_bi .len rfl ?_; refine mx_len E rfl rfl rfl rfl ?_) ) | refine cw_seq ?_ | refine cw_line rfl ?_ | refine cw_cond_f rfl ?_ | refine cw_exit ?_ | refine cw_ret ?_ | refine pw_then ?_ | refine pw_then_x ?_ | refine pw_block_e ?_ ))
    exact pw_ret rfl rfl rfl rfl fun w' hw => ⟨rfl, hw⟩
  obtain ⟨b4, rfl⟩ : ∃ b, ma = some ⟨b, 0, none⟩ := by
    obtain ⟨m, hm⟩ := getElem_some (xs := ms) (i := 0) hp
    exact om_ne ma mc ms hm (h0.holds 1 _ rfl)
  obtain ⟨rest, ⟨e1, e2, e3, e4⟩, h1⟩ := ok_open 1 rfl h0
  refine enter1 (S := domL (OM mx (some ⟨b4, 0, none⟩) mc ms)) (H := [row mx 78 [.slice (some ⟨b4, 0, none⟩) ms.length mc], row b4 89 (ms.flatMap cMC ++ rest), allM ms]) 43 Try.func72 rfl rfl rfl h1 ?_
  (repeat (first | ((refine (?_ : MX _ _ _ _ _ _ _ _ _ _ _)); first | refine mx_end ?_ | (refine mx_as _ rfl rfl (by conv => {lhs; whnf}) ?_) ) | refine cw_seq ?_ | refine cw_line rfl ?_ | refine cw_block ?_ | refine pw_then ?_ ))
  refine cw_loop (ι := Nat) (fun i => [(4, .int .i64 i), (3, .int .i64 (cntG (ms.take i))), (0, .pointer (some ⟨mx, 0, none⟩))]) (fun i => [row mx 78 [.slice (some ⟨b4, 0, none⟩) ms.length mc], row b4 89 ((swM i ms).flatMap cMC ++ rest), allM ms]) (fun i => i ≤ ms.length) (fun i => ms.length - i) 0 (by omega) ⟨rfl, rfl, rfl, trivial⟩ (fun w h => by
    have e : swM 0 ms = ms := by simp [swM]
    rw [e]
    exact h) ?_
  intro i jk hi
  by_cases hil : (i : Int) < ms.length
  case neg =>
    obtain rfl : i = ms.length := by omega
    rw [List.take_length]
    have e : swM ms.length ms = ms.map swp := by simp [swM]
    rw [e]
    (repeat (first | ((refine (?_ : MX _ _ _ _ _ _ _ _ _ _ _)); first | refine mx_end ?_ | (refine mx_mv _ rfl rfl (by conv => {lhs; whnf}) ?_) | (refine mx_as _ rfl rfl (by conv => {lhs; whnf}) ?_) | (refine mx_fa0 E rfl rfl rfl rfl ?_ ) | (refine g_load rfl ?_; refine mx_get E rfl rfl rfl rfl rfl (by rfl) rfl ?_ ) | (refine g_bin rfl ?_; ( (refine mx_cmpl .lss rfl rfl rfl rfl rfl (by exact cmp_lt_f (by omega) ) ?_) ) ) | (refine mx_nc rfl rfl rfl ?_) | (refine g_bi .len rfl ?_; refine mx_len E rfl rfl rfl rfl ?_) ) | refine cw_seq ?_ | refine cw_line rfl ?_ | refine cw_cond_f rfl ?_ | refine cw_exit ?_ | refine cw_ret ?_ | refine pw_then ?_ | refine pw_then_x ?_ | refine pw_block_e ?_ ))
    refine pw_ret rfl rfl rfl rfl fun w' hw => ⟨rfl, ?_⟩
    have e5 : ((ms.map swp).flatMap cMC).length = ms.length * 5 := by rw [flatMap_len len_MC, List.length_map]
    have h3 := ok_close (xs := (ms.map swp).flatMap cMC) (rest := rest) (len := ms.length) (z := 5) (cap := mc) 1 rfl e5 (by rw [← e2, List.length_append, List.length_append, e5, e1]) e3 e4 hw
    have h4 : Ok (domL (OM mx (some ⟨b4, 0, none⟩) mc ms)) w [row mx 78 [.slice (some ⟨b4, 0, none⟩) (ms.map swp).length mc], ownd (some ⟨b4, 0, none⟩) mc 89 5 (ms.map swp).length ((ms.map swp).flatMap cMC), allM (ms.map swp)] w' := by
      rw [List.length_map, ← e, swM_all]
      rw [e]
      exact h3
    exact h4
  case pos =>
    obtain ⟨m, hj⟩ := getElem_some (xs := ms) (i := i) (by omega)
    have hjs := swM_at ms hj
    have hle := cntG_le ms i
    have hst := cntG_s ms hj
    have hsm := swM_s ms hj
    unfold swp at hsm
    cases hg : m.gone with
    | false =>
      have hv3 : ((swM i ms).flatMap cMC ++ rest)[0 + i * 5 + 3]? = some (.bool false) := by
        have := rd_at len_MC hjs (o := 3) (by omega) (v := .bool m.gone) rfl rest (p := 0 + i * 5 + 3) (by omega)
        rwa [hg] at this
      rw [hg] at hst hsm
      have e6 : swM (i + 1) ms = swM i ms := by
        rw [← hsm]
        simp only [Bool.false_and, Bool.false_eq_true, if_false]
        obtain ⟨h5, h6⟩ := List.getElem?_eq_some_iff.1 hjs
        rw [← h6]
        exact List.set_getElem_self _
      (repeat (first | ((refine (?_ : MX _ _ _ _ _ _ _ _ _ _ _)); first | refine mx_end ?_ | (refine mx_mv _ rfl rfl (by conv => {lhs; whnf}) ?_) | (refine mx_as _ rfl rfl (by conv => {lhs; whnf}) ?_) | (first | refine mx_fa0 E rfl rfl rfl rfl ?_ | refine mx_fa E rfl rfl rfl rfl ?_) | (refine g_load rfl ?_; refine mx_get E rfl rfl rfl rfl rfl (by first | assumption | rfl) rfl ?_ ) | (refine g_bin rfl ?_; first | ( (refine mx_cmpl .lss rfl rfl rfl rfl rfl (by exact cmp_lt_t (by omega) ) ?_) ) | ( refine mx_ar rfl rfl rfl rfl rfl rfl (IntWalk.i64_in _ (by omega)) rfl ?_ ) ) | (refine g_ix rfl ?_; refine mx_ixsn E rfl rfl rfl rfl rfl rfl (by omega) rfl ?_ ) | (refine mx_nc rfl rfl rfl ?_) | (refine g_bi .len rfl ?_; refine mx_len E rfl rfl rfl rfl ?_) | (refine mx_skip rfl rfl rfl ?_) | (refine g_pick rfl ?_; refine mx_andf rfl rfl rfl rfl rfl ?_ ) ) | refine cw_seq ?_ | refine cw_line rfl ?_ | refine cw_block ?_ | refine cw_cond_f rfl ?_ | refine cw_cond_t rfl ?_ | refine cw_skip ?_ | refine pw_then ?_ | refine pw_block ?_ ))
      exact pw_round (i + 1) (by omega) (by omega) ⟨rfl, by rw [hst]; rfl, rfl, trivial⟩ (fun w h => by rw [e6]; exact h)
    | true =>
      have hv3 : ((swM i ms).flatMap cMC ++ rest)[0 + i * 5 + 3]? = some (.bool true) := by
        have := rd_at len_MC hjs (o := 3) (by omega) (v := .bool m.gone) rfl rest (p := 0 + i * 5 + 3) (by omega)
        rwa [hg] at this
      rw [hg] at hst hsm
      cases hs : m.swept with
      | true =>
        have hv4 : ((swM i ms).flatMap cMC ++ rest)[0 + i * 5 + 4]? = some (.bool true) := by
          have := rd_at len_MC hjs (o := 4) (by omega) (v := .bool m.swept) rfl rest (p := 0 + i * 5 + 4) (by omega)
          rwa [hs] at this
        rw [hs] at hst hsm
        have e6 : swM (i + 1) ms = swM i ms := by
          rw [← hsm]
          simp only [Bool.not_true, Bool.and_false, Bool.false_eq_true, if_false]
          obtain ⟨h5, h6⟩ := List.getElem?_eq_some_iff.1 hjs
          rw [← h6]
          exact List.set_getElem_self _
        (repeat (first | ((refine (?_ : MX _ _ _ _ _ _ _ _ _ _ _)); first | refine mx_end ?_ | (refine mx_mv _ rfl rfl (by conv => {lhs; whnf}) ?_) | (refine mx_as _ rfl rfl (by conv => {lhs; whnf}) ?_) | (first | refine mx_fa0 E rfl rfl rfl rfl ?_ | refine mx_fa E rfl rfl rfl rfl ?_) | (refine g_load rfl ?_; refine mx_get E rfl rfl rfl rfl rfl (by first | assumption | rfl) rfl ?_ ) | (refine g_bin rfl ?_; first | ( (refine mx_cmpl .lss rfl rfl rfl rfl rfl (by exact cmp_lt_t (by omega) ) ?_) ) | ( refine mx_ar rfl rfl rfl rfl rfl rfl (IntWalk.i64_in _ (by omega)) rfl ?_ ) ) | (refine g_ix rfl ?_; refine mx_ixsn E rfl rfl rfl rfl rfl rfl (by omega) rfl ?_ ) | (refine mx_nc rfl rfl rfl ?_) | (refine g_bi .len rfl ?_; refine mx_len E rfl rfl rfl rfl ?_) | (refine mx_not rfl rfl rfl ?_) | (refine g_pick rfl ?_; refine mx_and rfl rfl rfl rfl rfl rfl ?_ ) ) | refine cw_seq ?_ | refine cw_line rfl ?_ | refine cw_block ?_ | refine cw_cond_f rfl ?_ | refine cw_cond_t rfl ?_ | refine cw_skip ?_ | refine pw_then ?_ | refine pw_block ?_ ))
        exact pw_round (i + 1) (by omega) (by omega) ⟨rfl, by rw [hst]; rfl, rfl, trivial⟩ (fun w h => by rw [e6]; exact h)
      | false =>
        have hv4 : ((swM i ms).flatMap cMC ++ rest)[0 + i * 5 + 4]? = some (.bool false) := by
          have := rd_at len_MC hjs (o := 4) (by omega) (v := .bool m.swept) rfl rest (p := 0 + i * 5 + 4) (by omega)
          rwa [hs] at this
        rw [hs] at hst hsm
        have hs4 : Sp ((swM i ms).flatMap cMC ++ rest) (0 + i * 5 + 4) [.bool true] ((swM (i + 1) ms).flatMap cMC ++ rest) := by
          rw [← hsm]
          exact sp_at len_MC hjs (x' := m.sw) (o := 4) (Sp.lit rfl rfl) rest (by omega)
        have hc1 : (cntG (ms.take i) : Int) + 1 = ((cntG (ms.take (i + 1)) : Nat) : Int) := by rw [hst]; rfl
        (repeat (first | ((refine (?_ : MX _ _ _ _ _ _ _ _ _ _ _)); first | refine mx_end ?_ | (refine mx_mv _ rfl rfl (by conv => {lhs; whnf}) ?_) | (refine mx_as _ rfl rfl (by conv => {lhs; whnf}) ?_) | (first | refine mx_fa0 E rfl rfl rfl rfl ?_ | refine mx_fa E rfl rfl rfl rfl ?_) | (refine g_load rfl ?_; refine mx_get E rfl rfl rfl rfl rfl (by first | assumption | rfl) rfl ?_ ) | (refine g_bin rfl ?_; first | ( (refine mx_cmpl .lss rfl rfl rfl rfl rfl (by exact cmp_lt_t (by omega) ) ?_) ) | (first | refine mx_ar rfl rfl rfl rfl rfl rfl ((IntWalk.i64_in _ (by omega)).trans (by with_reducible assumption)) rfl ?_ | refine mx_ar rfl rfl rfl rfl rfl rfl (IntWalk.i64_in _ (by omega)) rfl ?_ ) ) | (refine g_ix rfl ?_; refine mx_ixsn E rfl rfl rfl rfl rfl rfl (by omega) rfl ?_ ) | (refine mx_nc rfl rfl rfl ?_) | (refine g_bi .len rfl ?_; refine mx_len E rfl rfl rfl rfl ?_) | (refine mx_not rfl rfl rfl ?_) | (refine g_pick rfl ?_; refine mx_and rfl rfl rfl rfl rfl rfl ?_ ) | (refine g_store rfl ?_; refine s_1 E rfl rfl rfl rfl rfl rfl rfl rfl (by assumption ) rfl ?_) ) | refine cw_seq ?_ | refine cw_line rfl ?_ | refine cw_block ?_ | refine cw_cond_t rfl ?_ | refine cw_skip ?_ | refine pw_then ?_ | refine pw_block ?_ ))
        exact pw_round (i + 1) (by omega) (by omega) ⟨rfl, rfl, rfl, trivial⟩ (fun w h => h)
end
end Go.Proofs.Ytfekmflnfhjebaa
