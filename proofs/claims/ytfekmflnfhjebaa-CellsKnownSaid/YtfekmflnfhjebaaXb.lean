/- The document's cells: numbers inside, loaded; how many live. -/
import Derived.Test.YtfekmflnfhjebaaXa
set_option maxRecDepth 100000
set_option maxHeartbeats 8000000
set_option linter.unusedSimpArgs false
set_option linter.unusedVariables false
namespace Go.Proofs.Ytfekmflnfhjebaa
open Go Go.Sx Go.RowKit
section
variable (mx : Nat) (ma : Option Addr) (mc : Nat) (ms : List MC)
theorem inside80y (k off size : Int) (j : Nat) (m : MC) (ht : ThM ms k j m) (hml : ms.length ≤ 100000) (hbl : m.bs.length ≤ 100000) (w : World) (h1 : (row mx 78 [.slice ma ms.length mc]).holds w) (h2 : (ownd ma mc 89 5 ms.length (ms.flatMap cMC)).holds w) :
    Calls Try.prog 80 #[.pointer (some ⟨mx, 0, none⟩), .int .i64 k, .int .i64 off, .int .i64 size] w fun e w' => e = .returned (.bool (decide (fitM m.bs.length off size))) ∧ Grow w w' := by
  obtain ⟨hj, hk, hsw⟩ := ht
  have h2' := h2
  refine enter4 (S := fun _ => False) 48 Try.func80 rfl rfl rfl (Ok.start w) ?_
  by_cases hs : size = 1 ∨ size = 2 ∨ size = 4 ∨ size = 8
  case neg =>
    have e : decide (fitM m.bs.length off size) = false := decide_eq_false fun h => hs h.1
    rw [e]
    have s1 : size ≠ 1 := fun h => hs (.inl h)
    have s2 : size ≠ 2 := fun h => hs (.inr (.inl h))
    have s4 : size ≠ 4 := fun h => hs (.inr (.inr (.inl h)))
    have s8 : size ≠ 8 := fun h => hs (.inr (.inr (.inr h)))
    (repeat (first | ((refine (?_ : MX _ _ _ _ _ _ _ _ _ _ _)); first | refine mx_end ?_ | (refine mx_mv _ rfl rfl (by conv => {lhs; whnf}) ?_) | (refine mx_as _ rfl rfl (by conv => {lhs; whnf}) ?_) | (refine g_bin rfl ?_; ((refine mx_cmpl .eql rfl rfl rfl rfl rfl (by first | exact cmp_eq_t (by omega) | exact cmp_eq_f (by omega) ) ?_) ) ) | (refine mx_skip rfl rfl rfl ?_) | (refine g_pick rfl ?_; first | refine mx_andf rfl rfl rfl rfl rfl ?_ | refine mx_and rfl rfl rfl rfl rfl rfl ?_ | refine mx_or rfl rfl rfl rfl rfl rfl ?_ ) | ((refine g_cf 62 rfl ?_; refine a_callv rfl rfl rfl rfl Try.func62 rfl rfl rfl (.bool true) (fun w' hw => there62y mx _ mc ms k j m hj hk hsw hml w' (hw.orow h1 id) (oldR hw h2' (own_lt h2'))) rfl ?_) )) | refine cw_seq ?_ | refine cw_line rfl ?_ | refine cw_ret ?_ | refine pw_then ?_ ))
    exact pw_ret rfl rfl rfl rfl fun w' hw => ⟨rfl, hw.keep.grow⟩
  by_cases ho : 0 ≤ off ∧ off ≤ (m.bs.length : Int)
  case neg =>
    have e : decide (fitM m.bs.length off size) = false := decide_eq_false fun h => ho ⟨h.2.1, by have := h.2.2; omega⟩
    rw [e]
    by_cases ho1 : 0 ≤ off
    · rcases hs with rfl | rfl | rfl | rfl
      all_goals (
        (repeat (first | ((refine (?_ : MX _ _ _ _ _ _ _ _ _ _ _)); first | refine mx_end ?_ | (refine mx_mv _ rfl rfl (by conv => {lhs; whnf}) ?_) | (refine mx_as _ rfl rfl (by conv => {lhs; whnf}) ?_) | (refine g_bin rfl ?_; (first | (refine mx_cmpl .eql rfl rfl rfl rfl rfl (by first | exact cmp_eq_t (by omega) | exact cmp_eq_f (by omega) | rfl) ?_) | (refine mx_cmpl .leq rfl rfl rfl rfl rfl (by first | exact cmp_le_t (by omega) | exact cmp_le_f (by omega) ) ?_) | (refine mx_cmpl .geq rfl rfl rfl rfl rfl (by exact cmp_ge_t (by omega) ) ?_)) ) | (refine mx_skip rfl rfl rfl ?_) | (refine g_pick rfl ?_; first | refine mx_andf rfl rfl rfl rfl rfl ?_ | refine mx_ort rfl rfl rfl rfl rfl ?_ | refine mx_and rfl rfl rfl rfl rfl rfl ?_ | refine mx_or rfl rfl rfl rfl rfl rfl ?_ ) | (first | (refine g_cf 62 rfl ?_; refine a_callv rfl rfl rfl rfl Try.func62 rfl rfl rfl (.bool true) (fun w' hw => there62y mx _ mc ms k j m hj hk hsw hml w' (hw.orow h1 id) (oldR hw h2' (own_lt h2'))) rfl ?_) | (refine g_cf 38 rfl ?_; refine a_callv rfl rfl rfl rfl Try.func38 rfl rfl rfl (.int .i64 m.bs.length) (fun w' hw => size38y mx _ mc ms k j m hj hk hsw hml w' (hw.orow h1 id) (oldR hw h2' (own_lt h2'))) rfl ?_))) | refine cw_seq ?_ | refine cw_line rfl ?_ | refine cw_ret ?_ | refine pw_then ?_ ))
        exact pw_ret rfl rfl rfl rfl fun w' hw => ⟨rfl, hw.keep.grow⟩)
    · rcases hs with rfl | rfl | rfl | rfl
      all_goals (
        (repeat (first | ((refine (?_ : MX _ _ _ _ _ _ _ _ _ _ _)); first | refine mx_end ?_ | (refine mx_mv _ rfl rfl (by conv => {lhs; whnf}) ?_) | (refine mx_as _ rfl rfl (by conv => {lhs; whnf}) ?_) | (refine g_bin rfl ?_; (first | (refine mx_cmpl .eql rfl rfl rfl rfl rfl (by first | exact cmp_eq_t (by omega) | exact cmp_eq_f (by omega) | rfl) ?_) | (refine mx_cmpl .geq rfl rfl rfl rfl rfl (by first | exact cmp_ge_f (by omega) | rfl) ?_)) ) | (refine mx_skip rfl rfl rfl ?_) | (refine g_pick rfl ?_; first | refine mx_andf rfl rfl rfl rfl rfl ?_ | refine mx_ort rfl rfl rfl rfl rfl ?_ | refine mx_and rfl rfl rfl rfl rfl rfl ?_ | refine mx_or rfl rfl rfl rfl rfl rfl ?_ ) | ((refine g_cf 62 rfl ?_; refine a_callv rfl rfl rfl rfl Try.func62 rfl rfl rfl (.bool true) (fun w' hw => there62y mx _ mc ms k j m hj hk hsw hml w' (hw.orow h1 id) (oldR hw h2' (own_lt h2'))) rfl ?_) )) | refine cw_seq ?_ | refine cw_line rfl ?_ | refine cw_ret ?_ | refine pw_then ?_ ))
        exact pw_ret rfl rfl rfl rfl fun w' hw => ⟨rfl, hw.keep.grow⟩)
  obtain ⟨ho1, ho2⟩ := ho
  by_cases hf : off + size ≤ (m.bs.length : Int)
  · have e : decide (fitM m.bs.length off size) = true := decide_eq_true ⟨hs, ho1, hf⟩
    rw [e]
    rcases hs with rfl | rfl | rfl | rfl
    all_goals (
      (repeat (first | ((refine (?_ : MX _ _ _ _ _ _ _ _ _ _ _)); first | refine mx_end ?_ | (refine mx_mv _ rfl rfl (by conv => {lhs; whnf}) ?_) | (refine mx_as _ rfl rfl (by conv => {lhs; whnf}) ?_) | (refine g_bin rfl ?_; first | (first | (refine mx_cmpl .eql rfl rfl rfl rfl rfl (by first | exact cmp_eq_t (by omega) | exact cmp_eq_f (by omega) | rfl) ?_) | (refine mx_cmpl .leq rfl rfl rfl rfl rfl (by exact cmp_le_t (by omega) ) ?_) | (refine mx_cmpl .geq rfl rfl rfl rfl rfl (by exact cmp_ge_t (by omega) ) ?_)) | ( refine mx_ar rfl rfl rfl rfl rfl rfl (IntWalk.i64_in _ (by omega)) rfl ?_ ) ) | (refine mx_skip rfl rfl rfl ?_) | (refine g_pick rfl ?_; first | refine mx_ort rfl rfl rfl rfl rfl ?_ | refine mx_and rfl rfl rfl rfl rfl rfl ?_ | refine mx_or rfl rfl rfl rfl rfl rfl ?_ ) | (first | (refine g_cf 62 rfl ?_; refine a_callv rfl rfl rfl rfl Try.func62 rfl rfl rfl (.bool true) (fun w' hw => there62y mx _ mc ms k j m hj hk hsw hml w' (hw.orow h1 id) (oldR hw h2' (own_lt h2'))) rfl ?_) | (refine g_cf 38 rfl ?_; refine a_callv rfl rfl rfl rfl Try.func38 rfl rfl rfl (.int .i64 m.bs.length) (fun w' hw => size38y mx _ mc ms k j m hj hk hsw hml w' (hw.orow h1 id) (oldR hw h2' (own_lt h2'))) rfl ?_))) | refine cw_seq ?_ | refine cw_line rfl ?_ | refine cw_ret ?_ | refine pw_then ?_ ))
      exact pw_ret rfl rfl rfl rfl fun w' hw => ⟨rfl, hw.keep.grow⟩)
  · have e : decide (fitM m.bs.length off size) = false := decide_eq_false fun h => hf h.2.2
    rw [e]
    rcases hs with rfl | rfl | rfl | rfl
    all_goals (
      (repeat (first | ((refine (?_ : MX _ _ _ _ _ _ _ _ _ _ _)); first | refine mx_end ?_ | (refine mx_mv _ rfl rfl (by conv => {lhs; whnf}) ?_) | (refine mx_as _ rfl rfl (by conv => {lhs; whnf}) ?_) | (refine g_bin rfl ?_; first | (first | (refine mx_cmpl .eql rfl rfl rfl rfl rfl (by first | exact cmp_eq_t (by omega) | exact cmp_eq_f (by omega) | rfl) ?_) | (refine mx_cmpl .leq rfl rfl rfl rfl rfl (by first | exact cmp_le_t (by omega) | exact cmp_le_f (by omega) ) ?_) | (refine mx_cmpl .geq rfl rfl rfl rfl rfl (by exact cmp_ge_t (by omega) ) ?_)) | ( refine mx_ar rfl rfl rfl rfl rfl rfl (IntWalk.i64_in _ (by omega)) rfl ?_ ) ) | (refine mx_skip rfl rfl rfl ?_) | (refine g_pick rfl ?_; first | refine mx_ort rfl rfl rfl rfl rfl ?_ | refine mx_and rfl rfl rfl rfl rfl rfl ?_ | refine mx_or rfl rfl rfl rfl rfl rfl ?_ ) | (first | (refine g_cf 62 rfl ?_; refine a_callv rfl rfl rfl rfl Try.func62 rfl rfl rfl (.bool true) (fun w' hw => there62y mx _ mc ms k j m hj hk hsw hml w' (hw.orow h1 id) (oldR hw h2' (own_lt h2'))) rfl ?_) | (refine g_cf 38 rfl ?_; refine a_callv rfl rfl rfl rfl Try.func38 rfl rfl rfl (.int .i64 m.bs.length) (fun w' hw => size38y mx _ mc ms k j m hj hk hsw hml w' (hw.orow h1 id) (oldR hw h2' (own_lt h2'))) rfl ?_))) | refine cw_seq ?_ | refine cw_line rfl ?_ | refine cw_ret ?_ | refine pw_then ?_ ))
      exact pw_ret rfl rfl rfl rfl fun w' hw => ⟨rfl, hw.keep.grow⟩)
theorem load68n (k off size : Int) (hn : NoM ms k ∨ ∃ j m, ThM ms k j m ∧ ¬ fitM m.bs.length off size ∧ m.bs.length ≤ 100000) (hml : ms.length ≤ 100000) (w : World) (h1 : (row mx 78 [.slice ma ms.length mc]).holds w) (h2 : (ownd ma mc 89 5 ms.length (ms.flatMap cMC)).holds w) :
    Calls Try.prog 68 #[.pointer (some ⟨mx, 0, none⟩), .int .i64 k, .int .i64 off, .int .i64 size] w fun e w' => e = .returned (.tuple #[.int .u64 0, .bool false]) ∧ Grow w w' := by
  have h80 : ∀ w', Ok (fun _ => False) w [] w' → Calls Try.prog 80 #[.pointer (some ⟨mx, 0, none⟩), .int .i64 k, .int .i64 off, .int .i64 size] w' fun e w'' => e = .returned (.bool false) ∧ Grow w' w'' := fun w' hw => by
    rcases hn with hn | ⟨j, m, ht, hf, hb⟩
    · exact inside80N mx ma mc ms k off size hn hml w' (hw.orow h1 id) (oldR hw h2 (own_lt h2))
    · have := inside80y mx ma mc ms k off size j m ht hml hb w' (hw.orow h1 id) (oldR hw h2 (own_lt h2))
      rwa [decide_eq_false hf] at this
  refine enter4 (S := fun _ => False) 44 Try.func68 rfl rfl rfl (Ok.start w) ?_
  (repeat (first | ((refine (?_ : MX _ _ _ _ _ _ _ _ _ _ _)); first | refine mx_end ?_ | (refine mx_mv _ rfl rfl (by conv => {lhs; whnf}) ?_) | (refine mx_as _ rfl rfl (by conv => {lhs; whnf}) ?_) ) | refine cw_seq ?_ | refine cw_line rfl ?_ | refine pw_then ?_ ))
  refine g_cf 80 rfl ?_
  refine a_callv rfl rfl rfl rfl Try.func80 rfl rfl rfl (.bool false) h80 rfl ?_
  (repeat (first | ((refine (?_ : MX _ _ _ _ _ _ _ _ _ _ _)); first | refine mx_end ?_ | (refine mx_as _ rfl rfl (by conv => {lhs; whnf}) ?_) | (refine mx_not rfl rfl rfl ?_) ) | refine cw_seq ?_ | refine cw_line rfl ?_ | refine cw_cond_t rfl ?_ | refine cw_ret ?_ | refine pw_then ?_ | refine pw_then_r ?_ ))
  exact pw_rets rfl [_, _] ⟨rfl, rfl, trivial⟩ rfl fun w' hw => ⟨rfl, hw.keep.grow⟩
theorem wrapU (x : Int) : IntKind.u64.wrap x = x % 18446744073709551616 := by simp [IntKind.wrap, IntKind.bits, IntKind.signed]
theorem load68y (k : Int) (ob nb j : Nat) (m : MC) (ht : ThM ms k j m) (hf : fitM m.bs.length ob nb) (hB : Byts m.bs) (hml : ms.length ≤ 100000) (hbl : m.bs.length ≤ 100000) (w : World) (h1 : (row mx 78 [.slice ma ms.length mc]).holds w) (h2 : (ownd ma mc 89 5 ms.length (ms.flatMap cMC)).holds w) (h3 : (allM ms).holds w) :
    Calls Try.prog 68 #[.pointer (some ⟨mx, 0, none⟩), .int .i64 k, .int .i64 ob, .int .i64 nb] w fun e w' => e = .returned (.tuple #[.int .u64 (numB ((m.bs.drop ob).take nb)), .bool true]) ∧ Grow w w' := by
  have ht' := ht
  obtain ⟨hj, hk, hsw⟩ := ht
  have hlt := (List.getElem?_eq_some_iff.1 hj).1
  have h2' := h2
  have hown := inM h3 (List.mem_of_getElem? hj)
  obtain ⟨hs, hf1, hf2⟩ := hf
  have hf' : fitM m.bs.length ob nb := ⟨hs, hf1, hf2⟩
  have hnb8 : nb ≤ 8 ∧ 1 ≤ nb := by omega
  obtain ⟨b4, off, e, hcc⟩ := inl_at (own_in len_MC h2 (Nat.le_refl _)) hj
  subst e
  refine enter4 (S := fun _ => False) 44 Try.func68 rfl rfl rfl (Ok.start w) ?_
  have hS : ¬ (fun _ : Nat => False) mx := id
  have hS4 : ¬ (fun _ : Nat => False) b4 := id
  have hc0 : w.cell? ⟨b4, off + j * 5, none⟩ = some (.slice m.ba m.bs.length m.cap) := hcc 0 _ rfl
  have hsum : (ob : Int) + (nb : Int) = ((ob + nb : Nat) : Int) := rfl
  (repeat (first | ((refine (?_ : MX _ _ _ _ _ _ _ _ _ _ _)); first | refine mx_end ?_ | (refine mx_mv _ rfl rfl (by conv => {lhs; whnf}) ?_) | (refine mx_as _ rfl rfl (by conv => {lhs; whnf}) ?_) ) | refine cw_seq ?_ | refine cw_line rfl ?_ | refine pw_then ?_ ))
  refine g_cf 80 rfl ?_
  refine a_callv rfl rfl rfl rfl Try.func80 rfl rfl rfl (.bool true) (fun w' hw => by
    have := inside80y mx (some ⟨b4, off, none⟩) mc ms k ob nb j m ht' hml hbl w' (hw.orow h1 id) (oldR hw h2' (own_lt h2'))
    rwa [decide_eq_true hf'] at this) rfl ?_
  (repeat (first | ((refine (?_ : MX _ _ _ _ _ _ _ _ _ _ _)); first | refine mx_end ?_ | (refine mx_mv _ rfl rfl (by conv => {lhs; whnf}) ?_) | (refine mx_as _ rfl rfl (by conv => {lhs; whnf}) ?_) | (refine g_bin rfl ?_; (first | refine mx_ar rfl rfl rfl rfl rfl rfl ((IntWalk.i64_in _ (by omega)).trans (by with_reducible assumption)) rfl ?_ | refine mx_ar rfl rfl rfl rfl rfl rfl (IntWalk.i64_in _ (by omega)) rfl ?_ ) ) | (refine mx_not rfl rfl rfl ?_) ) | refine cw_seq ?_ | refine cw_line rfl ?_ | refine cw_block ?_ | refine cw_cond_f rfl ?_ | refine cw_skip ?_ | refine pw_then ?_ ))
  refine cw_loop (fun q : Nat => [(11, .int .i64 (((ob + q : Nat) : Int) - 1)), (10, .int .u64 (numB ((m.bs.drop (ob + q)).take (nb - q)))), (0, .pointer (some ⟨mx, 0, none⟩)), (1, .int .i64 k), (2, .int .i64 ob)]) (fun q => []) (fun q => q ≤ nb) (fun q => q) nb (Nat.le_refl _) ⟨rfl, by rw [Nat.sub_self]; rfl, rfl, rfl, rfl, trivial⟩ (fun w h => h) ?_
  intro q jk hq
  cases q with
  | zero =>
    have hz : ¬ ((ob + 0 : Nat) : Int) - 1 ≥ (ob : Int) := by omega
    (repeat (first | ((refine (?_ : MX _ _ _ _ _ _ _ _ _ _ _)); first | refine mx_end ?_ | (refine mx_mv _ rfl rfl (by conv => {lhs; whnf}) ?_) | (refine mx_as _ rfl rfl (by conv => {lhs; whnf}) ?_) | (refine g_bin rfl ?_; ( (refine mx_cmpl .geq rfl rfl rfl rfl rfl (by exact cmp_ge_f (by omega) ) ?_)) ) ) | refine cw_seq ?_ | refine cw_line rfl ?_ | refine cw_cond_f rfl ?_ | refine cw_exit ?_ | refine cw_ret ?_ | refine pw_then ?_ | refine pw_then_x ?_ | refine pw_block_e ?_ ))
    exact pw_rets rfl [_, _] ⟨rfl, rfl, trivial⟩ rfl fun w' hw => ⟨rfl, hw.keep.grow⟩
  | succ q =>
    have hq1 : ((ob + (q + 1) : Nat) : Int) - 1 = ((ob + q : Nat) : Int) := by omega
    rw [hq1]
    obtain ⟨x, hx⟩ := getElem_some (xs := m.bs) (i := ob + q) (by omega)
    have hxb := hB x (List.mem_of_getElem? hx)
    obtain ⟨b5, off5, e5, hc5⟩ := inl_at (own_in len_U hown (Nat.le_refl _)) hx
    have hS5 : ¬ (fun _ : Nat => False) b5 := id
    have hc50 : w.cell? ⟨b5, off5 + (ob + q) * 1, none⟩ = some (.int .u8 x) := hc5 0 _ rfl
    rw [e5] at hc0
    have hge : ((ob + q : Nat) : Int) ≥ (ob : Int) := by omega
    have hbd := numB_bd ((m.bs.drop (ob + (q + 1))).take (nb - (q + 1))) (take_byts (drop_byts hB _) _)
    have hll : ((m.bs.drop (ob + (q + 1))).take (nb - (q + 1))).length ≤ 7 := by rw [List.length_take]; omega
    have hpw : (256 : Int) ^ ((m.bs.drop (ob + (q + 1))).take (nb - (q + 1))).length ≤ 256 ^ 7 := ipow_le 256 (by omega) hll
    have hnum : numB ((m.bs.drop (ob + q)).take (nb - q)) = numB ((m.bs.drop (ob + (q + 1))).take (nb - (q + 1))) * 256 + x := by
      have hd : m.bs.drop (ob + q) = x :: m.bs.drop (ob + (q + 1)) := by
        rw [List.drop_eq_getElem_cons (by omega)]
        congr 1
        exact (List.getElem?_eq_some_iff.1 hx).2
      rw [hd, show nb - q = (nb - (q + 1)) + 1 by omega, List.take_succ_cons]
      show x + 256 * numB _ = _
      omega
    generalize hV : numB ((m.bs.drop (ob + (q + 1))).take (nb - (q + 1))) = V at *
    have h256 : (256 : Int) ^ 7 = 72057594037927936 := by decide
    have hw1 : IntKind.u64.wrap (V * 256) = V * 256 := by rw [wrapU]; omega
    have hw2 : IntKind.u64.wrap x = x := by rw [wrapU]; omega
    have hw3 : IntKind.u64.wrap (V * 256 + x) = numB ((m.bs.drop (ob + q)).take (nb - q)) := by rw [hnum, wrapU]; omega
    (repeat (first | ((refine (?_ : MX _ _ _ _ _ _ _ _ _ _ _)); first | refine mx_end ?_ | (refine mx_mv _ rfl rfl (by conv => {lhs; whnf}) ?_) | (refine mx_as _ rfl rfl (by conv => {lhs; whnf}) ?_) | (refine mx_fa0 E rfl rfl rfl rfl ?_ ) | (refine g_load rfl ?_; first | refine mx_old1 E rfl rfl rfl rfl rfl (by assumption) (by assumption) rfl ?_ | refine mx_orow E rfl rfl rfl rfl rfl (by assumption) (by assumption) (by rfl) rfl ?_ ) | (refine g_bin rfl ?_; first | ( (refine mx_cmpl .geq rfl rfl rfl rfl rfl (by exact cmp_ge_t (by omega) ) ?_)) | (first | refine mx_ar rfl rfl rfl rfl rfl rfl ((IntWalk.i64_in _ (by omega)).trans (by with_reducible assumption)) rfl ?_ | refine mx_ar rfl rfl rfl rfl rfl rfl (IntWalk.i64_in _ (by omega)) rfl ?_ | refine mx_ar rfl rfl rfl rfl rfl rfl (by with_reducible assumption) rfl ?_) ) | (refine g_ix rfl ?_; refine mx_ixsn E rfl rfl rfl rfl rfl rfl (by omega) rfl ?_ ) | (refine mx_nc rfl rfl rfl ?_) | (refine g_conv rfl ?_; refine mx_cv E rfl rfl rfl rfl rfl rfl (by with_reducible assumption) rfl ?_) ) | refine cw_seq ?_ | refine cw_line rfl ?_ | refine cw_block ?_ | refine cw_cond_t rfl ?_ | refine cw_skip ?_ | refine pw_then ?_ | refine pw_block ?_ ))
    exact pw_round q (by omega) (by omega) ⟨rfl, rfl, rfl, rfl, rfl, trivial⟩ (fun w h => h)
theorem live34g (hml : ms.length ≤ 100000) (w : World) (h1 : (row mx 78 [.slice ma ms.length mc]).holds w) (h2 : (ownd ma mc 89 5 ms.length (ms.flatMap cMC)).holds w) :
    Calls Try.prog 34 #[.pointer (some ⟨mx, 0, none⟩)] w fun e w' => e = .returned (.int .i64 (ms.countP fun m => !m.gone : Nat)) ∧ Grow w w' := by
  refine enter1 (S := fun _ => False) 26 Try.func34 rfl rfl rfl (Ok.start w) ?_
  have hS : ¬ (fun _ : Nat => False) mx := id
  (repeat (first | ((refine (?_ : MX _ _ _ _ _ _ _ _ _ _ _)); first | refine mx_end ?_ | (refine mx_as _ rfl rfl (by conv => {lhs; whnf}) ?_) ) | refine cw_seq ?_ | refine cw_line rfl ?_ | refine cw_block ?_ | refine pw_then ?_ ))
  refine cw_loop (ι := Nat) (fun i => [(4, .int .i64 i), (3, .int .i64 ((ms.take i).countP fun m => !m.gone : Nat)), (0, .pointer (some ⟨mx, 0, none⟩))]) (fun i => []) (fun i => i ≤ ms.length) (fun i => ms.length - i) 0 (by omega) ⟨rfl, rfl, rfl, trivial⟩ (fun w h => h) ?_
  intro i jk hi
  by_cases hil : (i : Int) < ms.length
  case neg =>
    rw [List.take_of_length_le (by omega)]
    (repeat (first | ((refine (?_ : MX _ _ _ _ _ _ _ _ _ _ _)); first | refine mx_end ?_ | (refine mx_mv _ rfl rfl (by conv => {lhs; whnf}) ?_) | (refine mx_as _ rfl rfl (by conv => {lhs; whnf}) ?_) | (refine mx_fa0 E rfl rfl rfl rfl ?_ ) | (refine g_load rfl ?_; refine mx_orow E rfl rfl rfl rfl rfl (by assumption) (by assumption) (by rfl) rfl ?_ ) | (refine g_bin rfl ?_; ( (refine mx_cmpl .lss rfl rfl rfl rfl rfl (by exact cmp_lt_f (by omega) ) ?_) ) ) | (refine mx_nc rfl rfl rfl ?_) | (refine g_bi .len rfl ?_; refine mx_len E rfl rfl rfl rfl ?_) ) | refine cw_seq ?_ | refine cw_line rfl ?_ | refine cw_cond_f rfl ?_ | refine cw_exit ?_ | refine cw_ret ?_ | refine pw_then ?_ | refine pw_then_x ?_ | refine pw_block_e ?_ ))
    exact pw_ret rfl rfl rfl rfl fun w' hw => ⟨rfl, hw.keep.grow⟩
  case pos =>
    obtain ⟨m, hj⟩ := getElem_some (xs := ms) (i := i) (by omega)
    obtain ⟨b4, off, e, hcc⟩ := inl_at (own_in len_MC h2 (Nat.le_refl _)) hj
    subst e
    have hS4 : ¬ (fun _ : Nat => False) b4 := id
    have hle : ((ms.take i).countP fun m => !m.gone) ≤ i := by
      have h3 := List.countP_le_length (p := fun m : MC => !m.gone) (l := ms.take i)
      rw [List.length_take] at h3
      omega
    have hst : ((ms.take (i + 1)).countP fun m => !m.gone) = ((ms.take i).countP fun m => !m.gone) + if m.gone = true then 0 else 1 := by
      rw [List.take_add_one, hj, List.countP_append]
      cases hg : m.gone <;> simp [hg]
    cases hg : m.gone with
    | true =>
      have hc0 : w.cell? ⟨b4, off + i * 5 + 3, none⟩ = some (.bool true) := by
        have := hcc 3 (.bool m.gone) rfl
        rwa [hg] at this
      rw [hg] at hst
      (repeat (first | ((refine (?_ : MX _ _ _ _ _ _ _ _ _ _ _)); first | refine mx_end ?_ | (refine mx_mv _ rfl rfl (by conv => {lhs; whnf}) ?_) | (refine mx_as _ rfl rfl (by conv => {lhs; whnf}) ?_) | (first | refine mx_fa0 E rfl rfl rfl rfl ?_ | refine mx_fa E rfl rfl rfl rfl ?_) | (refine g_load rfl ?_; first | refine mx_old1 E rfl rfl rfl rfl rfl (by assumption) (by assumption) rfl ?_ | refine mx_orow E rfl rfl rfl rfl rfl (by assumption) (by assumption) (by rfl) rfl ?_ ) | (refine g_bin rfl ?_; first | ( (refine mx_cmpl .lss rfl rfl rfl rfl rfl (by exact cmp_lt_t (by omega) ) ?_) ) | ( refine mx_ar rfl rfl rfl rfl rfl rfl (IntWalk.i64_in _ (by omega)) rfl ?_ ) ) | (refine g_ix rfl ?_; refine mx_ixsn E rfl rfl rfl rfl rfl rfl (by omega) rfl ?_ ) | (refine mx_nc rfl rfl rfl ?_) | (refine g_bi .len rfl ?_; refine mx_len E rfl rfl rfl rfl ?_) | (refine mx_not rfl rfl rfl ?_) ) | refine cw_seq ?_ | refine cw_line rfl ?_ | refine cw_block ?_ | refine cw_cond_f rfl ?_ | refine cw_cond_t rfl ?_ | refine cw_skip ?_ | refine pw_then ?_ | refine pw_block ?_ ))
      exact pw_round (i + 1) (by omega) (by omega) ⟨rfl, by rw [hst]; rfl, rfl, trivial⟩ (fun w h => h)
    | false =>
      have hc0 : w.cell? ⟨b4, off + i * 5 + 3, none⟩ = some (.bool false) := by
        have := hcc 3 (.bool m.gone) rfl
        rwa [hg] at this
      rw [hg] at hst
      (repeat (first | ((refine (?_ : MX _ _ _ _ _ _ _ _ _ _ _)); first | refine mx_end ?_ | (refine mx_mv _ rfl rfl (by conv => {lhs; whnf}) ?_) | (refine mx_as _ rfl rfl (by conv => {lhs; whnf}) ?_) | (first | refine mx_fa0 E rfl rfl rfl rfl ?_ | refine mx_fa E rfl rfl rfl rfl ?_) | (refine g_load rfl ?_; first | refine mx_old1 E rfl rfl rfl rfl rfl (by assumption) (by assumption) rfl ?_ | refine mx_orow E rfl rfl rfl rfl rfl (by assumption) (by assumption) (by rfl) rfl ?_ ) | (refine g_bin rfl ?_; first | ( (refine mx_cmpl .lss rfl rfl rfl rfl rfl (by exact cmp_lt_t (by omega) ) ?_) ) | ( refine mx_ar rfl rfl rfl rfl rfl rfl (IntWalk.i64_in _ (by omega)) rfl ?_ ) ) | (refine g_ix rfl ?_; refine mx_ixsn E rfl rfl rfl rfl rfl rfl (by omega) rfl ?_ ) | (refine mx_nc rfl rfl rfl ?_) | (refine g_bi .len rfl ?_; refine mx_len E rfl rfl rfl rfl ?_) | (refine mx_not rfl rfl rfl ?_) ) | refine cw_seq ?_ | refine cw_line rfl ?_ | refine cw_block ?_ | refine cw_cond_t rfl ?_ | refine cw_skip ?_ | refine pw_then ?_ | refine pw_block ?_ ))
      exact pw_round (i + 1) (by omega) (by omega) ⟨rfl, by rw [hst]; rfl, rfl, trivial⟩ (fun w h => h)
end
end Go.Proofs.Ytfekmflnfhjebaa
