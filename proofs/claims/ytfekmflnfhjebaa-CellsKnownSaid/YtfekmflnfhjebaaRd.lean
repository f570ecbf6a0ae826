/- The document's cells: sizes, bytes, how many; maps by places over them. -/
import Derived.Test.YtfekmflnfhjebaaRc
set_option maxRecDepth 100000
set_option maxHeartbeats 8000000
set_option linter.unusedSimpArgs false
set_option linter.unusedVariables false
namespace Go.Proofs.Ytfekmflnfhjebaa
open Go Go.Sx Go.RowKit
theorem b86_0 : Blt Try.prog 86 [] [.slice none 0 0] := ⟨by kernel_rfl⟩
theorem oldR {w0 w : World} {H : List Res} {r : Res} (h : Ok (fun _ => False) w0 H w) (hr : r.holds w0) (hlt : ∀ b, r.dom b → b < w0.heap.size) : r.holds w := r.loc w0 w (fun b hb => h.keep.old b (hlt b hb) id) hr
theorem inM {ms : List MC} {w : World} (h : (allM ms).holds w) {m : MC} (hm : m ∈ ms) : (ownd m.ba m.cap 5 1 m.bs.length (m.bs.flatMap cU)).holds w := star_holds h (List.mem_flatMap.2 ⟨m, hm, by simp [RM]⟩)
section
variable (mx : Nat) (ma : Option Addr) (mc : Nat) (ms : List MC)
theorem there62y (k : Int) (j : Nat) (m : MC) (hj : ms[j]? = some m) (hk : k - 1 = (j : Int)) (hsw : m.swept = false) (hml : ms.length ≤ 100000) (w : World) (h1 : (row mx 78 [.slice ma ms.length mc]).holds w) (h2 : (ownd ma mc 89 5 ms.length (ms.flatMap cMC)).holds w) :
    Calls Try.prog 62 #[.pointer (some ⟨mx, 0, none⟩), .int .i64 k] w fun e w' => e = .returned (.bool true) ∧ Grow w w' := by
  have hlt := (List.getElem?_eq_some_iff.1 hj).1
  obtain ⟨b4, off, e, hcc⟩ := inl_at (own_in len_MC h2 (Nat.le_refl _)) hj
  subst e
  refine enter2 (S := fun _ => False) 28 Try.func62 rfl rfl rfl (Ok.start w) ?_
  have hS : ¬ (fun _ : Nat => False) mx := id
  have hS4 : ¬ (fun _ : Nat => False) b4 := id
  have hc0 : w.cell? ⟨b4, off + j * 5 + 4, none⟩ = some (.bool false) := by
    have := hcc 4 (.bool m.swept) rfl
    rwa [hsw] at this
  (repeat (first | ((refine (?_ : MX _ _ _ _ _ _ _ _ _ _ _)); first | refine mx_end ?_ | (refine mx_mv _ rfl rfl (by conv => {lhs; whnf}) ?_) | (refine mx_as _ rfl rfl (by conv => {lhs; whnf}) ?_) | (first | refine mx_fa0 E rfl rfl rfl rfl ?_ | refine mx_fa E rfl rfl rfl rfl ?_) | (refine g_load rfl ?_; first | refine mx_old1 E rfl rfl rfl rfl rfl (by assumption) (by assumption) rfl ?_ | refine mx_orow E rfl rfl rfl rfl rfl (by assumption) (by assumption) (by rfl) rfl ?_ ) | (refine g_bin rfl ?_; first | (first | (refine mx_cmpl .leq rfl rfl rfl rfl rfl (by first | exact cmp_le_t (by omega) | rfl) ?_) | (refine mx_cmpl .geq rfl rfl rfl rfl rfl (by first | exact cmp_ge_t (by omega) | rfl) ?_)) | (refine mx_ar rfl rfl rfl rfl rfl rfl ((IntWalk.i64_in _ (by omega)).trans (by with_reducible assumption)) rfl ?_ ) ) | (refine g_ix rfl ?_; refine mx_ixsn E rfl rfl rfl rfl rfl rfl (by omega) rfl ?_ ) | (refine mx_nc rfl rfl rfl ?_) | (refine g_bi .len rfl ?_; refine mx_len E rfl rfl rfl rfl ?_) | (refine mx_not rfl rfl rfl ?_) | (refine g_pick rfl ?_; refine mx_and rfl rfl rfl rfl rfl rfl ?_ ) ) | refine cw_seq ?_ | refine cw_line rfl ?_ | refine cw_ret ?_ | refine pw_then ?_ ))
  exact pw_ret rfl rfl rfl rfl fun w' hw => ⟨rfl, hw.keep.grow⟩
theorem there62n (k : Int) (hk : k < 1 ∨ (ms.length : Int) < k) (hml : ms.length ≤ 100000) (w : World) (h1 : (row mx 78 [.slice ma ms.length mc]).holds w) :
    Calls Try.prog 62 #[.pointer (some ⟨mx, 0, none⟩), .int .i64 k] w fun e w' => e = .returned (.bool false) ∧ Grow w w' := by
  refine enter2 (S := fun _ => False) 28 Try.func62 rfl rfl rfl (Ok.start w) ?_
  have hS : ¬ (fun _ : Nat => False) mx := id
  by_cases hk1 : k < 1
  · (repeat (first | ((refine (?_ : MX _ _ _ _ _ _ _ _ _ _ _)); first | refine mx_end ?_ | (refine mx_mv _ rfl rfl (by conv => {lhs; whnf}) ?_) | (refine mx_as _ rfl rfl (by conv => {lhs; whnf}) ?_) | (refine g_bin rfl ?_; ( (refine mx_cmpl .geq rfl rfl rfl rfl rfl (by exact cmp_ge_f (by omega) ) ?_)) ) | (refine mx_skip rfl rfl rfl ?_) | (refine g_pick rfl ?_; refine mx_andf rfl rfl rfl rfl rfl ?_ ) ) | refine cw_seq ?_ | refine cw_line rfl ?_ | refine cw_ret ?_ | refine pw_then ?_ ))
    exact pw_ret rfl rfl rfl rfl fun w' hw => ⟨rfl, hw.keep.grow⟩
  · (repeat (first | ((refine (?_ : MX _ _ _ _ _ _ _ _ _ _ _)); first | refine mx_end ?_ | (refine mx_mv _ rfl rfl (by conv => {lhs; whnf}) ?_) | (refine mx_as _ rfl rfl (by conv => {lhs; whnf}) ?_) | (refine mx_fa0 E rfl rfl rfl rfl ?_ ) | (refine g_load rfl ?_; refine mx_orow E rfl rfl rfl rfl rfl (by assumption) (by assumption) (by rfl) rfl ?_ ) | (refine g_bin rfl ?_; (first | (refine mx_cmpl .leq rfl rfl rfl rfl rfl (by first | exact cmp_le_f (by omega) | rfl) ?_) | (refine mx_cmpl .geq rfl rfl rfl rfl rfl (by first | exact cmp_ge_t (by omega) | rfl) ?_)) ) | (refine mx_nc rfl rfl rfl ?_) | (refine g_bi .len rfl ?_; refine mx_len E rfl rfl rfl rfl ?_) | (refine mx_skip rfl rfl rfl ?_) | (refine g_pick rfl ?_; first | refine mx_andf rfl rfl rfl rfl rfl ?_ | refine mx_and rfl rfl rfl rfl rfl rfl ?_ ) ) | refine cw_seq ?_ | refine cw_line rfl ?_ | refine cw_ret ?_ | refine pw_then ?_ ))
    exact pw_ret rfl rfl rfl rfl fun w' hw => ⟨rfl, hw.keep.grow⟩
theorem size38y (k : Int) (j : Nat) (m : MC) (hj : ms[j]? = some m) (hk : k - 1 = (j : Int)) (hsw : m.swept = false) (hml : ms.length ≤ 100000) (w : World) (h1 : (row mx 78 [.slice ma ms.length mc]).holds w) (h2 : (ownd ma mc 89 5 ms.length (ms.flatMap cMC)).holds w) :
    Calls Try.prog 38 #[.pointer (some ⟨mx, 0, none⟩), .int .i64 k] w fun e w' => e = .returned (.int .i64 m.bs.length) ∧ Grow w w' := by
  have hlt := (List.getElem?_eq_some_iff.1 hj).1
  have h2' := h2
  obtain ⟨b4, off, e, hcc⟩ := inl_at (own_in len_MC h2 (Nat.le_refl _)) hj
  subst e
  refine enter2 (S := fun _ => False) 19 Try.func38 rfl rfl rfl (Ok.start w) ?_
  have hS : ¬ (fun _ : Nat => False) mx := id
  have hS4 : ¬ (fun _ : Nat => False) b4 := id
  have hc0 : w.cell? ⟨b4, off + j * 5, none⟩ = some (.slice m.ba m.bs.length m.cap) := hcc 0 _ rfl
  (repeat (first | ((refine (?_ : MX _ _ _ _ _ _ _ _ _ _ _)); first | refine mx_end ?_ | (refine mx_mv _ rfl rfl (by conv => {lhs; whnf}) ?_) | (refine mx_as _ rfl rfl (by conv => {lhs; whnf}) ?_) ) | refine cw_seq ?_ | refine cw_line rfl ?_ | refine pw_then ?_ ))
  refine g_cf 62 rfl ?_
  refine a_callv rfl rfl rfl rfl Try.func62 rfl rfl rfl (.bool true) (fun w' hw => there62y mx _ mc ms k j m hj hk hsw hml w' (hw.orow h1 id) (oldR hw h2' (own_lt h2'))) rfl ?_
  (repeat (first | ((refine (?_ : MX _ _ _ _ _ _ _ _ _ _ _)); first | refine mx_end ?_ | (refine mx_mv _ rfl rfl (by conv => {lhs; whnf}) ?_) | (refine mx_as _ rfl rfl (by conv => {lhs; whnf}) ?_) | (refine mx_fa0 E rfl rfl rfl rfl ?_ ) | (refine g_load rfl ?_; first | refine mx_old1 E rfl rfl rfl rfl rfl (by assumption) (by assumption) rfl ?_ | refine mx_orow E rfl rfl rfl rfl rfl (by assumption) (by assumption) (by rfl) rfl ?_ ) | (refine g_bin rfl ?_; (refine mx_ar rfl rfl rfl rfl rfl rfl ((IntWalk.i64_in _ (by omega)).trans (by with_reducible assumption)) rfl ?_ ) ) | (refine g_ix rfl ?_; refine mx_ixsn E rfl rfl rfl rfl rfl rfl (by omega) rfl ?_ ) | (refine mx_nc rfl rfl rfl ?_) | (refine g_bi .len rfl ?_; refine mx_len E rfl rfl rfl rfl ?_) | (refine mx_not rfl rfl rfl ?_) ) | refine cw_seq ?_ | refine cw_line rfl ?_ | refine cw_cond_f rfl ?_ | refine cw_skip ?_ | refine cw_ret ?_ | refine pw_then ?_ ))
  exact pw_ret rfl rfl rfl rfl fun w' hw => ⟨rfl, hw.keep.grow⟩
theorem size38n (k : Int) (hk : k < 1 ∨ (ms.length : Int) < k) (hml : ms.length ≤ 100000) (w : World) (h1 : (row mx 78 [.slice ma ms.length mc]).holds w) :
    Calls Try.prog 38 #[.pointer (some ⟨mx, 0, none⟩), .int .i64 k] w fun e w' => e = .returned (.int .i64 0) ∧ Grow w w' := by
  refine enter2 (S := fun _ => False) 19 Try.func38 rfl rfl rfl (Ok.start w) ?_
  (repeat (first | ((refine (?_ : MX _ _ _ _ _ _ _ _ _ _ _)); first | refine mx_end ?_ | (refine mx_mv _ rfl rfl (by conv => {lhs; whnf}) ?_) | (refine mx_as _ rfl rfl (by conv => {lhs; whnf}) ?_) ) | refine cw_seq ?_ | refine cw_line rfl ?_ | refine pw_then ?_ ))
  refine g_cf 62 rfl ?_
  refine a_callv rfl rfl rfl rfl Try.func62 rfl rfl rfl (.bool false) (fun w' hw => there62n mx ma mc ms k hk hml w' (hw.orow h1 id)) rfl ?_
  (repeat (first | ((refine (?_ : MX _ _ _ _ _ _ _ _ _ _ _)); first | refine mx_end ?_ | (refine mx_as _ rfl rfl (by conv => {lhs; whnf}) ?_) | (refine mx_not rfl rfl rfl ?_) ) | refine cw_seq ?_ | refine cw_line rfl ?_ | refine cw_cond_t rfl ?_ | refine cw_ret ?_ | refine pw_then ?_ | refine pw_then_r ?_ ))
  exact pw_ret rfl rfl rfl rfl fun w' hw => ⟨rfl, hw.keep.grow⟩
theorem bytes41y (k : Int) (j : Nat) (m : MC) (hj : ms[j]? = some m) (hk : k - 1 = (j : Int)) (hsw : m.swept = false) (hml : ms.length ≤ 100000) (hbl : m.bs.length ≤ 100000) (w : World) (h1 : (row mx 78 [.slice ma ms.length mc]).holds w) (h2 : (ownd ma mc 89 5 ms.length (ms.flatMap cMC)).holds w) (h3 : (allM ms).holds w) :
    Calls Try.prog 41 #[.pointer (some ⟨mx, 0, none⟩), .int .i64 k] w fun e w' => ∃ a : Option Addr × Nat, e = .returned (.slice a.1 m.bs.length a.2) ∧ Ok (domL []) w [ownd a.1 a.2 5 1 m.bs.length (m.bs.flatMap cU)] w' := by
  have hlt := (List.getElem?_eq_some_iff.1 hj).1
  have h2' := h2
  have hown := inM h3 (List.mem_of_getElem? hj)
  obtain ⟨b4, off, e, hcc⟩ := inl_at (own_in len_MC h2 (Nat.le_refl _)) hj
  subst e
  refine enter2 (S := domL []) 19 Try.func41 rfl rfl rfl (Ok.start w) ?_
  have hS : ¬ (domL [] : Nat → Prop) mx := no_dom mx
  have hS4 : ¬ (domL [] : Nat → Prop) b4 := no_dom b4
  have hc0 : w.cell? ⟨b4, off + j * 5, none⟩ = some (.slice m.ba m.bs.length m.cap) := hcc 0 _ rfl
  (repeat (first | ((refine (?_ : MX _ _ _ _ _ _ _ _ _ _ _)); first | refine mx_end ?_ | (refine mx_mv _ rfl rfl (by conv => {lhs; whnf}) ?_) | (refine mx_as _ rfl rfl (by conv => {lhs; whnf}) ?_) ) | refine cw_seq ?_ | refine cw_line rfl ?_ | refine pw_then ?_ ))
  refine g_cf 62 rfl ?_
  refine a_callv rfl rfl rfl rfl Try.func62 rfl rfl rfl (.bool true) (fun w' hw => there62y mx _ mc ms k j m hj hk hsw hml w' (hw.orow h1 (no_dom _)) (Res.loc _ w w' (fun b hb => hw.keep.old b (own_lt h2' b hb) (no_dom b)) h2')) rfl ?_
  (repeat (first | ((refine (?_ : MX _ _ _ _ _ _ _ _ _ _ _)); first | refine mx_end ?_ | (refine mx_mv _ rfl rfl (by conv => {lhs; whnf}) ?_) | (refine mx_fa0 E rfl rfl rfl rfl ?_ ) | (refine g_load rfl ?_; first | refine mx_old1 E rfl rfl rfl rfl rfl (by assumption) (by assumption) rfl ?_ | refine mx_orow E rfl rfl rfl rfl rfl (by assumption) (by assumption) (by rfl) rfl ?_ ) | (refine g_bin rfl ?_; (refine mx_ar rfl rfl rfl rfl rfl rfl ((IntWalk.i64_in _ (by omega)).trans (by with_reducible assumption)) rfl ?_ ) ) | (refine g_ix rfl ?_; refine mx_ixsn E rfl rfl rfl rfl rfl rfl (by omega) rfl ?_ ) | (refine mx_nc rfl rfl rfl ?_) | (refine mx_not rfl rfl rfl ?_) ) | refine cw_seq ?_ | refine cw_line rfl ?_ | refine cw_cond_f rfl ?_ | refine cw_skip ?_ | refine pw_then ?_ ))
  refine g_cf 64 rfl ?_
  refine a_calln rfl rfl rfl rfl Try.func64 rfl rfl rfl (fun q : Option Addr × Nat => .slice q.1 m.bs.length q.2) (fun q => ownd q.1 q.2 5 1 m.bs.length (m.bs.flatMap cU)) (fun w' hw => copyB m.ba m.bs.length m.cap m.bs rfl (by omega) w' ((own_in len_U hown (Nat.le_refl _)).keep' hw fun _ _ _ _ => no_dom _)) rfl (fun q => ?_)
  (repeat (first | ((refine (?_ : MX _ _ _ _ _ _ _ _ _ _ _)); first | refine mx_end ?_ | (refine mx_as _ rfl rfl (by conv => {lhs; whnf}) ?_) ) | refine cw_ret ?_ | refine pw_then ?_ ))
  exact pw_ret rfl rfl rfl rfl fun w' hw => ⟨(_, _), rfl, hw⟩
theorem bytes41n (k : Int) (hk : k < 1 ∨ (ms.length : Int) < k) (hml : ms.length ≤ 100000) (w : World) (h1 : (row mx 78 [.slice ma ms.length mc]).holds w) :
    Calls Try.prog 41 #[.pointer (some ⟨mx, 0, none⟩), .int .i64 k] w fun e w' => e = .returned (.slice none 0 0) ∧ Grow w w' := by
  refine enter2 (S := fun _ => False) 19 Try.func41 rfl rfl rfl (Ok.start w) ?_
  (repeat (first | ((refine (?_ : MX _ _ _ _ _ _ _ _ _ _ _)); first | refine mx_end ?_ | (refine mx_mv _ rfl rfl (by conv => {lhs; whnf}) ?_) | (refine mx_as _ rfl rfl (by conv => {lhs; whnf}) ?_) ) | refine cw_seq ?_ | refine cw_line rfl ?_ | refine pw_then ?_ ))
  refine g_cf 62 rfl ?_
  refine a_callv rfl rfl rfl rfl Try.func62 rfl rfl rfl (.bool false) (fun w' hw => there62n mx ma mc ms k hk hml w' (hw.orow h1 id)) rfl ?_
  (repeat (first | ((refine (?_ : MX _ _ _ _ _ _ _ _ _ _ _)); first | refine mx_end ?_ | (refine mx_as _ rfl rfl (by conv => {lhs; whnf}) ?_) | (refine mx_not rfl rfl rfl ?_) ) | refine cw_seq ?_ | refine cw_line rfl ?_ | refine cw_cond_t rfl ?_ | refine cw_ret ?_ | refine pw_then ?_ | refine pw_then_r ?_ ))
  exact pw_ret rfl rfl rfl rfl fun w' hw => ⟨rfl, hw.keep.grow⟩
theorem live34 (hg : ∀ m ∈ ms, m.gone = false) (hml : ms.length ≤ 100000) (w : World) (h1 : (row mx 78 [.slice ma ms.length mc]).holds w) (h2 : (ownd ma mc 89 5 ms.length (ms.flatMap cMC)).holds w) :
    Calls Try.prog 34 #[.pointer (some ⟨mx, 0, none⟩)] w fun e w' => e = .returned (.int .i64 ms.length) ∧ Grow w w' := by
  refine enter1 (S := fun _ => False) 26 Try.func34 rfl rfl rfl (Ok.start w) ?_
  have hS : ¬ (fun _ : Nat => False) mx := id
  (repeat (first | ((refine (?_ : MX _ _ _ _ _ _ _ _ _ _ _)); first | refine mx_end ?_ | (refine mx_as _ rfl rfl (by conv => {lhs; whnf}) ?_) ) | refine cw_seq ?_ | refine cw_line rfl ?_ | refine cw_block ?_ | refine pw_then ?_ ))
  refine cw_loop (ι := Nat) (fun i => [(4, .int .i64 i), (3, .int .i64 i), (0, .pointer (some ⟨mx, 0, none⟩))]) (fun i => []) (fun i => i ≤ ms.length) (fun i => ms.length - i) 0 (by omega) ⟨rfl, rfl, rfl, trivial⟩ (fun w h => h) ?_
  intro i jk hi
  by_cases hil : (i : Int) < ms.length
  case neg =>
    obtain rfl : i = ms.length := by omega
    (repeat (first | ((refine (?_ : MX _ _ _ _ _ _ _ _ _ _ _)); first | refine mx_end ?_ | (refine mx_mv _ rfl rfl (by conv => {lhs; whnf}) ?_) | (refine mx_as _ rfl rfl (by conv => {lhs; whnf}) ?_) | (refine mx_fa0 E rfl rfl rfl rfl ?_ ) | (refine g_load rfl ?_; refine mx_orow E rfl rfl rfl rfl rfl (by assumption) (by assumption) (by rfl) rfl ?_ ) | (refine g_bin rfl ?_; ( (refine mx_cmpl .lss rfl rfl rfl rfl rfl (by exact cmp_lt_f (by omega) ) ?_) ) ) | (refine mx_nc rfl rfl rfl ?_) | (refine g_bi .len rfl ?_; refine mx_len E rfl rfl rfl rfl ?_) ) | refine cw_seq ?_ | refine cw_line rfl ?_ | refine cw_cond_f rfl ?_ | refine cw_exit ?_ | refine cw_ret ?_ | refine pw_then ?_ | refine pw_then_x ?_ | refine pw_block_e ?_ ))
    exact pw_ret rfl rfl rfl rfl fun w' hw => ⟨rfl, hw.keep.grow⟩
  case pos =>
    obtain ⟨m, hj⟩ := getElem_some (xs := ms) (i := i) (by omega)
    obtain ⟨b4, off, e, hcc⟩ := inl_at (own_in len_MC h2 (Nat.le_refl _)) hj
    subst e
    have hS4 : ¬ (fun _ : Nat => False) b4 := id
    have hc0 : w.cell? ⟨b4, off + i * 5 + 3, none⟩ = some (.bool false) := by
      have := hcc 3 (.bool m.gone) rfl
      rwa [hg m (List.mem_of_getElem? hj)] at this
    (repeat (first | ((refine (?_ : MX _ _ _ _ _ _ _ _ _ _ _)); first | refine mx_end ?_ | (refine mx_mv _ rfl rfl (by conv => {lhs; whnf}) ?_) | (refine mx_as _ rfl rfl (by conv => {lhs; whnf}) ?_) | (first | refine mx_fa0 E rfl rfl rfl rfl ?_ | refine mx_fa E rfl rfl rfl rfl ?_) | (refine g_load rfl ?_; first | refine mx_old1 E rfl rfl rfl rfl rfl (by assumption) (by assumption) rfl ?_ | refine mx_orow E rfl rfl rfl rfl rfl (by assumption) (by assumption) (by rfl) rfl ?_ ) | (refine g_bin rfl ?_; first | ( (refine mx_cmpl .lss rfl rfl rfl rfl rfl (by exact cmp_lt_t (by omega) ) ?_) ) | ( refine mx_ar rfl rfl rfl rfl rfl rfl (IntWalk.i64_in _ (by omega)) rfl ?_) ) | (refine g_ix rfl ?_; refine mx_ixsn E rfl rfl rfl rfl rfl rfl (by omega) rfl ?_ ) | (refine mx_nc rfl rfl rfl ?_) | (refine g_bi .len rfl ?_; refine mx_len E rfl rfl rfl rfl ?_) | (refine mx_not rfl rfl rfl ?_) ) | refine cw_seq ?_ | refine cw_line rfl ?_ | refine cw_block ?_ | refine cw_cond_t rfl ?_ | refine cw_skip ?_ | refine pw_then ?_ | refine pw_block ?_ ))
    exact pw_round (i + 1) (by omega) (by omega) ⟨rfl, rfl, rfl, trivial⟩ (fun w h => h)
end
theorem cut59 (n : Int) (N : Nat) (hN : max 1 (min n 64) = (N : Int)) (w : World) : Calls Try.prog 59 #[.int .i64 n] w fun e w' => e = .returned (.int .i64 N) ∧ Grow w w' := by
  refine enter1 (S := fun _ => False) 6 Try.func59 rfl rfl rfl (Ok.start w) ?_
  (repeat (first | ((refine (?_ : MX _ _ _ _ _ _ _ _ _ _ _)); first | refine mx_end ?_ | (refine mx_mv _ rfl rfl (by conv => {lhs; whnf}) ?_) | (refine mx_as _ rfl rfl (by conv => {lhs; whnf}) ?_) | (first | (refine g_bi .max rfl ?_; refine mx_maxi rfl rfl rfl rfl rfl (by with_reducible assumption) rfl ?_) | (refine g_bi .min rfl ?_; refine mx_mini rfl rfl rfl rfl rfl rfl rfl ?_)) ) | refine cw_seq ?_ | refine cw_line rfl ?_ | refine cw_ret ?_ | refine pw_then ?_ ))
  exact pw_ret rfl rfl rfl rfl fun w' hw => ⟨rfl, hw.keep.grow⟩
end Go.Proofs.Ytfekmflnfhjebaa
