/- The calls of chapter 8's laws: are there too many, or too long ones? -/
import Derived.Test.YtfekmflnfhjebaaCd
set_option maxRecDepth 100000
set_option maxHeartbeats 8000000
set_option linter.unusedSimpArgs false
set_option linter.unusedVariables false
namespace Go.Proofs.Ytfekmflnfhjebaa
open Go Go.Sx Go.RowKit
structure CO where
  kind : Int
  id : Int
  off : Int
  size : Int
  now : Int
  v : Int
  ad : Option Addr
  cap : Nat
  bs : List Int
  deriving Inhabited
@[reducible] def cCO (a : CO) : List Value := [.int .i64 a.kind, .int .i64 a.id, .int .i64 a.off, .int .i64 a.size, .int .i64 a.now, .int .u64 a.v, .slice a.ad a.bs.length a.cap]
theorem len_CO (a : CO) : (cCO a).length = 7 := rfl
theorem long51y (ad : Option Addr) (cap : Nat) (l : List CO) (hn : l.length ≤ 200 ∧ ∀ a ∈ l, a.bs.length ≤ 200) (w : World) (hl : InL w ad 7 cCO l) :
    Calls Try.prog 51 #[.slice ad l.length cap] w fun e w' => e = .returned (.bool false) ∧ Grow w w' := by
  refine enter1 (S := fun _ => False) 20 Try.func51 rfl rfl rfl (Ok.start w) ?_
  obtain ⟨hn1, hn2⟩ := hn
  (repeat (first | ((refine (?_ : MX _ _ _ _ _ _ _ _ _ _ _)); first | refine mx_end ?_ | (refine mx_mv _ rfl rfl (by conv => {lhs; whnf}) ?_) | (refine mx_as _ rfl rfl (by conv => {lhs; whnf}) ?_) | (refine g_bin rfl ?_; ( (refine mx_cmpl .gtr rfl rfl rfl rfl rfl (by exact cmp_gt_f (by omega) ) ?_) ) ) | (refine g_bi .len rfl ?_; refine mx_len E rfl rfl rfl rfl ?_) ) | refine cw_seq ?_ | refine cw_line rfl ?_ | refine cw_block ?_ | refine cw_cond_f rfl ?_ | refine cw_skip ?_ | refine pw_then ?_ ))
  refine cw_loop (ι := Nat) (fun i => [(3, .int .i64 i), (0, .slice ad l.length cap)]) (fun i => []) (fun i => i ≤ l.length) (fun i => l.length - i) 0 (by omega) ⟨rfl, rfl, trivial⟩ (fun w h => h) ?_
  intro i jk hi
  by_cases hil : (i : Int) < l.length
  case neg =>
    (repeat (first | ((refine (?_ : MX _ _ _ _ _ _ _ _ _ _ _)); first | refine mx_end ?_ | (refine mx_mv _ rfl rfl (by conv => {lhs; whnf}) ?_) | (refine mx_as _ rfl rfl (by conv => {lhs; whnf}) ?_) | (refine g_bin rfl ?_; ( (refine mx_cmpl .lss rfl rfl rfl rfl rfl (by exact cmp_lt_f (by omega) ) ?_) ) ) | (refine g_bi .len rfl ?_; refine mx_len E rfl rfl rfl rfl ?_) ) | refine cw_seq ?_ | refine cw_line rfl ?_ | refine cw_cond_f rfl ?_ | refine cw_exit ?_ | refine cw_ret ?_ | refine pw_then ?_ | refine pw_then_x ?_ | refine pw_block_e ?_ ))
    exact pw_ret rfl rfl rfl rfl fun w' hw => ⟨rfl, hw.keep.grow⟩
  case pos =>
    obtain ⟨a, ha⟩ := getElem_some (xs := l) (i := i) (by omega)
    obtain ⟨b4, off, e, hcc⟩ := inl_at hl ha
    subst e
    have hS : ¬ (fun _ : Nat => False) b4 := id
    have hc0 : w.cell? ⟨b4, off + i * 7 + 6, none⟩ = some (.slice a.ad a.bs.length a.cap) := hcc 6 _ rfl
    have hal := hn2 a (List.mem_of_getElem? ha)
    (repeat (first | ((refine (?_ : MX _ _ _ _ _ _ _ _ _ _ _)); first | refine mx_end ?_ | (refine mx_mv _ rfl rfl (by conv => {lhs; whnf}) ?_) | (refine mx_as _ rfl rfl (by conv => {lhs; whnf}) ?_) | ( refine mx_fa E rfl rfl rfl rfl ?_) | (refine g_load rfl ?_; refine mx_old1 E rfl rfl rfl rfl rfl (by assumption) (by assumption) rfl ?_ ) | (refine g_bin rfl ?_; first | (first | (refine mx_cmpl .lss rfl rfl rfl rfl rfl (by exact cmp_lt_t (by omega) ) ?_) | (refine mx_cmpl .gtr rfl rfl rfl rfl rfl (by first | exact cmp_gt_t (by omega) | exact cmp_gt_f (by omega) ) ?_) ) | (refine mx_ar rfl rfl rfl rfl rfl rfl (IntWalk.i64_in _ (by omega)) rfl ?_ ) ) | (refine g_ix rfl ?_; refine mx_ixsn E rfl rfl rfl rfl rfl rfl (by omega) rfl ?_ ) | (refine g_bi .len rfl ?_; refine mx_len E rfl rfl rfl rfl ?_) ) | refine cw_seq ?_ | refine cw_line rfl ?_ | refine cw_block ?_ | refine cw_cond_f rfl ?_ | refine cw_cond_t rfl ?_ | refine cw_skip ?_ | refine pw_then ?_ | refine pw_block ?_ ))
    exact pw_round (i + 1) (by omega) (by omega) ⟨rfl, rfl, trivial⟩ (fun w h => h)
theorem long51n (ad : Option Addr) (cap : Nat) (l : List CO) (hm : l.length ≤ cap ∧ cap ≤ maxLen) (hn : ¬ (l.length ≤ 200 ∧ ∀ a ∈ l, a.bs.length ≤ 200)) (w : World) (hl : InL w ad 7 cCO l) :
    Calls Try.prog 51 #[.slice ad l.length cap] w fun e w' => e = .returned (.bool true) ∧ Grow w w' := by
  refine enter1 (S := fun _ => False) 20 Try.func51 rfl rfl rfl (Ok.start w) ?_
  by_cases hn1 : (200 : Int) < l.length
  case pos =>
    (repeat (first | ((refine (?_ : MX _ _ _ _ _ _ _ _ _ _ _)); first | refine mx_end ?_ | (refine mx_mv _ rfl rfl (by conv => {lhs; whnf}) ?_) | (refine mx_as _ rfl rfl (by conv => {lhs; whnf}) ?_) | (refine g_bin rfl ?_; ( (refine mx_cmpl .gtr rfl rfl rfl rfl rfl (by exact cmp_gt_t (by omega) ) ?_) ) ) | (refine g_bi .len rfl ?_; refine mx_len E rfl rfl rfl rfl ?_) ) | refine cw_seq ?_ | refine cw_line rfl ?_ | refine cw_cond_t rfl ?_ | refine cw_ret ?_ | refine pw_then ?_ | refine pw_then_r ?_ ))
    exact pw_ret rfl rfl rfl rfl fun w' hw => ⟨rfl, hw.keep.grow⟩
  case neg =>
    (repeat (first | ((refine (?_ : MX _ _ _ _ _ _ _ _ _ _ _)); first | refine mx_end ?_ | (refine mx_mv _ rfl rfl (by conv => {lhs; whnf}) ?_) | (refine mx_as _ rfl rfl (by conv => {lhs; whnf}) ?_) | (refine g_bin rfl ?_; ( (refine mx_cmpl .gtr rfl rfl rfl rfl rfl (by exact cmp_gt_f (by omega) ) ?_) ) ) | (refine g_bi .len rfl ?_; refine mx_len E rfl rfl rfl rfl ?_) ) | refine cw_seq ?_ | refine cw_line rfl ?_ | refine cw_block ?_ | refine cw_cond_f rfl ?_ | refine cw_skip ?_ | refine pw_then ?_ ))
    refine cw_loop (ι := Nat) (fun i => [(3, .int .i64 i), (0, .slice ad l.length cap)]) (fun i => []) (fun i => i ≤ l.length ∧ ∀ a ∈ l.take i, a.bs.length ≤ 200) (fun i => l.length - i) 0 ⟨by omega, by simp⟩ ⟨rfl, rfl, trivial⟩ (fun w h => h) ?_
    intro i jk ⟨hi, hall⟩
    by_cases hil : (i : Int) < l.length
    case neg =>
      rw [List.take_of_length_le (by omega)] at hall
      exact absurd ⟨by omega, hall⟩ hn
    case pos =>
      obtain ⟨a, ha⟩ := getElem_some (xs := l) (i := i) (by omega)
      obtain ⟨b4, off, e, hcc⟩ := inl_at hl ha
      subst e
      have hS : ¬ (fun _ : Nat => False) b4 := id
      have hc0 : w.cell? ⟨b4, off + i * 7 + 6, none⟩ = some (.slice a.ad a.bs.length a.cap) := hcc 6 _ rfl
      by_cases hal : (200 : Int) < a.bs.length
      · (repeat (first | ((refine (?_ : MX _ _ _ _ _ _ _ _ _ _ _)); first | refine mx_end ?_ | (refine mx_mv _ rfl rfl (by conv => {lhs; whnf}) ?_) | (refine mx_as _ rfl rfl (by conv => {lhs; whnf}) ?_) | ( refine mx_fa E rfl rfl rfl rfl ?_) | (refine g_load rfl ?_; refine mx_old1 E rfl rfl rfl rfl rfl (by assumption) (by assumption) rfl ?_ ) | (refine g_bin rfl ?_; (first | (refine mx_cmpl .lss rfl rfl rfl rfl rfl (by exact cmp_lt_t (by omega) ) ?_) | (refine mx_cmpl .gtr rfl rfl rfl rfl rfl (by exact cmp_gt_t (by omega) ) ?_) ) ) | (refine g_ix rfl ?_; refine mx_ixsn E rfl rfl rfl rfl rfl rfl (by omega) rfl ?_ ) | (refine g_bi .len rfl ?_; refine mx_len E rfl rfl rfl rfl ?_) ) | refine cw_seq ?_ | refine cw_line rfl ?_ | refine cw_block ?_ | refine cw_cond_t rfl ?_ | refine cw_skip ?_ | refine cw_ret ?_ | refine pw_then ?_ | refine pw_then_r ?_ | refine pw_block_r ?_))
        exact pw_ret rfl rfl rfl rfl fun w' hw => ⟨rfl, hw.keep.grow⟩
      · (repeat (first | ((refine (?_ : MX _ _ _ _ _ _ _ _ _ _ _)); first | refine mx_end ?_ | (refine mx_mv _ rfl rfl (by conv => {lhs; whnf}) ?_) | (refine mx_as _ rfl rfl (by conv => {lhs; whnf}) ?_) | ( refine mx_fa E rfl rfl rfl rfl ?_) | (refine g_load rfl ?_; refine mx_old1 E rfl rfl rfl rfl rfl (by assumption) (by assumption) rfl ?_ ) | (refine g_bin rfl ?_; first | (first | (refine mx_cmpl .lss rfl rfl rfl rfl rfl (by exact cmp_lt_t (by omega) ) ?_) | (refine mx_cmpl .gtr rfl rfl rfl rfl rfl (by first | exact cmp_gt_t (by omega) | exact cmp_gt_f (by omega) ) ?_) ) | (refine mx_ar rfl rfl rfl rfl rfl rfl (IntWalk.i64_in _ (by omega)) rfl ?_ ) ) | (refine g_ix rfl ?_; refine mx_ixsn E rfl rfl rfl rfl rfl rfl (by omega) rfl ?_ ) | (refine g_bi .len rfl ?_; refine mx_len E rfl rfl rfl rfl ?_) ) | refine cw_seq ?_ | refine cw_line rfl ?_ | refine cw_block ?_ | refine cw_cond_f rfl ?_ | refine cw_cond_t rfl ?_ | refine cw_skip ?_ | refine pw_then ?_ | refine pw_block ?_ ))
        refine pw_round (i + 1) ⟨by omega, fun q hq => ?_⟩ (by omega) ⟨rfl, rfl, trivial⟩ (fun w h => h)
        rw [List.take_add_one, ha] at hq
        rcases List.mem_append.1 hq with hq | hq
        · exact hall q hq
        · have : q = a := by simpa using hq
          subst this
          omega
end Go.Proofs.Ytfekmflnfhjebaa
