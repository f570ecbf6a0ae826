/- Lists of keys: held against one another; keys told written over. -/
import Derived.Test.YtminmbkhlnaabaaStr
import Derived.Test.YtminmbkhlnaabaaPk
set_option maxRecDepth 100000
set_option maxHeartbeats 8000000
set_option linter.unusedSimpArgs false
set_option linter.unusedVariables false
namespace Go.Proofs.Ytminmbkhlnaabaa
open Go Go.Sx Go.RowKit
structure TX where
  ad : Option Addr
  cap : Nat
  k : List Int
  deriving Inhabited
@[reducible] def cT (t : TX) : List Value := [.slice t.ad t.k.length t.cap]
theorem len_T (t : TX) : (cT t).length = 1 := rfl
theorem InL.map {α β : Type} {w : World} {ad : Option Addr} {z : Nat} {c : β → List Value} {f : α → β} {xs : List α} (h : InL w ad z (fun x => c (f x)) xs) : InL w ad z c (xs.map f) := fun hne => by
  obtain ⟨b, off, e, hc⟩ := h (by intro h; rw [h] at hne; exact hne rfl)
  refine ⟨b, off, e, fun i x hx k v hk => ?_⟩
  rw [List.getElem?_map] at hx
  obtain ⟨y, hy, rfl⟩ := Option.map_eq_some_iff.1 hx
  exact hc i y hy k v hk
theorem sameT (ad ad' : Option Addr) (cap cap' : Nat) (ts us : List TX) (hs : ts.length ≤ 1000000) (hs' : us.length ≤ 1000000) (w : World) (hl : InL w ad 1 cT ts) (hl' : InL w ad' 1 cT us) (hts : ∀ t ∈ ts, InL w t.ad 1 cU t.k ∧ t.k.length ≤ 1000000) (hus : ∀ t ∈ us, InL w t.ad 1 cU t.k ∧ t.k.length ≤ 1000000) :
    Calls Try.prog 25 #[.slice ad ts.length cap, .slice ad' us.length cap'] w fun e w' => e = .returned (.bool (decide (ts.map (·.k) = us.map (·.k)))) ∧ Grow w w' := by
  refine enter2 (S := fun _ => False) 27 Try.func25 rfl rfl rfl (Ok.start w) ?_
  by_cases hlen : (ts.length : Int) = us.length
  case neg =>
    have e : decide (ts.map (·.k) = us.map (·.k)) = false := decide_eq_false fun h => hlen (by have := congrArg List.length h; simp at this; omega)
    rw [e]
    (repeat (first | ((refine (?_ : MX _ _ _ _ _ _ _ _ _ _ _)); first | refine mx_end ?_ | (refine mx_mv _ rfl rfl (by conv => {lhs; whnf}) ?_) | (refine mx_as _ rfl rfl (by conv => {lhs; whnf}) ?_) | (refine g_bin rfl ?_; ( (refine mx_cmpl .neq rfl rfl rfl rfl rfl (by exact cmp_ne_t (by omega) ) ?_) ) ) | (refine g_bi .len rfl ?_; refine mx_len E rfl rfl rfl rfl ?_) ) | refine cw_seq ?_ | refine cw_line rfl ?_ | refine cw_cond_t rfl ?_ | refine cw_ret ?_ | refine pw_then ?_ | refine pw_then_r ?_ ))
    exact pw_ret rfl rfl rfl rfl fun w hw => ⟨rfl, hw.keep.grow⟩
  (repeat (first | ((refine (?_ : MX _ _ _ _ _ _ _ _ _ _ _)); first | refine mx_end ?_ | (refine mx_mv _ rfl rfl (by conv => {lhs; whnf}) ?_) | (refine mx_as _ rfl rfl (by conv => {lhs; whnf}) ?_) | (refine g_bin rfl ?_; ( (refine mx_cmpl .neq rfl rfl rfl rfl rfl (by exact cmp_ne_f (by omega) ) ?_) ) ) | (refine g_bi .len rfl ?_; refine mx_len E rfl rfl rfl rfl ?_) ) | refine cw_seq ?_ | refine cw_line rfl ?_ | refine cw_block ?_ | refine cw_cond_f rfl ?_ | refine cw_skip ?_ | refine pw_then ?_ ))
  refine cw_loop (fun i : Nat => [(5, .int .i64 i), (0, .slice ad ts.length cap), (1, .slice ad' us.length cap')]) (fun i => []) (fun i => i ≤ ts.length ∧ (ts.take i).map (·.k) = (us.take i).map (·.k)) (fun i => ts.length - i) 0 ⟨by omega, rfl⟩ ⟨rfl, rfl, rfl, trivial⟩ (fun w h => h) ?_
  intro i jk ⟨hi, hq⟩
  by_cases h0 : (i : Int) < ts.length
  case neg =>
    have e : decide (ts.map (·.k) = us.map (·.k)) = true := decide_eq_true (by rwa [List.take_of_length_le (by omega), List.take_of_length_le (by omega)] at hq)
    rw [e]
    (repeat (first | ((refine (?_ : MX _ _ _ _ _ _ _ _ _ _ _)); first | refine mx_end ?_ | (refine mx_mv _ rfl rfl (by conv => {lhs; whnf}) ?_) | (refine mx_as _ rfl rfl (by conv => {lhs; whnf}) ?_) | (refine g_bin rfl ?_; ( (refine mx_cmpl .lss rfl rfl rfl rfl rfl (by exact cmp_lt_f (by omega) ) ?_) ) ) | (refine g_bi .len rfl ?_; refine mx_len E rfl rfl rfl rfl ?_) ) | refine cw_seq ?_ | refine cw_line rfl ?_ | refine cw_cond_f rfl ?_ | refine cw_exit ?_ | refine cw_ret ?_ | refine pw_then ?_ | refine pw_then_x ?_ | refine pw_block_e ?_ ))
    exact pw_ret rfl rfl rfl rfl fun w hw => ⟨rfl, hw.keep.grow⟩
  case pos =>
    obtain ⟨x, hx⟩ := getElem_some (xs := ts) (i := i) (by omega)
    obtain ⟨y, hy⟩ := getElem_some (xs := us) (i := i) (by omega)
    obtain ⟨b4, off, e, hcc⟩ := inl_at hl hx
    obtain ⟨b5, off', e', hcc'⟩ := inl_at hl' hy
    subst e e'
    have hS : ¬ (fun _ : Nat => False) b4 := id
    have hS' : ¬ (fun _ : Nat => False) b5 := id
    have hc0 : w.cell? ⟨b4, off + i * 1, none⟩ = some (.slice x.ad x.k.length x.cap) := hcc 0 _ rfl
    have hc1 : w.cell? ⟨b5, off' + i * 1, none⟩ = some (.slice y.ad y.k.length y.cap) := hcc' 0 _ rfl
    obtain ⟨hx1, hx2⟩ := hts x (List.mem_of_getElem? hx)
    obtain ⟨hy1, hy2⟩ := hus y (List.mem_of_getElem? hy)
    (repeat (first | ((refine (?_ : MX _ _ _ _ _ _ _ _ _ _ _)); first | refine mx_end ?_ | (refine mx_mv _ rfl rfl (by conv => {lhs; whnf}) ?_) | (refine g_bin rfl ?_; ( (refine mx_cmpl .lss rfl rfl rfl rfl rfl (by exact cmp_lt_t (by omega) ) ?_) ) ) | (refine g_bi .len rfl ?_; refine mx_len E rfl rfl rfl rfl ?_) ) | refine cw_seq ?_ | refine cw_line rfl ?_ | refine cw_block ?_ | refine cw_cond_t rfl ?_ | refine cw_skip ?_ | refine pw_then ?_ ))
    refine cw_drawm [0, 1, 2, 3, 4, 5, 6, 7, 8, 9] (fun i => Nat.beq i 8) _ mixed (by kernel_rfl) (fun w h => h.nil) ?_
    (repeat (((refine (?_ : MX _ _ _ _ _ _ _ _ _ _ _)); first | (refine mx_mv _ rfl rfl (by conv => {lhs; whnf}) ?_) | (refine g_load rfl ?_; refine mx_old1 E rfl rfl rfl rfl rfl (by assumption) (by assumption) rfl ?_ ) | (refine g_ix rfl ?_; refine mx_ixsn E rfl rfl rfl rfl rfl rfl (by omega) rfl ?_ ) ) ))
    refine g_cf 36 rfl ?_
    refine a_callv rfl rfl rfl rfl Try.func36 rfl rfl rfl (.bool (decide (x.k = y.k))) (fun w' hw => sameB x.ad y.ad x.k.length y.k.length x.cap y.cap x.k y.k rfl rfl (by omega) w' (hx1.keep hw fun _ _ _ h => h) (hy1.keep hw fun _ _ _ h => h)) rfl ?_
    have t1 : (ts.take (i + 1)).map (·.k) = (ts.take i).map (·.k) ++ [x.k] := by rw [List.take_add_one, hx, List.map_append]; rfl
    have t2 : (us.take (i + 1)).map (·.k) = (us.take i).map (·.k) ++ [y.k] := by rw [List.take_add_one, hy, List.map_append]; rfl
    by_cases hxy : x.k = y.k
    · rw [decide_eq_true hxy]
      (repeat (first | ((refine (?_ : MX _ _ _ _ _ _ _ _ _ _ _)); first | refine mx_end ?_ | (refine mx_mv _ rfl rfl (by conv => {lhs; whnf}) ?_) | (refine mx_as _ rfl rfl (by conv => {lhs; whnf}) ?_) | (refine g_bin rfl ?_; (refine mx_ar rfl rfl rfl rfl rfl rfl (IntWalk.i64_in _ (by omega)) rfl ?_ ) ) | (refine mx_not rfl rfl rfl ?_) ) | refine cw_line rfl ?_ | refine cw_cond_f rfl ?_ | refine cw_skip ?_ | refine pw_then ?_ | refine pw_block ?_ ))
      refine pw_round (i + 1) ⟨by omega, by rw [t1, t2, hq, hxy]⟩ (by omega) ⟨rfl, rfl, rfl, trivial⟩ (fun w h => h)
    · rw [decide_eq_false hxy]
      have e : decide (ts.map (·.k) = us.map (·.k)) = false := decide_eq_false fun h => hxy (by
        have h1 := congrArg (fun l => l[i]?) h
        simp only [List.getElem?_map, hx, hy, Option.map_some, Option.some.injEq] at h1
        exact h1)
      rw [e]
      (repeat (first | ((refine (?_ : MX _ _ _ _ _ _ _ _ _ _ _)); first | refine mx_end ?_ | (refine mx_as _ rfl rfl (by conv => {lhs; whnf}) ?_) | (refine mx_not rfl rfl rfl ?_) ) | refine cw_seq ?_ | refine cw_line rfl ?_ | refine cw_cond_t rfl ?_ | refine cw_ret ?_ | refine pw_then ?_ | refine pw_then_r ?_ | refine pw_block_r ?_))
      exact pw_ret rfl rfl rfl rfl fun w hw => ⟨rfl, hw.keep.grow⟩
/-- A key told, written over. -/
theorem spoilJ (b m cap n : Nat) (hm : m ≤ n) (hs : m ≤ 1000000) (w : World) (h : (jkR b 5 n).holds w) (hlt : b < w.heap.size) : Calls Try.prog 27 #[.slice (some ⟨b, 0, none⟩) m cap] w fun e w' => e = .returned (.tuple #[]) ∧ Chg (jkR b 5 n).dom w w' ∧ (jkR b 5 n).holds w' := by
  refine enter1 15 Try.func27 rfl rfl rfl (Ok.one h (fun k hk => by obtain rfl : k = b := hk; exact hlt)) ?_
  (repeat (first | ((refine (?_ : MX _ _ _ _ _ _ _ _ _ _ _)); first | refine mx_end ?_ | (refine mx_as _ rfl rfl (by conv => {lhs; whnf}) ?_) ) | refine cw_seq ?_ | refine cw_line rfl ?_ | refine cw_block ?_ | refine pw_then ?_ ))
  refine cw_loop (fun i : Nat => [(2, .int .i64 i), (0, .slice (some ⟨b, 0, none⟩) m cap)]) (fun i => [jkR b 5 n]) (fun i => i ≤ m) (fun i => m - i) 0 (by omega) ⟨rfl, rfl, trivial⟩ (fun w h => h) ?_
  intro i jk hi
  by_cases h0 : (i : Int) < m
  case neg =>
    obtain rfl : i = m := by omega
    (repeat (first | ((refine (?_ : MX _ _ _ _ _ _ _ _ _ _ _)); first | refine mx_end ?_ | (refine mx_mv _ rfl rfl (by conv => {lhs; whnf}) ?_) | (refine g_bin rfl ?_; ( (refine mx_cmpl .lss rfl rfl rfl rfl rfl (by exact cmp_lt_f (by omega) ) ?_) ) ) | (refine g_bi .len rfl ?_; refine mx_len E rfl rfl rfl rfl ?_) ) | refine cw_seq ?_ | refine cw_line rfl ?_ | refine cw_cond_f rfl ?_ | refine cw_exit ?_ | refine pw_then ?_ | refine pw_then_x ?_ | refine pw_block_e ?_ ))
    exact pw_ret0 rfl rfl fun w h => ⟨rfl, h.keep, h.holds 0 _ rfl⟩
  case pos =>
    have hi' : i < m := by omega
    (repeat (first | ((refine (?_ : MX _ _ _ _ _ _ _ _ _ _ _)); first | refine mx_end ?_ | (refine mx_mv _ rfl rfl (by conv => {lhs; whnf}) ?_) | (refine g_bin rfl ?_; first | ( (refine mx_cmpl .lss rfl rfl rfl rfl rfl (by exact cmp_lt_t (by omega) ) ?_) ) | (refine mx_ar rfl rfl rfl rfl rfl rfl (IntWalk.i64_in _ (by omega)) rfl ?_ ) ) | (refine g_ix rfl ?_; refine mx_ixsn E rfl rfl rfl rfl rfl rfl (by omega) rfl ?_ ) | (refine g_bi .len rfl ?_; refine mx_len E rfl rfl rfl rfl ?_) | (refine g_call rfl ?_; (refine g_cf 59 rfl ?_; refine mx_call rfl rfl rfl Try.func59 rfl rfl rfl _ (fun w => markB _ (by omega) (by omega) w) rfl ?_) )) | refine cw_seq ?_ | refine cw_line rfl ?_ | refine cw_block ?_ | refine cw_cond_t rfl ?_ | refine cw_skip ?_ | refine pw_then ?_ ))
    refine g_store rfl ?_
    refine a_storeJ E rfl rfl rfl rfl rfl rfl rfl rfl 0 rfl (by omega) (fun _ _ => trivial) rfl ?_
    (repeat (first | ((refine (?_ : MX _ _ _ _ _ _ _ _ _ _ _)); first | refine mx_end ?_ | (refine mx_mv _ rfl rfl (by conv => {lhs; whnf}) ?_) | (refine mx_as _ rfl rfl (by conv => {lhs; whnf}) ?_) | (refine g_bin rfl ?_; (refine mx_ar rfl rfl rfl rfl rfl rfl (IntWalk.i64_in _ (by omega)) rfl ?_ ) ) ) | refine cw_line rfl ?_ | refine pw_then ?_ | refine pw_block ?_ ))
    refine pw_round (i + 1) (by omega) (by omega) ⟨rfl, rfl, trivial⟩ (fun w h => h)
end Go.Proofs.Ytminmbkhlnaabaa
