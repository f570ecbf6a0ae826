/- Packets that are made, written, moved; walked. The chapter's example. -/
import Derived.Test.YtdimcafdmaidpaaMk
set_option maxRecDepth 100000
set_option maxHeartbeats 8000000
set_option linter.unusedSimpArgs false
set_option linter.unusedVariables false
namespace Go.Proofs.Ytdimcafdmaidpaa
open Go Go.Sx Go.RowKit
def put (vs : List Value) (off : Nat) (v : Int) (n : Nat) : List Value := splice vs off ((byts v n).flatMap cU)
theorem put_zero (vs : List Value) (off : Nat) (v : Int) : put vs off v 0 = vs := by simp [put, byts, splice]
theorem byts_succ (v : Int) (n : Nat) : byts v (n + 1) = byts v n ++ [bytw v n] := by simp [byts, List.range_succ]
theorem sp_put (vs : List Value) (off : Nat) (v : Int) {i : Nat} (hm : off + i + 1 ≤ vs.length) : Sp (put vs off v i) (off + i * 1) [.int .u8 (bytw v i)] (put vs off v (i + 1)) := by
  have hl : (put vs off v i).length = vs.length := by simp only [put, splice, List.length_append, List.length_take, List.length_drop, flatU_len, byts_len]; omega
  refine ⟨by rw [hl]; simp; omega, ?_⟩
  apply List.ext_getElem?
  intro k
  have h1 : off + ((byts v i).flatMap cU).length ≤ vs.length := by rw [flatU_len, byts_len]; omega
  have h2 : off + ((byts v (i + 1)).flatMap cU).length ≤ vs.length := by rw [flatU_len, byts_len]; omega
  rw [splice_get (by rw [hl]; simp; omega)]
  unfold put
  rw [splice_get h1, splice_get h2, flatU_len, flatU_len, byts_len, byts_len]
  simp only [List.length_singleton, Nat.mul_one]
  by_cases c1 : k < off
  · rw [if_pos (by omega), if_pos c1, if_pos c1]
  · by_cases c2 : k < off + i
    · rw [if_pos (by omega), if_neg c1, if_pos c2, if_neg c1, if_pos (by omega), byts_succ, List.flatMap_append, List.getElem?_append_left (by rw [flatU_len, byts_len]; omega)]
    · by_cases c3 : k < off + i + 1
      · obtain rfl : k = off + i := by omega
        rw [if_neg (by omega), if_pos (by omega), if_neg c1, if_pos (by omega), byts_succ, List.flatMap_append, List.getElem?_append_right (by rw [flatU_len, byts_len]; omega), flatU_len, byts_len]
        simp
      · rw [if_neg (by omega), if_neg (by omega), if_neg c1, if_neg c2, if_neg c1, if_neg (by omega)]
theorem sp_put' (vs : List Value) (off : Nat) (v : Int) {i : Nat} (hm : off + i + 1 ≤ vs.length) : Sp (put vs off v i) (0 + (off + i) * 1) [.int .u8 (bytw v i)] (put vs off v (i + 1)) := by
  have := sp_put vs off v hm
  have e : 0 + (off + i) * 1 = off + i * 1 := by omega
  rw [e]
  exact this
def setL (xs : List Int) (k : Nat) (ys : List Int) : List Int := xs.take k ++ ys ++ xs.drop (k + ys.length)
theorem setL_len (xs : List Int) (k : Nat) (ys : List Int) (h : k + ys.length ≤ xs.length) : (setL xs k ys).length = xs.length := by
  simp only [setL, List.length_append, List.length_take, List.length_drop]; omega
theorem flatU_take (xs : List Int) (k : Nat) : (xs.take k).flatMap cU = (xs.flatMap cU).take k := by
  by_cases h : k ≤ xs.length
  · have e : ((xs.take k).flatMap cU).length = k := by rw [flatU_len, List.length_take]; omega
    have e2 : xs.flatMap cU = (xs.take k).flatMap cU ++ (xs.drop k).flatMap cU := by rw [← List.flatMap_append, List.take_append_drop]
    rw [e2, List.take_left' e]
  · have e1 : xs.take k = xs := List.take_of_length_le (by omega)
    rw [e1, List.take_of_length_le (by rw [flatU_len]; omega)]
theorem flatU_drop (xs : List Int) (k : Nat) : (xs.drop k).flatMap cU = (xs.flatMap cU).drop k := by
  have h := congrArg (List.flatMap cU) (List.take_append_drop k xs)
  rw [List.flatMap_append, flatU_take] at h
  have h2 := List.take_append_drop k (xs.flatMap cU)
  exact List.append_cancel_left (h.trans h2.symm)
theorem put_all (xs : List Int) (rest : List Value) (k : Nat) (v : Int) (n : Nat) (h : k + n ≤ xs.length) : put (xs.flatMap cU ++ rest) k v n = (setL xs k (byts v n)).flatMap cU ++ rest := by
  unfold put splice setL
  rw [List.flatMap_append, List.flatMap_append, flatU_take, flatU_drop, flatU_len, byts_len, List.take_append_of_le_length (by rw [flatU_len]; omega), List.drop_append_of_le_length (by rw [flatU_len]; omega)]
  simp only [List.append_assoc]
attribute [irreducible] put
/-- What a store leaves of a packet. -/
def stP (cs : List Int) (g : Nat) (off size v : Int) : Bool × List Int := if okP cs.length g off size = true then (true, setL cs (g + off.toNat) (byts v size.toNat)) else (false, cs)
theorem store48 (bp bd n cap g : Nat) (cs : List Int) (rest : List Value) (hm : cs.length = n) (hc : n ≤ cap) (hn : n ≤ 1000000) (hg : g ≤ n) (off size v : Int) (hne : bp ≠ bd) (w : World) (h : (row bp 98 (hdr bd n cap g)).holds w) (h2 : (row bd 5 (cs.flatMap cU ++ rest)).holds w) :
    Calls Try.prog 48 #[.pointer (some ⟨bp, 0, none⟩), .int .i64 off, .int .i64 size, .int .u64 v] w fun e w' => e = .returned (.bool (stP cs g off size v).1) ∧ Chg (row bd 5 (cs.flatMap cU ++ rest)).dom w w' ∧ (row bd 5 ((stP cs g off size v).2.flatMap cU ++ rest)).holds w' := by
  refine enter4 34 Try.func48 rfl rfl rfl (Ok.one h2 (row_lt h2)) ?_
  have hS0 : ¬ (row bd 5 (cs.flatMap cU ++ rest)).dom bp := hne
  unfold stP
  rw [hm]
  cases hok : okP n g off size with
  | false =>
    rw [if_neg (by simp)]
    (repeat (first | ((refine (?_ : MX _ _ _ _ _ _ _ _ _ _ _)); first | refine mx_end ?_ | (refine mx_mv _ rfl rfl (by conv => {lhs; whnf}) ?_) | (refine mx_as _ rfl rfl (by conv => {lhs; whnf}) ?_) ) | refine cw_seq ?_ | refine cw_line rfl ?_ | refine pw_then ?_ ))
    refine g_cf 75 rfl ?_
    refine a_callv rfl rfl rfl rfl Try.func75 rfl rfl rfl _ (fun w' hw => part75n bp bd n cap g off size hn hg hok w' (hw.orow h hS0)) rfl ?_
    (repeat (first | ((refine (?_ : MX _ _ _ _ _ _ _ _ _ _ _)); first | refine mx_end ?_ | (refine mx_mv _ rfl rfl (by conv => {lhs; whnf}) ?_) | (refine mx_as _ rfl rfl (by conv => {lhs; whnf}) ?_) | (refine g_bi .len rfl ?_; refine mx_len E rfl rfl rfl rfl ?_) | (refine mx_ex _ rfl rfl rfl (by conv => {lhs; whnf}) ?_) ) | refine cw_seq ?_ | refine cw_line rfl ?_ | refine cw_block ?_ | refine pw_then ?_ ))
    refine cw_loop (fun i : Nat => [(21, .int .i64 (0 : Nat)), (20, .int .i64 (0 : Nat)), (10, .bool false)]) (fun i => [row bd 5 (cs.flatMap cU ++ rest)]) (fun i => True) (fun i => i) 0 trivial ⟨rfl, rfl, rfl, trivial⟩ (fun w h => h) ?_
    intro i jk hi
    (repeat (first | ((refine (?_ : MX _ _ _ _ _ _ _ _ _ _ _)); first | refine mx_end ?_ | (refine mx_mv _ rfl rfl (by conv => {lhs; whnf}) ?_) | (refine mx_as _ rfl rfl (by conv => {lhs; whnf}) ?_) | (refine g_bin rfl ?_; ( (refine mx_cmpl .lss rfl rfl rfl rfl rfl (by exact cmp_lt_f (by omega) ) ?_) ) ) ) | refine cw_seq ?_ | refine cw_line rfl ?_ | refine cw_cond_f rfl ?_ | refine cw_exit ?_ | refine cw_ret ?_ | refine pw_then ?_ | refine pw_then_x ?_ | refine pw_block_e ?_ ))
    exact pw_ret rfl rfl rfl rfl fun w hw => ⟨rfl, hw.keep, hw.holds 0 _ rfl⟩
  | true =>
    rw [if_pos rfl]
    obtain ⟨p, m, rfl, rfl, k1, k2, k3, hsz⟩ := okP_spec hok
    simp only [Int.toNat_natCast]
    (repeat (first | ((refine (?_ : MX _ _ _ _ _ _ _ _ _ _ _)); first | refine mx_end ?_ | (refine mx_mv _ rfl rfl (by conv => {lhs; whnf}) ?_) | (refine mx_as _ rfl rfl (by conv => {lhs; whnf}) ?_) ) | refine cw_seq ?_ | refine cw_line rfl ?_ | refine pw_then ?_ ))
    refine g_cf 75 rfl ?_
    refine a_callv rfl rfl rfl rfl Try.func75 rfl rfl rfl _ (fun w' hw => part75s bp bd n cap g p m hn hg hc hok w' (hw.orow h hS0)) rfl ?_
    (repeat (first | ((refine (?_ : MX _ _ _ _ _ _ _ _ _ _ _)); first | refine mx_end ?_ | (refine mx_mv _ rfl rfl (by conv => {lhs; whnf}) ?_) | (refine mx_as _ rfl rfl (by conv => {lhs; whnf}) ?_) | (refine g_bi .len rfl ?_; refine mx_len E rfl rfl rfl rfl ?_) | (refine mx_ex _ rfl rfl rfl (by conv => {lhs; whnf}) ?_) ) | refine cw_seq ?_ | refine cw_line rfl ?_ | refine cw_block ?_ | refine pw_then ?_ ))
    refine cw_loop (fun i : Nat => [(21, .int .i64 i), (20, .int .i64 m), (9, .slice (some ⟨bd, g + p, none⟩) m (cap - (g + p))), (10, .bool true), (3, .int .u64 v)]) (fun i => [row bd 5 (put (cs.flatMap cU ++ rest) (g + p) v i)]) (fun i => i ≤ m) (fun i => m - i) 0 (by omega) ⟨rfl, rfl, rfl, rfl, rfl, trivial⟩ (fun w h => by rw [put_zero]; exact h) ?_
    intro i jk hi
    have hfl : (cs.flatMap cU ++ rest).length = n + rest.length := by rw [List.length_append, flatU_len, hm]
    by_cases h0 : (i : Int) < m
    case pos =>
      have hsr := shr64 v i (by omega)
      have hcv : IntKind.u8.wrap (v / 2 ^ (8 * i)) = bytw v i := rfl
      (repeat (first | ((refine (?_ : MX _ _ _ _ _ _ _ _ _ _ _)); first | refine mx_end ?_ | (refine mx_mv _ rfl rfl (by conv => {lhs; whnf}) ?_) | (refine mx_as _ rfl rfl (by conv => {lhs; whnf}) ?_) | (refine g_bin rfl ?_; first | ( (refine mx_cmpl .lss rfl rfl rfl rfl rfl (by exact cmp_lt_t (by omega) ) ?_) ) | (refine mx_ar rfl rfl rfl rfl rfl rfl (IntWalk.i64_in _ (by omega)) rfl ?_ ) | refine mx_sh rfl rfl rfl rfl rfl (by omega) (congrArg some (by assumption)) rfl rfl ?_ ) | (refine g_ix rfl ?_; refine mx_ixsn E rfl rfl rfl rfl rfl rfl (by omega) rfl ?_ ) | (refine g_store rfl ?_; refine s_1 E rfl rfl rfl rfl rfl rfl rfl rfl (by exact sp_put _ _ _ (by omega) ) rfl ?_) | (refine g_conv rfl ?_; refine mx_cv E rfl rfl rfl rfl rfl rfl (by assumption) rfl ?_ ) ) | refine cw_seq ?_ | refine cw_line rfl ?_ | refine cw_block ?_ | refine cw_cond_t rfl ?_ | refine cw_skip ?_ | refine pw_then ?_ | refine pw_block ?_ ))
      refine pw_round (i + 1) (by omega) (by omega) ⟨rfl, rfl, rfl, rfl, rfl, trivial⟩ (fun w h => h)
    case neg =>
      obtain rfl : i = m := by omega
      rw [put_all cs rest (g + p) v i (by omega)]
      (repeat (first | ((refine (?_ : MX _ _ _ _ _ _ _ _ _ _ _)); first | refine mx_end ?_ | (refine mx_mv _ rfl rfl (by conv => {lhs; whnf}) ?_) | (refine mx_as _ rfl rfl (by conv => {lhs; whnf}) ?_) | (refine g_bin rfl ?_; ( (refine mx_cmpl .lss rfl rfl rfl rfl rfl (by exact cmp_lt_f (by omega) ) ?_) ) ) ) | refine cw_seq ?_ | refine cw_line rfl ?_ | refine cw_cond_f rfl ?_ | refine cw_exit ?_ | refine cw_ret ?_ | refine pw_then ?_ | refine pw_then_x ?_ | refine pw_block_e ?_ ))
      exact pw_ret rfl rfl rfl rfl fun w hw => ⟨rfl, hw.keep, hw.holds 0 _ rfl⟩
theorem store49 (bp bd n cap g : Nat) (cs : List Int) (rest : List Value) (hm : cs.length = n) (hc : n ≤ cap) (hn : n ≤ 1000000) (hg : g ≤ n) (off size v : Int) (hne : bp ≠ bd) (w : World) (h : (row bp 100 (hdr bd n cap g)).holds w) (h2 : (row bd 5 (cs.flatMap cU ++ rest)).holds w) :
    Calls Try.prog 49 #[.pointer (some ⟨bp, 0, none⟩), .int .i64 off, .int .i64 size, .int .u64 v] w fun e w' => e = .returned (.bool (stP cs g off size v).1) ∧ Chg (row bd 5 (cs.flatMap cU ++ rest)).dom w w' ∧ (row bd 5 ((stP cs g off size v).2.flatMap cU ++ rest)).holds w' := by
  refine enter4 39 Try.func49 rfl rfl rfl (Ok.one h2 (row_lt h2)) ?_
  have hS0 : ¬ (row bd 5 (cs.flatMap cU ++ rest)).dom bp := hne
  unfold stP
  rw [hm]
  cases hok : okP n g off size with
  | false =>
    rw [if_neg (by simp)]
    (repeat (first | ((refine (?_ : MX _ _ _ _ _ _ _ _ _ _ _)); first | refine mx_end ?_ | (refine mx_mv _ rfl rfl (by conv => {lhs; whnf}) ?_) | (refine mx_as _ rfl rfl (by conv => {lhs; whnf}) ?_) ) | refine cw_seq ?_ | refine cw_line rfl ?_ | refine pw_then ?_ ))
    refine g_cf 76 rfl ?_
    refine a_callv rfl rfl rfl rfl Try.func76 rfl rfl rfl (.bool false) (fun w' hw => hok ▸ inside76 bp bd n cap g off size hn hg w' (hw.orow h hS0)) rfl ?_
    (repeat (first | ((refine (?_ : MX _ _ _ _ _ _ _ _ _ _ _)); first | refine mx_end ?_ | (refine mx_as _ rfl rfl (by conv => {lhs; whnf}) ?_) | (refine mx_not rfl rfl rfl ?_) ) | refine cw_seq ?_ | refine cw_line rfl ?_ | refine cw_cond_t rfl ?_ | refine cw_ret ?_ | refine pw_then ?_ | refine pw_then_r ?_ ))
    exact pw_ret rfl rfl rfl rfl fun w hw => ⟨rfl, hw.keep, hw.holds 0 _ rfl⟩
  | true =>
    rw [if_pos rfl]
    obtain ⟨p, m, rfl, rfl, k1, k2, k3, hsz⟩ := okP_spec hok
    simp only [Int.toNat_natCast]
    (repeat (first | ((refine (?_ : MX _ _ _ _ _ _ _ _ _ _ _)); first | refine mx_end ?_ | (refine mx_mv _ rfl rfl (by conv => {lhs; whnf}) ?_) | (refine mx_as _ rfl rfl (by conv => {lhs; whnf}) ?_) ) | refine cw_seq ?_ | refine cw_line rfl ?_ | refine pw_then ?_ ))
    refine g_cf 76 rfl ?_
    refine a_callv rfl rfl rfl rfl Try.func76 rfl rfl rfl (.bool true) (fun w' hw => hok ▸ inside76 bp bd n cap g p m hn hg w' (hw.orow h hS0)) rfl ?_
    (repeat (first | ((refine (?_ : MX _ _ _ _ _ _ _ _ _ _ _)); first | refine mx_end ?_ | (refine mx_as _ rfl rfl (by conv => {lhs; whnf}) ?_) | (refine mx_not rfl rfl rfl ?_) ) | refine cw_seq ?_ | refine cw_line rfl ?_ | refine cw_block ?_ | refine cw_cond_f rfl ?_ | refine cw_skip ?_ | refine pw_then ?_ ))
    refine cw_loop (fun i : Nat => [(9, .int .i64 i), (0, .pointer (some ⟨bp, 0, none⟩)), (1, .int .i64 p), (2, .int .i64 m), (3, .int .u64 v)]) (fun i => [row bd 5 (put (cs.flatMap cU ++ rest) (g + p) v i)]) (fun i => i ≤ m) (fun i => m - i) 0 (by omega) ⟨rfl, rfl, rfl, rfl, rfl, trivial⟩ (fun w h => by rw [put_zero]; exact h) ?_
    intro i jk hi
    have hfl : (cs.flatMap cU ++ rest).length = n + rest.length := by rw [List.length_append, flatU_len, hm]
    by_cases h0 : (i : Int) < m
    case pos =>
      have hsr := shr64 v i (by omega)
      have hcv : IntKind.u8.wrap (v / 2 ^ (8 * i)) = bytw v i := rfl
      (repeat (first | ((refine (?_ : MX _ _ _ _ _ _ _ _ _ _ _)); first | refine mx_end ?_ | (refine mx_mv _ rfl rfl (by conv => {lhs; whnf}) ?_) | (refine g_bin rfl ?_; ( (refine mx_cmpl .lss rfl rfl rfl rfl rfl (by exact cmp_lt_t (by omega) ) ?_) ) ) ) | refine cw_seq ?_ | refine cw_line rfl ?_ | refine cw_block ?_ | refine cw_cond_t rfl ?_ | refine cw_skip ?_ | refine pw_then ?_ ))
      refine cw_drawm [0, 1, 2, 3, 4, 5, 6, 7, 8, 9, 10, 11, 12, 13, 14, 15, 16, 17, 18, 19] (fun i => Nat.beq i 19) _ mixed (by kernel_rfl) (fun w h => h.nil) ?_
      (repeat (first | ((refine (?_ : MX _ _ _ _ _ _ _ _ _ _ _)); first | refine mx_end ?_ | (refine mx_mv _ rfl rfl (by conv => {lhs; whnf}) ?_) | (refine mx_as _ rfl rfl (by conv => {lhs; whnf}) ?_) | (first | refine mx_fa0 E rfl rfl rfl rfl ?_ | refine mx_fa E rfl rfl rfl rfl ?_) | (refine g_load rfl ?_; refine mx_orow E rfl rfl rfl rfl rfl (by assumption) (by assumption) (by rfl ) rfl ?_ ) | (refine g_bin rfl ?_; first | (refine mx_ar rfl rfl rfl rfl rfl rfl (IntWalk.i64_in _ (by omega)) rfl ?_ ) | refine mx_sh rfl rfl rfl rfl rfl (by omega) (congrArg some (by assumption)) rfl rfl ?_ ) | (refine g_ix rfl ?_; refine mx_ixsn E rfl rfl rfl rfl rfl rfl (by omega) rfl ?_ ) | (refine mx_nc rfl rfl rfl ?_) | (refine g_store rfl ?_; refine s_1 E rfl rfl rfl rfl rfl rfl rfl rfl (by exact sp_put' _ _ _ (by omega) ) rfl ?_) | (refine g_conv rfl ?_; first | refine mx_cv E rfl rfl rfl rfl rfl rfl (by assumption) rfl ?_ | refine mx_cv E rfl rfl rfl rfl rfl rfl (IntWalk.u64_in _ (by omega)) rfl ?_ ) ) | refine cw_line rfl ?_ | refine pw_then ?_ | refine pw_block ?_ ))
      refine pw_round (i + 1) (by omega) (by omega) ⟨rfl, rfl, rfl, rfl, rfl, trivial⟩ (fun w h => h)
    case neg =>
      obtain rfl : i = m := by omega
      rw [put_all cs rest (g + p) v i (by omega)]
      (repeat (first | ((refine (?_ : MX _ _ _ _ _ _ _ _ _ _ _)); first | refine mx_end ?_ | (refine mx_mv _ rfl rfl (by conv => {lhs; whnf}) ?_) | (refine mx_as _ rfl rfl (by conv => {lhs; whnf}) ?_) | (refine g_bin rfl ?_; ( (refine mx_cmpl .lss rfl rfl rfl rfl rfl (by exact cmp_lt_f (by omega) ) ?_) ) ) ) | refine cw_seq ?_ | refine cw_line rfl ?_ | refine cw_cond_f rfl ?_ | refine cw_exit ?_ | refine cw_ret ?_ | refine pw_then ?_ | refine pw_then_x ?_ | refine pw_block_e ?_ ))
      exact pw_ret rfl rfl rfl rfl fun w hw => ⟨rfl, hw.keep, hw.holds 0 _ rfl⟩
/-- What moving the beginning leaves. -/
def adP (n g : Nat) (d : Int) : Bool × Nat := if d < -(g : Int) ∨ (n : Int) - g < d then (false, g) else (true, ((g : Int) + d).toNat)
theorem adP_le {n g : Nat} (h : g ≤ n) (d : Int) : (adP n g d).2 ≤ n := by unfold adP; split <;> simp <;> omega
theorem adjust50 (bp bd n cap g : Nat) (hn : n ≤ 1000000) (hg : g ≤ n) (d : Int) (w : World) (h : (row bp 98 (hdr bd n cap g)).holds w) :
    Calls Try.prog 50 #[.pointer (some ⟨bp, 0, none⟩), .int .i64 d] w fun e w' => e = .returned (.bool (adP n g d).1) ∧ Chg (row bp 98 (hdr bd n cap g)).dom w w' ∧ (row bp 98 (hdr bd n cap (adP n g d).2)).holds w' := by
  refine enter2 26 Try.func50 rfl rfl rfl (Ok.one h (row_lt h)) ?_
  unfold adP
  by_cases h1 : d < -(g : Int)
  case pos =>
    rw [if_pos (.inl h1)]
    (repeat (first | ((refine (?_ : MX _ _ _ _ _ _ _ _ _ _ _)); first | refine mx_end ?_ | (refine mx_mv _ rfl rfl (by conv => {lhs; whnf}) ?_) | (refine mx_as _ rfl rfl (by conv => {lhs; whnf}) ?_) | ( refine mx_fa E rfl rfl rfl rfl ?_) | (refine g_load rfl ?_; refine mx_get E rfl rfl rfl rfl rfl (by rfl ) rfl ?_ ) | (refine g_bin rfl ?_; ( (refine mx_cmpl .lss rfl rfl rfl rfl rfl (by exact cmp_lt_t (by omega) ) ?_) ) ) | (refine mx_nc rfl rfl rfl ?_) | (refine mx_skip rfl rfl rfl ?_) | (refine g_pick rfl ?_; refine mx_ort rfl rfl rfl rfl rfl ?_ ) | (refine mx_negi rfl rfl rfl rfl (IntWalk.i64_in _ (by omega)) rfl ?_ ) ) | refine cw_seq ?_ | refine cw_line rfl ?_ | refine cw_cond_t rfl ?_ | refine cw_ret ?_ | refine pw_then ?_ | refine pw_then_r ?_ ))
    exact pw_ret rfl rfl rfl rfl fun w hw => ⟨rfl, hw.keep, hw.holds 0 _ rfl⟩
  by_cases h2 : (n : Int) - g < d
  case pos =>
    rw [if_pos (.inr h2)]
    (repeat (first | ((refine (?_ : MX _ _ _ _ _ _ _ _ _ _ _)); first | refine mx_end ?_ | (refine mx_mv _ rfl rfl (by conv => {lhs; whnf}) ?_) | (refine mx_as _ rfl rfl (by conv => {lhs; whnf}) ?_) | ( refine mx_fa E rfl rfl rfl rfl ?_) | (refine g_load rfl ?_; refine mx_get E rfl rfl rfl rfl rfl (by rfl ) rfl ?_ ) | (refine g_bin rfl ?_; ( (refine mx_cmpl .lss rfl rfl rfl rfl rfl (by exact cmp_lt_f (by omega) ) ?_) ) ) | (refine mx_nc rfl rfl rfl ?_) | (refine mx_negi rfl rfl rfl rfl (IntWalk.i64_in _ (by omega)) rfl ?_ ) ) | refine cw_seq ?_ | refine cw_line rfl ?_ | refine pw_then ?_ ))
    refine g_cf 52 rfl ?_
    refine a_callv rfl rfl rfl rfl Try.func52 rfl rfl rfl _ (fun w' hw => len52 bp bd n cap g hn hg w' (hw.holds 0 _ rfl)) rfl ?_
    (repeat (first | ((refine (?_ : MX _ _ _ _ _ _ _ _ _ _ _)); first | refine mx_end ?_ | (refine mx_as _ rfl rfl (by conv => {lhs; whnf}) ?_) | (refine g_bin rfl ?_; ( (refine mx_cmpl .gtr rfl rfl rfl rfl rfl (by exact cmp_gt_t (by omega) ) ?_) ) ) | (refine g_pick rfl ?_; refine mx_or rfl rfl rfl rfl rfl rfl ?_ ) ) | refine cw_seq ?_ | refine cw_line rfl ?_ | refine cw_cond_t rfl ?_ | refine cw_ret ?_ | refine pw_then ?_ | refine pw_then_r ?_ ))
    exact pw_ret rfl rfl rfl rfl fun w hw => ⟨rfl, hw.keep, hw.holds 0 _ rfl⟩
  case neg =>
    rw [if_neg (by omega)]
    have e : (((g : Int) + d).toNat : Int) = (g : Int) + d := by omega
    (repeat (first | ((refine (?_ : MX _ _ _ _ _ _ _ _ _ _ _)); first | refine mx_end ?_ | (refine mx_mv _ rfl rfl (by conv => {lhs; whnf}) ?_) | (refine mx_as _ rfl rfl (by conv => {lhs; whnf}) ?_) | ( refine mx_fa E rfl rfl rfl rfl ?_) | (refine g_load rfl ?_; refine mx_get E rfl rfl rfl rfl rfl (by rfl ) rfl ?_ ) | (refine g_bin rfl ?_; ( (refine mx_cmpl .lss rfl rfl rfl rfl rfl (by exact cmp_lt_f (by omega) ) ?_) ) ) | (refine mx_nc rfl rfl rfl ?_) | (refine mx_negi rfl rfl rfl rfl (IntWalk.i64_in _ (by omega)) rfl ?_ ) ) | refine cw_seq ?_ | refine cw_line rfl ?_ | refine pw_then ?_ ))
    refine g_cf 52 rfl ?_
    refine a_callv rfl rfl rfl rfl Try.func52 rfl rfl rfl _ (fun w' hw => len52 bp bd n cap g hn hg w' (hw.holds 0 _ rfl)) rfl ?_
    (repeat (first | ((refine (?_ : MX _ _ _ _ _ _ _ _ _ _ _)); first | refine mx_end ?_ | (refine mx_mv _ rfl rfl (by conv => {lhs; whnf}) ?_) | (refine mx_as _ rfl rfl (by conv => {lhs; whnf}) ?_) | ( refine mx_fa E rfl rfl rfl rfl ?_) | (refine g_load rfl ?_; refine mx_get E rfl rfl rfl rfl rfl (by rfl ) rfl ?_ ) | (refine g_bin rfl ?_; first | ( (refine mx_cmpl .gtr rfl rfl rfl rfl rfl (by first | exact cmp_gt_f (by omega) | rfl) ?_) ) | (refine mx_ar rfl rfl rfl rfl rfl rfl (IntWalk.i64_in _ (by omega)) rfl ?_ ) ) | (refine mx_nc rfl rfl rfl ?_) | (refine g_pick rfl ?_; refine mx_or rfl rfl rfl rfl rfl rfl ?_ ) | (refine g_store rfl ?_; refine s_1 E rfl rfl rfl rfl rfl rfl rfl rfl (by exact spS sp0 ) rfl ?_) ) | refine cw_seq ?_ | refine cw_line rfl ?_ | refine cw_cond_f rfl ?_ | refine cw_skip ?_ | refine cw_ret ?_ | refine pw_then ?_ ))
    refine pw_ret rfl rfl rfl rfl fun w hw => ⟨rfl, hw.keep, ?_⟩
    unfold hdr
    rw [e]
    exact hw.holds 0 _ rfl
theorem adjust51 (bp bd n cap g : Nat) (hn : n ≤ 1000000) (hg : g ≤ n) (d : Int) (w : World) (h : (row bp 100 (hdr bd n cap g)).holds w) :
    Calls Try.prog 51 #[.pointer (some ⟨bp, 0, none⟩), .int .i64 d] w fun e w' => e = .returned (.bool (adP n g d).1) ∧ Chg (row bp 100 (hdr bd n cap g)).dom w w' ∧ (row bp 100 (hdr bd n cap (adP n g d).2)).holds w' := by
  refine enter2 27 Try.func51 rfl rfl rfl (Ok.one h (row_lt h)) ?_
  unfold adP
  by_cases h1 : d < -(g : Int)
  case pos =>
    rw [if_pos (.inl h1)]
    (repeat (first | ((refine (?_ : MX _ _ _ _ _ _ _ _ _ _ _)); first | refine mx_end ?_ | (refine mx_mv _ rfl rfl (by conv => {lhs; whnf}) ?_) | (refine mx_as _ rfl rfl (by conv => {lhs; whnf}) ?_) | ( refine mx_fa E rfl rfl rfl rfl ?_) | (refine g_load rfl ?_; refine mx_get E rfl rfl rfl rfl rfl (by rfl ) rfl ?_ ) | (refine g_bin rfl ?_; ( (refine mx_cmpl .lss rfl rfl rfl rfl rfl (by exact cmp_lt_t (by omega) ) ?_) ) ) | (refine mx_nc rfl rfl rfl ?_) | (refine mx_skip rfl rfl rfl ?_) | (refine g_pick rfl ?_; refine mx_ort rfl rfl rfl rfl rfl ?_ ) | (refine mx_negi rfl rfl rfl rfl (IntWalk.i64_in _ (by omega)) rfl ?_ ) ) | refine cw_seq ?_ | refine cw_line rfl ?_ | refine cw_cond_t rfl ?_ | refine cw_ret ?_ | refine pw_then ?_ | refine pw_then_r ?_ ))
    exact pw_ret rfl rfl rfl rfl fun w hw => ⟨rfl, hw.keep, hw.holds 0 _ rfl⟩
  by_cases h2 : (n : Int) - g < d
  case pos =>
    rw [if_pos (.inr h2)]
    (repeat (first | ((refine (?_ : MX _ _ _ _ _ _ _ _ _ _ _)); first | refine mx_end ?_ | (refine mx_mv _ rfl rfl (by conv => {lhs; whnf}) ?_) | (refine mx_as _ rfl rfl (by conv => {lhs; whnf}) ?_) | ( refine mx_fa E rfl rfl rfl rfl ?_) | (refine g_load rfl ?_; refine mx_get E rfl rfl rfl rfl rfl (by rfl ) rfl ?_ ) | (refine g_bin rfl ?_; ( (refine mx_cmpl .lss rfl rfl rfl rfl rfl (by exact cmp_lt_f (by omega) ) ?_) ) ) | (refine mx_nc rfl rfl rfl ?_) | (refine mx_negi rfl rfl rfl rfl (IntWalk.i64_in _ (by omega)) rfl ?_ ) ) | refine cw_seq ?_ | refine cw_line rfl ?_ | refine pw_then ?_ ))
    refine g_cf 53 rfl ?_
    refine a_callv rfl rfl rfl rfl Try.func53 rfl rfl rfl _ (fun w' hw => len53 bp bd n cap g hn hg w' (hw.holds 0 _ rfl)) rfl ?_
    (repeat (first | ((refine (?_ : MX _ _ _ _ _ _ _ _ _ _ _)); first | refine mx_end ?_ | (refine mx_as _ rfl rfl (by conv => {lhs; whnf}) ?_) | (refine g_bin rfl ?_; ( (refine mx_cmpl .gtr rfl rfl rfl rfl rfl (by exact cmp_gt_t (by omega) ) ?_) ) ) | (refine g_pick rfl ?_; refine mx_or rfl rfl rfl rfl rfl rfl ?_ ) ) | refine cw_seq ?_ | refine cw_line rfl ?_ | refine cw_cond_t rfl ?_ | refine cw_ret ?_ | refine pw_then ?_ | refine pw_then_r ?_ ))
    exact pw_ret rfl rfl rfl rfl fun w hw => ⟨rfl, hw.keep, hw.holds 0 _ rfl⟩
  case neg =>
    rw [if_neg (by omega)]
    have e : (((g : Int) + d).toNat : Int) = (g : Int) + d := by omega
    (repeat (first | ((refine (?_ : MX _ _ _ _ _ _ _ _ _ _ _)); first | refine mx_end ?_ | (refine mx_mv _ rfl rfl (by conv => {lhs; whnf}) ?_) | (refine mx_as _ rfl rfl (by conv => {lhs; whnf}) ?_) | ( refine mx_fa E rfl rfl rfl rfl ?_) | (refine g_load rfl ?_; refine mx_get E rfl rfl rfl rfl rfl (by rfl ) rfl ?_ ) | (refine g_bin rfl ?_; ( (refine mx_cmpl .lss rfl rfl rfl rfl rfl (by exact cmp_lt_f (by omega) ) ?_) ) ) | (refine mx_nc rfl rfl rfl ?_) | (refine mx_negi rfl rfl rfl rfl (IntWalk.i64_in _ (by omega)) rfl ?_ ) ) | refine cw_seq ?_ | refine cw_line rfl ?_ | refine pw_then ?_ ))
    refine g_cf 53 rfl ?_
    refine a_callv rfl rfl rfl rfl Try.func53 rfl rfl rfl _ (fun w' hw => len53 bp bd n cap g hn hg w' (hw.holds 0 _ rfl)) rfl ?_
    (repeat (first | ((refine (?_ : MX _ _ _ _ _ _ _ _ _ _ _)); first | refine mx_end ?_ | (refine mx_mv _ rfl rfl (by conv => {lhs; whnf}) ?_) | (refine mx_as _ rfl rfl (by conv => {lhs; whnf}) ?_) | ( refine mx_fa E rfl rfl rfl rfl ?_) | (refine g_load rfl ?_; refine mx_get E rfl rfl rfl rfl rfl (by rfl ) rfl ?_ ) | (refine g_bin rfl ?_; first | ( (refine mx_cmpl .gtr rfl rfl rfl rfl rfl (by first | exact cmp_gt_f (by omega) | rfl) ?_) ) | (refine mx_ar rfl rfl rfl rfl rfl rfl (IntWalk.i64_in _ (by omega)) rfl ?_ ) ) | (refine mx_nc rfl rfl rfl ?_) | (refine g_pick rfl ?_; refine mx_or rfl rfl rfl rfl rfl rfl ?_ ) | (refine g_store rfl ?_; refine s_1 E rfl rfl rfl rfl rfl rfl rfl rfl (by exact spS sp0 ) rfl ?_) ) | refine cw_seq ?_ | refine cw_line rfl ?_ | refine cw_cond_f rfl ?_ | refine cw_skip ?_ | refine cw_ret ?_ | refine pw_then ?_ ))
    refine pw_ret rfl rfl rfl rfl fun w hw => ⟨rfl, hw.keep, ?_⟩
    unfold hdr
    rw [e]
    exact hw.holds 0 _ rfl
theorem ctx57 (w : World) : Calls Try.prog 57 #[] w fun e w' => e = .returned (.agg (cV ⟨5, 0, 0⟩).toArray) ∧ Grow w w' := by
  refine enter0 (S := fun _ => False) 2 Try.func57 rfl rfl rfl (Ok.start w) ?_
  (repeat (first | ((refine (?_ : MX _ _ _ _ _ _ _ _ _ _ _)); first | refine mx_end ?_ | (refine g_store rfl ?_; refine s_l E rfl rfl rfl rfl rfl rfl rfl (by exact Sp.all (by simp only [len_F, len_V, len_S]) ) rfl ?_ ) | (refine g_build rfl ?_; refine mx_build rfl rfl rfl rfl (b24_1 _) rfl ?_ ) | (refine a_new rfl rfl rfl rfl rfl (fun _ => ?_)) ) | refine cw_seq ?_ | refine cw_line rfl ?_ | refine cw_ret ?_ | refine pw_then ?_ ))
  exact pw_retc E (j := 0) rfl rfl rfl rfl rfl (len_V _) fun w hw => ⟨rfl, hw.keep.grow⟩
theorem num31 (n : Int) (w : World) : Calls Try.prog 31 #[.int .u64 n] w fun e w' => e = .returned (.agg (cV ⟨1, n, 0⟩).toArray) ∧ Grow w w' := by
  refine enter1 (S := fun _ => False) 5 Try.func31 rfl rfl rfl (Ok.start w) ?_
  (repeat (first | ((refine (?_ : MX _ _ _ _ _ _ _ _ _ _ _)); first | refine mx_end ?_ | (refine mx_mv _ rfl rfl (by conv => {lhs; whnf}) ?_) | (refine g_store rfl ?_; refine s_l E rfl rfl rfl rfl rfl rfl rfl (by exact Sp.all (by simp only [len_F, len_V, len_S]) ) rfl ?_ ) | (refine g_build rfl ?_; refine mx_build rfl rfl rfl rfl (b24_2 _ _) rfl ?_) | (refine a_new rfl rfl rfl rfl rfl (fun _ => ?_)) ) | refine cw_seq ?_ | refine cw_line rfl ?_ | refine cw_ret ?_ | refine pw_then ?_ ))
  exact pw_retc E (j := 0) rfl rfl rfl rfl rfl (len_V _) fun w hw => ⟨rfl, hw.keep.grow⟩
theorem new44n (ad : Option Addr) (m cap : Nat) (hm : 65535 < m) (hx : m ≤ 1000000) (w : World) : Calls Try.prog 44 #[.slice ad m cap] w fun e w' => e = .returned (.tuple #[.pointer none, .int .i64 3]) ∧ Grow w w' := by
  refine enter1 (S := fun _ => False) 19 Try.func44 rfl rfl rfl (Ok.start w) ?_
  (repeat (first | ((refine (?_ : MX _ _ _ _ _ _ _ _ _ _ _)); first | refine mx_end ?_ | (refine mx_mv _ rfl rfl (by conv => {lhs; whnf}) ?_) | (refine mx_as _ rfl rfl (by conv => {lhs; whnf}) ?_) | (refine g_bin rfl ?_; ( (refine mx_cmpl .gtr rfl rfl rfl rfl rfl (by exact cmp_gt_t (by omega) ) ?_) ) ) | (refine g_bi .len rfl ?_; refine mx_len E rfl rfl rfl rfl ?_) ) | refine cw_seq ?_ | refine cw_line rfl ?_ | refine cw_cond_t rfl ?_ | refine cw_ret ?_ | refine pw_then ?_ | refine pw_then_r ?_ ))
  exact pw_rets rfl [_, _] ⟨rfl, rfl, trivial⟩ rfl fun w hw => ⟨rfl, hw.keep.grow⟩
theorem new45n (ad : Option Addr) (m cap : Nat) (hm : 65535 < m) (hx : m ≤ 1000000) (w : World) : Calls Try.prog 45 #[.slice ad m cap] w fun e w' => e = .returned (.tuple #[.pointer none, .int .i64 3]) ∧ Grow w w' := by
  refine enter1 (S := fun _ => False) 12 Try.func45 rfl rfl rfl (Ok.start w) ?_
  (repeat (first | ((refine (?_ : MX _ _ _ _ _ _ _ _ _ _ _)); first | refine mx_end ?_ | (refine mx_mv _ rfl rfl (by conv => {lhs; whnf}) ?_) | (refine mx_as _ rfl rfl (by conv => {lhs; whnf}) ?_) | (refine g_bin rfl ?_; ( (refine mx_cmpl .gtr rfl rfl rfl rfl rfl (by exact cmp_gt_t (by omega) ) ?_) ) ) | (refine g_bi .len rfl ?_; refine mx_len E rfl rfl rfl rfl ?_) ) | refine cw_seq ?_ | refine cw_line rfl ?_ | refine cw_cond_t rfl ?_ | refine cw_ret ?_ | refine pw_then ?_ | refine pw_then_r ?_ ))
  exact pw_rets rfl [_, _] ⟨rfl, rfl, trivial⟩ rfl fun w hw => ⟨rfl, hw.keep.grow⟩
def zer (n : Nat) : List Int := List.replicate n 0
theorem zer_tab (n : Nat) : (tab n fun _ => [Value.int .u8 0]) = (zer n).flatMap cU := by
  induction n with
  | zero => rfl
  | succ n ih =>
    rw [tab_succ, ih]
    unfold zer
    rw [List.replicate_succ', List.flatMap_append]
    rfl
theorem new44s (ad : Option Addr) (m cap : Nat) (cs : List Int) (hcl : cs.length = m) (hm : m ≤ 65535) (w : World) (hl : InL w ad 1 cU cs) : Calls Try.prog 44 #[.slice ad m cap] w fun e w' => ∃ a : Nat × Nat, e = .returned (.tuple #[.pointer (some ⟨a.1, 0, none⟩), .int .i64 0]) ∧ Ok (domL []) w [row a.1 98 (hdr a.2 (64 + m) (64 + m) 64), row a.2 5 ((zer 64 ++ cs).flatMap cU ++ [])] w' := by
  have hmx : maxLen = 9223372036854775807 := rfl
  refine enter1 (S := domL []) 19 Try.func44 rfl rfl rfl (Ok.start w) ?_
  (repeat (first | ((refine (?_ : MX _ _ _ _ _ _ _ _ _ _ _)); first | refine mx_end ?_ | (refine mx_mv _ rfl rfl (by conv => {lhs; whnf}) ?_) | (refine mx_as _ rfl rfl (by conv => {lhs; whnf}) ?_) | (refine g_bin rfl ?_; first | ( (refine mx_cmpl .gtr rfl rfl rfl rfl rfl (by first | exact cmp_gt_f (by omega) | rfl) ?_) ) | (refine mx_ar rfl rfl rfl rfl rfl rfl (IntWalk.i64_in _ (by omega)) rfl ?_ ) ) | (refine g_bi .len rfl ?_; refine mx_len E rfl rfl rfl rfl ?_) ) | refine cw_seq ?_ | refine cw_line rfl ?_ | refine cw_cond_f rfl ?_ | refine cw_skip ?_ | refine pw_then ?_ ))
  refine a_make (p := 64 + m) (c := 64 + m) E rfl rfl rfl rfl (by rfl) (by rfl) rfl (by omega) (by omega) rfl (fun bd => ?_)
  rw [zer_tab]
  (repeat (first | ((refine (?_ : MX _ _ _ _ _ _ _ _ _ _ _)); first | refine mx_end ?_ | (refine mx_mv _ rfl rfl (by conv => {lhs; whnf}) ?_) | (refine mx_as _ rfl rfl (by conv => {lhs; whnf}) ?_) ) | refine cw_seq ?_ | refine cw_line rfl ?_ | refine pw_then ?_ ))
  have hS0 : ∀ b off, ad = some ⟨b, off, none⟩ → ¬ domL [] b := fun b off _ ⟨j, r, hj, _⟩ => by simp at hj
  have hsp : Sp ((zer (64 + m)).flatMap cU) (if m = 0 then 0 else 64) (cs.flatMap cU) ((zer 64 ++ cs).flatMap cU) := by
    have hz : zer (64 + m) = zer 64 ++ zer m := by unfold zer; rw [List.replicate_append_replicate]
    by_cases h0 : m = 0
    · subst h0
      obtain rfl : cs = [] := List.eq_nil_of_length_eq_zero hcl
      exact ⟨by simp, by simp [splice]⟩
    · rw [if_neg h0]
      refine ⟨by rw [flatU_len, flatU_len, hcl]; simp [zer], ?_⟩
      unfold splice
      rw [hz, List.flatMap_append, List.flatMap_append]
      have e1 : ((zer 64).flatMap cU).length = 64 := by rw [flatU_len]; simp [zer]
      rw [List.take_left' e1, List.drop_of_length_le (by rw [List.length_append, e1, flatU_len, flatU_len, hcl]; simp [zer]), List.append_nil]
  have hsl : sla (some ⟨bd, 0, none⟩) (64 + m) 64 1 = some ⟨bd, if m = 0 then 0 else 64, none⟩ := by
    unfold sla
    by_cases h0 : m = 0
    · subst h0; simp
    · rw [if_neg (by omega), if_neg h0]; simp [add_at]
  refine mx_slice_lo (p := 64) E rfl rfl rfl rfl (by rfl) rfl (by omega) rfl ?_
  rw [hsl, (by omega : 64 + m - 64 = m)]
  (repeat (((refine (?_ : MX _ _ _ _ _ _ _ _ _ _ _)); (refine mx_mv _ rfl rfl (by conv => {lhs; whnf}) ?_) ) ))
  refine g_bi .copy rfl ?_
  refine a_copyS E rfl rfl rfl rfl rfl rfl rfl (cs.flatMap cU) (by rw [flatU_len, hcl]; simp) (fun w hw => (hl.keep hw hS0).src len_U) (one_U cs) hsp (fun _ _ => trivial) rfl ?_
  (repeat (first | ((refine (?_ : MX _ _ _ _ _ _ _ _ _ _ _)); first | refine mx_end ?_ | (refine mx_mv _ rfl rfl (by conv => {lhs; whnf}) ?_) | (refine mx_as _ rfl rfl (by conv => {lhs; whnf}) ?_) | (refine g_build rfl ?_; refine mx_build rfl rfl rfl rfl (b98 _ _ _ _) rfl ?_ ) | (refine g_box rfl ?_; refine a_boxl rfl rfl rfl rfl rfl rfl (fun _ => ?_) ) ) | refine cw_seq ?_ | refine cw_line rfl ?_ | refine cw_ret ?_ | refine pw_then ?_ ))
  exact pw_rets rfl [_, _] ⟨rfl, rfl, trivial⟩ rfl fun w' hw => ⟨(_, bd), rfl, by rw [List.append_nil]; exact hw⟩
theorem new45s (ad : Option Addr) (m cap : Nat) (cs : List Int) (hcl : cs.length = m) (hm : m ≤ 65535) (w : World) (hl : InL w ad 1 cU cs) : Calls Try.prog 45 #[.slice ad m cap] w fun e w' => ∃ a : Nat × Nat × Nat × List Value, e = .returned (.tuple #[.pointer (some ⟨a.1, 0, none⟩), .int .i64 0]) ∧ 64 + m ≤ a.2.2.1 ∧ Ok (domL []) w [row a.1 100 (hdr a.2.1 (64 + m) a.2.2.1 64), row a.2.1 5 ((zer 64 ++ cs).flatMap cU ++ a.2.2.2)] w' := by
  have hmx : maxLen = 9223372036854775807 := rfl
  refine enter1 (S := domL []) 12 Try.func45 rfl rfl rfl (Ok.start w) ?_
  (repeat (first | ((refine (?_ : MX _ _ _ _ _ _ _ _ _ _ _)); first | refine mx_end ?_ | (refine mx_mv _ rfl rfl (by conv => {lhs; whnf}) ?_) | (refine mx_as _ rfl rfl (by conv => {lhs; whnf}) ?_) | (refine g_bin rfl ?_; ( (refine mx_cmpl .gtr rfl rfl rfl rfl rfl (by exact cmp_gt_f (by omega) ) ?_) ) ) | (refine g_bi .len rfl ?_; refine mx_len E rfl rfl rfl rfl ?_) ) | refine cw_seq ?_ | refine cw_line rfl ?_ | refine cw_cond_f rfl ?_ | refine cw_skip ?_ | refine pw_then ?_ ))
  refine a_make (p := 64) (c := 64) E rfl rfl rfl rfl (by rfl) (by rfl) rfl (by omega) (by omega) rfl (fun b0 => ?_)
  rw [zer_tab]
  refine mx_weak (H' := [ownd (some ⟨b0, 0, none⟩) 64 5 1 64 ((zer 64).flatMap cU)]) (fun w h => ok_close (xs := (zer 64).flatMap cU) (rest := []) 0 (by rw [List.append_nil]; rfl) (by rw [flatU_len]; simp [zer]) (by rw [List.append_nil, flatU_len]; simp [zer]) (by omega) (by omega) h) (fun _ _ => trivial) ?_
  (repeat (((refine (?_ : MX _ _ _ _ _ _ _ _ _ _ _)); (refine mx_mv _ rfl rfl (by conv => {lhs; whnf}) ?_) ) ))
  have hS0 : ∀ b off, ad = some ⟨b, off, none⟩ → ¬ domL [] b := fun b off _ ⟨j, r, hj, _⟩ => by simp at hj
  refine g_bi .append rfl ?_
  refine a_app E rfl rfl rfl rfl rfl rfl rfl rfl (cs.flatMap cU) (by rw [flatU_len, hcl]; omega) (fun w hw => (hl.keep hw hS0).src len_U) (one_U cs) (by omega) rfl (fun _ _ _ _ => trivial) (fun ad2 c2 => ?_)
  rw [← List.flatMap_append]
  (repeat (first | ((refine (?_ : MX _ _ _ _ _ _ _ _ _ _ _)); first | refine mx_end ?_ | (refine mx_as _ rfl rfl (by conv => {lhs; whnf}) ?_) | (refine g_build rfl ?_; refine mx_build rfl rfl rfl rfl (b100 _ _ _ _) rfl ?_ ) | (refine g_box rfl ?_; refine a_boxl rfl rfl rfl rfl rfl rfl (fun _ => ?_) ) ) | refine cw_ret ?_ | refine pw_then ?_ ))
  rename_i bp
  refine pw_know (p := 64 + m ≤ c2 ∧ ∃ bd, ad2 = some ⟨bd, 0, none⟩) (fun w hw => by
    obtain ⟨_, h2, h3⟩ := own_at (hw.holds 1 _ rfl)
    obtain ⟨bd, e, _⟩ := h2 (by omega)
    exact ⟨h3, bd, e⟩) fun hown => ?_
  obtain ⟨h3, bd, rfl⟩ := hown
  refine pw_ex (fun rest : List Value => [row bp 100 (hdr bd (64 + m) c2 64), row bd 5 ((zer 64 ++ cs).flatMap cU ++ rest)]) (fun _ => True) (fun w hw => by
    obtain ⟨rest, _, hk⟩ := ok_open (b := bd) 1 rfl hw
    exact ⟨rest, trivial, hk⟩) ?_
  intro rest _
  exact pw_rets rfl [_, _] ⟨rfl, rfl, trivial⟩ rfl fun w' hw => ⟨(bp, bd, c2, rest), rfl, h3, hw⟩
end Go.Proofs.Ytdimcafdmaidpaa
