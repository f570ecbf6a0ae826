/- Layer 7: what its functions leave, walked once each. -/
import Derived.Test.YtfekmflnfhjebaaEnv
import Derived.Test.YtfekmflnfhjebaaFlo
set_option maxRecDepth 100000
set_option maxHeartbeats 4000000
set_option linter.unusedSimpArgs false
set_option linter.unusedVariables false
namespace Go.Proofs.Ytfekmflnfhjebaa
open Go Go.Sx Go.RowKit
instance Cl.complex {k : FloatKind} {a b : Nat} {us : List Value} {m : Nat} [h : Cl us m] : Cl (.complex k a b :: us) (m + 1) := ⟨by simp [h.len], by simp [h.one]; rfl⟩
/-- A beat: how far its arrows lead, how often it was written, when it was last. -/
structure Bt where
  x : Int
  y : Int
  n : Nat
  last : Int
@[reducible] def cBt (b : Bt) : List Value := [.complex .f64 (fe b.x) (fe b.y), .int .i64 b.n, .int .i64 b.last]
def Bt.ok (b : Bt) : Prop := b.x.natAbs + b.y.natAbs ≤ b.n
def Bt.o : Bt := ⟨0, 0, 0, 0⟩
def four (now : Int) : Nat := (now % 4).toNat
def Bt.wr (b : Bt) (now : Int) : Bt := ⟨b.x + dx (four now), b.y + dy (four now), b.n + 1, now⟩
def Bt.sway (b : Bt) : Int := (b.x.natAbs : Int) + b.y.natAbs
theorem four_lt (now : Int) : four now < 4 := by unfold four; have := Int.emod_lt_of_pos now (show (0 : Int) < 4 by decide); omega
theorem and3 (a : Int) : IntKind.i64.wrap ((BitVec.ofInt 64 a) &&& (BitVec.ofInt 64 3)).toNat = (four a : Int) := by
  have h1 : ((BitVec.ofInt 64 a) &&& (BitVec.ofInt 64 3)).toNat = (BitVec.ofInt 64 a).toNat % 4 := by
    rw [BitVec.toNat_and]
    have : (BitVec.ofInt 64 3).toNat = 2 ^ 2 - 1 := by decide
    rw [this, Nat.and_two_pow_sub_one_eq_mod]
  rw [h1, BitVec.toNat_ofInt]
  unfold four
  have h2 : ((a % ((2 ^ 64 : Nat) : Int)).toNat % 4 : Nat) = (a % 4).toNat := by
    have e : (a % 4) = (a % ((2 ^ 64 : Nat) : Int)) % 4 := by
      omega
    rw [e]
    have : 0 ≤ a % ((2 ^ 64 : Nat) : Int) := Int.emod_nonneg _ (by decide)
    omega
  rw [h2]
  have h3 := four_lt a
  unfold four at h3
  exact IntWalk.i64_in _ (by omega)
theorem arrow57 (now : Int) (w : World) : Calls Try.prog 57 #[.int .i64 now] w fun e w' => e = .returned (.complex .f64 (aw (four now)).1 (aw (four now)).2) ∧ Grow w w' := by
  refine enter1 (S := fun _ => False) 12 Try.func57 rfl rfl rfl (Ok.start w) ?_
  have a3 := and3 now
  (repeat (first | ((refine (?_ : MX _ _ _ _ _ _ _ _ _ _ _)); first | refine mx_end ?_ | (refine mx_mv _ rfl rfl (by conv => {lhs; whnf}) ?_) | (refine mx_as _ rfl rfl (by conv => {lhs; whnf}) ?_) | (refine g_bin rfl ?_; refine mx_bit rfl rfl rfl rfl rfl (congrArg some (by assumption)) rfl rfl ?_ ) ) | refine cw_seq ?_ | refine cw_line rfl ?_ | refine cw_block ?_ | refine pw_then ?_ ))
  refine cw_loop (fun i : Nat => [(6, .int .i64 i), (5, .int .i64 (four now)), (3, .complex .f64 (aw i).1 (aw i).2)]) (fun i => []) (fun i => i ≤ four now) (fun i => four now - i) 0 (by omega) ⟨rfl, rfl, by simp only [aw, fe_0, fe_1]; rfl, trivial⟩ (fun w h => h) ?_
  intro i jk hi
  (repeat (first | ((refine (?_ : MX _ _ _ _ _ _ _ _ _ _ _)); first | refine mx_end ?_ | (refine g_bin rfl ?_; ( (refine mx_cmpl .lss rfl rfl rfl rfl rfl (by rfl) ?_) ) ) ) | refine cw_seq ?_ | refine cw_line rfl ?_ | refine pw_then ?_ ))
  refine cw_cond rfl (fun ht => ?_) (fun hf => ?_); (try simp only [decide_eq_true_eq, decide_eq_false_iff_not, Bool.not_eq_true', Bool.not_eq_false', beq_iff_eq, beq_eq_false_iff_ne, bne_iff_ne, bne_eq_false_iff_eq, Bool.and_eq_true, Bool.or_eq_true, Bool.or_eq_false_iff, Bool.not_eq_true, ne_eq, Bool.true_and, Bool.false_and, Bool.true_or, Bool.false_or, Bool.and_true, Bool.or_false, ge_iff_le, gt_iff_lt] at ht); rotate_left; (try simp only [decide_eq_true_eq, decide_eq_false_iff_not, Bool.not_eq_true', Bool.not_eq_false', beq_iff_eq, beq_eq_false_iff_ne, bne_iff_ne, bne_eq_false_iff_eq, Bool.and_eq_true, Bool.or_eq_true, Bool.or_eq_false_iff, Bool.not_eq_true, ne_eq, Bool.true_and, Bool.false_and, Bool.true_or, Bool.false_or, Bool.and_true, Bool.or_false, ge_iff_le, gt_iff_lt] at hf); rotate_right
  · (repeat (first | ((refine (?_ : MX _ _ _ _ _ _ _ _ _ _ _)); (refine mx_mv _ rfl rfl (by conv => {lhs; whnf}) ?_) ) | refine cw_seq ?_ | refine cw_line rfl ?_ | refine cw_block ?_ | refine cw_skip ?_ | refine pw_then ?_ ))
    have h4 := four_lt now
    have h3 := aw_succ (k := i) (by omega)
    rw [fe_0, fe_1] at h3
    refine mx_mulc rfl rfl rfl rfl rfl h3 rfl ?_
    (repeat (first | ((refine (?_ : MX _ _ _ _ _ _ _ _ _ _ _)); first | refine mx_end ?_ | (refine mx_mv _ rfl rfl (by conv => {lhs; whnf}) ?_) | (refine mx_as _ rfl rfl (by conv => {lhs; whnf}) ?_) | (refine g_bin rfl ?_; (refine mx_ar rfl rfl rfl rfl rfl rfl (IntWalk.i64_in _ (by omega)) rfl ?_ ) ) ) | refine cw_line rfl ?_ | refine pw_then ?_ | refine pw_block ?_ ))
    refine pw_round (i + 1) (by omega) (by omega) ⟨rfl, rfl, rfl, trivial⟩ (fun w h => ?_)
    exact h
  · obtain rfl : i = four now := by omega
    (repeat (first | ((refine (?_ : MX _ _ _ _ _ _ _ _ _ _ _)); first | refine mx_end ?_ | (refine mx_mv _ rfl rfl (by conv => {lhs; whnf}) ?_) | (refine mx_as _ rfl rfl (by conv => {lhs; whnf}) ?_) ) | refine cw_seq ?_ | refine cw_line rfl ?_ | refine cw_exit ?_ | refine cw_ret ?_ | refine pw_then ?_ | refine pw_then_x ?_ | refine pw_block_e ?_ ))
    exact pw_ret rfl rfl rfl rfl fun w hw => ⟨rfl, hw.keep.grow⟩

theorem b25_0 : Blt Try.prog 25 [] (cBt Bt.o) := ⟨by kernel_rfl⟩
theorem b25_3 (p q : Nat) (n m : Int) : Blt Try.prog 25 [(0, .complex .f64 p q), (1, .int .i64 n), (2, .int .i64 m)] [.complex .f64 p q, .int .i64 n, .int .i64 m] := ⟨by kernel_rfl⟩
theorem b33_0 : Blt Try.prog 33 [] [.slice none 0 0] := ⟨by kernel_rfl⟩
theorem b33_1 (ad : Option Addr) (m c : Nat) : Blt Try.prog 33 [(0, .slice ad m c)] [.slice ad m c] := ⟨by kernel_rfl⟩
attribute [instance] ze25 ze33
instance Cl.slice {ad : Option Addr} {a b : Nat} {us : List Value} {m : Nat} [h : Cl us m] : Cl (.slice ad a b :: us) (m + 1) := ⟨by simp [h.len], by simp [h.one]; rfl⟩
theorem new18 (w : World) : Calls Try.prog 18 #[] w fun e w' => e = .returned (.agg (cBt Bt.o).toArray) ∧ Grow w w' := by
  refine enter0 (S := fun _ => False) 2 Try.func18 rfl rfl rfl (Ok.start w) ?_
  (repeat (first | ((refine (?_ : MX _ _ _ _ _ _ _ _ _ _ _)); first | refine mx_end ?_ | (refine g_store rfl ?_; refine s_l E rfl rfl rfl rfl rfl rfl rfl (by exact Sp.lit rfl rfl) rfl ?_ ) | (refine g_build rfl ?_; refine mx_build rfl rfl rfl rfl b25_0 rfl ?_ ) | (refine a_new rfl rfl rfl rfl rfl (fun _ => ?_)) ) | refine cw_seq ?_ | refine cw_line rfl ?_ | refine cw_ret ?_ | refine pw_then ?_ ))
  exact pw_retc E (j := 0) rfl rfl rfl rfl rfl rfl fun w hw => ⟨rfl, hw.keep.grow⟩
theorem writes22 (b : Bt) (w : World) : Calls Try.prog 22 #[.agg (cBt b).toArray] w fun e w' => e = .returned (.int .i64 b.n) ∧ Grow w w' := by
  refine enter1 (S := fun _ => False) 5 Try.func22 rfl rfl rfl (Ok.start w) ?_
  (repeat (first | ((refine (?_ : MX _ _ _ _ _ _ _ _ _ _ _)); first | refine mx_end ?_ | (refine mx_as _ rfl rfl (by conv => {lhs; whnf}) ?_) | ( refine mx_fa E rfl rfl rfl rfl ?_) | (refine g_load rfl ?_; refine mx_get E rfl rfl rfl rfl rfl (by rfl) rfl ?_ ) | (refine g_box rfl ?_; refine a_boxl rfl rfl rfl rfl rfl rfl (fun _ => ?_) ) ) | refine cw_seq ?_ | refine cw_line rfl ?_ | refine cw_ret ?_ | refine pw_then ?_ ))
  exact pw_ret rfl rfl rfl rfl fun w hw => ⟨rfl, hw.keep.grow⟩
theorem sway16 (b : Bt) (hb : b.ok) (hn : b.n ≤ 1000) (w : World) : Calls Try.prog 16 #[.agg (cBt b).toArray] w fun e w' => e = .returned (.int .i64 b.sway) ∧ Grow w w' := by
  unfold Bt.ok at hb
  refine enter1 (S := fun _ => False) 21 Try.func16 rfl rfl rfl (Ok.start w) ?_
  (repeat (first | ((refine (?_ : MX _ _ _ _ _ _ _ _ _ _ _)); first | refine mx_end ?_ | (refine mx_mv _ rfl rfl (by conv => {lhs; whnf}) ?_) | (refine mx_as _ rfl rfl (by conv => {lhs; whnf}) ?_) | (refine mx_fa0 E rfl rfl rfl rfl ?_ ) | (refine g_load rfl ?_; refine mx_get E rfl rfl rfl rfl rfl (by rfl) rfl ?_ ) | (refine g_box rfl ?_; refine a_boxl rfl rfl rfl rfl rfl rfl (fun _ => ?_) ) | (first | refine mx_real rfl rfl rfl rfl rfl ?_ | refine mx_imag rfl rfl rfl rfl rfl ?_ | refine mx_negf rfl rfl rfl rfl rfl ?_ | refine mx_maxf rfl rfl rfl rfl rfl (by omega) rfl ?_ | refine mx_addf rfl rfl rfl rfl rfl (by omega) rfl ?_ | refine mx_f2i' E rfl rfl rfl rfl rfl rfl (by omega) rfl ?_) ) | refine cw_seq ?_ | refine cw_line rfl ?_ | (refine cw_drawq mixed rfl (by kernel_rfl) rfl ?_) | refine cw_ret ?_ | refine pw_then ?_ ))
  exact pw_ret rfl rfl rfl rfl fun w hw => ⟨rfl, hw.keep.grow⟩

def u64 (a : Int) : Int := IntKind.u64.wrap a
/-- What is asked of a number of writes, the last of them, and how far they lead. -/
def std (n : Nat) (sw last now : Int) : Bool := decide ((n : Int) < 3) || (decide (last < now) && decide (4 + n - sw ≤ u64 (u64 now - u64 last)))
def Bt.std (b : Bt) (now : Int) : Bool := Go.Proofs.Ytfekmflnfhjebaa.std b.n b.sway b.last now
theorem steady17 (b : Bt) (now : Int) (hb : b.ok) (hn : b.n ≤ 1000) (w : World) : Calls Try.prog 17 #[.agg (cBt b).toArray, .int .i64 now] w fun e w' => e = .returned (.bool (b.std now)) ∧ Grow w w' := by
  unfold Bt.std std
  have hb' := hb
  unfold Bt.ok at hb'
  have hs : b.sway = (b.x.natAbs : Int) + b.y.natAbs := rfl
  refine enter2 (S := fun _ => False) 30 Try.func17 rfl rfl rfl (Ok.start w) ?_
  (repeat (first | ((refine (?_ : MX _ _ _ _ _ _ _ _ _ _ _)); first | refine mx_end ?_ | (refine mx_as _ rfl rfl (by conv => {lhs; whnf}) ?_) | ( refine mx_fa E rfl rfl rfl rfl ?_) | (refine g_load rfl ?_; refine mx_get E rfl rfl rfl rfl rfl (by rfl) rfl ?_ ) | (refine g_bin rfl ?_; ( (refine mx_cmpl .lss rfl rfl rfl rfl rfl (by rfl) ?_) ) ) | (refine g_box rfl ?_; refine a_boxl rfl rfl rfl rfl rfl rfl (fun _ => ?_) ) ) | refine cw_seq ?_ | refine cw_line rfl ?_ | refine pw_then ?_ ))
  refine cw_cond rfl (fun ht => ?_) (fun hf => ?_); (try simp only [decide_eq_true_eq, decide_eq_false_iff_not, Bool.not_eq_true', Bool.not_eq_false', beq_iff_eq, beq_eq_false_iff_ne, bne_iff_ne, bne_eq_false_iff_eq, Bool.and_eq_true, Bool.or_eq_true, Bool.or_eq_false_iff, Bool.not_eq_true, ne_eq, Bool.true_and, Bool.false_and, Bool.true_or, Bool.false_or, Bool.and_true, Bool.or_false, ge_iff_le, gt_iff_lt] at ht); rotate_left; (try simp only [decide_eq_true_eq, decide_eq_false_iff_not, Bool.not_eq_true', Bool.not_eq_false', beq_iff_eq, beq_eq_false_iff_ne, bne_iff_ne, bne_eq_false_iff_eq, Bool.and_eq_true, Bool.or_eq_true, Bool.or_eq_false_iff, Bool.not_eq_true, ne_eq, Bool.true_and, Bool.false_and, Bool.true_or, Bool.false_or, Bool.and_true, Bool.or_false, ge_iff_le, gt_iff_lt] at hf); rotate_right
  · (repeat (first | ((refine (?_ : MX _ _ _ _ _ _ _ _ _ _ _)); first | refine mx_end ?_ | (refine mx_as _ rfl rfl (by conv => {lhs; whnf}) ?_) ) | refine cw_seq ?_ | refine cw_line rfl ?_ | refine cw_ret ?_ | refine pw_then ?_ | refine pw_then_r ?_ ))
    refine pw_ret (v := .bool true) rfl rfl rfl rfl fun w hw => ⟨?_, hw.keep.grow⟩
    simp [ht]
  · (repeat (first | ((refine (?_ : MX _ _ _ _ _ _ _ _ _ _ _)); first | refine mx_end ?_ | (refine mx_mv _ rfl rfl (by conv => {lhs; whnf}) ?_) | (refine mx_as _ rfl rfl (by conv => {lhs; whnf}) ?_) | ( refine mx_fa E rfl rfl rfl rfl ?_) | (refine g_load rfl ?_; first | refine mx_get E rfl rfl rfl rfl rfl (by rfl) rfl ?_ | refine mx_getn E rfl rfl rfl rfl rfl (by exact Vr.all rfl ) rfl ?_ ) | (refine g_bin rfl ?_; first | ( (refine mx_cmpl .gtr rfl rfl rfl rfl rfl (by rfl) ?_) ) | (refine mx_ar rfl rfl rfl rfl rfl rfl (IntWalk.i64_in _ (by omega)) rfl ?_ ) ) | (refine g_conv rfl ?_; refine mx_cv E rfl rfl rfl rfl rfl rfl (IntWalk.u64_in _ (by omega)) rfl ?_ ) | (refine g_call rfl ?_; (refine g_cf 16 rfl ?_; refine mx_call rfl rfl rfl Try.func16 rfl rfl rfl _ (fun w => sway16 _ (by assumption) (by omega) w) rfl ?_) )) | refine cw_seq ?_ | refine cw_line rfl ?_ | (refine cw_drawq mixed rfl (by kernel_rfl) rfl ?_) | refine cw_skip ?_ | refine pw_then ?_ ))
    have hf' : decide ((b.n : Int) < 3) = false := by simp; omega
    rw [hf', Bool.false_or]
    cases h0 : decide (b.last < now)
    · (repeat (first | ((refine (?_ : MX _ _ _ _ _ _ _ _ _ _ _)); first | refine mx_end ?_ | (refine mx_as _ rfl rfl (by conv => {lhs; whnf}) ?_) | (refine mx_skip rfl rfl rfl ?_) | (refine g_pick rfl ?_; refine mx_andf rfl rfl rfl rfl rfl ?_ ) ) | refine cw_ret ?_ | refine pw_then ?_ ))

      exact pw_ret rfl rfl rfl rfl fun w hw => ⟨rfl, hw.keep.grow⟩
    · (repeat (first | ((refine (?_ : MX _ _ _ _ _ _ _ _ _ _ _)); first | refine mx_end ?_ | (refine mx_mv _ rfl rfl (by conv => {lhs; whnf}) ?_) | (refine mx_as _ rfl rfl (by conv => {lhs; whnf}) ?_) | ( refine mx_fa E rfl rfl rfl rfl ?_) | (refine g_load rfl ?_; refine mx_get E rfl rfl rfl rfl rfl (by rfl) rfl ?_ ) | (refine g_bin rfl ?_; first | ( (refine mx_cmpl .geq rfl rfl rfl rfl rfl (by rfl) ?_)) | ( refine mx_ar rfl rfl rfl rfl rfl rfl rfl rfl ?_) ) | (refine g_pick rfl ?_; refine mx_and rfl rfl rfl rfl rfl rfl ?_ ) | (refine g_conv rfl ?_; refine mx_cv E rfl rfl rfl rfl rfl rfl rfl rfl ?_) ) | refine cw_ret ?_ | refine pw_then ?_ ))
      exact pw_ret rfl rfl rfl rfl fun w hw => ⟨rfl, hw.keep.grow⟩
theorem Bt.wr_ok {b : Bt} (h : b.ok) (now : Int) : (b.wr now).ok := by
  unfold Bt.ok Bt.wr at *
  have h4 := four_lt now
  generalize four now = k at *
  match k, h4 with
  | 0, _ => simp [dx, dy]; omega
  | 1, _ => simp [dx, dy]; omega
  | 2, _ => simp [dx, dy]; omega
  | 3, _ => simp [dx, dy]; omega
theorem write19 (b : Bt) (now : Int) (hb : b.ok) (hn : b.n ≤ 999) (w : World) : Calls Try.prog 19 #[.agg (cBt b).toArray, .int .i64 now] w fun e w' => e = .returned (.agg (cBt (b.wr now)).toArray) ∧ Grow w w' := by
  unfold Bt.ok at hb
  refine enter2 (S := fun _ => False) 15 Try.func19 rfl rfl rfl (Ok.start w) ?_
  (repeat (first | ((refine (?_ : MX _ _ _ _ _ _ _ _ _ _ _)); first | refine mx_end ?_ | (refine a_new rfl rfl rfl rfl rfl (fun _ => ?_)) | (refine g_box rfl ?_; refine a_boxl rfl rfl rfl rfl rfl rfl (fun _ => ?_) ) ) | refine cw_seq ?_ | refine cw_line rfl ?_ | refine pw_then ?_ ))
  refine cw_drawm [0, 1, 2, 3, 4, 5, 6, 7, 8, 9, 10] (fun i => Nat.beq i 10) _ mixed (by kernel_rfl) (fun w h => h.only 1 rfl) ?_
  (repeat (((refine (?_ : MX _ _ _ _ _ _ _ _ _ _ _)); first | (refine mx_mv _ rfl rfl (by conv => {lhs; whnf}) ?_) | (refine mx_fa0 E rfl rfl rfl rfl ?_ ) | (refine g_load rfl ?_; refine mx_get E rfl rfl rfl rfl rfl (by rfl) rfl ?_ ) | (refine g_call rfl ?_; (refine g_cf 57 rfl ?_; refine mx_call rfl rfl rfl Try.func57 rfl rfl rfl _ (fun w => arrow57 _ w) rfl ?_) )) ))
  refine mx_addc rfl rfl rfl rfl rfl (aw_add (four_lt now) (by omega) (by omega)) rfl ?_
  (repeat (first | ((refine (?_ : MX _ _ _ _ _ _ _ _ _ _ _)); first | refine mx_end ?_ | (refine mx_mv _ rfl rfl (by conv => {lhs; whnf}) ?_) | ( refine mx_fa E rfl rfl rfl rfl ?_) | (refine g_load rfl ?_; refine mx_get E rfl rfl rfl rfl rfl (by rfl) rfl ?_ ) | (refine g_bin rfl ?_; (refine mx_ar rfl rfl rfl rfl rfl rfl (IntWalk.i64_in _ (by omega)) rfl ?_ ) ) | (refine g_store rfl ?_; refine s_l E rfl rfl rfl rfl rfl rfl rfl (by exact Sp.lit rfl rfl) rfl ?_ ) | (refine g_build rfl ?_; refine mx_build rfl rfl rfl rfl (b25_3 _ _ _ _) rfl ?_ ) ) | refine cw_ret ?_ | refine pw_then ?_ ))
  exact pw_retc E (j := 0) rfl rfl rfl rfl rfl rfl fun w hw => ⟨rfl, hw.keep.grow⟩

@[reducible] def cI (a : Int) : List Value := [.int .i64 a]
def wrs (l : List Int) : Bt := l.foldl Bt.wr Bt.o
theorem wrs_succ (l : List Int) (i : Nat) (x : Int) (h : l[i]? = some x) : (wrs (l.take i)).wr x = wrs (l.take (i + 1)) := by
  rw [List.take_add_one, h]
  simp [wrs]
theorem wrs_n (l : List Int) : (wrs l).n = l.length := by
  have : ∀ (l : List Int) (b : Bt), (l.foldl Bt.wr b).n = b.n + l.length := by
    intro l
    induction l with
    | nil => intro b; rfl
    | cons a l ih => intro b; rw [List.foldl_cons, ih]; simp [Bt.wr]; omega
  rw [wrs, this]; simp [Bt.o]
theorem wrs_ok (l : List Int) : (wrs l).ok := by
  have : ∀ (l : List Int) (b : Bt), b.ok → (l.foldl Bt.wr b).ok := by
    intro l
    induction l with
    | nil => intro b h; exact h
    | cons a l ih => intro b h; exact ih _ (Bt.wr_ok h a)
  exact this l _ (by simp [Bt.ok, Bt.o])
theorem written15 (ad : Option Addr) (cap : Nat) (l : List Int) (hmax : l.length ≤ maxLen) (w : World) (hl : InL w ad 1 cI l) : Calls Try.prog 15 #[.slice ad l.length cap] w fun e w' => e = .returned (.agg (cBt (wrs (l.take 300))).toArray) ∧ Grow w w' := by
  have hmx : maxLen = 9223372036854775807 := rfl
  refine enter1 (S := fun _ => False) 23 Try.func15 rfl rfl rfl (Ok.start w) ?_
  (repeat (first | ((refine (?_ : MX _ _ _ _ _ _ _ _ _ _ _)); first | refine mx_end ?_ | (refine mx_as _ rfl rfl (by conv => {lhs; whnf}) ?_) | (refine g_store rfl ?_; refine s_l E rfl rfl rfl rfl rfl rfl rfl (by exact Sp.lit rfl rfl) rfl ?_ ) | (refine a_new rfl rfl rfl rfl rfl (fun _ => ?_)) | (refine g_call rfl ?_; (refine g_cf 18 rfl ?_; refine mx_call rfl rfl rfl Try.func18 rfl rfl rfl _ (fun w => new18 w) rfl ?_) )) | refine cw_seq ?_ | refine cw_line rfl ?_ | refine cw_block ?_ | refine pw_then ?_ ))
  rename_i b2 b3
  refine cw_loop (fun i : Nat => [(4, .int .i64 i), (3, .pointer (some ⟨b3, 0, none⟩)), (2, .pointer (some ⟨b2, 0, none⟩)), (0, .slice ad l.length cap)]) (fun i => [row b3 25 (cBt (wrs (l.take i))), row b2 25 (cBt Bt.o)]) (fun i => i ≤ l.length ∧ i ≤ 300) (fun i => 300 - i) 0 (by omega) ⟨rfl, rfl, rfl, rfl, trivial⟩ (fun w h => h) ?_
  intro i jk hi
  have hn := wrs_n (l.take i)
  have ho := wrs_ok (l.take i)
  rw [List.length_take] at hn
  (repeat (first | ((refine (?_ : MX _ _ _ _ _ _ _ _ _ _ _)); first | (refine mx_mv _ rfl rfl (by conv => {lhs; whnf}) ?_) | (refine g_bin rfl ?_; ( (refine mx_cmpl .lss rfl rfl rfl rfl rfl (by rfl) ?_) ) ) | (refine g_bi .len rfl ?_; refine mx_len E rfl rfl rfl rfl ?_) ) | refine cw_seq ?_ | refine cw_line rfl ?_ ))
  cases h0 : decide ((i : Int) < l.length)
  · (repeat (first | ((refine (?_ : MX _ _ _ _ _ _ _ _ _ _ _)); first | refine mx_end ?_ | (refine g_load rfl ?_; refine mx_getn E rfl rfl rfl rfl rfl (by exact Vr.all rfl ) rfl ?_ ) | (refine mx_skip rfl rfl rfl ?_) | (refine g_pick rfl ?_; refine mx_andf rfl rfl rfl rfl rfl ?_ ) | (refine g_store rfl ?_; refine s_l E rfl rfl rfl rfl rfl rfl rfl (by exact Sp.lit rfl rfl) rfl ?_ ) ) | refine cw_seq ?_ | refine cw_line rfl ?_ | refine cw_cond_f rfl ?_ | refine cw_exit ?_ | refine cw_ret ?_ | refine pw_then ?_ | refine pw_then_x ?_ | refine pw_block_e ?_ ))
    obtain rfl : i = l.length := by simp at h0; omega
    rw [List.take_of_length_le (Nat.le_refl _)]
    have e : l.take 300 = l := List.take_of_length_le (by omega)
    rw [e]
    (repeat (first | ((refine (?_ : MX _ _ _ _ _ _ _ _ _ _ _)); first | refine mx_end ?_ | (refine mx_mv _ rfl rfl (by conv => {lhs; whnf}) ?_) | (refine mx_as _ rfl rfl (by conv => {lhs; whnf}) ?_) | (first | refine mx_fa0 E rfl rfl rfl rfl ?_ | refine mx_fa E rfl rfl rfl rfl ?_) | (refine g_load rfl ?_; first | refine mx_get E rfl rfl rfl rfl rfl (by rfl) rfl ?_ | refine mx_getn E rfl rfl rfl rfl rfl (by first | exact Vr.all rfl | exact ⟨⟨rfl⟩, rfl⟩) rfl ?_ | refine mx_oldn E rfl rfl rfl rfl rfl (by assumption) (by assumption) (rfl) rfl ?_ | refine mx_old1 E rfl rfl rfl rfl rfl (by assumption) (by assumption) rfl ?_ | refine mx_orow E rfl rfl rfl rfl rfl (by assumption) (by assumption) (by rfl) rfl ?_ | refine mx_orown E rfl rfl rfl rfl rfl (by assumption) (by assumption) (by first | exact Vr.all rfl | exact ⟨⟨rfl⟩, rfl⟩) rfl ?_ | refine mx_geta E rfl rfl rfl rfl rfl rfl (by rfl) rfl ?_ | refine mx_getna E rfl rfl rfl rfl rfl rfl (by first | exact Vr.all rfl | exact ⟨⟨rfl⟩, rfl⟩) rfl ?_) | (refine g_bin rfl ?_; first | (first | (refine mx_cmpl .eql rfl rfl rfl rfl rfl (by first | exact cmp_eq_t (by omega) | exact cmp_eq_f (by omega) | rfl) ?_) | (refine mx_cmpl .neq rfl rfl rfl rfl rfl (by first | exact cmp_ne_t (by omega) | exact cmp_ne_f (by omega) | rfl) ?_) | (refine mx_cmpl .lss rfl rfl rfl rfl rfl (by first | exact cmp_lt_t (by omega) | exact cmp_lt_f (by omega) | rfl) ?_) | (refine mx_cmpl .leq rfl rfl rfl rfl rfl (by first | exact cmp_le_t (by omega) | exact cmp_le_f (by omega) | rfl) ?_) | (refine mx_cmpl .gtr rfl rfl rfl rfl rfl (by first | exact cmp_gt_t (by omega) | exact cmp_gt_f (by omega) | rfl) ?_) | (refine mx_cmpl .geq rfl rfl rfl rfl rfl (by first | exact cmp_ge_t (by omega) | exact cmp_ge_f (by omega) | rfl) ?_)) | (first | refine mx_ar rfl rfl rfl rfl rfl rfl (IntWalk.i64_in _ (by omega)) rfl ?_ | refine mx_ar rfl rfl rfl rfl rfl rfl (IntWalk.u64_in _ (by omega)) rfl ?_ | refine mx_ar rfl rfl rfl rfl rfl rfl (IntWalk.u8_in _ (by omega)) rfl ?_ | refine mx_ar rfl rfl rfl rfl rfl rfl rfl rfl ?_) | (first | refine mx_eqs rfl rfl rfl rfl rfl rfl ?_ | refine mx_nes rfl rfl rfl rfl rfl rfl ?_ | refine mx_eq rfl rfl rfl rfl rfl rfl ?_ | refine mx_ne rfl rfl rfl rfl rfl rfl ?_) | refine mx_bsame E rfl rfl rfl rfl rfl rfl rfl ?_ | refine mx_bnsame E rfl rfl rfl rfl rfl rfl rfl ?_ | refine mx_beq E rfl rfl rfl rfl rfl rfl rfl ?_ | refine mx_bne E rfl rfl rfl rfl rfl rfl rfl ?_ | refine mx_dv rfl rfl rfl rfl rfl (by decide) (congrArg some (by assumption)) rfl rfl ?_ | refine mx_dv rfl rfl rfl rfl rfl (by decide) rfl rfl rfl ?_ | refine mx_bit rfl rfl rfl rfl rfl (congrArg some (by assumption)) rfl rfl ?_ | refine mx_bit rfl rfl rfl rfl rfl rfl rfl rfl ?_ | refine mx_sh rfl rfl rfl rfl rfl (by omega) (congrArg some (by assumption)) rfl rfl ?_ | refine mx_sh rfl rfl rfl rfl rfl (by omega) rfl rfl rfl ?_) | (refine g_ix rfl ?_; first | refine mx_ixan E rfl rfl rfl rfl rfl rfl (by omega) rfl ?_ | refine mx_ixsn E rfl rfl rfl rfl rfl rfl (by omega) rfl ?_ | refine mx_ixsi E rfl rfl rfl rfl rfl rfl (by omega) (by omega) rfl ?_ | refine mx_ixa E rfl rfl rfl rfl rfl rfl (by omega) (by omega) rfl rfl ?_) | (refine mx_nc rfl rfl rfl ?_) | (refine g_bi .len rfl ?_; refine mx_len E rfl rfl rfl rfl ?_) | (refine mx_not rfl rfl rfl ?_) | (refine mx_ex _ rfl rfl rfl (by conv => {lhs; whnf}) ?_) | (refine mx_skip rfl rfl rfl ?_) | (refine g_pick rfl ?_; first | refine mx_andf rfl rfl rfl rfl rfl ?_ | refine mx_ort rfl rfl rfl rfl rfl ?_ | refine mx_and rfl rfl rfl rfl rfl rfl ?_ | refine mx_or rfl rfl rfl rfl rfl rfl ?_ | refine mx_pickt _ rfl rfl rfl rfl (by conv => {lhs; whnf}) rfl ?_ | refine mx_pickf _ rfl rfl rfl rfl (by conv => {lhs; whnf}) rfl ?_) | (refine g_store rfl ?_; first | refine s_l E rfl rfl rfl rfl rfl rfl rfl (by exact Sp.lit rfl rfl) rfl ?_ | refine s_1 E rfl rfl rfl rfl rfl rfl rfl rfl (by first | exact sp0 | exact spS sp0 | exact spS (spS sp0) | exact Sp.lit rfl rfl) rfl ?_) | (refine g_build rfl ?_; first | refine mx_build rfl rfl rfl rfl b25_0 rfl ?_ | refine mx_build rfl rfl rfl rfl (b25_3 _ _ _ _) rfl ?_ | refine mx_build rfl rfl rfl rfl b33_0 rfl ?_ | refine mx_build rfl rfl rfl rfl (b33_1 _ _ _) rfl ?_) | (refine a_new rfl rfl rfl rfl rfl (fun _ => ?_)) | (refine g_box rfl ?_; first | refine a_boxl rfl rfl rfl rfl rfl rfl (fun _ => ?_) | refine a_box1 rfl rfl rfl rfl rfl rfl rfl (fun _ => ?_)) | (first | refine mx_indexn E rfl rfl rfl rfl rfl rfl rfl rfl (by omega) (by first | exact vr_RR _ (by omega)) rfl ?_ | refine mx_index E rfl rfl rfl rfl rfl rfl rfl rfl (by omega) (by omega) (by first | exact vr_RR _ (by omega)) rfl ?_) | (refine g_bs rfl ?_; first | refine a_bs0 E rfl rfl rfl rfl rfl rfl (fun _ => ?_) | refine a_bsi E rfl rfl rfl rfl rfl (by (repeat (first | exact EvI.nil | (apply EvI.cons; rfl)))) (by rfl) (by rfl) (by rfl) rfl (fun _ => ?_)) | (refine g_conv rfl ?_; first | refine mx_cv E rfl rfl rfl rfl rfl rfl (by assumption) rfl ?_ | refine mx_cv E rfl rfl rfl rfl rfl rfl (IntWalk.i64_in _ (by omega)) rfl ?_ | refine mx_cv E rfl rfl rfl rfl rfl rfl (IntWalk.u64_in _ (by omega)) rfl ?_ | refine mx_cv E rfl rfl rfl rfl rfl rfl (IntWalk.u8_in _ (by omega)) rfl ?_ | refine mx_cv E rfl rfl rfl rfl rfl rfl rfl rfl ?_) | (first | (refine g_bi .max rfl ?_; refine mx_maxi rfl rfl rfl rfl rfl rfl rfl ?_) | (refine g_bi .min rfl ?_; refine mx_mini rfl rfl rfl rfl rfl rfl rfl ?_)) | (first | refine mx_real rfl rfl rfl rfl rfl ?_ | refine mx_imag rfl rfl rfl rfl rfl ?_ | refine mx_negf rfl rfl rfl rfl rfl ?_ | refine mx_maxf rfl rfl rfl rfl rfl (by omega) rfl ?_ | refine mx_addf rfl rfl rfl rfl rfl (by omega) rfl ?_ | refine mx_f2i' E rfl rfl rfl rfl rfl rfl (by omega) rfl ?_) | (refine g_call rfl ?_; first | (refine g_cf 57 rfl ?_; refine mx_call rfl rfl rfl Try.func57 rfl rfl rfl _ (fun w => arrow57 _ w) rfl ?_) | (refine g_cf 18 rfl ?_; refine mx_call rfl rfl rfl Try.func18 rfl rfl rfl _ (fun w => new18 w) rfl ?_) | (refine g_cf 22 rfl ?_; refine mx_call rfl rfl rfl Try.func22 rfl rfl rfl _ (fun w => writes22 _ w) rfl ?_) | (refine g_cf 16 rfl ?_; refine mx_call rfl rfl rfl Try.func16 rfl rfl rfl _ (fun w => sway16 _ (by assumption) (by omega) w) rfl ?_) | (refine g_cf 17 rfl ?_; refine mx_call rfl rfl rfl Try.func17 rfl rfl rfl _ (fun w => steady17 _ _ (by assumption) (by omega) w) rfl ?_) | (refine g_cf 19 rfl ?_; refine mx_call rfl rfl rfl Try.func19 rfl rfl rfl _ (fun w => write19 _ _ (by assumption) (by omega) w) rfl ?_))) | refine cw_seq ?_ | refine cw_line rfl ?_ | (refine cw_drawq mixed rfl (by kernel_rfl) rfl ?_) | refine cw_block ?_ | refine cw_cond_f rfl ?_ | refine cw_cond_t rfl ?_ | refine cw_skip ?_ | refine cw_exit ?_ | refine cw_ret ?_ | refine pw_then ?_ | refine pw_then_x ?_ | refine pw_then_r ?_ | refine pw_block ?_ | refine pw_block_e ?_ | refine pw_block_n rfl ?_ | refine pw_block_r ?_))
    exact pw_retc E (j := 1) rfl rfl rfl rfl rfl rfl fun w hw => ⟨rfl, hw.keep.grow⟩
  · (repeat (first | ((refine (?_ : MX _ _ _ _ _ _ _ _ _ _ _)); first | refine mx_end ?_ | (refine mx_mv _ rfl rfl (by conv => {lhs; whnf}) ?_) | (refine g_bin rfl ?_; ( (refine mx_cmpl .lss rfl rfl rfl rfl rfl (by rfl) ?_) ) ) | (refine g_pick rfl ?_; refine mx_and rfl rfl rfl rfl rfl rfl ?_ ) ) | refine pw_then ?_ ))
    refine cw_cond rfl (fun ht => ?_) (fun hf => ?_); (try simp only [decide_eq_true_eq, decide_eq_false_iff_not, Bool.not_eq_true', Bool.not_eq_false', beq_iff_eq, beq_eq_false_iff_ne, bne_iff_ne, bne_eq_false_iff_eq, Bool.and_eq_true, Bool.or_eq_true, Bool.or_eq_false_iff, Bool.not_eq_true, ne_eq, Bool.true_and, Bool.false_and, Bool.true_or, Bool.false_or, Bool.and_true, Bool.or_false, ge_iff_le, gt_iff_lt] at ht); rotate_left; (try simp only [decide_eq_true_eq, decide_eq_false_iff_not, Bool.not_eq_true', Bool.not_eq_false', beq_iff_eq, beq_eq_false_iff_ne, bne_iff_ne, bne_eq_false_iff_eq, Bool.and_eq_true, Bool.or_eq_true, Bool.or_eq_false_iff, Bool.not_eq_true, ne_eq, Bool.true_and, Bool.false_and, Bool.true_or, Bool.false_or, Bool.and_true, Bool.or_false, ge_iff_le, gt_iff_lt] at hf); rotate_right
    · (repeat (first | refine cw_seq ?_ | refine cw_block ?_ | refine cw_skip ?_ | refine pw_then ?_ ))
      have hil : i < l.length := by simp at h0; omega
      have hx : l[i]? = some l[i] := List.getElem?_eq_getElem hil
      generalize l[i] = x at hx
      obtain ⟨b4, off, e, hcc⟩ := hl (by intro e; subst e; simp at hil)
      subst e
      have hS : ¬ (fun _ : Nat => False) b4 := id
      have hc0 : w.cell? ⟨b4, off + i * 1, none⟩ = some (.int .i64 x) := hcc i x hx 0 _ rfl
      refine cw_drawm [1, 2, 3, 4, 0, 5, 6] (fun i => or (Nat.beq i 0) (Nat.beq i 6)) _ mixed (by kernel_rfl) (fun w h => h.nil) ?_
      (repeat (first | ((refine (?_ : MX _ _ _ _ _ _ _ _ _ _ _)); first | refine mx_end ?_ | (refine mx_mv _ rfl rfl (by conv => {lhs; whnf}) ?_) | (refine mx_as _ rfl rfl (by conv => {lhs; whnf}) ?_) | (refine g_load rfl ?_; first | refine mx_old1 E rfl rfl rfl rfl rfl (by assumption) (by assumption) rfl ?_ | refine mx_getna E rfl rfl rfl rfl rfl rfl (by exact Vr.all rfl ) rfl ?_) | (refine g_bin rfl ?_; (refine mx_ar rfl rfl rfl rfl rfl rfl (IntWalk.i64_in _ (by omega)) rfl ?_ ) ) | (refine g_ix rfl ?_; refine mx_ixsn E rfl rfl rfl rfl rfl rfl (by omega) rfl ?_ ) | (refine g_store rfl ?_; refine s_l E rfl rfl rfl rfl rfl rfl rfl (by exact Sp.lit rfl rfl) rfl ?_ ) | (refine g_call rfl ?_; (refine g_cf 19 rfl ?_; refine mx_call rfl rfl rfl Try.func19 rfl rfl rfl _ (fun w => write19 _ _ (by assumption) (by omega) w) rfl ?_))) | refine cw_line rfl ?_ | refine pw_then ?_ | refine pw_block ?_ ))
      refine pw_round (i + 1) (by omega) (by omega) ⟨rfl, rfl, rfl, rfl, trivial⟩ (fun w h => ?_)
      rwa [wrs_succ l i x hx] at h
    · obtain rfl : i = 300 := by omega
      (repeat (first | ((refine (?_ : MX _ _ _ _ _ _ _ _ _ _ _)); first | refine mx_end ?_ | (refine g_load rfl ?_; refine mx_getn E rfl rfl rfl rfl rfl (by exact Vr.all rfl ) rfl ?_ ) | (refine g_store rfl ?_; refine s_l E rfl rfl rfl rfl rfl rfl rfl (by exact Sp.lit rfl rfl) rfl ?_ ) ) | refine cw_seq ?_ | refine cw_line rfl ?_ | refine cw_exit ?_ | refine cw_ret ?_ | refine pw_then ?_ | refine pw_then_x ?_ | refine pw_block_e ?_ ))
      exact pw_retc E (j := 1) rfl rfl rfl rfl rfl rfl fun w hw => ⟨rfl, hw.keep.grow⟩
end Go.Proofs.Ytfekmflnfhjebaa
