/- The program's table: a place's key; the way of a key, as one goes through it. -/
import Derived.Test.YtminmbkhlnaabaaHa
set_option maxRecDepth 100000
set_option maxHeartbeats 8000000
set_option linter.unusedSimpArgs false
set_option linter.unusedVariables false
namespace Go.Proofs.Ytminmbkhlnaabaa
open Go Go.Sx Go.RowKit
structure PLc where
  s : Nat
  k : List Int
  c : Int
  deriving Inhabited, DecidableEq
@[reducible] def hdH (kb sb cb kl mx n P : Nat) : List Value := [.int .i64 kl, .int .i64 mx, .int .i64 n, .slice (some ⟨kb, 0, none⟩) (P * kl) (P * kl), .slice (some ⟨sb, 0, none⟩) P P, .slice (some ⟨cb, 0, none⟩) P P]
theorem at63 (bx kb sb cb kl mx n P p : Nat) (hp : p < P) (hkl : kl ≤ 1000) (hP : P ≤ 1000) (h0 : 0 < kl) (w : World) (h1 : (row bx 87 (hdH kb sb cb kl mx n P)).holds w) :
    Calls Try.prog 63 #[.pointer (some ⟨bx, 0, none⟩), .int .i64 p] w fun e w' => e = .returned (.slice (some ⟨kb, p * kl, none⟩) kl kl) ∧ Grow w w' := by
  refine enter2 (S := fun _ => False) 30 Try.func63 rfl rfl rfl (Ok.start w) ?_
  have hS : ¬ (fun _ : Nat => False) bx := id
  have e1 : (p : Int) * (kl : Int) = ((p * kl : Nat) : Int) := (Int.natCast_mul p kl).symm
  have e2 : (p : Int) + 1 = ((p + 1 : Nat) : Int) := rfl
  have e3 : ((p + 1 : Nat) : Int) * (kl : Int) = (((p + 1) * kl : Nat) : Int) := (Int.natCast_mul (p + 1) kl).symm
  have l1 : p * kl ≤ 1000 * 1000 := Nat.mul_le_mul (by omega) hkl
  have l2 : (p + 1) * kl ≤ 1000 * 1000 := Nat.mul_le_mul (by omega) hkl
  have l3 : (p + 1) * kl ≤ P * kl := Nat.mul_le_mul_right kl hp
  have l4 : p * kl ≤ (p + 1) * kl := Nat.mul_le_mul_right kl (by omega)
  have l5 : (p + 1) * kl = p * kl + kl := Nat.succ_mul p kl
  have hv9 : Value.slice (some ⟨kb, 0 + (if (p + 1) * kl = p * kl then 0 else p * kl * 1), none⟩) ((p + 1) * kl - p * kl) ((p + 1) * kl - p * kl) = .slice (some ⟨kb, p * kl, none⟩) kl kl := by
    rw [if_neg (by omega), l5]
    simp
  (repeat (first | ((refine (?_ : MX _ _ _ _ _ _ _ _ _ _ _)); first | refine mx_end ?_ | (refine mx_mv _ rfl rfl (by conv => {lhs; whnf}) ?_) | (refine mx_as _ rfl rfl (by conv => {lhs; whnf}) ?_) | (first | refine mx_fa0 E rfl rfl rfl rfl ?_ | refine mx_fa E rfl rfl rfl rfl ?_) | (refine g_load rfl ?_; refine mx_orow E rfl rfl rfl rfl rfl (by assumption) (by assumption) (by rfl) rfl ?_ ) | (refine g_bin rfl ?_; (refine mx_ar rfl rfl rfl rfl rfl rfl ((IntWalk.i64_in _ (by omega)).trans (by with_reducible assumption)) rfl ?_ ) ) | (refine mx_nc rfl rfl rfl ?_) | ( refine mx_slice9 E rfl rfl rfl rfl rfl rfl rfl rfl (by assumption) (Nat.le_refl _) (by assumption) rfl (by with_reducible assumption) ?_) ) | refine cw_seq ?_ | refine cw_line rfl ?_ | (refine cw_drawq mixed rfl (by kernel_rfl) rfl ?_) | refine cw_ret ?_ | refine pw_then ?_ ))
  exact pw_ret rfl rfl rfl rfl fun w hw => ⟨rfl, hw.keep.grow⟩
theorem way62 (bx : Nat) (ad : Option Addr) (m cap : Nat) (w : World) :
    Calls Try.prog 62 #[.pointer (some ⟨bx, 0, none⟩), .slice ad m cap] w fun e w' => ∃ a : Nat × Nat, e = .returned (.func (.func 73) #[] #[.pointer (some ⟨a.1, 0, none⟩), .pointer (some ⟨a.2, 0, none⟩)]) ∧ Ok (domL []) w [row a.1 22 [.slice ad m cap], row a.2 54 [.pointer (some ⟨bx, 0, none⟩)]] w' := by
  refine enter2 (S := domL []) 6 Try.func62 rfl rfl rfl (Ok.start w) ?_
  (repeat (first | ((refine (?_ : MX _ _ _ _ _ _ _ _ _ _ _)); first | refine mx_end ?_ | (refine mx_as _ rfl rfl (by conv => {lhs; whnf}) ?_) | (refine g_box rfl ?_; refine a_box1 rfl rfl rfl rfl rfl rfl rfl (fun _ => ?_)) | ( refine mx_fn rfl rfl rfl rfl rfl rfl ?_ ) ) | refine cw_seq ?_ | refine cw_line rfl ?_ | refine cw_ret ?_ | refine pw_then ?_ ))
  rename_i b2 b3
  exact pw_ret rfl rfl rfl rfl fun w hw => ⟨(b3, b2), rfl, hw⟩
/-- The way. -/
def homeK (k : List Int) (P : Nat) : Nat := (sumK k).toNat % P
def wayL (home P : Nat) : List Nat := (List.range P).map fun i => (home + i) % P
theorem wayL_len (home P : Nat) : (wayL home P).length = P := by simp [wayL]
theorem wayL_at (home : Nat) {P i : Nat} (hi : i < P) : (wayL home P)[i]? = some ((home + i) % P) := by simp [wayL, hi]
theorem wrap32 (x : Int) : IntKind.u32.wrap x = x % 4294967296 := by simp [IntKind.wrap, IntKind.bits, IntKind.signed]
theorem stepK_rng (s x : Int) : 0 ≤ stepK s x ∧ stepK s x < 4294967296 := by
  unfold stepK
  rw [wrap32]
  omega
theorem sumK_rng (k : List Int) : 0 ≤ sumK k ∧ sumK k < 4294967296 := by
  have key : ∀ (k : List Int) (s : Int), 0 ≤ s ∧ s < 4294967296 → 0 ≤ k.foldl stepK s ∧ k.foldl stepK s < 4294967296 := by
    intro k
    induction k with
    | nil => exact fun s h => h
    | cons x k ih => exact fun s _ => ih _ (stepK_rng s x)
  exact key k _ (by omega)
theorem homeK_lt (k : List Int) {P : Nat} (h : 0 < P) : homeK k P < P := Nat.mod_lt _ h
theorem way73 (M : Nat) (b3 b2 bx kb sb cb kl mx n P : Nat) (h0P : 0 < P) (hP : P ≤ 1000) (ad : Option Addr) (m cap : Nat) (k : List Int) (hm : k.length = m) (hs : m ≤ 1000000000) (w : World)
    (hr3 : (row b3 22 [.slice ad m cap]).holds w) (hr2 : (row b2 54 [.pointer (some ⟨bx, 0, none⟩)]).holds w) (hrx : (row bx 87 (hdH kb sb cb kl mx n P)).holds w) (hl : InL w ad 1 cU k) :
    SeqStopsK (FW none) M Try.prog 73 #[.pointer (some ⟨b3, 0, none⟩), .pointer (some ⟨b2, 0, none⟩)] (fun x : {p : Nat // p < P} => #[.int .i64 ((x.1 : Nat) : Int)])
      (KpR [row b3 22 [.slice ad m cap], row b2 54 [.pointer (some ⟨bx, 0, none⟩)], row bx 87 (hdH kb sb cb kl mx n P)]) (fun xs => xs.map (·.1) = wayL (homeK k P) P) (fun pre => pre.map (·.1) <+: wayL (homeK k P) P) P w := by
  intro l J Jx W hW hJ hJx hY hJ0
  have keepR : ∀ (r : Res), r.holds w → (∀ b, r.dom b → b < w.heap.size) → r.holds W := fun r hr hd => r.loc w W (fun b hb => hW.block b (hd b hb)) hr
  have h3 := keepR _ hr3 (row_lt hr3)
  have h2 := keepR _ hr2 (row_lt hr2)
  have hx := keepR _ hrx (row_lt hrx)
  have hlW : InL W ad 1 cU k := fun hne => hl.chg (D := fun b => ¬ b < w.heap.size) ⟨hW.os, hW.tape, hW.output, hW.size, fun k' hk' hn => hW.block k' (Classical.byContradiction hn)⟩ (fun b off e hn => hn (hl.lt (fun _ => by simp) hne b off e)) hne
  refine enterGI (S := fun _ => False) (H := []) 37 Try.func73 rfl rfl (args := [.func (.yield l) #[] #[], .pointer (some ⟨b3, 0, none⟩), .pointer (some ⟨b2, 0, none⟩)]) rfl rfl (Ok.start W) ?_
  have hlP : P < 4294967296 := by omega
  have hsr := sumK_rng k
  have hS3 : ¬ (fun _ : Nat => False) b3 := id
  have hS2 : ¬ (fun _ : Nat => False) b2 := id
  have hSx : ¬ (fun _ : Nat => False) bx := id
  have hcv : IntKind.u32.wrap (P : Int) = (P : Int) := by rw [wrap32]; omega
  have hh := homeK_lt k h0P
  have hrem : (sumK k).tmod (P : Int) = ((homeK k P : Nat) : Int) := by
    obtain ⟨a, ha⟩ := Int.eq_ofNat_of_zero_le hsr.1
    unfold homeK
    rw [ha, Int.toNat_natCast]
    rw [show ((a % P : Nat) : Int) = (a : Int) % (P : Int) from rfl]
    exact (Int.tmod_eq_emod_of_nonneg (by omega))
  refine cg_seq ?_
  refine cg_drawm rfl [0, 2, 3, 4, 5, 6, 7, 1, 8, 9, 10] (fun i => Nat.beq i 1) _ mixed (by kernel_rfl) (fun w h => h.nil) ?_
  (repeat (((refine (?_ : MX _ _ _ _ _ _ _ _ _ _ _)); first | ( refine mx_fa E rfl rfl rfl rfl ?_) | (refine g_load rfl ?_; refine mx_orow E rfl rfl rfl rfl rfl (by assumption) (by assumption) (by rfl) rfl ?_ ) | (refine mx_nc rfl rfl rfl ?_) | (refine g_bi .len rfl ?_; refine mx_len E rfl rfl rfl rfl ?_) | (refine g_conv rfl ?_; refine mx_cv E rfl rfl rfl rfl rfl rfl (by assumption) rfl ?_ ) ) ))
  refine g_cf 31 rfl ?_
  refine a_callv rfl rfl rfl rfl Try.func31 rfl rfl rfl _ (fun w' hw => sum31 ad m cap k hm hs w' (hlW.grow hw.keep.grow)) rfl ?_
  (repeat (first | ((refine (?_ : MX _ _ _ _ _ _ _ _ _ _ _)); first | refine mx_end ?_ | (refine mx_mv _ rfl rfl (by conv => {lhs; whnf}) ?_) | (refine mx_as _ rfl rfl (by conv => {lhs; whnf}) ?_) | ( refine mx_fa E rfl rfl rfl rfl ?_) | (refine g_load rfl ?_; refine mx_orow E rfl rfl rfl rfl rfl (by assumption) (by assumption) (by rfl) rfl ?_ ) | (refine mx_nc rfl rfl rfl ?_) | (refine g_bi .len rfl ?_; refine mx_len E rfl rfl rfl rfl ?_) | (refine g_conv rfl ?_; refine mx_cv E rfl rfl rfl rfl rfl rfl (IntWalk.i64_in _ (by omega)) rfl ?_ ) | (refine mx_dv rfl rfl rfl rfl rfl (by omega) (congrArg some (by with_reducible assumption)) rfl rfl ?_ ) ) | refine cg_seq ?_ | refine cg_line rfl rfl ?_ | refine cg_block ?_ | refine pg_then ?_ ))
  refine cg_loopX (fun i => [(21, .int .i64 i), (20, .int .i64 P), (4, .int .i64 (homeK k P : Nat)), (0, .func (.yield l) #[] #[]), (1, .pointer (some ⟨b3, 0, none⟩)), (2, .pointer (some ⟨b2, 0, none⟩))]) (fun i w => i ≤ P ∧ ∃ pre : List {p : Nat // p < P}, pre.map (·.1) = (wayL (homeK k P) P).take i ∧ J pre w ∧ (row b2 54 [.pointer (some ⟨bx, 0, none⟩)]).holds w ∧ (row bx 87 (hdH kb sb cb kl mx n P)).holds w) (fun i => P - i) 0 (fun w hw => ⟨Nat.zero_le _, [], rfl, abides_grow hJ hJ0 hw.keep.grow, hw.orow h2 hS2, hw.orow hx hSx⟩) ⟨rfl, rfl, rfl, rfl, rfl, rfl, trivial⟩ ?_
  rintro i jk w1 ⟨hi, pre, hpre, hJ1, hr2, hrx⟩
  by_cases h0 : (i : Int) < P
  case neg =>
    have hiP : i = P := by omega
    have hpre' : pre.map (·.1) = wayL (homeK k P) P := by rw [hpre, List.take_of_length_le (by rw [wayL_len]; omega)]
    (repeat (first | ((refine (?_ : MX _ _ _ _ _ _ _ _ _ _ _)); first | refine mx_end ?_ | (refine g_bin rfl ?_; ( (refine mx_cmpl .lss rfl rfl rfl rfl rfl (by exact cmp_lt_f (by omega) ) ?_) ) ) ) | refine cg_seq ?_ | refine cg_line rfl rfl ?_ | refine cg_cond_f rfl ?_ | refine cg_exit ?_ | refine pg_then ?_ | refine pg_then_x ?_ | refine pg_block_e ?_ ))
    exact pg_ret0 (pw_ret0 rfl rfl fun w hw => ⟨⟨_, rfl⟩, .inl ⟨pre, hpre', abides_grow hJ hJ1 hw.keep.grow⟩⟩) rfl
  case pos =>
    have hi' : i < P := by omega
    have hlen : pre.length = i := by
      have := congrArg List.length hpre
      simpa [wayL_len, Nat.min_eq_left hi] using this
    have hrem2 : ((homeK k P : Nat) : Int) + (i : Int) = ((homeK k P + i : Nat) : Int) := rfl
    have hrem3 : ((homeK k P + i : Nat) : Int).tmod (P : Int) = (((homeK k P + i) % P : Nat) : Int) := by
      rw [Int.tmod_eq_emod_of_nonneg (by omega)]
      rfl
    have hx' : (homeK k P + i) % P < P := Nat.mod_lt _ h0P
    have hnext : ∀ x : {p : Nat // p < P}, x.1 = (homeK k P + i) % P → (pre ++ [x]).map (·.1) = (wayL (homeK k P) P).take (i + 1) := fun x hx => by
      rw [List.map_append, hpre, List.take_add_one, wayL_at _ hi']
      simp [hx]
    refine cg_seq ?_; refine cg_line rfl rfl ?_; (repeat (first | ((refine (?_ : MX _ _ _ _ _ _ _ _ _ _ _)); first | refine mx_end ?_ | (refine g_bin rfl ?_; ( (refine mx_cmpl .lss rfl rfl rfl rfl rfl (by exact cmp_lt_t (by omega) ) ?_) ) ) ) | refine pg_then ?_))
    refine cg_seq (cg_cond_t rfl (cg_skip (pg_then ?_)))
    refine cg_seq (cg_block ?_)
    refine cg_seq ?_; refine cg_line rfl rfl ?_; (repeat (first | ((refine (?_ : MX _ _ _ _ _ _ _ _ _ _ _)); first | refine mx_end ?_ | (refine mx_mv _ rfl rfl (by conv => {lhs; whnf}) ?_) | (refine mx_as _ rfl rfl (by conv => {lhs; whnf}) ?_) ) | refine pg_then ?_))
    refine cg_seq ?_
    refine cg_yield [0, 1, 2, 3, 4, 5, 6, 7, 8, 9] 10 [11] rfl rfl ?_
    (repeat (((refine (?_ : MX _ _ _ _ _ _ _ _ _ _ _)); first | (refine mx_mv _ rfl rfl (by conv => {lhs; whnf}) ?_) | ( refine mx_fa E rfl rfl rfl rfl ?_) | (refine g_load rfl ?_; refine mx_orow E rfl rfl rfl rfl rfl (by assumption) (by assumption) (by rfl) rfl ?_ ) | (refine g_bin rfl ?_; (refine mx_ar rfl rfl rfl rfl rfl rfl ((IntWalk.i64_in _ (by omega)).trans (by with_reducible assumption)) rfl ?_ ) ) | (refine mx_nc rfl rfl rfl ?_) | (refine g_bi .len rfl ?_; refine mx_len E rfl rfl rfl rfl ?_) | (refine mx_dv rfl rfl rfl rfl rfl (by omega) (congrArg some (by with_reducible assumption)) rfl rfl ?_ ) ) ))
    refine mx_yr fun w hw => ?_
    refine yield_op rfl rfl rfl rfl [.int .i64 (((homeK k P + i) % P : Nat) : Int)] rfl (hY pre ⟨(homeK k P + i) % P, hx'⟩ w (abides_grow hJ hJ1 hw.keep.grow) (by omega)) ?_
    rintro e W' (⟨rfl, hJ2, hK⟩ | ⟨rfl, hJ2⟩)
    · refine ⟨_, rfl, opsIn_rest (S := fun _ => False) (w0 := W') (H := []) rfl ?_ (Ok.start W')⟩
      have q2 := hK (row b2 54 [.pointer (some ⟨bx, 0, none⟩)]) (by simp) (hw.orow hr2 hS2)
      have qx := hK (row bx 87 (hdH kb sb cb kl mx n P)) (by simp) (hw.orow hrx hSx)
      (repeat (first | ((refine (?_ : MX _ _ _ _ _ _ _ _ _ _ _)); first | refine mx_end ?_ | (refine mx_mv _ rfl rfl (by conv => {lhs; whnf}) ?_) | (refine g_bin rfl ?_; ( refine mx_ar rfl rfl rfl rfl rfl rfl (IntWalk.i64_in _ (by omega)) rfl ?_ ) ) | (refine mx_not rfl rfl rfl ?_) ) | refine cg_line rfl rfl ?_ | refine cg_cond_f rfl ?_ | refine cg_skip ?_ | refine pg_then ?_ | refine pg_block ?_ ))
      exact pg_roundX (i + 1) (by omega) ⟨rfl, rfl, rfl, rfl, rfl, rfl, trivial⟩ (fun w hw => ⟨hi', pre ++ [⟨(homeK k P + i) % P, hx'⟩], hnext _ rfl, abides_grow hJ hJ2 hw.keep.grow, hw.orow q2 hS2, hw.orow qx hSx⟩)
    · refine ⟨_, rfl, opsIn_rest (S := fun _ => False) (w0 := W') (H := []) rfl ?_ (Ok.start W')⟩
      (repeat (first | ((refine (?_ : MX _ _ _ _ _ _ _ _ _ _ _)); first | refine mx_end ?_ | (refine mx_not rfl rfl rfl ?_) ) | refine cg_cond_t rfl ?_ | refine cg_ret ?_ | refine pg_then ?_ | refine pg_then_r ?_ | refine pg_block_r ?_))
      exact pg_ret0 (pw_ret0 rfl rfl fun w hw => ⟨⟨_, rfl⟩, .inr ⟨pre ++ [⟨(homeK k P + i) % P, hx'⟩], (by show List.map _ (pre ++ [_]) <+: _; rw [hnext _ rfl]; exact List.take_prefix _ _), abides_grow hJx hJ2 hw.keep.grow⟩⟩) rfl
end Go.Proofs.Ytminmbkhlnaabaa
