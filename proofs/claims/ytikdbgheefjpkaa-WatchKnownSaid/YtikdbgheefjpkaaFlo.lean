/- Floats that are small whole numbers: sums, signs, order, told by the numbers. Plain theorems over any program. -/
import Derived.Test.YtikdbgheefjpkaaMore
import Derived.Test.YtikdbgheefjpkaaChk
import Derived.Laws.ComplexArith
import Derived.KernelRfl
set_option linter.unusedVariables false
set_option linter.unusedSimpArgs false
namespace Go.Sx
open Ieee
/-- What stands for N * 2^u / 2^u. -/
def num (s : Bool) (N u : Nat) : Datum := .number s (N * 2 ^ u) (-(u : Int))
theorem dbl_least : Ieee.double.leastPlace = -1074 := by decide +kernel
theorem dbl_binade : Ieee.double.binade = 2 ^ 52 := by decide +kernel
theorem dbl_inf : Ieee.double.infRung = 2047 * 2 ^ 52 := by decide +kernel
theorem dbl_sign : Ieee.double.signWeight = 2 ^ 63 := by decide +kernel
theorem log2_mul_pow {N : Nat} (h : N ≠ 0) (u : Nat) : (N * 2 ^ u).log2 = N.log2 + u := by
  have h1 := (Nat.log2_eq_iff h).1 rfl
  have h0 : N * 2 ^ u ≠ 0 := Nat.mul_ne_zero h (Nat.pos_iff_ne_zero.1 (Nat.two_pow_pos u))
  refine (Nat.log2_eq_iff h0).2 ⟨?_, ?_⟩
  · rw [Nat.pow_add]; exact Nat.mul_le_mul_right _ h1.1
  · have : N.log2 + u + 1 = (N.log2 + 1) + u := by omega
    rw [this, Nat.pow_add]
    exact Nat.mul_lt_mul_of_pos_right h1.2 (Nat.two_pow_pos u)
theorem cut_exact (way : Toward) (neg : Bool) (M d c : Nat) (hc : d ≤ c) : (let n := M * 2 ^ d
    let gap := 1 <<< min d c
    let low := n / gap
    let rest := n % gap
    let more := match way with
      | .even => gap < 2 * rest || (gap == 2 * rest && low % 2 == 1)
      | .down => neg && rest != 0
      | .up => !neg && rest != 0
      | .zero => false
    low + more.toNat) = M := by
  have h1 : min d c = d := Nat.min_eq_left hc
  have h2 : (1 <<< d : Nat) = 2 ^ d := by rw [Nat.shiftLeft_eq, Nat.one_mul]
  have hp := Nat.two_pow_pos d
  have h3 : M * 2 ^ d % 2 ^ d = 0 := Nat.mul_mod_left _ _
  have h4 : M * 2 ^ d / 2 ^ d = M := Nat.mul_div_cancel _ hp
  simp only [h1, h2, h3, h4]
  have h5 : ¬ 2 ^ d < 2 * 0 := by omega
  have h6 : ((2 ^ d : Nat) == 2 * 0) = false := by simp
  cases way <;> simp [h6]
/-- The rung of a whole number. -/
def rung (N : Nat) : Nat := if N = 0 then 0 else (N.log2 + 1022) * 2 ^ 52 + N * 2 ^ (52 - N.log2)
theorem log2_le {N : Nat} (h0 : N ≠ 0) (h : N < 2 ^ 53) : N.log2 ≤ 52 := by
  have := (Nat.log2_lt h0).2 h
  omega
theorem mant {N : Nat} (h0 : N ≠ 0) (h : N < 2 ^ 53) : 2 ^ 52 ≤ N * 2 ^ (52 - N.log2) ∧ N * 2 ^ (52 - N.log2) < 2 ^ 53 := by
  have h1 := (Nat.log2_eq_iff h0).1 rfl
  have hl := log2_le h0 h
  constructor
  · calc (2 : Nat) ^ 52 = 2 ^ N.log2 * 2 ^ (52 - N.log2) := by rw [← Nat.pow_add]; congr 1; omega
      _ ≤ _ := Nat.mul_le_mul_right _ h1.1
  · calc N * 2 ^ (52 - N.log2) < 2 ^ (N.log2 + 1) * 2 ^ (52 - N.log2) := Nat.mul_lt_mul_of_pos_right h1.2 (Nat.two_pow_pos _)
      _ = 2 ^ 53 := by rw [← Nat.pow_add]; congr 1; omega
theorem rung_lt {N : Nat} (h : N < 2 ^ 53) : rung N < 1077 * 2 ^ 52 := by
  unfold rung
  split
  · decide
  · rename_i h0
    have := mant h0 h
    have hl := log2_le h0 h
    have : (N.log2 + 1022) * 2 ^ 52 ≤ 1074 * 2 ^ 52 := Nat.mul_le_mul_right _ (by omega)
    omega
theorem write_num (s : Bool) {N u : Nat} (h : N < 2 ^ 53) (hu : u ≤ 1074) : Ieee.double.write (num s N u) = Ieee.double.word s (rung N) := by
  unfold num Format.write Format.nearest
  simp only
  by_cases h0 : N = 0
  · subst h0; simp [rung]
  · have hm : N * 2 ^ u ≠ 0 := Nat.mul_ne_zero h0 (Nat.pos_iff_ne_zero.1 (Nat.two_pow_pos u))
    have hl := log2_le h0 h
    have hlast : max (-(u : Int) + ((N.log2 + u : Nat) : Int) - ((52 : Nat) : Int)) (-1074) = (N.log2 : Int) - 52 := by omega
    have hf : Ieee.double.fractionBits = 52 := rfl
    rw [if_neg hm, log2_mul_pow h0, dbl_least, dbl_binade, dbl_inf, hf]
    simp only [hlast]
    have e1 : ((N.log2 : Int) - 52 - -1074).toNat = N.log2 + 1022 := by omega
    rw [e1]
    have hk : Toward.even.cut s ((N * 2 ^ u) <<< (-(u : Int) - ((N.log2 : Int) - 52)).toNat) (((N.log2 : Int) - 52) - -(u : Int)).toNat = N * 2 ^ (52 - N.log2) := by
      by_cases hc : u ≤ 52 - N.log2
      · have e2 : (-(u : Int) - ((N.log2 : Int) - 52)).toNat = 52 - N.log2 - u := by omega
        have e3 : (((N.log2 : Int) - 52) - -(u : Int)).toNat = 0 := by omega
        rw [e2, e3, Nat.shiftLeft_eq, Nat.mul_assoc, ← Nat.pow_add]
        have e4 : u + (52 - N.log2 - u) = 52 - N.log2 := by omega
        rw [e4]
        have := cut_exact .even s (N * 2 ^ (52 - N.log2)) 0 ((N * 2 ^ (52 - N.log2)).log2 + 2) (by omega)
        rw [Nat.pow_zero, Nat.mul_one] at this
        exact this
      · have e2 : (-(u : Int) - ((N.log2 : Int) - 52)).toNat = 0 := by omega
        have e3 : (((N.log2 : Int) - 52) - -(u : Int)).toNat = u - (52 - N.log2) := by omega
        rw [e2, e3, Nat.shiftLeft_zero]
        have e4 : N * 2 ^ u = N * 2 ^ (52 - N.log2) * 2 ^ (u - (52 - N.log2)) := by
          rw [Nat.mul_assoc, ← Nat.pow_add]; congr 2; omega
        have := cut_exact .even s (N * 2 ^ (52 - N.log2)) (u - (52 - N.log2)) ((N * 2 ^ u).log2 + 2) (by rw [log2_mul_pow h0]; omega)
        rw [← e4] at this
        exact this
    rw [hk]
    have hr : rung N = (N.log2 + 1022) * 2 ^ 52 + N * 2 ^ (52 - N.log2) := by unfold rung; rw [if_neg h0]
    have hrl := rung_lt h
    rw [hr] at hrl ⊢
    rw [Nat.min_eq_left (by omega)]
theorem word_dm (s : Bool) {r : Nat} (h : r < 2 ^ 63) : (Ieee.double.word s r / 2 ^ 63 % 2 == 1) = s ∧ Ieee.double.word s r % 2 ^ 63 = r := by
  unfold Format.word
  rw [dbl_sign]
  cases s
  · simp only [Bool.false_eq_true, if_false]
    rw [Nat.div_eq_of_lt h, Nat.mod_eq_of_lt h]
    simp
  · simp only [if_true]
    have h1 : (2 ^ 63 + r) / 2 ^ 63 = 1 := by omega
    have h2 : (2 ^ 63 + r) % 2 ^ 63 = r := by omega
    rw [h1, h2]
    simp
def upl (N : Nat) : Nat := if N = 0 then 1074 else 52 - N.log2
theorem num_zero (s : Bool) (u : Nat) : num s 0 u = .number s 0 (-(u : Int)) := by unfold num; simp only [Nat.zero_mul]
theorem read_word (s : Bool) {N : Nat} (h : N < 2 ^ 53) : Ieee.double.read (Ieee.double.word s (rung N)) = num s N (upl N) := by
  have hr := rung_lt h
  have hw := word_dm s (r := rung N) (by omega)
  unfold Format.read
  simp only
  rw [dbl_sign, hw.1, hw.2, dbl_binade, dbl_inf, dbl_least]
  by_cases h0 : N = 0
  · subst h0
    have e1 : rung 0 = 0 := rfl
    have e2 : upl 0 = 1074 := rfl
    rw [e1, e2, if_pos (by decide), num_zero]
    rfl
  · have hm := mant h0 h
    have hl := log2_le h0 h
    have e : rung N = (N.log2 + 1022) * 2 ^ 52 + N * 2 ^ (52 - N.log2) := by unfold rung; rw [if_neg h0]
    generalize hx : N * 2 ^ (52 - N.log2) = x at *
    rw [if_neg (by omega), if_pos (by omega)]
    have e1 : rung N % 2 ^ 52 = x - 2 ^ 52 := by omega
    have e2 : rung N / 2 ^ 52 = N.log2 + 1023 := by omega
    rw [e1, e2]
    unfold num upl
    rw [if_neg h0, hx]
    have e3 : 2 ^ 52 + (x - 2 ^ 52) = x := by omega
    have e4 : (-1074 : Int) + ((N.log2 + 1023 - 1 : Nat) : Int) = -((52 - N.log2 : Nat) : Int) := by omega
    rw [e3, e4]

def sg (s : Bool) (N : Nat) : Int := if s then -(N : Int) else N
theorem signed_num (s : Bool) (N u w : Nat) (h : u ≤ w) : signed s (N * 2 ^ u) (-(u : Int) - -(w : Int)).toNat = sg s N * 2 ^ w := by
  have e : (-(u : Int) - -(w : Int)).toNat = w - u := by omega
  unfold signed sg
  rw [e, Nat.shiftLeft_eq, Nat.mul_assoc, ← Nat.pow_add]
  have e2 : u + (w - u) = w := by omega
  rw [e2]
  cases s <;> simp [Int.neg_mul]
theorem sum_num (s t : Bool) (N M u v : Nat) : (num s N u).sum (num t M v) = some (num (if sg s N + sg t M = 0 then s && t else decide (sg s N + sg t M < 0)) (sg s N + sg t M).natAbs (max u v)) := by
  unfold num Datum.sum
  simp only
  have hb : min (-(u : Int)) (-(v : Int)) = -((max u v : Nat) : Int) := by omega
  rw [hb, signed_num s N u _ (by omega), signed_num t M v _ (by omega), ← Int.add_mul]
  generalize sg s N + sg t M = a
  generalize max u v = w
  have hp : (0 : Int) < 2 ^ w := Int.pow_pos (by decide)
  have e1 : (a * 2 ^ w = 0) = (a = 0) := by
    apply propext
    refine ⟨fun h => ?_, fun h => by rw [h, Int.zero_mul]⟩
    rcases Int.mul_eq_zero.1 h with h | h
    · exact h
    · omega
  have e2 : (a * 2 ^ w < 0) = (a < 0) := by
    apply propext
    refine ⟨fun h => ?_, fun h => Int.mul_neg_of_neg_of_pos h hp⟩
    rcases Int.lt_or_le a 0 with h' | h'
    · exact h'
    · have := Int.mul_nonneg h' (Int.le_of_lt hp); omega
  have e3 : (a * 2 ^ w).natAbs = a.natAbs * 2 ^ w := by rw [Int.natAbs_mul, Int.natAbs_pow]; rfl
  simp only [e1, e2, e3]
  try (by_cases h : a = 0 <;> simp [h])
def fe (n : Int) : Nat := Ieee.double.word (decide (n < 0)) (rung n.natAbs)
theorem fe_read {n : Int} (h : n.natAbs < 2 ^ 53) : Ieee.double.read (fe n) = num (decide (n < 0)) n.natAbs (upl n.natAbs) := read_word _ h
theorem sg_fe (n : Int) : sg (decide (n < 0)) n.natAbs = n := by unfold sg; by_cases h : n < 0 <;> simp [h] <;> omega
theorem upl_le (N : Nat) : upl N ≤ 1074 := by unfold upl; split <;> omega
theorem fe_add {a b : Int} (ha : a.natAbs < 2 ^ 53) (hb : b.natAbs < 2 ^ 53) (hab : (a + b).natAbs < 2 ^ 53) : Ieee.double.add (fe a) (fe b) = some (fe (a + b)) := by
  unfold Format.add
  rw [fe_read ha, fe_read hb, sum_num, sg_fe, sg_fe, Option.map_some, write_num _ hab (by have := upl_le a.natAbs; have := upl_le b.natAbs; omega)]
  unfold fe
  congr 2
  split
  · rename_i h
    by_cases h1 : a < 0
    · have : ¬ b < 0 := by omega
      simp [h1, this, h]
    · simp [h1, h]
  · rfl
/-- The other nought. -/
def fn0 : Nat := Ieee.double.word true (rung 0)
theorem fe_add_n0 {a : Int} (ha : a.natAbs < 2 ^ 53) : Ieee.double.add (fe a) fn0 = some (fe a) := by
  unfold Format.add fn0
  have e0 : sg true 0 = 0 := rfl
  rw [fe_read ha, read_word true (by decide), sum_num, sg_fe, e0, Int.add_zero, Option.map_some, write_num _ ha (by have := upl_le a.natAbs; have := upl_le 0; omega)]
  unfold fe
  congr 2
  split
  · rename_i h; simp [h]
  · rfl
theorem xor_top {x : Nat} (h : x < 2 ^ 63) : x ^^^ 2 ^ 63 = 2 ^ 63 + x := by
  apply Nat.eq_of_testBit_eq
  intro i
  rw [Nat.testBit_xor, Nat.testBit_two_pow]
  rcases Nat.lt_trichotomy i 63 with h1 | h1 | h1
  · rw [Nat.testBit_two_pow_add_gt h1]
    have : ¬ 63 = i := by omega
    simp [this]
  · subst h1; rw [Nat.testBit_two_pow_add_eq, Nat.testBit_lt_two_pow h]; simp
  · have h2 : 2 ^ 64 ≤ 2 ^ i := Nat.pow_le_pow_right (by decide) (by omega)
    rw [Nat.testBit_lt_two_pow (by omega), Nat.testBit_lt_two_pow (by omega)]
    simp; omega
theorem neg_word (s : Bool) {N : Nat} (h : N < 2 ^ 53) : Op.negFloat .f64 (Ieee.double.word s (rung N)) = Ieee.double.word (!s) (rung N) := by
  have hr := rung_lt h
  have e : Op.negFloat .f64 (Ieee.double.word s (rung N)) = Ieee.double.word s (rung N) ^^^ 2 ^ 63 := rfl
  rw [e]
  unfold Format.word
  rw [dbl_sign]
  cases s
  · simp only [Bool.not_false, Bool.false_eq_true, if_true, if_false]
    exact xor_top (by omega)
  · simp only [Bool.not_true, Bool.false_eq_true, if_true, if_false]
    rw [← xor_top (by omega), Nat.xor_assoc, Nat.xor_self, Nat.xor_zero]
theorem order_num (s t : Bool) (N M u v : Nat) : (num s N u).order (num t M v) = some (compare (sg s N) (sg t M)) := by
  unfold num Datum.order
  simp only
  have hb : min (-(u : Int)) (-(v : Int)) = -((max u v : Nat) : Int) := by omega
  rw [hb, signed_num s N u _ (by omega), signed_num t M v _ (by omega)]
  generalize sg s N = a
  generalize sg t M = b
  generalize max u v = w
  have hp : (0 : Int) < 2 ^ w := Int.pow_pos (by decide)
  congr 1
  rcases Int.lt_trichotomy a b with h | h | h
  · rw [Int.compare_eq_lt.2 h, Int.compare_eq_lt.2 (Int.mul_lt_mul_of_pos_right h hp)]
  · subst h; simp
  · rw [Int.compare_eq_gt.2 h, Int.compare_eq_gt.2 (Int.mul_lt_mul_of_pos_right h hp)]
theorem fe_abs {P : Program} {a : Int} (ha : a.natAbs < 2 ^ 53) (w : World) : (Builtin.max2 (.float .f64 (fe a)) (.float .f64 (Op.negFloat .f64 (fe a)))).run P w = .ok (.float .f64 (fe a.natAbs)) w := by
  have e1 : Op.negFloat .f64 (fe a) = Ieee.double.word (!decide (a < 0)) (rung a.natAbs) := neg_word _ ha
  have e2 : FloatKind.f64.format.order (fe a) (Op.negFloat .f64 (fe a)) = some (compare a (-a)) := by
    have : FloatKind.f64.format = Ieee.double := rfl
    rw [this]
    unfold Format.order
    rw [e1, fe_read ha, read_word _ ha, order_num, sg_fe]
    congr 2
    unfold sg
    by_cases h : a < 0 <;> simp [h] <;> omega
  have e3 : FloatKind.f64.decode (fe a) = num (decide (a < 0)) a.natAbs (upl a.natAbs) := fe_read ha
  unfold Builtin.max2
  simp only [e2]
  rcases Int.lt_trichotomy a 0 with h | h | h
  · have : compare a (-a) = .lt := Int.compare_eq_lt.2 (by omega)
    rw [this]
    simp only [e1, h, decide_true, Bool.not_true]
    unfold fe
    have : ¬ ((a.natAbs : Int) < 0) := by omega
    simp [this]
  · subst h
    have : compare (0 : Int) (-0) = .eq := by decide
    rw [this, e3]
    simp [num, Datum.neg]
  · have : compare a (-a) = .gt := Int.compare_eq_gt.2 (by omega)
    rw [this]
    have e : (a.natAbs : Int) = a := by omega
    simp [e]
theorem fe_int {a : Int} (ha : a.natAbs < 2 ^ 53) : floatToIntVal .f64 (fe a) .i64 = some a := by
  have e3 : FloatKind.f64.decode (fe a) = num (decide (a < 0)) a.natAbs (upl a.natAbs) := fe_read ha
  unfold floatToIntVal
  have e4 : (num (decide (a < 0)) a.natAbs (upl a.natAbs)).toInt .zero = some a := by
    unfold num Datum.toInt Datum.integral
    simp only
    have hk : Toward.zero.cut (decide (a < 0)) ((a.natAbs * 2 ^ upl a.natAbs) <<< (-(upl a.natAbs : Int)).toNat) (- -(upl a.natAbs : Int)).toNat = a.natAbs := by
      have h1 : (-(upl a.natAbs : Int)).toNat = 0 := by omega
      have h2 : (- -(upl a.natAbs : Int)).toNat = upl a.natAbs := by omega
      rw [h1, h2, Nat.shiftLeft_zero]
      by_cases h0 : a.natAbs = 0
      · rw [h0, Nat.zero_mul]; rfl
      · refine cut_exact .zero false a.natAbs (upl a.natAbs) _ ?_
        rw [log2_mul_pow h0]
        omega
    rw [hk]
    unfold signed
    by_cases h : a < 0 <;> simp [h] <;> omega
  rw [e3, e4]
  simp only
  have e5 : IntKind.i64.min = -9223372036854775808 := rfl
  have e6 : IntKind.i64.max = 9223372036854775807 := rfl
  rw [e5, e6, if_pos (by omega)]
end Go.Sx
namespace Go.Sx
open Go.RowKit
/-- The arrows of the times 0 to 3. -/
def aw : Nat → Nat × Nat
  | 0 => (fe 1, fe 0)
  | 1 => (fe 0, fe 1)
  | 2 => (fe (-1), fe 0)
  | _ => (fn0, fe (-1))
def dx : Nat → Int
  | 0 => 1
  | 2 => -1
  | _ => 0
def dy : Nat → Int
  | 1 => 1
  | 3 => -1
  | _ => 0
theorem aw_mul : (List.range 3).all (fun k => cMulBits (aw k).1 (aw k).2 (fe 0) (fe 1) == some (aw (k + 1))) = true := by kernel_rfl
theorem aw_succ {k : Nat} (h : k < 3) : cMulBits (aw k).1 (aw k).2 (fe 0) (fe 1) = some (aw (k + 1)) := by
  have := List.all_eq_true.1 aw_mul k (List.mem_range.2 h)
  simpa using this
theorem fe_0 : fe 0 = 0 := by kernel_rfl
theorem fe_1 : fe 1 = 4607182418800017408 := by kernel_rfl
theorem aw_add {k : Nat} (hk : k < 4) {a b : Int} (ha : a.natAbs < 2 ^ 52) (hb : b.natAbs < 2 ^ 52) : cSumBits .add .f64 (fe a) (fe b) (aw k).1 (aw k).2 = some (fe (a + dx k), fe (b + dy k)) := by
  have p : ∀ {a : Int} (d : Int), a.natAbs < 2 ^ 52 → d.natAbs ≤ 1 → floatBits .add .f64 (fe a) (fe d) = some (fe (a + d)) := fun d ha hd => fe_add (by omega) (by omega) (by omega)
  have q : ∀ {a : Int}, a.natAbs < 2 ^ 52 → floatBits .add .f64 (fe a) fn0 = some (fe a) := fun ha => fe_add_n0 (by omega)
  match k, hk with
  | 0, _ => simp [cSumBits, aw, dx, dy, p 1 ha, p 0 hb]
  | 1, _ => simp [cSumBits, aw, dx, dy, p 0 ha, p 1 hb]
  | 2, _ => simp [cSumBits, aw, dx, dy, p (-1) ha, p 0 hb]
  | 3, _ => simp [cSumBits, aw, dx, dy, q ha, p (-1) hb]
end Go.Sx
namespace Go.Sx
open Go.RowKit
section
variable {P : Program} {ops : List Oper} {C : World → Prop} {anc : Nat → Bool} {R : Act → (World → Prop) → Prop} {n : Nat} {st : Slots} {i : Nat} {l : List Nat} {o : Oper} {S : Nat → Prop} {w0 : World} {H HC : List Res} {d : Tmp}
theorem mx_real (ho : nthO ops i = some o) (hg : gd ops.toArray n st o = true) {x : Operand} {t : TypeId} (hop : o.op = .call { callee := .builtin .real, args := #[x], argTypes := #[t] }) {k : FloatKind} {re im : Nat} (hx : ev n st x = .complex k re im)
    (hd : o.dst = some d) (h : MX P ops C anc R l n ((d, .float k re) :: st) S w0 H) : MX P ops C anc R (i :: l) n st S w0 H :=
  mx_val ho hg (.float k re) (fun w => by simp only [execOp, hop, resolve, invoke, builtin, Sem.run_bind, Sem.run_pure, Result.andThen_ok, List.map_toArray, List.map_cons, List.map_nil, hx]; rfl) (by rw [hd]; rfl) h
theorem mx_imag (ho : nthO ops i = some o) (hg : gd ops.toArray n st o = true) {x : Operand} {t : TypeId} (hop : o.op = .call { callee := .builtin .imag, args := #[x], argTypes := #[t] }) {k : FloatKind} {re im : Nat} (hx : ev n st x = .complex k re im)
    (hd : o.dst = some d) (h : MX P ops C anc R l n ((d, .float k im) :: st) S w0 H) : MX P ops C anc R (i :: l) n st S w0 H :=
  mx_val ho hg (.float k im) (fun w => by simp only [execOp, hop, resolve, invoke, builtin, Sem.run_bind, Sem.run_pure, Result.andThen_ok, List.map_toArray, List.map_cons, List.map_nil, hx]; rfl) (by rw [hd]; rfl) h
theorem mx_negf (ho : nthO ops i = some o) (hg : gd ops.toArray n st o = true) {x : Operand} {t : TypeId} (hop : o.op = .unOp .neg t x) {k : FloatKind} {b : Nat} (hx : ev n st x = .float k b)
    (hd : o.dst = some d) (h : MX P ops C anc R l n ((d, .float k (Op.negFloat k b)) :: st) S w0 H) : MX P ops C anc R (i :: l) n st S w0 H :=
  mx_val ho hg (.float k (Op.negFloat k b)) (fun w => by simp [execOp, hop, hx, Op.unary]) (by rw [hd]; rfl) h
theorem mx_negi (ho : nthO ops i = some o) (hg : gd ops.toArray n st o = true) {x : Operand} {t : TypeId} (hop : o.op = .unOp .neg t x) {k : IntKind} {b z : Int} (hx : ev n st x = .int k b) (hz : k.wrap (0 - b) = z)
    (hd : o.dst = some d) (h : MX P ops C anc R l n ((d, .int k z) :: st) S w0 H) : MX P ops C anc R (i :: l) n st S w0 H := by
  subst hz
  exact mx_val ho hg (.int k (k.wrap (0 - b))) (fun w => by simp [execOp, hop, hx, Op.unary, Op.intArith]) (by rw [hd]; rfl) h
theorem mx_maxf (ho : nthO ops i = some o) (hg : gd ops.toArray n st o = true) {x y : Operand} {t u : TypeId} (hop : o.op = .call { callee := .builtin .max, args := #[x, y], argTypes := #[t, u] }) {a : Int} (hx : ev n st x = .float .f64 (fe a)) (hy : ev n st y = .float .f64 (Op.negFloat .f64 (fe a))) (h0 : a.natAbs < 2 ^ 53)
    (hd : o.dst = some d) (h : MX P ops C anc R l n ((d, .float .f64 (fe a.natAbs)) :: st) S w0 H) : MX P ops C anc R (i :: l) n st S w0 H :=
  mx_val ho hg (.float .f64 (fe a.natAbs)) (fun w => by
    simp only [execOp, hop, resolve, invoke, builtin, Sem.run_bind, Sem.run_pure, Result.andThen_ok, List.map_toArray, List.map_cons, List.map_nil, hx, hy, Builtin.max_, List.foldlM_cons, List.foldlM_nil, fe_abs h0]) (by rw [hd]; rfl) h
theorem mx_maxi (ho : nthO ops i = some o) (hg : gd ops.toArray n st o = true) {x y : Operand} {t u : TypeId} (hop : o.op = .call { callee := .builtin .max, args := #[x, y], argTypes := #[t, u] }) {k k' : IntKind} {a b z : Int} (hx : ev n st x = .int k a) (hy : ev n st y = .int k' b) (hz : max a b = z)
    (hd : o.dst = some d) (h : MX P ops C anc R l n ((d, .int k z) :: st) S w0 H) : MX P ops C anc R (i :: l) n st S w0 H := by
  subst hz
  have e : max a b = if b > a then b else a := by rw [Int.max_def]; split <;> split <;> omega
  rw [e] at h
  exact mx_val ho hg (.int k (if b > a then b else a)) (fun w => by
    simp only [execOp, hop, resolve, invoke, builtin, Sem.run_bind, Sem.run_pure, Result.andThen_ok, List.map_toArray, List.map_cons, List.map_nil, hx, hy, Builtin.max_, List.foldlM_cons, List.foldlM_nil, Builtin.max2]) (by rw [hd]; rfl) h
theorem mx_mini (ho : nthO ops i = some o) (hg : gd ops.toArray n st o = true) {x y : Operand} {t u : TypeId} (hop : o.op = .call { callee := .builtin .min, args := #[x, y], argTypes := #[t, u] }) {k k' : IntKind} {a b z : Int} (hx : ev n st x = .int k a) (hy : ev n st y = .int k' b) (hz : min a b = z)
    (hd : o.dst = some d) (h : MX P ops C anc R l n ((d, .int k z) :: st) S w0 H) : MX P ops C anc R (i :: l) n st S w0 H := by
  subst hz
  have e : min a b = if b < a then b else a := by rw [Int.min_def]; split <;> split <;> omega
  rw [e] at h
  exact mx_val ho hg (.int k (if b < a then b else a)) (fun w => by
    simp only [execOp, hop, resolve, invoke, builtin, Sem.run_bind, Sem.run_pure, Result.andThen_ok, List.map_toArray, List.map_cons, List.map_nil, hx, hy, Builtin.min_, List.foldlM_cons, List.foldlM_nil, Builtin.min2]) (by rw [hd]; rfl) h
theorem mx_addf (ho : nthO ops i = some o) (hg : gd ops.toArray n st o = true) {x y : Operand} {t u : TypeId} (hop : o.op = .binOp .add t x y u) {a b : Nat} (hx : ev n st x = .float .f64 (fe a)) (hy : ev n st y = .float .f64 (fe b)) (hab : a + b < 2 ^ 53)
    (hd : o.dst = some d) (h : MX P ops C anc R l n ((d, .float .f64 (fe ((a : Int) + (b : Int)))) :: st) S w0 H) : MX P ops C anc R (i :: l) n st S w0 H :=
  mx_val ho hg (.float .f64 (fe ((a : Int) + (b : Int)))) (fun w => by
    have e : floatBits .add .f64 (fe (a : Int)) (fe (b : Int)) = some (fe ((a : Int) + (b : Int))) := fe_add (by omega) (by omega) (by omega)
    simp [execOp, hop, hx, hy, eqGuard, run_float_arith w .add t .f64 _ _ _ e]) (by rw [hd]; rfl) h
theorem mx_addc (ho : nthO ops i = some o) (hg : gd ops.toArray n st o = true) {x y : Operand} {t u : TypeId} (hop : o.op = .binOp .add t x y u) {p q r s e f : Nat} (hx : ev n st x = .complex .f64 p q) (hy : ev n st y = .complex .f64 r s) (hc : cSumBits .add .f64 p q r s = some (e, f))
    (hd : o.dst = some d) (h : MX P ops C anc R l n ((d, .complex .f64 e f) :: st) S w0 H) : MX P ops C anc R (i :: l) n st S w0 H :=
  mx_val ho hg (.complex .f64 e f) (fun w => by simp [execOp, hop, hx, hy, eqGuard, run_complex_sum w .add (.inl rfl) t .f64 _ _ _ _ _ _ hc]) (by rw [hd]; rfl) h
theorem mx_mulc (ho : nthO ops i = some o) (hg : gd ops.toArray n st o = true) {x y : Operand} {t u : TypeId} (hop : o.op = .binOp .mul t x y u) {p q r s e f : Nat} (hx : ev n st x = .complex .f64 p q) (hy : ev n st y = .complex .f64 r s) (hc : cMulBits p q r s = some (e, f))
    (hd : o.dst = some d) (h : MX P ops C anc R l n ((d, .complex .f64 e f) :: st) S w0 H) : MX P ops C anc R (i :: l) n st S w0 H :=
  mx_val ho hg (.complex .f64 e f) (fun w => by simp [execOp, hop, hx, hy, eqGuard, run_complex_mul w t _ _ _ _ _ _ hc]) (by rw [hd]; rfl) h
theorem mx_f2i (E : Env P) (ho : nthO ops i = some o) (hg : gd ops.toArray n st o = true) {s e : TypeId} {x : Operand} (hop : o.op = .convert s e x) {a : Int} (hx : ev n st x = .float .f64 (fe a)) (hs : (P.underlying s).isSome = true) (he : (e, .i64) ∈ E.ints) (h0 : a.natAbs < 2 ^ 53)
    (hd : o.dst = some d) (h : MX P ops C anc R l n ((d, (.int .i64 a)) :: st) S w0 H) : MX P ops C anc R (i :: l) n st S w0 H :=
  mx_val ho hg (.int .i64 a) (fun w => by
    have h2 := List.all_eq_true.1 E.hints _ he
    simp only [intOk] at h2
    split at h2
    · rename_i k'' hu
      obtain rfl : k'' = .i64 := by simpa using h2
      simp only [execOp, hop, hx, Sem.run_bind, run_convert_float_int w s e .f64 .i64 _ _ hs hu (fe_int h0), Result.andThen_ok, Sem.run_pure]
    · cases h2) (by rw [hd]; rfl) h
theorem g_conv {s e : TypeId} {x : Operand} {od : Option Tmp} {ty : TypeId} {ps : String} {af : Array Edge} {g : Option (Nat × Bool)} (ho : nthO ops i = some (Oper.mk od (.convert s e x) ty ps af g)) (h : MX P ops C anc R (i :: l) n st S w0 H) : MX P ops C anc R (i :: l) n st S w0 H := h
theorem g_un {uo : UnOp} {t : TypeId} {x : Operand} {od : Option Tmp} {ty : TypeId} {ps : String} {af : Array Edge} {g : Option (Nat × Bool)} (ho : nthO ops i = some (Oper.mk od (.unOp uo t x) ty ps af g)) (h : MX P ops C anc R (i :: l) n st S w0 H) : MX P ops C anc R (i :: l) n st S w0 H := h
def ki : List (Nat × IntKind) → Nat → Option IntKind
  | [], _ => none
  | (a, k) :: l, x => bif Nat.beq a x then some k else ki l x
theorem ki_mem : ∀ {l : List (Nat × IntKind)} {x : Nat} {k : IntKind}, ki l x = some k → (x, k) ∈ l
  | [], _, _, h => by simp [ki] at h
  | (a, k) :: l, x, k', h => by
    simp only [ki] at h
    cases hb : Nat.beq a x with
    | true =>
      rw [hb] at h
      have : a = x := Nat.eq_of_beq_eq_true hb
      simp at h
      subst h; subst this
      simp
    | false => rw [hb] at h; exact List.mem_cons_of_mem _ (ki_mem h)
theorem mx_cv (E : Env P) (ho : nthO ops i = some o) (hg : gd ops.toArray n st o = true) {s e : TypeId} {x : Operand} (hop : o.op = .convert s e x) {k q k' : IntKind} {a c : Int} (hx : ev n st x = .int k a) (hs : ki E.ints s = some q) (he : ki E.ints e = some k') (hc : k'.wrap a = c)
    (hd : o.dst = some d) (h : MX P ops C anc R l n ((d, (.int k' c)) :: st) S w0 H) : MX P ops C anc R (i :: l) n st S w0 H :=
  mx_conv E ho hg hop hx ⟨q, ki_mem hs⟩ (ki_mem he) hc hd h
theorem mx_f2i' (E : Env P) (ho : nthO ops i = some o) (hg : gd ops.toArray n st o = true) {s e : TypeId} {x : Operand} (hop : o.op = .convert s e x) {a : Int} (hx : ev n st x = .float .f64 (fe a)) (hs : (P.underlying s).isSome = true) (he : ki E.ints e = some .i64) (h0 : a.natAbs < 2 ^ 53)
    (hd : o.dst = some d) (h : MX P ops C anc R l n ((d, (.int .i64 a)) :: st) S w0 H) : MX P ops C anc R (i :: l) n st S w0 H :=
  mx_f2i E ho hg hop hx hs (ki_mem he) h0 hd h
/-- One that is taken in the world as it stands. -/
theorem mx_geta (E : Env P) (ho : nthO ops i = some o) (hg : gd ops.toArray n st o = true) (ha : anc i = true) {t : TypeId} {x : Operand} (hop : o.op = .load t x) (ht : has1 E.one t = true) {b off : Nat} (hx : ev n st x = .pointer (some ⟨b, off, none⟩)) {T : Nat} {vs : List Value} [hr : HasRow H b T vs] {v : Value} (hc : vs[off]? = some v)
    (hd : o.dst = some d) (h : MX P ops C anc R l n ((d, v) :: st) S w0 H) : MX P ops C anc R (i :: l) n st S w0 H :=
  a_load1 E ho hg ha hop ht hx (fun w hw => row_cell (hr.holds hw) hc) hd h
theorem mx_getna (E : Env P) (ho : nthO ops i = some o) (hg : gd ops.toArray n st o = true) (ha : anc i = true) {t : TypeId} {x : Operand} (hop : o.op = .load t x) {m : Nat} (ht : at0 E.agg t = some m) {b off : Nat} (hx : ev n st x = .pointer (some ⟨b, off, none⟩)) {T : Nat} {vs : List Value} [hr : HasRow H b T vs] {us : List Value} (hv : Vr vs off m us)
    (hd : o.dst = some d) (h : MX P ops C anc R l n ((d, .agg us.toArray) :: st) S w0 H) : MX P ops C anc R (i :: l) n st S w0 H :=
  a_loadn E ho hg ha hop ht hx us hv.len (fun w hw j v hj => by rw [add_at]; exact row_cell (hr.holds hw) (hv.vw.get hj)) hd h
/-- Whole numbers, one cell each. -/
@[reducible] def cK (k : IntKind) (a : Int) : List Value := [.int k a]
inductive EvI (n : Nat) (st : Slots) (k : IntKind) : Nat → List (Nat × Operand) → List Int → Prop where
  | nil {j : Nat} : EvI n st k j [] []
  | cons {j : Nat} {x : Operand} {ps : List (Nat × Operand)} {a : Int} {is : List Int} (h : ev n st x = .int k a) (hr : EvI n st k (j + 1) ps is) : EvI n st k j ((j, x) :: ps) (a :: is)
theorem EvI.eq {k : IntKind} : ∀ {j : Nat} {ps : List (Nat × Operand)} {is : List Int}, EvI n st k j ps is → ps.map (fun (i, x) => (i, ev n st x)) = ((is.map (Value.int k)).zipIdx j).map fun x => (x.2, x.1)
  | _, _, _, .nil => rfl
  | _, _, _, .cons h hr => by simp only [List.map_cons, List.zipIdx_cons, h, hr.eq]
theorem flat_cK (k : IntKind) : ∀ (is : List Int), ((is.map (Value.int k)).flatMap fun v => v.cells.toList) = is.flatMap (cK k)
  | [] => rfl
  | a :: is => by
    have := flat_cK k is
    simp only [List.map_cons, List.flatMap_cons, this]
    rfl
theorem g_bs {t : TypeId} {m : Nat} {pp : Array (Nat × Operand)} {od : Option Tmp} {ty : TypeId} {ps : String} {af : Array Edge} {g : Option (Nat × Bool)} (ho : nthO ops i = some (Oper.mk od (.buildSlice t m pp) ty ps af g)) (h : MX P ops C anc R (i :: l) n st S w0 H) : MX P ops C anc R (i :: l) n st S w0 H := h
theorem a_bsi (E : Env P) (ho : nthO ops i = some o) (hg : gd ops.toArray n st o = true) (ha : anc i = true) {t : TypeId} {m : Nat} {parts : Array (Nat × Operand)} (hop : o.op = .buildSlice t m parts) {e : Nat} (ht : at1 E.sl t = some (e, 1)) {k : IntKind} {is : List Int} (hv : EvI n st k 0 parts.toList is) (hm : is.length = m) (h0 : Nat.blt 0 m = true) (h1 : Nat.ble m 16777216 = true)
    (hd : o.dst = some d) (h : ∀ b, MX P ops C anc R l n ((d, .slice (some ⟨b, 0, none⟩) m m) :: st) S w0 (row b e (is.flatMap (cK k)) :: H)) : MX P ops C anc R (i :: l) n st S w0 H :=
  a_bslice E ho hg ha hop (is.map (Value.int k)) hv.eq (flat_cK k is) ht (fun v hv => by obtain ⟨a, _, rfl⟩ := List.mem_map.1 hv; rfl) (by simpa using hm) (by simpa using h0) (by simpa using h1) hd h
/-- An empty one. -/
theorem a_bs0 (E : Env P) (ho : nthO ops i = some o) (hg : gd ops.toArray n st o = true) (ha : anc i = true) {t : TypeId} (hop : o.op = .buildSlice t 0 #[]) {e z : Nat} (ht : at1 E.sl t = some (e, z))
    (hd : o.dst = some d) (h : ∀ b, MX P ops C anc R l n ((d, .slice (some ⟨b, 0, none⟩) 0 0) :: st) S w0 (ownd (some ⟨b, 0, none⟩) 0 e z 0 [] :: H)) : MX P ops C anc R (i :: l) n st S w0 H := by
  refine a_any ho hg ha fun hC w hw => ?_
  obtain ⟨hu, ii, z0, hi, hiz, hz0, hzz, _⟩ := E.sl_zero ht
  have hr : (execOp (ev n st) o).run P w = .ok (.value (.slice (some ⟨w.heap.size, 0, none⟩) 0 0)) (w.alloc (.cells #[] e)) := by
    simp [execOp, hop, Instr.buildSlice, run_underlying hu, sizeOf, typeInfo, hi, Instr.fill, newRow]
    congr 2
    exact Array.eq_empty_of_size_eq_zero (by simp)
  unfold runs
  rw [hr]
  refine ⟨_, fun w h => hC w h.tail, ?_, by rw [hd]; exact h w.heap.size⟩
  refine hw.push (D := fun _ => False) (Chg.alloc _ _ _) (fun _ _ h => h) _ ⟨by simp, .inr ⟨w.heap.size, 0, #[], rfl, Nat.zero_le _, by rw [heap_alloc_new], by simp, by simp, by simp, by simp⟩⟩ fun b hb => ?_
  obtain rfl : w.heap.size = b := by simpa [ownd, Value.ownBlock] using hb
  exact ⟨by simp, by omega⟩
/-- What is to be appended, or copied. -/
def Src (w : World) (ad : Option Addr) (news : List Value) : Prop := news ≠ [] → ∃ b off, ad = some ⟨b, off, none⟩ ∧ ∀ (j : Nat) (u : Value), news[j]? = some u → w.cell? ((⟨b, off, none⟩ : Addr).add j) = some u
theorem InL.src {α : Type} {w : World} {ad : Option Addr} {z : Nat} {c : α → List Value} {xs : List α} (hz : ∀ x, (c x).length = z) (h : InL w ad z c xs) : Src w ad (xs.flatMap c) := fun hne => by
  obtain ⟨b, off, e, hc⟩ := h (by intro e; subst e; exact hne rfl)
  refine ⟨b, off, e, fun j u hj => ?_⟩
  rw [Addr.add_lit]
  have hjl := (List.getElem?_eq_some_iff.1 hj).1
  rw [flatMap_len hz] at hjl
  have hz0 : 0 < z := by
    rcases Nat.eq_zero_or_pos z with h | h
    · subst h; omega
    · exact h
  have hd : j / z < xs.length := Nat.div_lt_of_lt_mul (by rw [Nat.mul_comm]; exact hjl)
  have hm : j % z < z := Nat.mod_lt _ hz0
  have e2 : j = j / z * z + j % z := by rw [Nat.mul_comm]; exact (Nat.div_add_mod j z).symm
  have hx : xs[j / z]? = some xs[j / z] := List.getElem?_eq_getElem hd
  have h1 := flatMap_at hz xs (j / z) (j % z) _ hx hm
  rw [← e2, hj] at h1
  have h2 := hc _ _ hx (j % z) u h1.symm
  rw [Nat.add_assoc, ← e2] at h2
  exact h2
theorem g_call' {c : Go.Call} {od : Option Tmp} {ty : TypeId} {ps : String} {af : Array Edge} {g : Option (Nat × Bool)} (ho : nthO ops i = some (Oper.mk od (.call c) ty ps af g)) (h : MX P ops C anc R (i :: l) n st S w0 H) : MX P ops C anc R (i :: l) n st S w0 H := h
class UpdO (H : List Res) (ad : Option Addr) (cap e z len : Nat) (xs : outParam (List Value)) (F : outParam (Res → List Res)) : Prop where
  upd : ∀ r', Upd H (ownd ad cap e z len xs) r' (F r')
instance UpdO.uS {H : List Res} {r : Res} {ad : Option Addr} {cap e z len : Nat} {xs : List Value} {F : Res → List Res} [h : UpdO H ad cap e z len xs F] : UpdO (r :: H) ad cap e z len xs (fun r' => r :: F r') := ⟨fun vs' => upS (h.upd vs')⟩
instance UpdO.u0 {H : List Res} {ad : Option Addr} {cap e z len : Nat} {xs : List Value} : UpdO (ownd ad cap e z len xs :: H) ad cap e z len xs (fun r' => r' :: H) := ⟨fun _ => up0⟩
/-- What is appended may be nothing. -/
theorem a_app (E : Env P) (ho : nthO ops i = some o) (hg : gd ops.toArray n st o = true) (ha : anc i = true) {s x : Operand} {t : TypeId} (hop : o.op = .call { callee := .builtin .append, args := #[s, x], argTypes := #[t, t] }) {e z : Nat} (ht : at1 E.sl t = some (e, z)) (hz : Nat.blt 0 z = true)
    {ad adx : Option Addr} {len cap m c : Nat} (hs : ev n st s = .slice ad len cap) (hx : ev n st x = .slice adx m c) {xs : List Value} {HH : Res → List Res} [hj : UpdO H ad cap e z len xs HH] (news : List Value) (hl : news.length = m * z) (hn : ∀ w, Ok S w0 H w → Src w adx news) (h1 : news.all (·.oneCell') = true) (hbig : len + m ≤ 2147483648)
    (hd : o.dst = some d) (hC : ∀ ad' cap', ∀ w, Ok S w0 (HH (ownd ad' cap' e z (len + m) (xs ++ news))) w → C w) (h : ∀ ad' cap', MX P ops C anc R l n ((d, .slice ad' (len + m) cap') :: st) S w0 (HH (ownd ad' cap' e z (len + m) (xs ++ news)))) : MX P ops C anc R (i :: l) n st S w0 H := by
  by_cases hm : m = 0
  · subst hm
    have hn0 : news = [] := List.eq_nil_of_length_eq_zero (by simpa using hl)
    subst hn0
    refine a_any ho hg ha fun hC' w hw => ?_
    obtain ⟨hu, ii, z0, hi, hiz, hz0, hzz, hby⟩ := E.sl_zero ht
    obtain ⟨j, hj1, hj2⟩ := hj.upd (ownd ad cap e z len xs)
    have hj0 : (ownd ad cap e z len xs).holds w := hw.holds j _ hj1
    have hcap := (own_at hj0).2.2
    have e1 : ∀ (a : Addr), a.add (0 * z) = a := fun a => by simp [Addr.add]
    have hlf : Builtin.firstCells ii.size 0 (.slice adx 0 c) = pure #[] ∨ (Builtin.firstCells ii.size 0 (.slice adx 0 c)).run P w = .ok #[] w := by
      cases adx with
      | none => exact .inl rfl
      | some a => right; simp [Builtin.firstCells, loadCells, loadCellsFrom]
    have hlf' : (Builtin.firstCells ii.size 0 (.slice adx 0 c)).run P w = .ok #[] w := by
      rcases hlf with h | h
      · rw [h]; rfl
      · exact h
    have hr : (Builtin.append_ #[t, t] o.type #[.slice ad len cap, .slice adx 0 c]).run P w = .ok (.slice ad len cap) w := by
      cases ad with
      | none => simp [Builtin.append_, run_underlying hu, sizeOf, typeInfo, hi, Builtin.lenOf, hlf', hcap]
      | some a => simp [Builtin.append_, run_underlying hu, sizeOf, typeInfo, hi, Builtin.lenOf, hlf', hcap, storeCells]
    have hr' : (execOp (ev n st) o).run P w = .ok (.value (.slice ad len cap)) w := by
      simp only [execOp, hop, resolve, invoke, builtin, Sem.run_bind, Sem.run_pure, Result.andThen_ok, List.map_toArray, List.map_cons, List.map_nil, hs, hx, hr]
    unfold runs
    rw [hr']
    have hHH : HH (ownd ad cap e z len xs) = H := by
      rw [← hj2]
      refine List.ext_getElem? fun k => ?_
      rw [List.getElem?_set]
      split
      · rename_i e
        subst e
        rw [if_pos (List.getElem?_eq_some_iff.1 hj1).1, hj1]
      · rfl
    have h' := h ad cap
    have hC'' := hC ad cap
    simp only [Nat.add_zero, List.append_nil, hHH] at h' hC''
    exact ⟨_, hC'', hw, by rw [hd]; exact h'⟩
  · by_cases hne : news = []
    · subst hne
      have : m * z = 0 := by simpa using hl.symm
      have hz' : 0 < z := by simpa [Nat.blt_eq] using hz
      rcases Nat.mul_eq_zero.1 this with h | h <;> omega
    · cases adx with
      | none =>
        exact a_any ho hg ha fun hC' w hw => by
          obtain ⟨b, off, e, _⟩ := hn w hw hne
          cases e
      | some a =>
        obtain ⟨b, off, sp⟩ := a
        by_cases hsp : sp = none
        · subst hsp
          exact a_append E ho hg ha hop ht hz hs hx news hl (fun w hw => by
            obtain ⟨b', off', e, hc⟩ := hn w hw hne
            obtain ⟨rfl, rfl⟩ : b = b' ∧ off = off' := by simpa using e
            exact hc) h1 hbig HH hj.upd hd hC h
        · exact a_any ho hg ha fun hC' w hw => by
            obtain ⟨b', off', e, _⟩ := hn w hw hne
            simp at e
            exact absurd e.2.2 hsp
theorem cmp_eq_t {a b : Int} (h : a = b) : cmpOp .eql a b = some true := by simp [cmpOp, h]
theorem cmp_eq_f {a b : Int} (h : a ≠ b) : cmpOp .eql a b = some false := by simp [cmpOp, h]
theorem cmp_ne_t {a b : Int} (h : a ≠ b) : cmpOp .neq a b = some true := by simp [cmpOp, h]
theorem cmp_ne_f {a b : Int} (h : a = b) : cmpOp .neq a b = some false := by simp [cmpOp, h]
theorem cmp_lt_t {a b : Int} (h : a < b) : cmpOp .lss a b = some true := by simp [cmpOp, h]
theorem cmp_lt_f {a b : Int} (h : b ≤ a) : cmpOp .lss a b = some false := by simp [cmpOp]; omega
theorem cmp_le_t {a b : Int} (h : a ≤ b) : cmpOp .leq a b = some true := by simp [cmpOp, h]
theorem cmp_le_f {a b : Int} (h : b < a) : cmpOp .leq a b = some false := by simp [cmpOp]; omega
theorem cmp_gt_t {a b : Int} (h : b < a) : cmpOp .gtr a b = some true := by simp [cmpOp, h]
theorem cmp_gt_f {a b : Int} (h : a ≤ b) : cmpOp .gtr a b = some false := by simp [cmpOp]; omega
theorem cmp_ge_t {a b : Int} (h : b ≤ a) : cmpOp .geq a b = some true := by simp [cmpOp, h]
theorem cmp_ge_f {a b : Int} (h : a < b) : cmpOp .geq a b = some false := by simp [cmpOp]; omega
theorem mx_cmpl {x y : Operand} {t yt : TypeId} {d : Tmp} {ty : TypeId} {ps : String} {af : Array Edge} {g : Option (Nat × Bool)} (op : BinOp) {k k' : IntKind} {a b : Int} {c : Bool} (ho : nthO ops i = some (Oper.mk (some d) (.binOp op t x y yt) ty ps af g)) (hg : gd ops.toArray n st (Oper.mk (some d) (.binOp op t x y yt) ty ps af g) = true) (hx : ev n st x = .int k a) (hy : ev n st y = .int k' b) (hk : kindEq k k' = true) (hc : cmpOp op a b = some c) (h : MX P ops C anc R l n ((d, .bool c) :: st) S w0 H) : MX P ops C anc R (i :: l) n st S w0 H := mx_cmp ho hg hx hy hk hc h
theorem mx_bsame (E : Env P) (ho : nthO ops i = some o) (hg : gd ops.toArray n st o = true) {t : TypeId} {x y : Operand} {yt : TypeId} (hop : o.op = .binOp .eql t x y yt) (ht : has1 E.bools t = true) {a : Bool} (hx : ev n st x = .bool a) (hy : ev n st y = .bool a)
    (hd : o.dst = some d) (h : MX P ops C anc R l n ((d, (.bool true)) :: st) S w0 H) : MX P ops C anc R (i :: l) n st S w0 H :=
  mx_beq E ho hg hop ht hx hy hd (by simpa using h)
theorem mx_bnsame (E : Env P) (ho : nthO ops i = some o) (hg : gd ops.toArray n st o = true) {t : TypeId} {x y : Operand} {yt : TypeId} (hop : o.op = .binOp .neq t x y yt) (ht : has1 E.bools t = true) {a : Bool} (hx : ev n st x = .bool a) (hy : ev n st y = .bool a)
    (hd : o.dst = some d) (h : MX P ops C anc R l n ((d, (.bool false)) :: st) S w0 H) : MX P ops C anc R (i :: l) n st S w0 H :=
  mx_bne E ho hg hop ht hx hy hd (by simpa using h)
/-- Which function is called. -/
theorem g_cf (f : Nat) {xs : Array Operand} {ts : Array TypeId} {od : Option Tmp} {ty : TypeId} {ps : String} {af : Array Edge} {g : Option (Nat × Bool)} (ho : nthO ops i = some (Oper.mk od (.call { callee := .value (.func f), args := xs, argTypes := ts }) ty ps af g)) (h : MX P ops C anc R (i :: l) n st S w0 H) : MX P ops C anc R (i :: l) n st S w0 H := h
theorem g_bi (f : Builtin) {xs : Array Operand} {ts : Array TypeId} {od : Option Tmp} {ty : TypeId} {ps : String} {af : Array Edge} {g : Option (Nat × Bool)} (ho : nthO ops i = some (Oper.mk od (.call { callee := .builtin f, args := xs, argTypes := ts }) ty ps af g)) (h : MX P ops C anc R (i :: l) n st S w0 H) : MX P ops C anc R (i :: l) n st S w0 H := h
/-- A call that leaves nothing but new blocks, told by what is known all through. -/
theorem mx_call' (ho : nthO ops i = some o) (hg : gd ops.toArray n st o = true) {f : FuncId} {xs : Array Operand} {ts : Array TypeId} (hop : o.op = .call { callee := .value (.func f), args := xs, argTypes := ts }) {fn : Func} (hf : P.funcs[f]? = some fn) (hb : fn.body.isSome = true) (hn : (fn.name == "runtime.NumGoroutine") = false) {args : List Value} (hx : xs.toList.map (ev n st) = args)
    (v : Value) (hc : ∀ w, Ok S w0 HC w → Calls P f args.toArray w fun e w' => e = .returned v ∧ Grow w w') (hd : o.dst = some d) [hsub : SubC (Ok S w0 HC) S w0 H] (h : MX P ops (Ok S w0 HC) anc R l n ((d, v) :: st) S w0 H) : MX P ops (Ok S w0 HC) anc R (i :: l) n st S w0 H := by
  cases ha : anc i with
  | false => exact f_call ho hg ha hop hf hb hn hx v (fun w hw => hc w hw) hd h
  | true => exact a_callv ho hg ha hop hf hb hn hx v (fun w hw => hc w (hsub.sub w hw)) hd h
end
end Go.Sx
