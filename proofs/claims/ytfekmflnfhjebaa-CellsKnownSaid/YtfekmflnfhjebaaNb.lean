/- Bytes as numbers, and numbers as bytes: plain. -/
import Derived.Test.YtfekmflnfhjebaaBy
set_option linter.unusedVariables false
set_option linter.unusedSimpArgs false
namespace Go.Proofs.Ytfekmflnfhjebaa
open Go Go.Sx Go.RowKit
/-- The number that bytes are. -/
def numB : List Int → Int
  | [] => 0
  | c :: cs => c + 256 * numB cs
def Byts (cs : List Int) : Prop := ∀ c ∈ cs, 0 ≤ c ∧ c < 256
theorem numB_bd : ∀ (cs : List Int), Byts cs → 0 ≤ numB cs ∧ numB cs < 256 ^ cs.length
  | [], _ => by simp [numB]
  | c :: cs, h => by
    have h1 := h c (by simp)
    have h2 := numB_bd cs fun x hx => h x (List.mem_cons_of_mem _ hx)
    simp only [numB, List.length_cons, Int.pow_succ]
    omega
theorem numB_snoc : ∀ (cs : List Int) (c : Int), numB (cs ++ [c]) = numB cs + 256 ^ cs.length * c
  | [], c => by simp [numB]
  | d :: cs, c => by
    simp only [List.cons_append, numB, numB_snoc cs c, List.length_cons, Int.pow_succ]
    rw [Int.mul_add, ← Int.mul_assoc, Int.mul_comm (256 ^ cs.length) 256]
    omega
theorem or_add (k : IntKind) (hk : k = .u64 ∨ k = .u8) (i : Nat) (a c : Int) (ha : 0 ≤ a) (hai : a < 2 ^ i) (hc : 0 ≤ c) (hb : a + 2 ^ i * c < 2 ^ k.bits) : k.wrap ((BitVec.ofInt k.bits a) ||| (BitVec.ofInt k.bits (2 ^ i * c))).toNat = a + 2 ^ i * c := by
  obtain ⟨m, rfl⟩ := Int.eq_ofNat_of_zero_le ha
  obtain ⟨q, rfl⟩ := Int.eq_ofNat_of_zero_le hc
  have hai' : m < 2 ^ i := by exact_mod_cast hai
  have hb' : m + 2 ^ i * q < 2 ^ k.bits := by exact_mod_cast hb
  have e1 : (BitVec.ofInt k.bits (m : Int)).toNat = m := by
    rw [BitVec.toNat_ofInt]
    have : ((m : Int) % ((2 ^ k.bits : Nat) : Int)).toNat = m % 2 ^ k.bits := by rw [← Int.natCast_emod]; rfl
    rw [this, Nat.mod_eq_of_lt (by omega)]
  have e2 : (BitVec.ofInt k.bits (2 ^ i * (q : Int))).toNat = 2 ^ i * q := by
    have e : (2 : Int) ^ i * (q : Int) = ((2 ^ i * q : Nat) : Int) := by push_cast; rfl
    rw [e, BitVec.toNat_ofInt]
    have : (((2 ^ i * q : Nat) : Int) % ((2 ^ k.bits : Nat) : Int)).toNat = (2 ^ i * q) % 2 ^ k.bits := by rw [← Int.natCast_emod]; rfl
    rw [this, Nat.mod_eq_of_lt (by omega)]
  rw [BitVec.toNat_or, e1, e2, Nat.or_comm, ← Nat.two_pow_add_eq_or_of_lt hai']
  have e3 : ((2 ^ i * q + m : Nat) : Int) = (m : Int) + 2 ^ i * (q : Int) := by push_cast; omega
  rw [e3]
  rcases hk with rfl | rfl
  · exact IntWalk.u64_in _ (by
      have : (2 : Int) ^ IntKind.u64.bits = 18446744073709551616 := rfl
      have h0 : (0 : Int) ≤ 2 ^ i * (q : Int) := Int.mul_nonneg (Int.le_of_lt (Int.pow_pos (by decide))) (by omega)
      omega)
  · exact IntWalk.u8_in _ (by
      have : (2 : Int) ^ IntKind.u8.bits = 256 := rfl
      have h0 : (0 : Int) ≤ 2 ^ i * (q : Int) := Int.mul_nonneg (Int.le_of_lt (Int.pow_pos (by decide))) (by omega)
      omega)
theorem ipow_le (x : Nat) (hx : 0 < x) {a b : Nat} (h : a ≤ b) : (x : Int) ^ a ≤ (x : Int) ^ b := by
  have := Nat.pow_le_pow_right hx h
  exact_mod_cast this
theorem take_byts {cs : List Int} (h : Byts cs) (i : Nat) : Byts (cs.take i) := fun c hc => h c (List.mem_of_mem_take hc)
theorem drop_byts {cs : List Int} (h : Byts cs) (i : Nat) : Byts (cs.drop i) := fun c hc => h c (List.mem_of_mem_drop hc)
theorem pow256 (n : Nat) : (256 : Int) ^ n = 2 ^ (8 * n) := by
  rw [Int.pow_mul]
  rfl
theorem num_step (cs : List Int) (hb : Byts cs) (h8 : cs.length ≤ 8) {i : Nat} {c : Int} (hx : cs[i]? = some c) :
    IntKind.u64.wrap (c * 2 ^ (min ((8 : Int) * (i : Int)).toNat IntKind.u64.bits)) = 2 ^ (8 * i) * c ∧ IntKind.u64.wrap ((BitVec.ofInt IntKind.u64.bits (numB (cs.take i))) ||| (BitVec.ofInt IntKind.u64.bits (2 ^ (8 * i) * c))).toNat = numB (cs.take (i + 1)) := by
  have hi := (List.getElem?_eq_some_iff.1 hx).1
  have hc := hb c (List.mem_of_getElem? hx)
  have hbd := numB_bd (cs.take i) (take_byts hb i)
  have hl : (cs.take i).length = i := by rw [List.length_take]; omega
  rw [hl, pow256] at hbd
  have hall := numB_bd (cs.take (i + 1)) (take_byts hb (i + 1))
  have hl1 : (cs.take (i + 1)).length = i + 1 := by rw [List.length_take]; omega
  have hsn : numB (cs.take (i + 1)) = numB (cs.take i) + 2 ^ (8 * i) * c := by
    rw [List.take_add_one, hx]
    show numB (cs.take i ++ [c]) = _
    rw [numB_snoc, hl, pow256]
  rw [hl1, pow256] at hall
  have hp : (2 : Int) ^ (8 * (i + 1)) ≤ 2 ^ 64 := ipow_le 2 (by decide) (by omega)
  have e64 : (2 : Int) ^ 64 = 18446744073709551616 := rfl
  have hnn : 0 ≤ (2 : Int) ^ (8 * i) * c := Int.mul_nonneg (Int.le_of_lt (Int.pow_pos (by decide))) hc.1
  refine ⟨?_, ?_⟩
  · have e : min ((8 : Int) * (i : Int)).toNat IntKind.u64.bits = 8 * i := by
      show min ((8 : Int) * (i : Int)).toNat 64 = 8 * i
      omega
    rw [e, Int.mul_comm]
    exact IntWalk.u64_in _ (by omega)
  · rw [or_add .u64 (.inl rfl) (8 * i) _ c hbd.1 hbd.2 hc.1 (by show _ < (2 : Int) ^ 64; omega), hsn]
/-- The bytes of a number. -/
def bytw (n : Int) (i : Nat) : Int := IntKind.u8.wrap (n / 2 ^ (8 * i))
def byts (n : Int) (m : Nat) : List Int := (List.range m).map (bytw n)
theorem byts_len (n : Int) (m : Nat) : (byts n m).length = m := by simp [byts]
theorem byts_at (n : Int) {m i : Nat} (h : i < m) : (byts n m)[i]? = some (bytw n i) := by simp [byts, h]
theorem byts_take (n : Int) {m k : Nat} (h : k ≤ m) : (byts n m).take k = byts n k := by
  apply List.ext_getElem?
  intro i
  by_cases hi : i < k
  · rw [List.getElem?_take_of_lt hi, byts_at n (by omega), byts_at n hi]
  · rw [List.getElem?_eq_none (by simp [byts]; omega), List.getElem?_eq_none (by simp [byts]; omega)]
theorem shr64 (n : Int) (i : Nat) (hi : i < 8) : n.fdiv (2 ^ (min ((8 : Int) * (i : Int)).toNat IntKind.u64.bits)) = n / 2 ^ (8 * i) := by
  have e : min ((8 : Int) * (i : Int)).toNat IntKind.u64.bits = 8 * i := by
    show min ((8 : Int) * (i : Int)).toNat 64 = 8 * i
    omega
  rw [e, Int.fdiv_eq_ediv_of_nonneg _ (Int.le_of_lt (Int.pow_pos (by decide)))]
theorem dd256 (n k : Int) : n / (256 * k) = n / 256 / k := by rw [Int.ediv_ediv]; simp
theorem bytw_succ (n : Int) (i : Nat) : bytw n (i + 1) = bytw (n / 256) i := by
  unfold bytw
  have : (2 : Int) ^ (8 * (i + 1)) = 256 * 2 ^ (8 * i) := by
    rw [show 8 * (i + 1) = 8 + 8 * i by omega, Int.pow_add]; rfl
  rw [this, dd256]
theorem byts_cons (n : Int) (m : Nat) : byts n (m + 1) = bytw n 0 :: byts (n / 256) m := by
  unfold byts
  rw [List.range_succ_eq_map, List.map_cons, List.map_map]
  congr 1
  exact List.map_congr_left fun i _ => bytw_succ n i
theorem numB_byts : ∀ (m : Nat) (n : Int), numB (byts n m) = n % 256 ^ m
  | 0, n => by simp [byts, numB, Int.emod_one]
  | m + 1, n => by
    rw [byts_cons, numB, numB_byts m]
    have e0 : bytw n 0 = n % 256 := by
      unfold bytw
      rw [IntKind.wrap_u8]
      simp
    have hk : (0 : Int) < 256 ^ m := Int.pow_pos (by decide)
    rw [e0, Int.pow_succ, Int.mul_comm (256 ^ m) 256, Int.emod_def n (256 * 256 ^ m), dd256, Int.emod_def (n / 256), Int.emod_def n 256, Int.mul_sub, Int.mul_assoc]
    omega
end Go.Proofs.Ytfekmflnfhjebaa
