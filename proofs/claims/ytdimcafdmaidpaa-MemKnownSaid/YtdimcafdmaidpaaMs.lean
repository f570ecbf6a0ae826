/- What bytes that are laid on a stack leave, byte by byte. Plain Lean. -/
import Derived.Test.YtdimcafdmaidpaaMb
import Derived.Test.YtdimcafdmaidpaaMz
set_option maxRecDepth 100000
set_option maxHeartbeats 4000000
set_option linter.unusedSimpArgs false
set_option linter.unusedVariables false
namespace Go.Proofs.Ytdimcafdmaidpaa
open Go Go.Sx Go.RowKit
theorem hb_nat (n j : Nat) : hb (n : Int) j = n.testBit j := by
  unfold hb
  rw [Nat.testBit_eq_decide_div_mod_eq]
  congr 1
  have e : ((n : Int) / 2 ^ j) = ((n / 2 ^ j : Nat) : Int) := by simp
  rw [e]
  apply propext
  omega
theorem orb_nat (n k : Nat) (hn : n < 256) (hk : k < 8) : ORB (n : Int) k = ((n ||| 2 ^ k : Nat) : Int) := by
  unfold ORB
  have e8 : IntKind.u8.bits = 8 := rfl
  have hp : 2 ^ k < 256 := by
    have : 2 ^ k ≤ 2 ^ 7 := Nat.pow_le_pow_right (by decide) (by omega)
    omega
  have h1 : (BitVec.ofInt IntKind.u8.bits (n : Int)).toNat = n := by
    rw [e8, BitVec.toNat_ofInt]
    omega
  have h2 : (BitVec.ofInt IntKind.u8.bits ((2 : Int) ^ k)).toNat = 2 ^ k := by
    have : ((2 : Int) ^ k) = ((2 ^ k : Nat) : Int) := by simp
    rw [e8, this, BitVec.toNat_ofInt]
    generalize 2 ^ k = q at *
    omega
  rw [BitVec.toNat_or, h1, h2]
  have h3 : n ||| 2 ^ k < 2 ^ 8 := Nat.or_lt_two_pow (by omega) (by omega)
  exact IntWalk.u8_in _ (by omega)
theorem hb_orb {a : Int} (h0 : 0 ≤ a) (h1 : a < 256) {k j : Nat} (hk : k < 8) : hb (ORB a k) j = (hb a j || decide (k = j)) := by
  obtain ⟨n, rfl⟩ := Int.eq_ofNat_of_zero_le h0
  show hb (ORB (n : Int) k) j = (hb (n : Int) j || decide (k = j))
  rw [orb_nat n k (by omega) hk, hb_nat, hb_nat, Nat.testBit_or, Nat.testBit_two_pow]
theorem hb_zero (j : Nat) : hb 0 j = false := by
  have := hb_nat 0 j
  simpa using this
/-- One byte laid. -/
theorem lay1_at {f : Fr} (hf : FrOk f) {p : Nat} (hp : p < 512) (c : Int) : rdb (lay1 f p c) p = true ∧ bya (lay1 f p c) p = c := by
  have h8 : p % 8 < 8 := Nat.mod_lt _ (by decide)
  have hk := hf (p / 8) (by omega)
  constructor
  · unfold rdb lay1
    rw [setS_at]
    simp only [SL.setA, SL.setB]
    rw [Bool.and_eq_true]
    refine ⟨decide_eq_true ?_, ?_⟩
    · split
      · rename_i h; exact h
      · rfl
    · split
      · rw [hb_orb hk.1.1 hk.1.2 h8]; simp
      · rw [show SL.o.a = (0 : Int) from rfl, hb_orb (by decide) (by decide) h8]; simp
  · unfold bya lay1
    rw [setS_at]
    simp [SL.setA, SL.setB, fset]
theorem lay1_ne {f : Fr} (hf : FrOk f) {p q : Nat} (hp : p < 512) (hq : q ≠ p) (c : Int) : (rdb (lay1 f p c) q = true ↔ rdb f q = true ∧ (q / 8 = p / 8 → (f.S (p / 8)).v.k = 0)) ∧ (rdb f q = true → bya (lay1 f p c) q = bya f q) := by
  have h8 : p % 8 < 8 := Nat.mod_lt _ (by decide)
  have hk := hf (p / 8) (by omega)
  by_cases e : q / 8 = p / 8
  · have hm : p % 8 ≠ q % 8 := by omega
    unfold rdb bya lay1
    rw [e, setS_at]
    simp only [SL.setA, SL.setB, fset, Bool.and_eq_true, decide_eq_true_eq]
    by_cases hz : (f.S (p / 8)).v.k = 0
    · simp only [hz, if_true, true_and, forall_const, and_true]
      refine ⟨?_, fun _ => if_neg fun h => hm h.symm⟩
      rw [hb_orb hk.1.1 hk.1.2 h8]
      simp [hm]
    · simp only [hz, if_false, false_and, forall_const, and_false, iff_false, false_imp_iff, and_true]
      rintro ⟨_, h⟩
      rw [show SL.o.a = (0 : Int) from rfl, hb_orb (by decide) (by decide) h8, hb_zero] at h
      simp [hm] at h
  · have : (lay1 f p c).S (q / 8) = f.S (q / 8) := by simp [lay1, Fr.setS, fset, e]
    unfold rdb bya
    rw [this]
    exact ⟨⟨fun h => ⟨h, fun h => absurd h e⟩, fun h => h.1⟩, fun _ => rfl⟩
/-- Bytes laid: those that are told behind it, and the others. -/
theorem layN_at : ∀ (cs : List Int) {f : Fr} {p : Nat}, FrOk f → p + cs.length ≤ 512 → Byts cs → ∀ (i : Nat) (c : Int), cs[i]? = some c → rdb (layN f p cs) (p + i) = true ∧ bya (layN f p cs) (p + i) = c
  | [], _, _, _, _, _, i, c, h => by simp at h
  | d :: cs, f, p, hf, hp, hb, i, c, h => by
    simp only [List.length_cons] at hp
    have hf1 := frok_lay1 hf (p := p) (by omega) d (hb d (by simp))
    have hb1 : Byts cs := fun x hx => hb x (List.mem_cons_of_mem _ hx)
    unfold layN
    cases i with
    | zero =>
      obtain rfl : d = c := by simpa using h
      have h1 := lay1_at hf (p := p) (by omega) d
      have key : ∀ (cs : List Int) (g : Fr) (q : Nat), FrOk g → q + cs.length ≤ 512 → Byts cs → p < q → rdb g p = true → rdb (layN g q cs) p = true ∧ bya (layN g q cs) p = bya g p := by
        intro cs
        induction cs with
        | nil => intro g q _ _ _ _ h; exact ⟨h, rfl⟩
        | cons x xs ih =>
          intro g q hg hq hx hlt h
          simp only [List.length_cons] at hq
          obtain ⟨k1, k2⟩ := lay1_ne hg (p := q) (q := p) (by omega) (by omega) x
          have h2 : rdb (lay1 g q x) p = true := k1.2 ⟨h, fun e => by
            unfold rdb at h
            rw [e] at h
            simp only [Bool.and_eq_true, decide_eq_true_eq] at h
            exact h.1⟩
          unfold layN
          obtain ⟨r1, r2⟩ := ih (lay1 g q x) (q + 1) (frok_lay1 hg (by omega) x (hx x (by simp))) (by omega) (fun y hy => hx y (List.mem_cons_of_mem _ hy)) (by omega) h2
          exact ⟨r1, r2.trans (k2 h)⟩
      obtain ⟨r1, r2⟩ := key cs (lay1 f p d) (p + 1) hf1 (by omega) hb1 (by omega) h1.1
      exact ⟨r1, r2.trans h1.2⟩
    | succ i =>
      have := layN_at cs hf1 (p := p + 1) (by omega) hb1 i c (by simpa using h)
      rwa [show p + 1 + i = p + (i + 1) by omega] at this
/-- A place that is not written is told only if it was, and stands in no slot that held a pointer and is written. -/
theorem layN_ne : ∀ (cs : List Int) {f : Fr} {p q : Nat}, FrOk f → p + cs.length ≤ 512 → Byts cs → (q < p ∨ p + cs.length ≤ q) → rdb (layN f p cs) q = true → rdb f q = true ∧ ∀ i, i < cs.length → q / 8 = (p + i) / 8 → (f.S (q / 8)).v.k = 0
  | [], _, _, _, _, _, _, _, h => ⟨h, fun i hi => by simp at hi⟩
  | d :: cs, f, p, q, hf, hp, hb, hq, h => by
    simp only [List.length_cons] at hp hq
    have hf1 := frok_lay1 hf (p := p) (by omega) d (hb d (by simp))
    have hb1 : Byts cs := fun x hx => hb x (List.mem_cons_of_mem _ hx)
    unfold layN at h
    obtain ⟨h1, h2⟩ := layN_ne cs hf1 (p := p + 1) (by omega) hb1 (by omega) h
    obtain ⟨k1, k2⟩ := (lay1_ne hf (p := p) (q := q) (by omega) (by omega) d).1.1 h1
    have k3 : (f.S (q / 8)).v.k = 0 := by
      unfold rdb at k1
      simp only [Bool.and_eq_true, decide_eq_true_eq] at k1
      exact k1.1
    exact ⟨k1, fun _ _ _ => k3⟩
theorem gat_of {f : Fr} {p : Nat} : ∀ (n : Nat) (l : List Int), l.length = n → (∀ (i : Nat) (c : Int), l[i]? = some c → rdb f (p + i) = true ∧ bya f (p + i) = c) → gat f p n = some l
  | 0, l, hl, _ => by
    obtain rfl : l = [] := List.eq_nil_of_length_eq_zero hl
    rfl
  | n + 1, l, hl, h => by
    have h1 : (l.take n).length = n := by rw [List.length_take]; omega
    have ih := gat_of n (l.take n) h1 fun i c hc => by
      rw [List.getElem?_take] at hc
      split at hc
      · exact h i c hc
      · cases hc
    have hn : l[n]? = some l[n] := List.getElem?_eq_getElem (by omega)
    obtain ⟨r1, r2⟩ := h n _ hn
    unfold gat
    rw [ih]
    simp only [r1, if_true, r2]
    congr 1
    conv => rhs; rw [← List.take_of_length_le (i := n + 1) (l := l) (by omega), List.take_add_one, hn]
    rfl
theorem layN_gat {f : Fr} (hf : FrOk f) {p : Nat} {cs : List Int} (hp : p + cs.length ≤ 512) (hb : Byts cs) {i n : Nat} (h : i + n ≤ cs.length) : gat (layN f p cs) (p + i) n = some ((cs.drop i).take n) := by
  refine gat_of n _ (by rw [List.length_take, List.length_drop]; omega) fun j c hc => ?_
  rw [List.getElem?_take] at hc
  split at hc
  · rw [List.getElem?_drop] at hc
    rw [show p + i + j = p + (i + j) by omega]
    exact layN_at cs hf hp hb (i + j) c hc
  · cases hc
theorem gat_k {f : Fr} {p n : Nat} {l : List Int} (h : gat f p n = some l) {i : Nat} (hi : i < n) : (f.S ((p + i) / 8)).v.k = 0 := by
  have h1 := (gat_some h i hi).1
  unfold rdb at h1
  simp only [Bool.and_eq_true, decide_eq_true_eq] at h1
  exact h1.1
theorem ldR_gat {f : Fr} {off size : Int} {cs : List Int} (hok : ldOk off size = true) (h : gat f (off + 512).toNat size.toNat = some cs) : ldR f off size = (⟨1, numB cs, 0⟩, 0) := by
  obtain ⟨p, n, h1, h2, h3, h4, h5, h6, h7, e1, e2⟩ := ldOk_spec hok
  unfold ldR
  rw [if_pos hok, h, if_neg]
  rintro ⟨_, h8, h9⟩
  have := gat_k h (i := 0) (by omega)
  exact h9 (by simpa using this)
theorem bytw_num (c : Int) (n : Int) (h0 : 0 ≤ c) (h1 : c < 256) : bytw (c + 256 * n) 0 = c := by
  unfold bytw
  rw [IntKind.wrap_u8]
  simp
  omega
theorem byts_numB : ∀ (cs : List Int), Byts cs → byts (numB cs) cs.length = cs
  | [], _ => rfl
  | c :: cs, h => by
    have hc := h c (by simp)
    have ih := byts_numB cs fun x hx => h x (List.mem_cons_of_mem _ hx)
    rw [List.length_cons, byts_cons]
    have e : numB (c :: cs) = c + 256 * numB cs := rfl
    rw [e, bytw_num c _ hc.1 hc.2]
    have e2 : (c + 256 * numB cs) / 256 = numB cs := by omega
    rw [e2, ih]
end Go.Proofs.Ytdimcafdmaidpaa
