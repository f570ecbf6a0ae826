/- What a store on a stack leaves: what is loaded behind it, byte by byte. Plain Lean. -/
import Derived.Test.YtdimcafdmaidpaaMs
set_option maxRecDepth 100000
set_option maxHeartbeats 4000000
set_option linter.unusedSimpArgs false
set_option linter.unusedVariables false
namespace Go.Proofs.Ytdimcafdmaidpaa
open Go Go.Sx Go.RowKit
theorem lay1_S (f : Fr) (p : Nat) (c : Int) {k : Nat} (h : k ≠ p / 8) : (lay1 f p c).S k = f.S k := by simp [lay1, Fr.setS, fset, h]
theorem layN_S : ∀ (cs : List Int) (f : Fr) (p : Nat) {k : Nat}, (∀ i, i < cs.length → k ≠ (p + i) / 8) → (layN f p cs).S k = f.S k
  | [], _, _, _, _ => rfl
  | c :: cs, f, p, k, h => by
    unfold layN
    rw [layN_S cs (lay1 f p c) (p + 1) fun i hi => by
      have := h (i + 1) (by simpa using hi)
      rwa [show p + 1 + i = p + (i + 1) by omega]]
    exact lay1_S f p c (by simpa using h 0 (by simp))
/-- All but the stack. -/
def likeF (f g : Fr) : Prop := g.prog = f.prog ∧ g.pc = f.pc ∧ g.tails = f.tails ∧ g.R = f.R
theorem layN_like : ∀ (cs : List Int) (f : Fr) (p : Nat), likeF f (layN f p cs)
  | [], _, _ => ⟨rfl, rfl, rfl, rfl⟩
  | c :: cs, f, p => layN_like cs (lay1 f p c) (p + 1)
theorem gat1 (f : Fr) (q : Nat) : gat f q 1 = if rdb f q = true then some [bya f q] else none := by simp [gat]
theorem ldR_byte {f : Fr} {q : Nat} (hq : q < 512) (off : Int) (ho : off + 512 = q) : ldR f off 1 = if rdb f q = true then (⟨1, bya f q, 0⟩, 0) else (V3.o, 26) := by
  have hok : ldOk off 1 = true := by
    unfold ldOk onB
    simp only [Bool.and_eq_true, decide_eq_true_eq]
    refine ⟨rfl, ?_⟩
    omega
  have e1 : (off + 512).toNat = q := by omega
  unfold ldR
  rw [if_pos hok, e1, if_neg (by omega), show (1 : Int).toNat = 1 from rfl, gat1]
  cases rdb f q <;> simp [numB]
structure Stored (f g : Fr) (p s : Nat) (v : V3) : Prop where
  ok : FrOk g
  like : likeF f g
  same : ∀ k, (8 * k + 8 ≤ p ∨ p + s ≤ 8 * k) → g.S k = f.S k
  gone : ∀ k i, k < 64 → i < 8 → ¬ (8 * k + 8 ≤ p ∨ p + s ≤ 8 * k) → (f.S k).v.k ≠ 0 → ¬ (p ≤ 8 * k + i ∧ 8 * k + i < p + s) → ldR g (8 * (k : Int) + i - 512) 1 = (V3.o, 26)
  num : v.k = 1 → ldR g (-512 + (p : Int)) s = (⟨1, v.n % 256 ^ s, 0⟩, 0) ∧ ∀ i, i < s → ldR g (-512 + (p : Int) + i) 1 = (⟨1, bytw v.n i, 0⟩, 0)
  ptr : v.k ≠ 1 → ldR g (-512 + (p : Int)) s = (v, 0) ∧ ∀ i, i < s → ldR g (-512 + (p : Int) + i) 1 = (V3.o, 26)
theorem ldOk_of {p s : Nat} (hs : s = 1 ∨ s = 2 ∨ s = 4 ∨ s = 8) : ldOk (-512 + (p : Int)) s = decide ((p : Int) + s ≤ 512) := by
  have h1 : sizedB (s : Int) = true := by rcases hs with rfl | rfl | rfl | rfl <;> rfl
  unfold ldOk onB
  rw [h1]
  by_cases h : (p : Int) + s ≤ 512
  · rw [decide_eq_true h]
    simp only [Bool.true_and, Bool.and_eq_true, decide_eq_true_eq]
    omega
  · rw [decide_eq_false h]
    simp only [Bool.true_and, Bool.and_eq_false_iff, decide_eq_false_iff_not]
    right
    omega
theorem stored {f : Fr} (hf : FrOk f) {p s : Nat} (hp : p + s ≤ 512) (hs : s = 1 ∨ s = 2 ∨ s = 4 ∨ s = 8) (v : V3) (hk : v.k ≠ 0) (h : v.k = 1 ∨ (s = 8 ∧ p % 8 = 0)) : ∃ g, stR f (-512 + (p : Int)) s v = (0, g) ∧ Stored f g p s v := by
  have hok : ldOk (-512 + (p : Int)) s = true := by rw [ldOk_of hs, decide_eq_true (by omega)]
  have e1 : (-512 + (p : Int) + 512).toNat = p := by omega
  have e2 : (s : Int).toNat = s := Int.toNat_natCast s
  by_cases hn : v.k = 1
  · refine ⟨layN f p (byts v.n s), ?_, ?_⟩
    · unfold stR
      rw [if_neg hk, if_pos hok, if_pos hn, e1, e2]
    have hl : (byts v.n s).length = s := byts_len _ _
    have hb : Byts (byts v.n s) := byts_byts _ _
    have hfo : FrOk (layN f p (byts v.n s)) := frok_layN _ hf (by omega) hb
    refine ⟨hfo, layN_like _ _ _, fun k hk => layN_S _ _ _ fun i hi => by omega, fun k i hk hi hd hz hout => ?_, fun _ => ⟨?_, fun i hi => ?_⟩, fun h => absurd hn h⟩
    · rw [ldR_byte (q := 8 * k + i) (by omega) _ (by omega), if_neg]
      intro hr
      have h1 := (layN_ne (byts v.n s) hf (p := p) (q := 8 * k + i) (by omega) hb (by omega) hr)
      have hx : ∃ j, j < s ∧ (8 * k + i) / 8 = (p + j) / 8 := by
        by_cases h8 : 8 * k ≤ p
        · exact ⟨0, by omega, by omega⟩
        · exact ⟨8 * k - p, by omega, by omega⟩
      obtain ⟨j, hj, hje⟩ := hx
      have := h1.2 j (by omega) hje
      rw [show (8 * k + i) / 8 = k by omega] at this
      exact hz this
    · have := ldR_gat hok (by rw [e1, e2]; exact layN_gat hf (cs := byts v.n s) (by omega) hb (i := 0) (n := s) (by omega))
      rw [this, List.drop_zero, List.take_of_length_le (by omega), numB_byts]
    · have h1 := layN_at (byts v.n s) hf (p := p) (by omega) hb i _ (byts_at v.n hi)
      rw [ldR_byte (q := p + i) (by omega) _ (by omega), if_pos h1.1, h1.2]
  · obtain ⟨rfl, h8⟩ : s = 8 ∧ p % 8 = 0 := by rcases h with h | h; exact absurd h hn; exact h
    refine ⟨f.setS (p / 8) ⟨v, fun _ => 0, 0⟩, ?_, ?_⟩
    · unfold stR
      rw [if_neg hk, if_pos hok, if_neg hn, e1, if_pos ⟨rfl, h8⟩]
    have hat : (f.setS (p / 8) ⟨v, fun _ => 0, 0⟩).S (p / 8) = ⟨v, fun _ => 0, 0⟩ := setS_at _ _ _
    have hrd : ∀ q, q / 8 = p / 8 → rdb (f.setS (p / 8) ⟨v, fun _ => 0, 0⟩) q = false := fun q hq => by
      unfold rdb
      rw [hq, hat]
      simp [hk]
    refine ⟨frok_setS hf _ _ ⟨by show (0 : Int) ≤ 0; omega, by show (0 : Int) < 256; omega⟩ fun k _ => ⟨by show (0 : Int) ≤ 0; omega, by show (0 : Int) < 256; omega⟩, ⟨rfl, rfl, rfl, rfl⟩, fun k hk => ?_, fun k i hk hi hd hz hout => ?_, fun h => absurd h hn, fun _ => ⟨?_, fun i hi => ?_⟩⟩
    · have : k ≠ p / 8 := by omega
      simp [Fr.setS, fset, this]
    · omega
    · unfold ldR
      rw [if_pos hok, e1, if_pos ⟨rfl, h8, by rw [hat]; exact hk⟩, hat]
    · rw [ldR_byte (q := p + i) (by omega) _ (by omega), hrd (p + i) (by omega)]
      rfl
theorem sp_Ss (g : Fr) (T : Nat → SL) : Sp (cF g) 36 (cSs T) (cF { g with S := T }) := by
  have := Sp.right ([.int .i64 g.prog, .int .i64 g.pc, .int .i64 g.tails] ++ cRs g.R) (Sp.all (vs := cSs g.S) (us := cSs T) (by rw [len_Ss, len_Ss]))
  rw [List.length_append, len_Rs, List.append_assoc, List.append_assoc] at this
  unfold cF
  exact this
theorem likeF_back {f g : Fr} (h : likeF f g) : ({ g with S := f.S } : Fr) = f := by
  obtain ⟨h1, h2, h3, h4⟩ := h
  cases f; cases g
  simp_all
end Go.Proofs.Ytdimcafdmaidpaa
