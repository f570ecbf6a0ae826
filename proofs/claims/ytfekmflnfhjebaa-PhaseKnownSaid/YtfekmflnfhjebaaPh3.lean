/- Layer 7: plain facts about beats. -/
import Derived.Test.YtfekmflnfhjebaaPh2
set_option linter.unusedSimpArgs false
set_option linter.unusedVariables false
namespace Go.Proofs.Ytfekmflnfhjebaa
open Go Go.Sx Go.RowKit
theorem tmod_bd (a m : Int) (hm : 0 < m) : -m < a.tmod m ∧ a.tmod m < m := by
  refine ⟨?_, Int.tmod_lt_of_pos a hm⟩
  have := Int.tmod_lt_of_pos (-a) hm
  rw [Int.neg_tmod] at this
  omega
theorem four_eq {a b : Int} (h : a % 4 = b % 4) : four a = four b := by unfold four; rw [h]
theorem tmod_four (a : Int) (k : Int) : a.tmod (4 * k) % 4 = a % 4 := by
  have h := Int.tmod_add_mul_tdiv a (4 * k)
  have e : 4 * k * a.tdiv (4 * k) = 4 * (k * a.tdiv (4 * k)) := by rw [Int.mul_assoc]
  rw [e] at h
  generalize k * a.tdiv (4 * k) = q at h
  omega
theorem sway_par (l : List Int) : ((wrs l).sway - (l.length : Int)) % 2 = 0 := by
  induction l using list_rev with
  | h0 => rfl
  | hs l a ih =>
    have e : wrs (l ++ [a]) = (wrs l).wr a := by simp [wrs]
    rw [e]
    unfold Bt.sway Bt.wr at *
    have h4 := four_lt a
    simp only [List.length_append, List.length_singleton]
    generalize four a = k at *
    match k, h4 with
    | 0, _ => simp [dx, dy] at *; omega
    | 1, _ => simp [dx, dy] at *; omega
    | 2, _ => simp [dx, dy] at *; omega
    | 3, _ => simp [dx, dy] at *; omega
theorem sway_le (l : List Int) : 0 ≤ (wrs l).sway ∧ (wrs l).sway ≤ l.length := by
  have h := wrs_ok l
  have hn := wrs_n l
  unfold Bt.ok at h
  unfold Bt.sway
  omega
def sx (l : List Int) : Int := (l.map fun a => dx (four a)).sum
def sy (l : List Int) : Int := (l.map fun a => dy (four a)).sum
theorem wrs_sum (l : List Int) : (wrs l).x = sx l ∧ (wrs l).y = sy l := by
  have : ∀ (l : List Int) (b : Bt), (l.foldl Bt.wr b).x = b.x + sx l ∧ (l.foldl Bt.wr b).y = b.y + sy l := by
    intro l
    induction l with
    | nil => intro b; simp [sx, sy]
    | cons a l ih =>
      intro b
      rw [List.foldl_cons, (ih _).1, (ih _).2]
      simp [Bt.wr, sx, sy]
      omega
  have h := this l Bt.o
  simpa [wrs, Bt.o] using h
theorem sway_rev (l : List Int) : (wrs l.reverse).sway = (wrs l).sway := by
  unfold Bt.sway
  rw [(wrs_sum l).1, (wrs_sum l).2, (wrs_sum l.reverse).1, (wrs_sum l.reverse).2]
  have e1 : sx l.reverse = sx l := by unfold sx; rw [List.map_reverse, List.sum_reverse]
  have e2 : sy l.reverse = sy l := by unfold sy; rw [List.map_reverse, List.sum_reverse]
  rw [e1, e2]
def rotx (k : Nat) (x y : Int) : Int := match k with | 0 => x | 1 => -y | 2 => -x | _ => y
def roty (k : Nat) (x y : Int) : Int := match k with | 0 => y | 1 => x | 2 => -y | _ => -x
theorem rot_abs (k : Nat) (x y : Int) : (rotx k x y).natAbs + (roty k x y).natAbs = x.natAbs + y.natAbs := by
  unfold rotx roty
  split <;> simp <;> omega
theorem four_add (a b : Int) : four (a + b) = (four a + four b) % 4 := by
  unfold four
  omega
theorem rot_add (k j : Nat) (hk : k < 4) (hj : j < 4) : dx ((j + k) % 4) = rotx k (dx j) (dy j) ∧ dy ((j + k) % 4) = roty k (dx j) (dy j) := by
  have : ∀ k, k < 4 → ∀ j, j < 4 → dx ((j + k) % 4) = rotx k (dx j) (dy j) ∧ dy ((j + k) % 4) = roty k (dx j) (dy j) := by decide
  exact this k hk j hj
theorem rot_lin (k : Nat) (x y p q : Int) : rotx k (x + p) (y + q) = rotx k x y + rotx k p q ∧ roty k (x + p) (y + q) = roty k x y + roty k p q := by
  unfold rotx roty
  split <;> refine ⟨?_, ?_⟩ <;> omega
theorem wrs_turn (m : Int → Int) (k : Nat) (hk : k < 4) (hm : ∀ a, four (m a) = (four a + k) % 4) (l : List Int) : (wrs (l.map m)).x = rotx k (wrs l).x (wrs l).y ∧ (wrs (l.map m)).y = roty k (wrs l).x (wrs l).y := by
  rw [(wrs_sum _).1, (wrs_sum _).2, (wrs_sum _).1, (wrs_sum _).2]
  induction l with
  | nil => unfold rotx roty sx sy; split <;> simp
  | cons a l ih =>
    have h := rot_add k (four a) hk (four_lt a)
    have e1 : sx ((a :: l).map m) = dx (four (m a)) + sx (l.map m) := by simp [sx]
    have e2 : sy ((a :: l).map m) = dy (four (m a)) + sy (l.map m) := by simp [sy]
    have e3 : sx (a :: l) = dx (four a) + sx l := by simp [sx]
    have e4 : sy (a :: l) = dy (four a) + sy l := by simp [sy]
    have r := rot_lin k (dx (four a)) (dy (four a)) (sx l) (sy l)
    rw [e1, e2, e3, e4, r.1, r.2, hm, h.1, h.2, ih.1, ih.2]
    exact ⟨rfl, rfl⟩
theorem sway_turn (m : Int → Int) (k : Nat) (hk : k < 4) (hm : ∀ a, four (m a) = (four a + k) % 4) (l : List Int) : (wrs (l.map m)).sway = (wrs l).sway := by
  have h := wrs_turn m k hk hm l
  unfold Bt.sway
  rw [h.1, h.2]
  have := rot_abs k (wrs l).x (wrs l).y
  omega
theorem sway_out (b : Bt) (k : Int) : ((b.wr k).wr (k + 2)).sway = b.sway := by
  have h : four (k + 2) = (four k + 2) % 4 := four_add k 2
  unfold Bt.sway Bt.wr
  simp only
  rw [h]
  have h4 := four_lt k
  generalize four k = j at *
  match j, h4 with
  | 0, _ => simp [dx, dy]; omega
  | 1, _ => simp [dx, dy]; omega
  | 2, _ => simp [dx, dy]; omega
  | 3, _ => simp [dx, dy]; omega
theorem u64_sub {a b : Int} (ha : -9223372036854775808 ≤ a ∧ a ≤ 9223372036854775807) (hb : -9223372036854775808 ≤ b ∧ b ≤ 9223372036854775807) (h : b ≤ a) : u64 (u64 a - u64 b) = a - b := by
  unfold u64
  rw [IntKind.wrap_u64, IntKind.wrap_u64, IntKind.wrap_u64]
  omega
theorem std_mono (n : Nat) (sw last now more : Int) (hl : -9223372036854775808 ≤ last ∧ last ≤ 9223372036854775807) (hn : -9223372036854775808 ≤ now ∧ now ≤ 9223372036854775807) (hm : -9223372036854775808 ≤ more ∧ more ≤ 9223372036854775807) (h : std n sw last now = true) : std n sw last (max now more) = true := by
  unfold std at *
  simp only [Bool.or_eq_true, Bool.and_eq_true, decide_eq_true_eq] at *
  refine h.imp id fun ⟨h1, h2⟩ => ?_
  rw [u64_sub hn hl (by omega)] at h2
  rw [u64_sub (by omega) hl (by omega)]
  omega
end Go.Proofs.Ytfekmflnfhjebaa
