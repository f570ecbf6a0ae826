/- The walk of the law CellsKnown. -/
import Derived.Test.YtfekmflnfhjebaaLCellsRuns
import Derived.Test.YtfekmflnfhjebaaLCellsApart
import Derived.Test.YtfekmflnfhjebaaLCellsBack
import Derived.Test.YtfekmflnfhjebaaLCellsNumbers
import Derived.Test.YtfekmflnfhjebaaBlk
set_option maxRecDepth 100000
set_option maxHeartbeats 8000000
set_option linter.unusedSimpArgs false
set_option linter.unusedVariables false
namespace Go.Proofs.Ytfekmflnfhjebaa
open Go Go.Sx Go.RowKit
@[reducible] def cCO' (a b c d e v : Int) (ad : Option Addr) (m cp : Nat) : List Value := [.int .i64 a, .int .i64 b, .int .i64 c, .int .i64 d, .int .i64 e, .int .u64 v, .slice ad m cp]
theorem b71a (ad : Option Addr) (m c : Nat) : Blt Try.prog 71 [(6, .slice ad m c)] (cCO' 0 0 0 0 0 0 ad m c) := ⟨by kernel_rfl⟩
theorem b71b (a b c d : Int) : Blt Try.prog 71 [(0, .int .i64 a), (1, .int .i64 b), (2, .int .i64 c), (3, .int .i64 d)] (cCO' a b c d 0 0 none 0 0) := ⟨by kernel_rfl⟩
theorem b71c (a b c d v e : Int) : Blt Try.prog 71 [(0, .int .i64 a), (1, .int .i64 b), (2, .int .i64 c), (3, .int .i64 d), (5, .int .u64 v), (4, .int .i64 e)] (cCO' a b c d e v none 0 0) := ⟨by kernel_rfl⟩
theorem b71d (a b d v : Int) : Blt Try.prog 71 [(0, .int .i64 a), (1, .int .i64 b), (3, .int .i64 d), (5, .int .u64 v)] (cCO' a b 0 d 0 v none 0 0) := ⟨by kernel_rfl⟩
theorem b71e (a b : Int) (ad : Option Addr) (m c : Nat) (e : Int) : Blt Try.prog 71 [(0, .int .i64 a), (1, .int .i64 b), (6, .slice ad m c), (4, .int .i64 e)] (cCO' a b 0 0 e 0 ad m c) := ⟨by kernel_rfl⟩
theorem b71f (a b : Int) (ad : Option Addr) (m c : Nat) : Blt Try.prog 71 [(0, .int .i64 a), (1, .int .i64 b), (6, .slice ad m c)] (cCO' a b 0 0 0 0 ad m c) := ⟨by kernel_rfl⟩
theorem b71g (a b : Int) : Blt Try.prog 71 [(0, .int .i64 a), (1, .int .i64 b)] (cCO' a b 0 0 0 0 none 0 0) := ⟨by kernel_rfl⟩
theorem b71h (a b d : Int) : Blt Try.prog 71 [(0, .int .i64 a), (1, .int .i64 b), (3, .int .i64 d)] (cCO' a b 0 d 0 0 none 0 0) := ⟨by kernel_rfl⟩
theorem b71i (a : Int) : Blt Try.prog 71 [(0, .int .i64 a)] (cCO' a 0 0 0 0 0 none 0 0) := ⟨by kernel_rfl⟩
theorem b71j : Blt Try.prog 71 [] (cCO' 0 0 0 0 0 0 none 0 0) := ⟨by kernel_rfl⟩
def rowK (n : Nat) : List Int := (List.range n).map fun i : Nat => IntKind.u8.wrap (3 + 5 * (i : Int))
theorem wrap8 (x : Int) : 0 ≤ IntKind.u8.wrap x ∧ IntKind.u8.wrap x < 256 := by
  have : IntKind.u8.wrap x = x % 256 := by simp [IntKind.wrap, IntKind.bits, IntKind.signed]
  rw [this]
  omega
theorem rowK_len (n : Nat) : (rowK n).length = n := by simp [rowK]
theorem rowK_succ (n : Nat) : rowK (n + 1) = rowK n ++ [IntKind.u8.wrap (3 + 5 * (n : Int))] := by simp [rowK, List.range_succ]
theorem rowK_byt (n : Nat) : Byts (rowK n) := fun x hx => by
  obtain ⟨i, _, rfl⟩ := List.mem_map.1 hx
  exact wrap8 _
theorem row56 (n : Nat) (hn : n ≤ 100) (w : World) : Calls Try.prog 56 #[.int .i64 n] w fun e w' => ∃ a : Option Addr × Nat, e = .returned (.slice a.1 n a.2) ∧ Ok (domL []) w [ownd a.1 a.2 5 1 n ((rowK n).flatMap cU)] w' := by
  refine enter1 (S := domL []) 18 Try.func56 rfl rfl rfl (Ok.start w) ?_
  (repeat (first | ((refine (?_ : MX _ _ _ _ _ _ _ _ _ _ _)); first | refine mx_end ?_ | (refine mx_as _ rfl rfl (by conv => {lhs; whnf}) ?_) ) | refine cw_seq ?_ | refine cw_line rfl ?_ | refine cw_block ?_ | refine pw_then ?_ ))
  refine cw_loop (ι := Nat × Option Addr × Nat) (fun q => [(4, .int .i64 q.1), (3, .slice q.2.1 q.1 q.2.2), (0, .int .i64 n)]) (fun q => [ownd q.2.1 q.2.2 5 1 q.1 ((rowK q.1).flatMap cU)]) (fun q => q.1 ≤ n) (fun q => n - q.1) (0, none, 0) (by simp) ⟨rfl, rfl, rfl, trivial⟩ (fun w h => h.own_nil 5 1) ?_
  rintro ⟨i, a1, c1⟩ jk hi
  dsimp only at hi ⊢
  by_cases h0 : (i : Int) < n
  case neg =>
    obtain rfl : i = n := by omega
    (repeat (first | ((refine (?_ : MX _ _ _ _ _ _ _ _ _ _ _)); first | refine mx_end ?_ | (refine mx_mv _ rfl rfl (by conv => {lhs; whnf}) ?_) | (refine mx_as _ rfl rfl (by conv => {lhs; whnf}) ?_) | (refine g_bin rfl ?_; ( (refine mx_cmpl .lss rfl rfl rfl rfl rfl (by exact cmp_lt_f (by omega) ) ?_) ) ) ) | refine cw_seq ?_ | refine cw_line rfl ?_ | refine cw_cond_f rfl ?_ | refine cw_exit ?_ | refine cw_ret ?_ | refine pw_then ?_ | refine pw_then_x ?_ | refine pw_block_e ?_ ))
    exact pw_ret rfl rfl rfl rfl fun w' hw => ⟨(a1, c1), rfl, hw⟩
  case pos =>
    (repeat (first | ((refine (?_ : MX _ _ _ _ _ _ _ _ _ _ _)); first | refine mx_end ?_ | (refine mx_mv _ rfl rfl (by conv => {lhs; whnf}) ?_) | (refine g_bin rfl ?_; first | ( (refine mx_cmpl .lss rfl rfl rfl rfl rfl (by exact cmp_lt_t (by omega) ) ?_) ) | (refine mx_ar rfl rfl rfl rfl rfl rfl (IntWalk.i64_in _ (by omega)) rfl ?_ ) ) | (refine g_bs rfl ?_; refine a_bsi E rfl rfl rfl rfl rfl (by (repeat (first | exact EvI.nil | (apply EvI.cons; rfl)))) (by rfl) (by rfl) (by rfl) rfl (fun _ => ?_)) | (refine g_conv rfl ?_; refine mx_cv E rfl rfl rfl rfl rfl rfl rfl rfl ?_) ) | refine cw_seq ?_ | refine cw_line rfl ?_ | refine cw_block ?_ | refine cw_cond_t rfl ?_ | refine cw_skip ?_ | refine pw_then ?_ ))
    refine g_bi .append rfl ?_
    refine a_app E rfl rfl rfl rfl rfl rfl rfl rfl [.int .u8 (IntKind.u8.wrap (3 + 5 * (i : Int)))] rfl (fun w hw => one_src (hw.holds 0 _ rfl)) rfl (by omega) rfl (fun _ _ _ _ => trivial) (fun a2 c2 => ?_)
    rw [app_flat, ← rowK_succ]
    (repeat (first | ((refine (?_ : MX _ _ _ _ _ _ _ _ _ _ _)); first | refine mx_end ?_ | (refine mx_mv _ rfl rfl (by conv => {lhs; whnf}) ?_) | (refine mx_as _ rfl rfl (by conv => {lhs; whnf}) ?_) | (refine g_bin rfl ?_; (refine mx_ar rfl rfl rfl rfl rfl rfl (IntWalk.i64_in _ (by omega)) rfl ?_ ) ) ) | refine cw_line rfl ?_ | refine pw_then ?_ | refine pw_block ?_ ))
    refine pw_round (i + 1, a2, c2) (by show i + 1 ≤ n; omega) (by show n - (i + 1) < n - i; omega) ⟨rfl, rfl, rfl, trivial⟩ (fun w h => h.only 1 rfl)
def nsL : List Int := [-9223372036854775808, -1, 0, 1, 2, 3, 4, 8, 9, 63, 64, 65, 9223372036854775800, 9223372036854775807]
def nsV : List Value := nsL.map (Value.int .i64)
theorem nsL_bd : ∀ x ∈ nsL, -9223372036854775808 ≤ x ∧ x < 9223372036854775808 := by decide
theorem nsV_at {i : Nat} (hi : i < 14) : ∃ v, nsV[0 + i * 1]? = some (.int .i64 v) ∧ -9223372036854775808 ≤ v ∧ v < 9223372036854775808 := by
  have hl : nsL.length = 14 := rfl
  obtain ⟨v, hv⟩ := getElem_some (xs := nsL) (i := i) (by omega)
  exact ⟨v, by unfold nsV; rw [Nat.zero_add, Nat.mul_one, List.getElem?_map, hv]; rfl, nsL_bd v (List.mem_of_getElem? hv)⟩
theorem nsV_in {w : World} {b : Nat} (h : (row b 3 nsV).holds w) : InL w (some ⟨b, 0, none⟩) 1 cI nsL := row_in (c := cI) (xs := nsL) len_I (by
  have e : nsL.flatMap cI = nsV := by rfl
  rw [e]
  exact h)
attribute [irreducible] nsV
def exO (p q u : Int) (b1 b2 b3 : Nat) (r : Option Addr) (rc : Nat) : List CO :=
  [⟨0, 0, 0, 0, 0, 0, some ⟨b1, 0, none⟩, 3, [1, 2, 3]⟩, ⟨0, 0, 0, 0, 0, 0, r, rc, rowK 66⟩, ⟨1, 2, p, q, 0, 0, none, 0, []⟩, ⟨2, 2, p, q, q, 9223372036854775885, none, 0, []⟩, ⟨2, p, 0, 1, 0, u, none, 0, []⟩, ⟨3, p, 0, 0, q, 0, some ⟨b2, 0, none⟩, 3, [7, 8, 9]⟩, ⟨3, 1, 0, 0, 0, 0, some ⟨b3, 0, none⟩, 1, [7]⟩, ⟨4, p, 0, 0, 0, 0, none, 0, []⟩, ⟨4, p, 0, 0, 0, 0, none, 0, []⟩, ⟨1, 1, 0, 2, 0, 0, none, 0, []⟩, ⟨5, 0, 0, 0, 0, 0, none, 0, []⟩, ⟨9, 0, 0, 0, 0, 0, none, 0, []⟩, ⟨1, 1, 0, 2, 0, 0, none, 0, []⟩, ⟨0, 0, 0, 0, 0, 0, none, 0, []⟩]
theorem exO_len (p q u : Int) (b1 b2 b3 : Nat) (r : Option Addr) (rc : Nat) : (exO p q u b1 b2 b3 r rc).length = 14 := rfl
theorem exO_q {p q u : Int} {b1 b2 b3 : Nat} {r : Option Addr} {rc : Nat} {W : World} (hp : -9223372036854775808 ≤ p ∧ p < 9223372036854775808) (hu : 0 ≤ u ∧ u < 18446744073709551616) (h1 : InL W (some ⟨b1, 0, none⟩) 1 cU [1, 2, 3]) (h2 : InL W (some ⟨b2, 0, none⟩) 1 cU [7, 8, 9]) (h3 : InL W (some ⟨b3, 0, none⟩) 1 cU [7]) (hr : InL W r 1 cU (rowK 66)) (hc : 66 ≤ rc) : ∀ o ∈ exO p q u b1 b2 b3 r rc, CoQ W o := by
  have hz : -9223372036854775808 ≤ (0 : Int) ∧ (0 : Int) < 9223372036854775808 := by decide
  have hz2 : 0 ≤ (0 : Int) ∧ (0 : Int) < 18446744073709551616 := by decide
  have hn : ∀ {ad : Option Addr}, InL W ad 1 cU [] := fun h => absurd rfl h
  have hb : Byts [] := fun x hx => by cases hx
  intro o ho
  unfold exO at ho
  rcases List.mem_cons.1 ho with rfl | ho
  · exact ⟨h1, Nat.le_refl _, by intro x hx; simp at hx; omega, hz, hz2⟩
  rcases List.mem_cons.1 ho with rfl | ho
  · exact ⟨hr, by show (rowK 66).length ≤ rc; rw [rowK_len]; exact hc, rowK_byt 66, hz, hz2⟩
  rcases List.mem_cons.1 ho with rfl | ho
  · exact ⟨hn, Nat.le_refl _, hb, hp, hz2⟩
  rcases List.mem_cons.1 ho with rfl | ho
  · exact ⟨hn, Nat.le_refl _, hb, hp, (by show (0 : Int) ≤ 9223372036854775885 ∧ (9223372036854775885 : Int) < 18446744073709551616; decide)⟩
  rcases List.mem_cons.1 ho with rfl | ho
  · exact ⟨hn, Nat.le_refl _, hb, hz, hu⟩
  rcases List.mem_cons.1 ho with rfl | ho
  · exact ⟨h2, Nat.le_refl _, by intro x hx; simp at hx; omega, hz, hz2⟩
  rcases List.mem_cons.1 ho with rfl | ho
  · exact ⟨h3, Nat.le_refl _, by intro x hx; simp at hx; omega, hz, hz2⟩
  simp only [List.mem_cons, List.not_mem_nil, or_false] at ho
  rcases ho with rfl | rfl | rfl | rfl | rfl | rfl | rfl
  all_goals exact ⟨hn, Nat.le_refl _, hb, hz, hz2⟩
theorem CoQ.p {W : World} {o : CO} (h : CoQ W o) : CoP W o := ⟨h.1, h.2.1, h.2.2.1, h.2.2.2.1⟩
theorem lawCellsKnown (w : World) : Calls Try.prog 14 #[] w fun e w' => e = .returned (.bool true) ∧ Grow w w' := by
  have hmx : maxLen = 9223372036854775807 := rfl
  refine enter0 (S := fun _ => False) 113 Try.func14 rfl rfl rfl (Ok.start w) ?_
  refine cw_seq ?_; refine cw_line rfl ?_; (repeat (first | ((refine (?_ : MX _ _ _ _ _ _ _ _ _ _ _)); first | refine mx_end ?_ | (refine mx_as _ rfl rfl (by conv => {lhs; whnf}) ?_) ) | refine pw_then ?_))
  refine cw_seq ?_; refine cw_line rfl ?_; (repeat (first | ((refine (?_ : MX _ _ _ _ _ _ _ _ _ _ _)); first | refine mx_end ?_ | (refine mx_as _ rfl rfl (by conv => {lhs; whnf}) ?_) | (refine g_bs rfl ?_; refine a_bsi E rfl rfl rfl rfl rfl (by (repeat (first | exact EvI.nil | (apply EvI.cons; rfl)))) (by rfl) (by rfl) (by rfl) rfl (fun _ => ?_)) ) | refine pw_then ?_))
  rename_i bn
  refine cw_weak (H' := [row bn 3 nsV]) (fun w h => by unfold nsV; exact h) ?_
  (repeat (first | ((refine (?_ : MX _ _ _ _ _ _ _ _ _ _ _)); first | refine mx_end ?_ | (refine mx_as _ rfl rfl (by conv => {lhs; whnf}) ?_) ) | refine cw_seq ?_ | refine cw_line rfl ?_ | refine cw_block ?_ | refine pw_then ?_ ))
  refine cw_loop (fun i : Nat => [(2, .int .i64 i), (1, .slice (some ⟨bn, 0, none⟩) 14 14)]) (fun i => [row bn 3 nsV]) (fun i => i ≤ 14) (fun i => 14 - i) 0 (Nat.zero_le _) ⟨rfl, rfl, trivial⟩ (fun w h => h) ?_
  intro i jk hi
  by_cases h0 : (i : Int) < ((14 : Nat) : Int)
  case neg =>
    (repeat (first | ((refine (?_ : MX _ _ _ _ _ _ _ _ _ _ _)); first | refine mx_end ?_ | (refine mx_mv _ rfl rfl (by conv => {lhs; whnf}) ?_) | (refine g_bin rfl ?_; ( (refine mx_cmpl .lss rfl rfl rfl rfl rfl (by exact cmp_lt_f (by omega) ) ?_) ) ) | (refine g_bi .len rfl ?_; refine mx_len E rfl rfl rfl rfl ?_) ) | refine cw_seq ?_ | refine cw_line rfl ?_ | refine cw_cond_f rfl ?_ | refine cw_exit ?_ | refine pw_then ?_ | refine pw_then_x ?_ | refine pw_block_e ?_ ))
    refine g_cf 11 rfl ?_
    refine a_callv rfl rfl rfl rfl Try.func11 rfl rfl rfl (.bool true) (fun w' hw => lawCellsNumbers (some ⟨bn, 0, none⟩) 14 nsL w' (nsV_in (hw.holds 0 _ rfl))) rfl ?_
    (repeat (first | ((refine (?_ : MX _ _ _ _ _ _ _ _ _ _ _)); first | refine mx_end ?_ | (refine mx_mv _ rfl rfl (by conv => {lhs; whnf}) ?_) | (refine mx_as _ rfl rfl (by conv => {lhs; whnf}) ?_) | (refine g_pick rfl ?_; refine mx_and rfl rfl rfl rfl rfl rfl ?_ ) | (refine g_call rfl ?_; (refine g_cf 47 rfl ?_; refine mx_call rfl rfl rfl Try.func47 rfl rfl rfl _ (fun w => works47 w) rfl ?_))) | refine cw_ret ?_ | refine pw_then ?_ ))
    exact pw_ret rfl rfl rfl rfl fun w hw => ⟨rfl, hw.keep.grow⟩
  obtain ⟨p, hvp, hp⟩ := nsV_at (i := i) (by omega)
  (repeat (first | ((refine (?_ : MX _ _ _ _ _ _ _ _ _ _ _)); first | refine mx_end ?_ | (refine mx_mv _ rfl rfl (by conv => {lhs; whnf}) ?_) | (refine mx_as _ rfl rfl (by conv => {lhs; whnf}) ?_) | (refine g_bin rfl ?_; ( (refine mx_cmpl .lss rfl rfl rfl rfl rfl (by exact cmp_lt_t (by omega) ) ?_) ) ) | (refine g_bi .len rfl ?_; refine mx_len E rfl rfl rfl rfl ?_) ) | refine cw_seq ?_ | refine cw_line rfl ?_ | refine cw_block ?_ | refine cw_cond_t rfl ?_ | refine cw_skip ?_ | refine pw_then ?_ ))
  refine cw_loop (fun k : Nat => [(3, .int .i64 k), (2, .int .i64 i), (1, .slice (some ⟨bn, 0, none⟩) 14 14)]) (fun k => [row bn 3 nsV]) (fun k => k ≤ 14) (fun k => 14 - k) 0 (Nat.zero_le _) ⟨rfl, rfl, rfl, trivial⟩ (fun w h => h) ?_
  intro k jk2 hk
  by_cases h1 : (k : Int) < ((14 : Nat) : Int)
  case neg =>
    (repeat (first | ((refine (?_ : MX _ _ _ _ _ _ _ _ _ _ _)); first | refine mx_end ?_ | (refine mx_mv _ rfl rfl (by conv => {lhs; whnf}) ?_) | (refine mx_as _ rfl rfl (by conv => {lhs; whnf}) ?_) | (refine g_bin rfl ?_; first | ( (refine mx_cmpl .lss rfl rfl rfl rfl rfl (by first | exact cmp_lt_t (by omega) | exact cmp_lt_f (by omega) ) ?_) ) | (refine mx_ar rfl rfl rfl rfl rfl rfl (IntWalk.i64_in _ (by omega)) rfl ?_ ) ) | (refine g_bi .len rfl ?_; refine mx_len E rfl rfl rfl rfl ?_) ) | refine cw_seq ?_ | refine cw_line rfl ?_ | refine cw_cond_f rfl ?_ | refine cw_exit ?_ | refine pw_then ?_ | refine pw_then_x ?_ | refine pw_block ?_ | refine pw_block_e ?_ ))
    exact pw_round (i + 1) (by omega) (by omega) ⟨rfl, rfl, trivial⟩ (fun w h => h)
  obtain ⟨q, hvq, hq⟩ := nsV_at (i := k) (by omega)
  obtain ⟨u, hu⟩ : ∃ u, IntKind.u64.wrap q = u := ⟨_, rfl⟩
  have hu2 : 0 ≤ u ∧ u < 18446744073709551616 := by rw [← hu, wrapU]; omega
  (repeat (first | ((refine (?_ : MX _ _ _ _ _ _ _ _ _ _ _)); first | refine mx_end ?_ | (refine mx_mv _ rfl rfl (by conv => {lhs; whnf}) ?_) | (refine g_bin rfl ?_; ( (refine mx_cmpl .lss rfl rfl rfl rfl rfl (by exact cmp_lt_t (by omega) ) ?_) ) ) | (refine g_bi .len rfl ?_; refine mx_len E rfl rfl rfl rfl ?_) ) | refine cw_seq ?_ | refine cw_line rfl ?_ | refine cw_block ?_ | refine cw_cond_t rfl ?_ | refine cw_skip ?_ | refine pw_then ?_ ))
  refine cw_mid' (ι := Nat × Nat × Nat × (Option Addr × Nat) × Nat) (fun z => [(4, .slice (some ⟨z.2.2.2.2, 0, none⟩) 14 14), (3, .int .i64 k), (2, .int .i64 i), (1, .slice (some ⟨bn, 0, none⟩) 14 14)]) (fun z => [row z.2.2.2.2 71 ((exO p q u z.1 z.2.1 z.2.2.1 z.2.2.2.1.1 z.2.2.2.1.2).flatMap cCO), row z.1 5 (([1, 2, 3] : List Int).flatMap cU), row z.2.1 5 (([7, 8, 9] : List Int).flatMap cU), row z.2.2.1 5 (([7] : List Int).flatMap cU), ownd z.2.2.2.1.1 z.2.2.2.1.2 5 1 66 ((rowK 66).flatMap cU), row bn 3 nsV]) (fun _ => True) ?_ ?_
  · refine cw_blk [4, 5, 6, 7, 8, 9, 10, 11, 12, 13, 14, 15, 16, 17, 18, 19, 20, 21, 22, 23, 24, 25, 26, 27, 28, 29, 30, 31, 32, 33, 34, 35, 36, 37, 38, 39, 41, 42, 43, 44, 48, 49, 50, 51, 52, 53, 54, 55, 56, 57, 58, 59, 60, 61, 62] [(0, [1]), (2, [3]), (40, [45]), (46, [47])] [63, 64] (fun i => or (Nat.beq i 0) (or (Nat.beq i 2) (or (Nat.beq i 40) (or (Nat.beq i 46) (Nat.beq i 63))))) [row bn 3 nsV] mixed (by kernel_rfl) (fun w h => h) ?_
    (repeat (((refine (?_ : MX _ _ _ _ _ _ _ _ _ _ _)); first | (refine mx_mv _ rfl rfl (by conv => {lhs; whnf}) ?_) | (refine g_load rfl ?_; refine mx_get E rfl rfl rfl rfl rfl (by assumption ) rfl ?_ ) | (refine g_ix rfl ?_; refine mx_ixsn E rfl rfl rfl rfl rfl rfl (by omega) rfl ?_ ) | (refine g_build rfl ?_; first | refine mx_build rfl rfl rfl rfl (b71b _ _ _ _) rfl ?_ | refine mx_build rfl rfl rfl rfl (b71c _ _ _ _ _ _) rfl ?_ | refine mx_build rfl rfl rfl rfl (b71d _ _ _ _) rfl ?_ | refine mx_build rfl rfl rfl rfl (b71g _ _) rfl ?_ | refine mx_build rfl rfl rfl rfl (b71h _ _ _) rfl ?_ | refine mx_build rfl rfl rfl rfl (b71i _) rfl ?_ | refine mx_build rfl rfl rfl rfl b71j rfl ?_) | (refine g_conv rfl ?_; refine mx_cv E rfl rfl rfl rfl rfl rfl (by with_reducible assumption) rfl ?_ ) ) ))
    refine mx_blk4 ?_ ?_ ?_ ?_
    · refine g_bs rfl ?_; refine a_bsi E rfl rfl rfl rfl rfl (by (repeat (first | exact EvI.nil | (apply EvI.cons; rfl)))) (by rfl) (by rfl) (by rfl) rfl (fun b1 => ?_)
      (repeat (((refine (?_ : MX _ _ _ _ _ _ _ _ _ _ _)); (refine g_build rfl ?_; refine mx_build rfl rfl rfl rfl (b71a _ _ _) rfl ?_ ) ) ))
      refine mx_blk3 ?_ ?_ ?_
      · refine g_cf 56 rfl ?_; refine a_cn1 rfl rfl rfl rfl Try.func56 rfl rfl rfl (fun a : Option Addr × Nat => .slice a.1 66 a.2) (fun a => ownd a.1 a.2 5 1 66 ((rowK 66).flatMap cU)) (fun w' hw => row56 66 (by omega) w') (fun _ => rfl) (fun a w h => by exact h.only 2 rfl ) (fun a => ?_); obtain ⟨r, rc⟩ := a; dsimp only
        (repeat (((refine (?_ : MX _ _ _ _ _ _ _ _ _ _ _)); (refine g_build rfl ?_; refine mx_build rfl rfl rfl rfl (b71a _ _ _) rfl ?_ ) ) ))
        refine mx_blk2 ?_ ?_
        · refine g_bs rfl ?_; refine a_bsi E rfl rfl rfl rfl rfl (by (repeat (first | exact EvI.nil | (apply EvI.cons; rfl)))) (by rfl) (by rfl) (by rfl) rfl (fun b2 => ?_)
          (repeat (((refine (?_ : MX _ _ _ _ _ _ _ _ _ _ _)); (refine g_build rfl ?_; refine mx_build rfl rfl rfl rfl (b71e _ _ _ _ _ _) rfl ?_ ) ) ))
          refine mx_blk1 ?_
          · refine g_bs rfl ?_; refine a_bsi E rfl rfl rfl rfl rfl (by (repeat (first | exact EvI.nil | (apply EvI.cons; rfl)))) (by rfl) (by rfl) (by rfl) rfl (fun b3 => ?_)
            (repeat (((refine (?_ : MX _ _ _ _ _ _ _ _ _ _ _)); (refine g_build rfl ?_; refine mx_build rfl rfl rfl rfl (b71f _ _ _ _ _) rfl ?_ ) ) ))
            refine mx_blk0 ?_
            refine g_bs rfl ?_
            refine a_bslice E rfl rfl rfl rfl ((exO p q u b1 b2 b3 r rc).map fun o => .agg (cCO o).toArray) rfl (us := (exO p q u b1 b2 b3 r rc).flatMap cCO) rfl rfl (by intro v hv; obtain ⟨o, _, rfl⟩ := List.mem_map.1 hv; rfl) rfl rfl rfl rfl (fun bs => ?_)
            (repeat (((refine (?_ : MX _ _ _ _ _ _ _ _ _ _ _)); first | refine mx_end ?_ | (refine mx_as _ rfl rfl (by conv => {lhs; whnf}) ?_) ) ))
            exact pw_mid (b1, b2, b3, (r, rc), bs) trivial ⟨rfl, rfl, rfl, rfl, trivial⟩ (fun w h => h.pick [0, 4, 2, 1, 3, 5] (by simp) rfl)
        · refine g_bs rfl ?_; refine a_bsi E rfl rfl rfl rfl rfl (by (repeat (first | exact EvI.nil | (apply EvI.cons; rfl)))) (by rfl) (by rfl) (by rfl) rfl (fun b3 => ?_)
          (repeat (((refine (?_ : MX _ _ _ _ _ _ _ _ _ _ _)); (refine g_build rfl ?_; refine mx_build rfl rfl rfl rfl (b71f _ _ _ _ _) rfl ?_ ) ) ))
          refine mx_blk1 ?_
          · refine g_bs rfl ?_; refine a_bsi E rfl rfl rfl rfl rfl (by (repeat (first | exact EvI.nil | (apply EvI.cons; rfl)))) (by rfl) (by rfl) (by rfl) rfl (fun b2 => ?_)
            (repeat (((refine (?_ : MX _ _ _ _ _ _ _ _ _ _ _)); (refine g_build rfl ?_; refine mx_build rfl rfl rfl rfl (b71e _ _ _ _ _ _) rfl ?_ ) ) ))
            refine mx_blk0 ?_
            refine g_bs rfl ?_
            refine a_bslice E rfl rfl rfl rfl ((exO p q u b1 b2 b3 r rc).map fun o => .agg (cCO o).toArray) rfl (us := (exO p q u b1 b2 b3 r rc).flatMap cCO) rfl rfl (by intro v hv; obtain ⟨o, _, rfl⟩ := List.mem_map.1 hv; rfl) rfl rfl rfl rfl (fun bs => ?_)
            (repeat (((refine (?_ : MX _ _ _ _ _ _ _ _ _ _ _)); first | refine mx_end ?_ | (refine mx_as _ rfl rfl (by conv => {lhs; whnf}) ?_) ) ))
            exact pw_mid (b1, b2, b3, (r, rc), bs) trivial ⟨rfl, rfl, rfl, rfl, trivial⟩ (fun w h => h.pick [0, 4, 1, 2, 3, 5] (by simp) rfl)
      · refine g_bs rfl ?_; refine a_bsi E rfl rfl rfl rfl rfl (by (repeat (first | exact EvI.nil | (apply EvI.cons; rfl)))) (by rfl) (by rfl) (by rfl) rfl (fun b2 => ?_)
        (repeat (((refine (?_ : MX _ _ _ _ _ _ _ _ _ _ _)); (refine g_build rfl ?_; refine mx_build rfl rfl rfl rfl (b71e _ _ _ _ _ _) rfl ?_ ) ) ))
        refine mx_blk2 ?_ ?_
        · refine g_cf 56 rfl ?_; refine a_cn1 rfl rfl rfl rfl Try.func56 rfl rfl rfl (fun a : Option Addr × Nat => .slice a.1 66 a.2) (fun a => ownd a.1 a.2 5 1 66 ((rowK 66).flatMap cU)) (fun w' hw => row56 66 (by omega) w') (fun _ => rfl) (fun a w h => by exact h.only 3 rfl ) (fun a => ?_); obtain ⟨r, rc⟩ := a; dsimp only
          (repeat (((refine (?_ : MX _ _ _ _ _ _ _ _ _ _ _)); (refine g_build rfl ?_; refine mx_build rfl rfl rfl rfl (b71a _ _ _) rfl ?_ ) ) ))
          refine mx_blk1 ?_
          · refine g_bs rfl ?_; refine a_bsi E rfl rfl rfl rfl rfl (by (repeat (first | exact EvI.nil | (apply EvI.cons; rfl)))) (by rfl) (by rfl) (by rfl) rfl (fun b3 => ?_)
            (repeat (((refine (?_ : MX _ _ _ _ _ _ _ _ _ _ _)); (refine g_build rfl ?_; refine mx_build rfl rfl rfl rfl (b71f _ _ _ _ _) rfl ?_ ) ) ))
            refine mx_blk0 ?_
            refine g_bs rfl ?_
            refine a_bslice E rfl rfl rfl rfl ((exO p q u b1 b2 b3 r rc).map fun o => .agg (cCO o).toArray) rfl (us := (exO p q u b1 b2 b3 r rc).flatMap cCO) rfl rfl (by intro v hv; obtain ⟨o, _, rfl⟩ := List.mem_map.1 hv; rfl) rfl rfl rfl rfl (fun bs => ?_)
            (repeat (((refine (?_ : MX _ _ _ _ _ _ _ _ _ _ _)); first | refine mx_end ?_ | (refine mx_as _ rfl rfl (by conv => {lhs; whnf}) ?_) ) ))
            exact pw_mid (b1, b2, b3, (r, rc), bs) trivial ⟨rfl, rfl, rfl, rfl, trivial⟩ (fun w h => h.pick [0, 4, 3, 1, 2, 5] (by simp) rfl)
        · refine g_bs rfl ?_; refine a_bsi E rfl rfl rfl rfl rfl (by (repeat (first | exact EvI.nil | (apply EvI.cons; rfl)))) (by rfl) (by rfl) (by rfl) rfl (fun b3 => ?_)
          (repeat (((refine (?_ : MX _ _ _ _ _ _ _ _ _ _ _)); (refine g_build rfl ?_; refine mx_build rfl rfl rfl rfl (b71f _ _ _ _ _) rfl ?_ ) ) ))
          refine mx_blk1 ?_
          · refine g_cf 56 rfl ?_; refine a_cn1 rfl rfl rfl rfl Try.func56 rfl rfl rfl (fun a : Option Addr × Nat => .slice a.1 66 a.2) (fun a => ownd a.1 a.2 5 1 66 ((rowK 66).flatMap cU)) (fun w' hw => row56 66 (by omega) w') (fun _ => rfl) (fun a w h => by exact h.only 4 rfl) (fun a => ?_); obtain ⟨r, rc⟩ := a; dsimp only
            (repeat (((refine (?_ : MX _ _ _ _ _ _ _ _ _ _ _)); (refine g_build rfl ?_; refine mx_build rfl rfl rfl rfl (b71a _ _ _) rfl ?_ ) ) ))
            refine mx_blk0 ?_
            refine g_bs rfl ?_
            refine a_bslice E rfl rfl rfl rfl ((exO p q u b1 b2 b3 r rc).map fun o => .agg (cCO o).toArray) rfl (us := (exO p q u b1 b2 b3 r rc).flatMap cCO) rfl rfl (by intro v hv; obtain ⟨o, _, rfl⟩ := List.mem_map.1 hv; rfl) rfl rfl rfl rfl (fun bs => ?_)
            (repeat (((refine (?_ : MX _ _ _ _ _ _ _ _ _ _ _)); first | refine mx_end ?_ | (refine mx_as _ rfl rfl (by conv => {lhs; whnf}) ?_) ) ))
            exact pw_mid (b1, b2, b3, (r, rc), bs) trivial ⟨rfl, rfl, rfl, rfl, trivial⟩ (fun w h => h.pick [0, 4, 3, 2, 1, 5] (by simp) rfl)
      · refine g_bs rfl ?_; refine a_bsi E rfl rfl rfl rfl rfl (by (repeat (first | exact EvI.nil | (apply EvI.cons; rfl)))) (by rfl) (by rfl) (by rfl) rfl (fun b3 => ?_)
        (repeat (((refine (?_ : MX _ _ _ _ _ _ _ _ _ _ _)); (refine g_build rfl ?_; refine mx_build rfl rfl rfl rfl (b71f _ _ _ _ _) rfl ?_ ) ) ))
        refine mx_blk2 ?_ ?_
        · refine g_cf 56 rfl ?_; refine a_cn1 rfl rfl rfl rfl Try.func56 rfl rfl rfl (fun a : Option Addr × Nat => .slice a.1 66 a.2) (fun a => ownd a.1 a.2 5 1 66 ((rowK 66).flatMap cU)) (fun w' hw => row56 66 (by omega) w') (fun _ => rfl) (fun a w h => by exact h.only 3 rfl ) (fun a => ?_); obtain ⟨r, rc⟩ := a; dsimp only
          (repeat (((refine (?_ : MX _ _ _ _ _ _ _ _ _ _ _)); (refine g_build rfl ?_; refine mx_build rfl rfl rfl rfl (b71a _ _ _) rfl ?_ ) ) ))
          refine mx_blk1 ?_
          · refine g_bs rfl ?_; refine a_bsi E rfl rfl rfl rfl rfl (by (repeat (first | exact EvI.nil | (apply EvI.cons; rfl)))) (by rfl) (by rfl) (by rfl) rfl (fun b2 => ?_)
            (repeat (((refine (?_ : MX _ _ _ _ _ _ _ _ _ _ _)); (refine g_build rfl ?_; refine mx_build rfl rfl rfl rfl (b71e _ _ _ _ _ _) rfl ?_ ) ) ))
            refine mx_blk0 ?_
            refine g_bs rfl ?_
            refine a_bslice E rfl rfl rfl rfl ((exO p q u b1 b2 b3 r rc).map fun o => .agg (cCO o).toArray) rfl (us := (exO p q u b1 b2 b3 r rc).flatMap cCO) rfl rfl (by intro v hv; obtain ⟨o, _, rfl⟩ := List.mem_map.1 hv; rfl) rfl rfl rfl rfl (fun bs => ?_)
            (repeat (((refine (?_ : MX _ _ _ _ _ _ _ _ _ _ _)); first | refine mx_end ?_ | (refine mx_as _ rfl rfl (by conv => {lhs; whnf}) ?_) ) ))
            exact pw_mid (b1, b2, b3, (r, rc), bs) trivial ⟨rfl, rfl, rfl, rfl, trivial⟩ (fun w h => h.pick [0, 4, 1, 3, 2, 5] (by simp) rfl)
        · refine g_bs rfl ?_; refine a_bsi E rfl rfl rfl rfl rfl (by (repeat (first | exact EvI.nil | (apply EvI.cons; rfl)))) (by rfl) (by rfl) (by rfl) rfl (fun b2 => ?_)
          (repeat (((refine (?_ : MX _ _ _ _ _ _ _ _ _ _ _)); (refine g_build rfl ?_; refine mx_build rfl rfl rfl rfl (b71e _ _ _ _ _ _) rfl ?_ ) ) ))
          refine mx_blk1 ?_
          · refine g_cf 56 rfl ?_; refine a_cn1 rfl rfl rfl rfl Try.func56 rfl rfl rfl (fun a : Option Addr × Nat => .slice a.1 66 a.2) (fun a => ownd a.1 a.2 5 1 66 ((rowK 66).flatMap cU)) (fun w' hw => row56 66 (by omega) w') (fun _ => rfl) (fun a w h => by exact h.only 4 rfl) (fun a => ?_); obtain ⟨r, rc⟩ := a; dsimp only
            (repeat (((refine (?_ : MX _ _ _ _ _ _ _ _ _ _ _)); (refine g_build rfl ?_; refine mx_build rfl rfl rfl rfl (b71a _ _ _) rfl ?_ ) ) ))
            refine mx_blk0 ?_
            refine g_bs rfl ?_
            refine a_bslice E rfl rfl rfl rfl ((exO p q u b1 b2 b3 r rc).map fun o => .agg (cCO o).toArray) rfl (us := (exO p q u b1 b2 b3 r rc).flatMap cCO) rfl rfl (by intro v hv; obtain ⟨o, _, rfl⟩ := List.mem_map.1 hv; rfl) rfl rfl rfl rfl (fun bs => ?_)
            (repeat (((refine (?_ : MX _ _ _ _ _ _ _ _ _ _ _)); first | refine mx_end ?_ | (refine mx_as _ rfl rfl (by conv => {lhs; whnf}) ?_) ) ))
            exact pw_mid (b1, b2, b3, (r, rc), bs) trivial ⟨rfl, rfl, rfl, rfl, trivial⟩ (fun w h => h.pick [0, 4, 2, 3, 1, 5] (by simp) rfl)
    · refine g_cf 56 rfl ?_; refine a_cn1 rfl rfl rfl rfl Try.func56 rfl rfl rfl (fun a : Option Addr × Nat => .slice a.1 66 a.2) (fun a => ownd a.1 a.2 5 1 66 ((rowK 66).flatMap cU)) (fun w' hw => row56 66 (by omega) w') (fun _ => rfl) (fun a w h => by exact h.only 1 rfl ) (fun a => ?_); obtain ⟨r, rc⟩ := a; dsimp only
      (repeat (((refine (?_ : MX _ _ _ _ _ _ _ _ _ _ _)); (refine g_build rfl ?_; refine mx_build rfl rfl rfl rfl (b71a _ _ _) rfl ?_ ) ) ))
      refine mx_blk3 ?_ ?_ ?_
      · refine g_bs rfl ?_; refine a_bsi E rfl rfl rfl rfl rfl (by (repeat (first | exact EvI.nil | (apply EvI.cons; rfl)))) (by rfl) (by rfl) (by rfl) rfl (fun b1 => ?_)
        (repeat (((refine (?_ : MX _ _ _ _ _ _ _ _ _ _ _)); (refine g_build rfl ?_; refine mx_build rfl rfl rfl rfl (b71a _ _ _) rfl ?_ ) ) ))
        refine mx_blk2 ?_ ?_
        · refine g_bs rfl ?_; refine a_bsi E rfl rfl rfl rfl rfl (by (repeat (first | exact EvI.nil | (apply EvI.cons; rfl)))) (by rfl) (by rfl) (by rfl) rfl (fun b2 => ?_)
          (repeat (((refine (?_ : MX _ _ _ _ _ _ _ _ _ _ _)); (refine g_build rfl ?_; refine mx_build rfl rfl rfl rfl (b71e _ _ _ _ _ _) rfl ?_ ) ) ))
          refine mx_blk1 ?_
          · refine g_bs rfl ?_; refine a_bsi E rfl rfl rfl rfl rfl (by (repeat (first | exact EvI.nil | (apply EvI.cons; rfl)))) (by rfl) (by rfl) (by rfl) rfl (fun b3 => ?_)
            (repeat (((refine (?_ : MX _ _ _ _ _ _ _ _ _ _ _)); (refine g_build rfl ?_; refine mx_build rfl rfl rfl rfl (b71f _ _ _ _ _) rfl ?_ ) ) ))
            refine mx_blk0 ?_
            refine g_bs rfl ?_
            refine a_bslice E rfl rfl rfl rfl ((exO p q u b1 b2 b3 r rc).map fun o => .agg (cCO o).toArray) rfl (us := (exO p q u b1 b2 b3 r rc).flatMap cCO) rfl rfl (by intro v hv; obtain ⟨o, _, rfl⟩ := List.mem_map.1 hv; rfl) rfl rfl rfl rfl (fun bs => ?_)
            (repeat (((refine (?_ : MX _ _ _ _ _ _ _ _ _ _ _)); first | refine mx_end ?_ | (refine mx_as _ rfl rfl (by conv => {lhs; whnf}) ?_) ) ))
            exact pw_mid (b1, b2, b3, (r, rc), bs) trivial ⟨rfl, rfl, rfl, rfl, trivial⟩ (fun w h => h.pick [0, 3, 2, 1, 4, 5] (by simp) rfl)
        · refine g_bs rfl ?_; refine a_bsi E rfl rfl rfl rfl rfl (by (repeat (first | exact EvI.nil | (apply EvI.cons; rfl)))) (by rfl) (by rfl) (by rfl) rfl (fun b3 => ?_)
          (repeat (((refine (?_ : MX _ _ _ _ _ _ _ _ _ _ _)); (refine g_build rfl ?_; refine mx_build rfl rfl rfl rfl (b71f _ _ _ _ _) rfl ?_ ) ) ))
          refine mx_blk1 ?_
          · refine g_bs rfl ?_; refine a_bsi E rfl rfl rfl rfl rfl (by (repeat (first | exact EvI.nil | (apply EvI.cons; rfl)))) (by rfl) (by rfl) (by rfl) rfl (fun b2 => ?_)
            (repeat (((refine (?_ : MX _ _ _ _ _ _ _ _ _ _ _)); (refine g_build rfl ?_; refine mx_build rfl rfl rfl rfl (b71e _ _ _ _ _ _) rfl ?_ ) ) ))
            refine mx_blk0 ?_
            refine g_bs rfl ?_
            refine a_bslice E rfl rfl rfl rfl ((exO p q u b1 b2 b3 r rc).map fun o => .agg (cCO o).toArray) rfl (us := (exO p q u b1 b2 b3 r rc).flatMap cCO) rfl rfl (by intro v hv; obtain ⟨o, _, rfl⟩ := List.mem_map.1 hv; rfl) rfl rfl rfl rfl (fun bs => ?_)
            (repeat (((refine (?_ : MX _ _ _ _ _ _ _ _ _ _ _)); first | refine mx_end ?_ | (refine mx_as _ rfl rfl (by conv => {lhs; whnf}) ?_) ) ))
            exact pw_mid (b1, b2, b3, (r, rc), bs) trivial ⟨rfl, rfl, rfl, rfl, trivial⟩ (fun w h => h.pick [0, 3, 1, 2, 4, 5] (by simp) rfl)
      · refine g_bs rfl ?_; refine a_bsi E rfl rfl rfl rfl rfl (by (repeat (first | exact EvI.nil | (apply EvI.cons; rfl)))) (by rfl) (by rfl) (by rfl) rfl (fun b2 => ?_)
        (repeat (((refine (?_ : MX _ _ _ _ _ _ _ _ _ _ _)); (refine g_build rfl ?_; refine mx_build rfl rfl rfl rfl (b71e _ _ _ _ _ _) rfl ?_ ) ) ))
        refine mx_blk2 ?_ ?_
        · refine g_bs rfl ?_; refine a_bsi E rfl rfl rfl rfl rfl (by (repeat (first | exact EvI.nil | (apply EvI.cons; rfl)))) (by rfl) (by rfl) (by rfl) rfl (fun b1 => ?_)
          (repeat (((refine (?_ : MX _ _ _ _ _ _ _ _ _ _ _)); (refine g_build rfl ?_; refine mx_build rfl rfl rfl rfl (b71a _ _ _) rfl ?_ ) ) ))
          refine mx_blk1 ?_
          · refine g_bs rfl ?_; refine a_bsi E rfl rfl rfl rfl rfl (by (repeat (first | exact EvI.nil | (apply EvI.cons; rfl)))) (by rfl) (by rfl) (by rfl) rfl (fun b3 => ?_)
            (repeat (((refine (?_ : MX _ _ _ _ _ _ _ _ _ _ _)); (refine g_build rfl ?_; refine mx_build rfl rfl rfl rfl (b71f _ _ _ _ _) rfl ?_ ) ) ))
            refine mx_blk0 ?_
            refine g_bs rfl ?_
            refine a_bslice E rfl rfl rfl rfl ((exO p q u b1 b2 b3 r rc).map fun o => .agg (cCO o).toArray) rfl (us := (exO p q u b1 b2 b3 r rc).flatMap cCO) rfl rfl (by intro v hv; obtain ⟨o, _, rfl⟩ := List.mem_map.1 hv; rfl) rfl rfl rfl rfl (fun bs => ?_)
            (repeat (((refine (?_ : MX _ _ _ _ _ _ _ _ _ _ _)); first | refine mx_end ?_ | (refine mx_as _ rfl rfl (by conv => {lhs; whnf}) ?_) ) ))
            exact pw_mid (b1, b2, b3, (r, rc), bs) trivial ⟨rfl, rfl, rfl, rfl, trivial⟩ (fun w h => h.pick [0, 2, 3, 1, 4, 5] (by simp) rfl)
        · refine g_bs rfl ?_; refine a_bsi E rfl rfl rfl rfl rfl (by (repeat (first | exact EvI.nil | (apply EvI.cons; rfl)))) (by rfl) (by rfl) (by rfl) rfl (fun b3 => ?_)
          (repeat (((refine (?_ : MX _ _ _ _ _ _ _ _ _ _ _)); (refine g_build rfl ?_; refine mx_build rfl rfl rfl rfl (b71f _ _ _ _ _) rfl ?_ ) ) ))
          refine mx_blk1 ?_
          · refine g_bs rfl ?_; refine a_bsi E rfl rfl rfl rfl rfl (by (repeat (first | exact EvI.nil | (apply EvI.cons; rfl)))) (by rfl) (by rfl) (by rfl) rfl (fun b1 => ?_)
            (repeat (((refine (?_ : MX _ _ _ _ _ _ _ _ _ _ _)); (refine g_build rfl ?_; refine mx_build rfl rfl rfl rfl (b71a _ _ _) rfl ?_ ) ) ))
            refine mx_blk0 ?_
            refine g_bs rfl ?_
            refine a_bslice E rfl rfl rfl rfl ((exO p q u b1 b2 b3 r rc).map fun o => .agg (cCO o).toArray) rfl (us := (exO p q u b1 b2 b3 r rc).flatMap cCO) rfl rfl (by intro v hv; obtain ⟨o, _, rfl⟩ := List.mem_map.1 hv; rfl) rfl rfl rfl rfl (fun bs => ?_)
            (repeat (((refine (?_ : MX _ _ _ _ _ _ _ _ _ _ _)); first | refine mx_end ?_ | (refine mx_as _ rfl rfl (by conv => {lhs; whnf}) ?_) ) ))
            exact pw_mid (b1, b2, b3, (r, rc), bs) trivial ⟨rfl, rfl, rfl, rfl, trivial⟩ (fun w h => h.pick [0, 1, 3, 2, 4, 5] (by simp) rfl)
      · refine g_bs rfl ?_; refine a_bsi E rfl rfl rfl rfl rfl (by (repeat (first | exact EvI.nil | (apply EvI.cons; rfl)))) (by rfl) (by rfl) (by rfl) rfl (fun b3 => ?_)
        (repeat (((refine (?_ : MX _ _ _ _ _ _ _ _ _ _ _)); (refine g_build rfl ?_; refine mx_build rfl rfl rfl rfl (b71f _ _ _ _ _) rfl ?_ ) ) ))
        refine mx_blk2 ?_ ?_
        · refine g_bs rfl ?_; refine a_bsi E rfl rfl rfl rfl rfl (by (repeat (first | exact EvI.nil | (apply EvI.cons; rfl)))) (by rfl) (by rfl) (by rfl) rfl (fun b1 => ?_)
          (repeat (((refine (?_ : MX _ _ _ _ _ _ _ _ _ _ _)); (refine g_build rfl ?_; refine mx_build rfl rfl rfl rfl (b71a _ _ _) rfl ?_ ) ) ))
          refine mx_blk1 ?_
          · refine g_bs rfl ?_; refine a_bsi E rfl rfl rfl rfl rfl (by (repeat (first | exact EvI.nil | (apply EvI.cons; rfl)))) (by rfl) (by rfl) (by rfl) rfl (fun b2 => ?_)
            (repeat (((refine (?_ : MX _ _ _ _ _ _ _ _ _ _ _)); (refine g_build rfl ?_; refine mx_build rfl rfl rfl rfl (b71e _ _ _ _ _ _) rfl ?_ ) ) ))
            refine mx_blk0 ?_
            refine g_bs rfl ?_
            refine a_bslice E rfl rfl rfl rfl ((exO p q u b1 b2 b3 r rc).map fun o => .agg (cCO o).toArray) rfl (us := (exO p q u b1 b2 b3 r rc).flatMap cCO) rfl rfl (by intro v hv; obtain ⟨o, _, rfl⟩ := List.mem_map.1 hv; rfl) rfl rfl rfl rfl (fun bs => ?_)
            (repeat (((refine (?_ : MX _ _ _ _ _ _ _ _ _ _ _)); first | refine mx_end ?_ | (refine mx_as _ rfl rfl (by conv => {lhs; whnf}) ?_) ) ))
            exact pw_mid (b1, b2, b3, (r, rc), bs) trivial ⟨rfl, rfl, rfl, rfl, trivial⟩ (fun w h => h.pick [0, 2, 1, 3, 4, 5] (by simp) rfl)
        · refine g_bs rfl ?_; refine a_bsi E rfl rfl rfl rfl rfl (by (repeat (first | exact EvI.nil | (apply EvI.cons; rfl)))) (by rfl) (by rfl) (by rfl) rfl (fun b2 => ?_)
          (repeat (((refine (?_ : MX _ _ _ _ _ _ _ _ _ _ _)); (refine g_build rfl ?_; refine mx_build rfl rfl rfl rfl (b71e _ _ _ _ _ _) rfl ?_ ) ) ))
          refine mx_blk1 ?_
          · refine g_bs rfl ?_; refine a_bsi E rfl rfl rfl rfl rfl (by (repeat (first | exact EvI.nil | (apply EvI.cons; rfl)))) (by rfl) (by rfl) (by rfl) rfl (fun b1 => ?_)
            (repeat (((refine (?_ : MX _ _ _ _ _ _ _ _ _ _ _)); (refine g_build rfl ?_; refine mx_build rfl rfl rfl rfl (b71a _ _ _) rfl ?_ ) ) ))
            refine mx_blk0 ?_
            refine g_bs rfl ?_
            refine a_bslice E rfl rfl rfl rfl ((exO p q u b1 b2 b3 r rc).map fun o => .agg (cCO o).toArray) rfl (us := (exO p q u b1 b2 b3 r rc).flatMap cCO) rfl rfl (by intro v hv; obtain ⟨o, _, rfl⟩ := List.mem_map.1 hv; rfl) rfl rfl rfl rfl (fun bs => ?_)
            (repeat (((refine (?_ : MX _ _ _ _ _ _ _ _ _ _ _)); first | refine mx_end ?_ | (refine mx_as _ rfl rfl (by conv => {lhs; whnf}) ?_) ) ))
            exact pw_mid (b1, b2, b3, (r, rc), bs) trivial ⟨rfl, rfl, rfl, rfl, trivial⟩ (fun w h => h.pick [0, 1, 2, 3, 4, 5] (by simp) rfl)
    · refine g_bs rfl ?_; refine a_bsi E rfl rfl rfl rfl rfl (by (repeat (first | exact EvI.nil | (apply EvI.cons; rfl)))) (by rfl) (by rfl) (by rfl) rfl (fun b2 => ?_)
      (repeat (((refine (?_ : MX _ _ _ _ _ _ _ _ _ _ _)); (refine g_build rfl ?_; refine mx_build rfl rfl rfl rfl (b71e _ _ _ _ _ _) rfl ?_ ) ) ))
      refine mx_blk3 ?_ ?_ ?_
      · refine g_bs rfl ?_; refine a_bsi E rfl rfl rfl rfl rfl (by (repeat (first | exact EvI.nil | (apply EvI.cons; rfl)))) (by rfl) (by rfl) (by rfl) rfl (fun b1 => ?_)
        (repeat (((refine (?_ : MX _ _ _ _ _ _ _ _ _ _ _)); (refine g_build rfl ?_; refine mx_build rfl rfl rfl rfl (b71a _ _ _) rfl ?_ ) ) ))
        refine mx_blk2 ?_ ?_
        · refine g_cf 56 rfl ?_; refine a_cn1 rfl rfl rfl rfl Try.func56 rfl rfl rfl (fun a : Option Addr × Nat => .slice a.1 66 a.2) (fun a => ownd a.1 a.2 5 1 66 ((rowK 66).flatMap cU)) (fun w' hw => row56 66 (by omega) w') (fun _ => rfl) (fun a w h => by exact h.only 3 rfl ) (fun a => ?_); obtain ⟨r, rc⟩ := a; dsimp only
          (repeat (((refine (?_ : MX _ _ _ _ _ _ _ _ _ _ _)); (refine g_build rfl ?_; refine mx_build rfl rfl rfl rfl (b71a _ _ _) rfl ?_ ) ) ))
          refine mx_blk1 ?_
          · refine g_bs rfl ?_; refine a_bsi E rfl rfl rfl rfl rfl (by (repeat (first | exact EvI.nil | (apply EvI.cons; rfl)))) (by rfl) (by rfl) (by rfl) rfl (fun b3 => ?_)
            (repeat (((refine (?_ : MX _ _ _ _ _ _ _ _ _ _ _)); (refine g_build rfl ?_; refine mx_build rfl rfl rfl rfl (b71f _ _ _ _ _) rfl ?_ ) ) ))
            refine mx_blk0 ?_
            refine g_bs rfl ?_
            refine a_bslice E rfl rfl rfl rfl ((exO p q u b1 b2 b3 r rc).map fun o => .agg (cCO o).toArray) rfl (us := (exO p q u b1 b2 b3 r rc).flatMap cCO) rfl rfl (by intro v hv; obtain ⟨o, _, rfl⟩ := List.mem_map.1 hv; rfl) rfl rfl rfl rfl (fun bs => ?_)
            (repeat (((refine (?_ : MX _ _ _ _ _ _ _ _ _ _ _)); first | refine mx_end ?_ | (refine mx_as _ rfl rfl (by conv => {lhs; whnf}) ?_) ) ))
            exact pw_mid (b1, b2, b3, (r, rc), bs) trivial ⟨rfl, rfl, rfl, rfl, trivial⟩ (fun w h => h.pick [0, 3, 4, 1, 2, 5] (by simp) rfl)
        · refine g_bs rfl ?_; refine a_bsi E rfl rfl rfl rfl rfl (by (repeat (first | exact EvI.nil | (apply EvI.cons; rfl)))) (by rfl) (by rfl) (by rfl) rfl (fun b3 => ?_)
          (repeat (((refine (?_ : MX _ _ _ _ _ _ _ _ _ _ _)); (refine g_build rfl ?_; refine mx_build rfl rfl rfl rfl (b71f _ _ _ _ _) rfl ?_ ) ) ))
          refine mx_blk1 ?_
          · refine g_cf 56 rfl ?_; refine a_cn1 rfl rfl rfl rfl Try.func56 rfl rfl rfl (fun a : Option Addr × Nat => .slice a.1 66 a.2) (fun a => ownd a.1 a.2 5 1 66 ((rowK 66).flatMap cU)) (fun w' hw => row56 66 (by omega) w') (fun _ => rfl) (fun a w h => by exact h.only 4 rfl) (fun a => ?_); obtain ⟨r, rc⟩ := a; dsimp only
            (repeat (((refine (?_ : MX _ _ _ _ _ _ _ _ _ _ _)); (refine g_build rfl ?_; refine mx_build rfl rfl rfl rfl (b71a _ _ _) rfl ?_ ) ) ))
            refine mx_blk0 ?_
            refine g_bs rfl ?_
            refine a_bslice E rfl rfl rfl rfl ((exO p q u b1 b2 b3 r rc).map fun o => .agg (cCO o).toArray) rfl (us := (exO p q u b1 b2 b3 r rc).flatMap cCO) rfl rfl (by intro v hv; obtain ⟨o, _, rfl⟩ := List.mem_map.1 hv; rfl) rfl rfl rfl rfl (fun bs => ?_)
            (repeat (((refine (?_ : MX _ _ _ _ _ _ _ _ _ _ _)); first | refine mx_end ?_ | (refine mx_as _ rfl rfl (by conv => {lhs; whnf}) ?_) ) ))
            exact pw_mid (b1, b2, b3, (r, rc), bs) trivial ⟨rfl, rfl, rfl, rfl, trivial⟩ (fun w h => h.pick [0, 3, 4, 2, 1, 5] (by simp) rfl)
      · refine g_cf 56 rfl ?_; refine a_cn1 rfl rfl rfl rfl Try.func56 rfl rfl rfl (fun a : Option Addr × Nat => .slice a.1 66 a.2) (fun a => ownd a.1 a.2 5 1 66 ((rowK 66).flatMap cU)) (fun w' hw => row56 66 (by omega) w') (fun _ => rfl) (fun a w h => by exact h.only 2 rfl ) (fun a => ?_); obtain ⟨r, rc⟩ := a; dsimp only
        (repeat (((refine (?_ : MX _ _ _ _ _ _ _ _ _ _ _)); (refine g_build rfl ?_; refine mx_build rfl rfl rfl rfl (b71a _ _ _) rfl ?_ ) ) ))
        refine mx_blk2 ?_ ?_
        · refine g_bs rfl ?_; refine a_bsi E rfl rfl rfl rfl rfl (by (repeat (first | exact EvI.nil | (apply EvI.cons; rfl)))) (by rfl) (by rfl) (by rfl) rfl (fun b1 => ?_)
          (repeat (((refine (?_ : MX _ _ _ _ _ _ _ _ _ _ _)); (refine g_build rfl ?_; refine mx_build rfl rfl rfl rfl (b71a _ _ _) rfl ?_ ) ) ))
          refine mx_blk1 ?_
          · refine g_bs rfl ?_; refine a_bsi E rfl rfl rfl rfl rfl (by (repeat (first | exact EvI.nil | (apply EvI.cons; rfl)))) (by rfl) (by rfl) (by rfl) rfl (fun b3 => ?_)
            (repeat (((refine (?_ : MX _ _ _ _ _ _ _ _ _ _ _)); (refine g_build rfl ?_; refine mx_build rfl rfl rfl rfl (b71f _ _ _ _ _) rfl ?_ ) ) ))
            refine mx_blk0 ?_
            refine g_bs rfl ?_
            refine a_bslice E rfl rfl rfl rfl ((exO p q u b1 b2 b3 r rc).map fun o => .agg (cCO o).toArray) rfl (us := (exO p q u b1 b2 b3 r rc).flatMap cCO) rfl rfl (by intro v hv; obtain ⟨o, _, rfl⟩ := List.mem_map.1 hv; rfl) rfl rfl rfl rfl (fun bs => ?_)
            (repeat (((refine (?_ : MX _ _ _ _ _ _ _ _ _ _ _)); first | refine mx_end ?_ | (refine mx_as _ rfl rfl (by conv => {lhs; whnf}) ?_) ) ))
            exact pw_mid (b1, b2, b3, (r, rc), bs) trivial ⟨rfl, rfl, rfl, rfl, trivial⟩ (fun w h => h.pick [0, 2, 4, 1, 3, 5] (by simp) rfl)
        · refine g_bs rfl ?_; refine a_bsi E rfl rfl rfl rfl rfl (by (repeat (first | exact EvI.nil | (apply EvI.cons; rfl)))) (by rfl) (by rfl) (by rfl) rfl (fun b3 => ?_)
          (repeat (((refine (?_ : MX _ _ _ _ _ _ _ _ _ _ _)); (refine g_build rfl ?_; refine mx_build rfl rfl rfl rfl (b71f _ _ _ _ _) rfl ?_ ) ) ))
          refine mx_blk1 ?_
          · refine g_bs rfl ?_; refine a_bsi E rfl rfl rfl rfl rfl (by (repeat (first | exact EvI.nil | (apply EvI.cons; rfl)))) (by rfl) (by rfl) (by rfl) rfl (fun b1 => ?_)
            (repeat (((refine (?_ : MX _ _ _ _ _ _ _ _ _ _ _)); (refine g_build rfl ?_; refine mx_build rfl rfl rfl rfl (b71a _ _ _) rfl ?_ ) ) ))
            refine mx_blk0 ?_
            refine g_bs rfl ?_
            refine a_bslice E rfl rfl rfl rfl ((exO p q u b1 b2 b3 r rc).map fun o => .agg (cCO o).toArray) rfl (us := (exO p q u b1 b2 b3 r rc).flatMap cCO) rfl rfl (by intro v hv; obtain ⟨o, _, rfl⟩ := List.mem_map.1 hv; rfl) rfl rfl rfl rfl (fun bs => ?_)
            (repeat (((refine (?_ : MX _ _ _ _ _ _ _ _ _ _ _)); first | refine mx_end ?_ | (refine mx_as _ rfl rfl (by conv => {lhs; whnf}) ?_) ) ))
            exact pw_mid (b1, b2, b3, (r, rc), bs) trivial ⟨rfl, rfl, rfl, rfl, trivial⟩ (fun w h => h.pick [0, 1, 4, 2, 3, 5] (by simp) rfl)
      · refine g_bs rfl ?_; refine a_bsi E rfl rfl rfl rfl rfl (by (repeat (first | exact EvI.nil | (apply EvI.cons; rfl)))) (by rfl) (by rfl) (by rfl) rfl (fun b3 => ?_)
        (repeat (((refine (?_ : MX _ _ _ _ _ _ _ _ _ _ _)); (refine g_build rfl ?_; refine mx_build rfl rfl rfl rfl (b71f _ _ _ _ _) rfl ?_ ) ) ))
        refine mx_blk2 ?_ ?_
        · refine g_bs rfl ?_; refine a_bsi E rfl rfl rfl rfl rfl (by (repeat (first | exact EvI.nil | (apply EvI.cons; rfl)))) (by rfl) (by rfl) (by rfl) rfl (fun b1 => ?_)
          (repeat (((refine (?_ : MX _ _ _ _ _ _ _ _ _ _ _)); (refine g_build rfl ?_; refine mx_build rfl rfl rfl rfl (b71a _ _ _) rfl ?_ ) ) ))
          refine mx_blk1 ?_
          · refine g_cf 56 rfl ?_; refine a_cn1 rfl rfl rfl rfl Try.func56 rfl rfl rfl (fun a : Option Addr × Nat => .slice a.1 66 a.2) (fun a => ownd a.1 a.2 5 1 66 ((rowK 66).flatMap cU)) (fun w' hw => row56 66 (by omega) w') (fun _ => rfl) (fun a w h => by exact h.only 4 rfl) (fun a => ?_); obtain ⟨r, rc⟩ := a; dsimp only
            (repeat (((refine (?_ : MX _ _ _ _ _ _ _ _ _ _ _)); (refine g_build rfl ?_; refine mx_build rfl rfl rfl rfl (b71a _ _ _) rfl ?_ ) ) ))
            refine mx_blk0 ?_
            refine g_bs rfl ?_
            refine a_bslice E rfl rfl rfl rfl ((exO p q u b1 b2 b3 r rc).map fun o => .agg (cCO o).toArray) rfl (us := (exO p q u b1 b2 b3 r rc).flatMap cCO) rfl rfl (by intro v hv; obtain ⟨o, _, rfl⟩ := List.mem_map.1 hv; rfl) rfl rfl rfl rfl (fun bs => ?_)
            (repeat (((refine (?_ : MX _ _ _ _ _ _ _ _ _ _ _)); first | refine mx_end ?_ | (refine mx_as _ rfl rfl (by conv => {lhs; whnf}) ?_) ) ))
            exact pw_mid (b1, b2, b3, (r, rc), bs) trivial ⟨rfl, rfl, rfl, rfl, trivial⟩ (fun w h => h.pick [0, 2, 4, 3, 1, 5] (by simp) rfl)
        · refine g_cf 56 rfl ?_; refine a_cn1 rfl rfl rfl rfl Try.func56 rfl rfl rfl (fun a : Option Addr × Nat => .slice a.1 66 a.2) (fun a => ownd a.1 a.2 5 1 66 ((rowK 66).flatMap cU)) (fun w' hw => row56 66 (by omega) w') (fun _ => rfl) (fun a w h => by exact h.only 3 rfl ) (fun a => ?_); obtain ⟨r, rc⟩ := a; dsimp only
          (repeat (((refine (?_ : MX _ _ _ _ _ _ _ _ _ _ _)); (refine g_build rfl ?_; refine mx_build rfl rfl rfl rfl (b71a _ _ _) rfl ?_ ) ) ))
          refine mx_blk1 ?_
          · refine g_bs rfl ?_; refine a_bsi E rfl rfl rfl rfl rfl (by (repeat (first | exact EvI.nil | (apply EvI.cons; rfl)))) (by rfl) (by rfl) (by rfl) rfl (fun b1 => ?_)
            (repeat (((refine (?_ : MX _ _ _ _ _ _ _ _ _ _ _)); (refine g_build rfl ?_; refine mx_build rfl rfl rfl rfl (b71a _ _ _) rfl ?_ ) ) ))
            refine mx_blk0 ?_
            refine g_bs rfl ?_
            refine a_bslice E rfl rfl rfl rfl ((exO p q u b1 b2 b3 r rc).map fun o => .agg (cCO o).toArray) rfl (us := (exO p q u b1 b2 b3 r rc).flatMap cCO) rfl rfl (by intro v hv; obtain ⟨o, _, rfl⟩ := List.mem_map.1 hv; rfl) rfl rfl rfl rfl (fun bs => ?_)
            (repeat (((refine (?_ : MX _ _ _ _ _ _ _ _ _ _ _)); first | refine mx_end ?_ | (refine mx_as _ rfl rfl (by conv => {lhs; whnf}) ?_) ) ))
            exact pw_mid (b1, b2, b3, (r, rc), bs) trivial ⟨rfl, rfl, rfl, rfl, trivial⟩ (fun w h => h.pick [0, 1, 4, 3, 2, 5] (by simp) rfl)
    · refine g_bs rfl ?_; refine a_bsi E rfl rfl rfl rfl rfl (by (repeat (first | exact EvI.nil | (apply EvI.cons; rfl)))) (by rfl) (by rfl) (by rfl) rfl (fun b3 => ?_)
      (repeat (((refine (?_ : MX _ _ _ _ _ _ _ _ _ _ _)); (refine g_build rfl ?_; refine mx_build rfl rfl rfl rfl (b71f _ _ _ _ _) rfl ?_ ) ) ))
      refine mx_blk3 ?_ ?_ ?_
      · refine g_bs rfl ?_; refine a_bsi E rfl rfl rfl rfl rfl (by (repeat (first | exact EvI.nil | (apply EvI.cons; rfl)))) (by rfl) (by rfl) (by rfl) rfl (fun b1 => ?_)
        (repeat (((refine (?_ : MX _ _ _ _ _ _ _ _ _ _ _)); (refine g_build rfl ?_; refine mx_build rfl rfl rfl rfl (b71a _ _ _) rfl ?_ ) ) ))
        refine mx_blk2 ?_ ?_
        · refine g_cf 56 rfl ?_; refine a_cn1 rfl rfl rfl rfl Try.func56 rfl rfl rfl (fun a : Option Addr × Nat => .slice a.1 66 a.2) (fun a => ownd a.1 a.2 5 1 66 ((rowK 66).flatMap cU)) (fun w' hw => row56 66 (by omega) w') (fun _ => rfl) (fun a w h => by exact h.only 3 rfl ) (fun a => ?_); obtain ⟨r, rc⟩ := a; dsimp only
          (repeat (((refine (?_ : MX _ _ _ _ _ _ _ _ _ _ _)); (refine g_build rfl ?_; refine mx_build rfl rfl rfl rfl (b71a _ _ _) rfl ?_ ) ) ))
          refine mx_blk1 ?_
          · refine g_bs rfl ?_; refine a_bsi E rfl rfl rfl rfl rfl (by (repeat (first | exact EvI.nil | (apply EvI.cons; rfl)))) (by rfl) (by rfl) (by rfl) rfl (fun b2 => ?_)
            (repeat (((refine (?_ : MX _ _ _ _ _ _ _ _ _ _ _)); (refine g_build rfl ?_; refine mx_build rfl rfl rfl rfl (b71e _ _ _ _ _ _) rfl ?_ ) ) ))
            refine mx_blk0 ?_
            refine g_bs rfl ?_
            refine a_bslice E rfl rfl rfl rfl ((exO p q u b1 b2 b3 r rc).map fun o => .agg (cCO o).toArray) rfl (us := (exO p q u b1 b2 b3 r rc).flatMap cCO) rfl rfl (by intro v hv; obtain ⟨o, _, rfl⟩ := List.mem_map.1 hv; rfl) rfl rfl rfl rfl (fun bs => ?_)
            (repeat (((refine (?_ : MX _ _ _ _ _ _ _ _ _ _ _)); first | refine mx_end ?_ | (refine mx_as _ rfl rfl (by conv => {lhs; whnf}) ?_) ) ))
            exact pw_mid (b1, b2, b3, (r, rc), bs) trivial ⟨rfl, rfl, rfl, rfl, trivial⟩ (fun w h => h.pick [0, 3, 1, 4, 2, 5] (by simp) rfl)
        · refine g_bs rfl ?_; refine a_bsi E rfl rfl rfl rfl rfl (by (repeat (first | exact EvI.nil | (apply EvI.cons; rfl)))) (by rfl) (by rfl) (by rfl) rfl (fun b2 => ?_)
          (repeat (((refine (?_ : MX _ _ _ _ _ _ _ _ _ _ _)); (refine g_build rfl ?_; refine mx_build rfl rfl rfl rfl (b71e _ _ _ _ _ _) rfl ?_ ) ) ))
          refine mx_blk1 ?_
          · refine g_cf 56 rfl ?_; refine a_cn1 rfl rfl rfl rfl Try.func56 rfl rfl rfl (fun a : Option Addr × Nat => .slice a.1 66 a.2) (fun a => ownd a.1 a.2 5 1 66 ((rowK 66).flatMap cU)) (fun w' hw => row56 66 (by omega) w') (fun _ => rfl) (fun a w h => by exact h.only 4 rfl) (fun a => ?_); obtain ⟨r, rc⟩ := a; dsimp only
            (repeat (((refine (?_ : MX _ _ _ _ _ _ _ _ _ _ _)); (refine g_build rfl ?_; refine mx_build rfl rfl rfl rfl (b71a _ _ _) rfl ?_ ) ) ))
            refine mx_blk0 ?_
            refine g_bs rfl ?_
            refine a_bslice E rfl rfl rfl rfl ((exO p q u b1 b2 b3 r rc).map fun o => .agg (cCO o).toArray) rfl (us := (exO p q u b1 b2 b3 r rc).flatMap cCO) rfl rfl (by intro v hv; obtain ⟨o, _, rfl⟩ := List.mem_map.1 hv; rfl) rfl rfl rfl rfl (fun bs => ?_)
            (repeat (((refine (?_ : MX _ _ _ _ _ _ _ _ _ _ _)); first | refine mx_end ?_ | (refine mx_as _ rfl rfl (by conv => {lhs; whnf}) ?_) ) ))
            exact pw_mid (b1, b2, b3, (r, rc), bs) trivial ⟨rfl, rfl, rfl, rfl, trivial⟩ (fun w h => h.pick [0, 3, 2, 4, 1, 5] (by simp) rfl)
      · refine g_cf 56 rfl ?_; refine a_cn1 rfl rfl rfl rfl Try.func56 rfl rfl rfl (fun a : Option Addr × Nat => .slice a.1 66 a.2) (fun a => ownd a.1 a.2 5 1 66 ((rowK 66).flatMap cU)) (fun w' hw => row56 66 (by omega) w') (fun _ => rfl) (fun a w h => by exact h.only 2 rfl ) (fun a => ?_); obtain ⟨r, rc⟩ := a; dsimp only
        (repeat (((refine (?_ : MX _ _ _ _ _ _ _ _ _ _ _)); (refine g_build rfl ?_; refine mx_build rfl rfl rfl rfl (b71a _ _ _) rfl ?_ ) ) ))
        refine mx_blk2 ?_ ?_
        · refine g_bs rfl ?_; refine a_bsi E rfl rfl rfl rfl rfl (by (repeat (first | exact EvI.nil | (apply EvI.cons; rfl)))) (by rfl) (by rfl) (by rfl) rfl (fun b1 => ?_)
          (repeat (((refine (?_ : MX _ _ _ _ _ _ _ _ _ _ _)); (refine g_build rfl ?_; refine mx_build rfl rfl rfl rfl (b71a _ _ _) rfl ?_ ) ) ))
          refine mx_blk1 ?_
          · refine g_bs rfl ?_; refine a_bsi E rfl rfl rfl rfl rfl (by (repeat (first | exact EvI.nil | (apply EvI.cons; rfl)))) (by rfl) (by rfl) (by rfl) rfl (fun b2 => ?_)
            (repeat (((refine (?_ : MX _ _ _ _ _ _ _ _ _ _ _)); (refine g_build rfl ?_; refine mx_build rfl rfl rfl rfl (b71e _ _ _ _ _ _) rfl ?_ ) ) ))
            refine mx_blk0 ?_
            refine g_bs rfl ?_
            refine a_bslice E rfl rfl rfl rfl ((exO p q u b1 b2 b3 r rc).map fun o => .agg (cCO o).toArray) rfl (us := (exO p q u b1 b2 b3 r rc).flatMap cCO) rfl rfl (by intro v hv; obtain ⟨o, _, rfl⟩ := List.mem_map.1 hv; rfl) rfl rfl rfl rfl (fun bs => ?_)
            (repeat (((refine (?_ : MX _ _ _ _ _ _ _ _ _ _ _)); first | refine mx_end ?_ | (refine mx_as _ rfl rfl (by conv => {lhs; whnf}) ?_) ) ))
            exact pw_mid (b1, b2, b3, (r, rc), bs) trivial ⟨rfl, rfl, rfl, rfl, trivial⟩ (fun w h => h.pick [0, 2, 1, 4, 3, 5] (by simp) rfl)
        · refine g_bs rfl ?_; refine a_bsi E rfl rfl rfl rfl rfl (by (repeat (first | exact EvI.nil | (apply EvI.cons; rfl)))) (by rfl) (by rfl) (by rfl) rfl (fun b2 => ?_)
          (repeat (((refine (?_ : MX _ _ _ _ _ _ _ _ _ _ _)); (refine g_build rfl ?_; refine mx_build rfl rfl rfl rfl (b71e _ _ _ _ _ _) rfl ?_ ) ) ))
          refine mx_blk1 ?_
          · refine g_bs rfl ?_; refine a_bsi E rfl rfl rfl rfl rfl (by (repeat (first | exact EvI.nil | (apply EvI.cons; rfl)))) (by rfl) (by rfl) (by rfl) rfl (fun b1 => ?_)
            (repeat (((refine (?_ : MX _ _ _ _ _ _ _ _ _ _ _)); (refine g_build rfl ?_; refine mx_build rfl rfl rfl rfl (b71a _ _ _) rfl ?_ ) ) ))
            refine mx_blk0 ?_
            refine g_bs rfl ?_
            refine a_bslice E rfl rfl rfl rfl ((exO p q u b1 b2 b3 r rc).map fun o => .agg (cCO o).toArray) rfl (us := (exO p q u b1 b2 b3 r rc).flatMap cCO) rfl rfl (by intro v hv; obtain ⟨o, _, rfl⟩ := List.mem_map.1 hv; rfl) rfl rfl rfl rfl (fun bs => ?_)
            (repeat (((refine (?_ : MX _ _ _ _ _ _ _ _ _ _ _)); first | refine mx_end ?_ | (refine mx_as _ rfl rfl (by conv => {lhs; whnf}) ?_) ) ))
            exact pw_mid (b1, b2, b3, (r, rc), bs) trivial ⟨rfl, rfl, rfl, rfl, trivial⟩ (fun w h => h.pick [0, 1, 2, 4, 3, 5] (by simp) rfl)
      · refine g_bs rfl ?_; refine a_bsi E rfl rfl rfl rfl rfl (by (repeat (first | exact EvI.nil | (apply EvI.cons; rfl)))) (by rfl) (by rfl) (by rfl) rfl (fun b2 => ?_)
        (repeat (((refine (?_ : MX _ _ _ _ _ _ _ _ _ _ _)); (refine g_build rfl ?_; refine mx_build rfl rfl rfl rfl (b71e _ _ _ _ _ _) rfl ?_ ) ) ))
        refine mx_blk2 ?_ ?_
        · refine g_bs rfl ?_; refine a_bsi E rfl rfl rfl rfl rfl (by (repeat (first | exact EvI.nil | (apply EvI.cons; rfl)))) (by rfl) (by rfl) (by rfl) rfl (fun b1 => ?_)
          (repeat (((refine (?_ : MX _ _ _ _ _ _ _ _ _ _ _)); (refine g_build rfl ?_; refine mx_build rfl rfl rfl rfl (b71a _ _ _) rfl ?_ ) ) ))
          refine mx_blk1 ?_
          · refine g_cf 56 rfl ?_; refine a_cn1 rfl rfl rfl rfl Try.func56 rfl rfl rfl (fun a : Option Addr × Nat => .slice a.1 66 a.2) (fun a => ownd a.1 a.2 5 1 66 ((rowK 66).flatMap cU)) (fun w' hw => row56 66 (by omega) w') (fun _ => rfl) (fun a w h => by exact h.only 4 rfl) (fun a => ?_); obtain ⟨r, rc⟩ := a; dsimp only
            (repeat (((refine (?_ : MX _ _ _ _ _ _ _ _ _ _ _)); (refine g_build rfl ?_; refine mx_build rfl rfl rfl rfl (b71a _ _ _) rfl ?_ ) ) ))
            refine mx_blk0 ?_
            refine g_bs rfl ?_
            refine a_bslice E rfl rfl rfl rfl ((exO p q u b1 b2 b3 r rc).map fun o => .agg (cCO o).toArray) rfl (us := (exO p q u b1 b2 b3 r rc).flatMap cCO) rfl rfl (by intro v hv; obtain ⟨o, _, rfl⟩ := List.mem_map.1 hv; rfl) rfl rfl rfl rfl (fun bs => ?_)
            (repeat (((refine (?_ : MX _ _ _ _ _ _ _ _ _ _ _)); first | refine mx_end ?_ | (refine mx_as _ rfl rfl (by conv => {lhs; whnf}) ?_) ) ))
            exact pw_mid (b1, b2, b3, (r, rc), bs) trivial ⟨rfl, rfl, rfl, rfl, trivial⟩ (fun w h => h.pick [0, 2, 3, 4, 1, 5] (by simp) rfl)
        · refine g_cf 56 rfl ?_; refine a_cn1 rfl rfl rfl rfl Try.func56 rfl rfl rfl (fun a : Option Addr × Nat => .slice a.1 66 a.2) (fun a => ownd a.1 a.2 5 1 66 ((rowK 66).flatMap cU)) (fun w' hw => row56 66 (by omega) w') (fun _ => rfl) (fun a w h => by exact h.only 3 rfl ) (fun a => ?_); obtain ⟨r, rc⟩ := a; dsimp only
          (repeat (((refine (?_ : MX _ _ _ _ _ _ _ _ _ _ _)); (refine g_build rfl ?_; refine mx_build rfl rfl rfl rfl (b71a _ _ _) rfl ?_ ) ) ))
          refine mx_blk1 ?_
          · refine g_bs rfl ?_; refine a_bsi E rfl rfl rfl rfl rfl (by (repeat (first | exact EvI.nil | (apply EvI.cons; rfl)))) (by rfl) (by rfl) (by rfl) rfl (fun b1 => ?_)
            (repeat (((refine (?_ : MX _ _ _ _ _ _ _ _ _ _ _)); (refine g_build rfl ?_; refine mx_build rfl rfl rfl rfl (b71a _ _ _) rfl ?_ ) ) ))
            refine mx_blk0 ?_
            refine g_bs rfl ?_
            refine a_bslice E rfl rfl rfl rfl ((exO p q u b1 b2 b3 r rc).map fun o => .agg (cCO o).toArray) rfl (us := (exO p q u b1 b2 b3 r rc).flatMap cCO) rfl rfl (by intro v hv; obtain ⟨o, _, rfl⟩ := List.mem_map.1 hv; rfl) rfl rfl rfl rfl (fun bs => ?_)
            (repeat (((refine (?_ : MX _ _ _ _ _ _ _ _ _ _ _)); first | refine mx_end ?_ | (refine mx_as _ rfl rfl (by conv => {lhs; whnf}) ?_) ) ))
            exact pw_mid (b1, b2, b3, (r, rc), bs) trivial ⟨rfl, rfl, rfl, rfl, trivial⟩ (fun w h => h.pick [0, 1, 3, 4, 2, 5] (by simp) rfl)
  rintro ⟨b1, b2, b3, ⟨r, rc⟩, bs⟩ jk3 -
  dsimp only
  refine cw_know (p := 66 ≤ rc) (fun w hw => (own_at (hw.holds 4 _ rfl)).2.2) (fun hrc => ?_)
  have hQ : ∀ {w' : World} (hw : Ok (fun _ => False) w [row bs 71 ((exO p q u b1 b2 b3 r rc).flatMap cCO), row b1 5 (([1, 2, 3] : List Int).flatMap cU), row b2 5 (([7, 8, 9] : List Int).flatMap cU), row b3 5 (([7] : List Int).flatMap cU), ownd r rc 5 1 66 ((rowK 66).flatMap cU), row bn 3 nsV] w'), InL w' (some ⟨bs, 0, none⟩) 7 cCO (exO p q u b1 b2 b3 r rc) ∧ ∀ o ∈ exO p q u b1 b2 b3 r rc, CoQ w' o := fun hw => ⟨row_in (c := cCO) len_CO (hw.holds 0 _ rfl), exO_q hp hu2 (row_in (c := cU) len_U (hw.holds 1 _ rfl)) (row_in (c := cU) len_U (hw.holds 2 _ rfl)) (row_in (c := cU) len_U (hw.holds 3 _ rfl)) (own_in len_U (hw.holds 4 _ rfl) (by rw [rowK_len]; exact Nat.le_refl _)) hrc⟩
  have hm14 : (exO p q u b1 b2 b3 r rc).length ≤ 14 ∧ 14 ≤ maxLen := ⟨Nat.le_refl _, by omega⟩
  (repeat ( refine cw_seq ?_ ))
  refine cw_drawm [0, 1, 2, 3, 4, 5, 6, 7, 8, 9, 10, 11, 12, 13, 15, 16, 17, 18, 19, 20, 21, 22, 14, 23, 24, 25] (fun i => or (Nat.beq i 1) (or (Nat.beq i 5) (or (Nat.beq i 10) (or (Nat.beq i 14) (Nat.beq i 23))))) [row bn 3 nsV] mixed (by kernel_rfl) (fun w h => h.only 5 rfl) ?_
  (repeat (((refine (?_ : MX _ _ _ _ _ _ _ _ _ _ _)); (refine mx_mv _ rfl rfl (by conv => {lhs; whnf}) ?_) ) ))
  refine g_cf 13 rfl ?_
  refine a_callv rfl rfl rfl rfl Try.func13 rfl rfl rfl (.bool true) (fun w' hw => lawCellsRuns (some ⟨bs, 0, none⟩) 14 (exO p q u b1 b2 b3 r rc) hm14 w' (hQ hw).1 (hQ hw).2) rfl ?_
  (repeat (((refine (?_ : MX _ _ _ _ _ _ _ _ _ _ _)); first | (refine mx_mv _ rfl rfl (by conv => {lhs; whnf}) ?_) | (refine mx_not rfl rfl rfl ?_) ) ))
  refine g_cf 12 rfl ?_
  refine a_callv rfl rfl rfl rfl Try.func12 rfl rfl rfl (.bool true) (fun w' hw => lawCellsApart (some ⟨bs, 0, none⟩) 14 (exO p q u b1 b2 b3 r rc) 1 hm14 w' (hQ hw).1 (fun o ho => ((hQ hw).2 o ho).p)) rfl ?_
  (repeat (((refine (?_ : MX _ _ _ _ _ _ _ _ _ _ _)); first | (refine mx_mv _ rfl rfl (by conv => {lhs; whnf}) ?_) | (refine mx_not rfl rfl rfl ?_) | (refine g_pick rfl ?_; refine mx_or rfl rfl rfl rfl rfl rfl ?_ ) ) ))
  refine g_cf 12 rfl ?_
  refine a_callv rfl rfl rfl rfl Try.func12 rfl rfl rfl (.bool true) (fun w' hw => lawCellsApart (some ⟨bs, 0, none⟩) 14 (exO p q u b1 b2 b3 r rc) 2 hm14 w' (hQ hw).1 (fun o ho => ((hQ hw).2 o ho).p)) rfl ?_
  (repeat (((refine (?_ : MX _ _ _ _ _ _ _ _ _ _ _)); first | (refine mx_mv _ rfl rfl (by conv => {lhs; whnf}) ?_) | (refine g_load rfl ?_; refine mx_get E rfl rfl rfl rfl rfl (by assumption ) rfl ?_ ) | (refine g_ix rfl ?_; refine mx_ixsn E rfl rfl rfl rfl rfl rfl (by omega) rfl ?_ ) | (refine mx_not rfl rfl rfl ?_) | (refine g_pick rfl ?_; refine mx_or rfl rfl rfl rfl rfl rfl ?_ ) ) ))
  refine g_cf 56 rfl ?_
  refine a_cn1 rfl rfl rfl rfl Try.func56 rfl rfl rfl (fun a : Option Addr × Nat => .slice a.1 66 a.2) (fun a => ownd a.1 a.2 5 1 66 ((rowK 66).flatMap cU)) (fun w' hw => row56 66 (by omega) w') (fun _ => rfl) (fun a w h => h.only 6 rfl) (fun a => ?_)
  obtain ⟨r2, c2⟩ := a
  dsimp only
  (repeat (first | ((refine (?_ : MX _ _ _ _ _ _ _ _ _ _ _)); first | refine mx_end ?_ | (refine mx_mv _ rfl rfl (by conv => {lhs; whnf}) ?_) | (refine mx_as _ rfl rfl (by conv => {lhs; whnf}) ?_) | (first | refine mx_fa0 E rfl rfl rfl rfl ?_ | refine mx_fa E rfl rfl rfl rfl ?_) | (refine g_load rfl ?_; first | refine mx_get E rfl rfl rfl rfl rfl (by first | assumption | rfl) rfl ?_ | refine mx_getn E rfl rfl rfl rfl rfl (by first | assumption | exact Vr.all rfl | exact ⟨⟨rfl⟩, rfl⟩) rfl ?_ | refine mx_oldn E rfl rfl rfl rfl rfl (by assumption) (by assumption) (rfl) rfl ?_ | refine mx_old1 E rfl rfl rfl rfl rfl (by assumption) (by assumption) rfl ?_ | refine mx_orow E rfl rfl rfl rfl rfl (by assumption) (by assumption) (by first | assumption | rfl) rfl ?_ | refine mx_orown E rfl rfl rfl rfl rfl (by assumption) (by assumption) (by first | assumption | exact Vr.all rfl | exact ⟨⟨rfl⟩, rfl⟩) rfl ?_ | refine mx_geta E rfl rfl rfl rfl rfl rfl (by first | assumption | rfl) rfl ?_ | refine mx_getna E rfl rfl rfl rfl rfl rfl (by first | assumption | exact Vr.all rfl | exact ⟨⟨rfl⟩, rfl⟩) rfl ?_) | (refine g_bin rfl ?_; first | (first | (refine mx_cmpl .eql rfl rfl rfl rfl rfl (by first | exact cmp_eq_t (by omega) | exact cmp_eq_f (by omega) | rfl) ?_) | (refine mx_cmpl .neq rfl rfl rfl rfl rfl (by first | exact cmp_ne_t (by omega) | exact cmp_ne_f (by omega) | rfl) ?_) | (refine mx_cmpl .lss rfl rfl rfl rfl rfl (by first | exact cmp_lt_t (by omega) | exact cmp_lt_f (by omega) | rfl) ?_) | (refine mx_cmpl .leq rfl rfl rfl rfl rfl (by first | exact cmp_le_t (by omega) | exact cmp_le_f (by omega) | rfl) ?_) | (refine mx_cmpl .gtr rfl rfl rfl rfl rfl (by first | exact cmp_gt_t (by omega) | exact cmp_gt_f (by omega) | rfl) ?_) | (refine mx_cmpl .geq rfl rfl rfl rfl rfl (by first | exact cmp_ge_t (by omega) | exact cmp_ge_f (by omega) | rfl) ?_)) | (first | refine mx_ar rfl rfl rfl rfl rfl rfl (IntWalk.i64_in _ (by omega)) rfl ?_ | refine mx_ar rfl rfl rfl rfl rfl rfl (IntWalk.u64_in _ (by omega)) rfl ?_ | refine mx_ar rfl rfl rfl rfl rfl rfl (IntWalk.u8_in _ (by omega)) rfl ?_ | refine mx_ar rfl rfl rfl rfl rfl rfl rfl rfl ?_) | (first | refine mx_eqs rfl rfl rfl rfl rfl rfl ?_ | refine mx_nes rfl rfl rfl rfl rfl rfl ?_ | refine mx_eq rfl rfl rfl rfl rfl rfl ?_ | refine mx_ne rfl rfl rfl rfl rfl rfl ?_) | refine mx_bsame E rfl rfl rfl rfl rfl rfl rfl ?_ | refine mx_bnsame E rfl rfl rfl rfl rfl rfl rfl ?_ | refine mx_beq E rfl rfl rfl rfl rfl rfl rfl ?_ | refine mx_bne E rfl rfl rfl rfl rfl rfl rfl ?_ | refine mx_dv rfl rfl rfl rfl rfl (by decide) (congrArg some (by assumption)) rfl rfl ?_ | refine mx_dv rfl rfl rfl rfl rfl (by decide) rfl rfl rfl ?_ | refine mx_bit rfl rfl rfl rfl rfl (congrArg some (by assumption)) rfl rfl ?_ | refine mx_bit rfl rfl rfl rfl rfl rfl rfl rfl ?_ | refine mx_sh rfl rfl rfl rfl rfl (by omega) (congrArg some (by assumption)) rfl rfl ?_ | refine mx_sh rfl rfl rfl rfl rfl (by omega) rfl rfl rfl ?_) | (refine g_ix rfl ?_; first | refine mx_ixan E rfl rfl rfl rfl rfl rfl (by omega) rfl ?_ | refine mx_ixsn E rfl rfl rfl rfl rfl rfl (by omega) rfl ?_ | refine mx_ixsi E rfl rfl rfl rfl rfl rfl (by omega) (by omega) rfl ?_ | refine mx_ixa E rfl rfl rfl rfl rfl rfl (by omega) (by omega) rfl rfl ?_) | (refine mx_nc rfl rfl rfl ?_) | (refine g_bi .len rfl ?_; refine mx_len E rfl rfl rfl rfl ?_) | (refine mx_not rfl rfl rfl ?_) | (refine mx_ex _ rfl rfl rfl (by conv => {lhs; whnf}) ?_) | (refine mx_skip rfl rfl rfl ?_) | (refine g_pick rfl ?_; first | refine mx_andf rfl rfl rfl rfl rfl ?_ | refine mx_ort rfl rfl rfl rfl rfl ?_ | refine mx_and rfl rfl rfl rfl rfl rfl ?_ | refine mx_or rfl rfl rfl rfl rfl rfl ?_ | refine mx_pickt _ rfl rfl rfl rfl (by conv => {lhs; whnf}) rfl ?_ | refine mx_pickf _ rfl rfl rfl rfl (by conv => {lhs; whnf}) rfl ?_) | (refine g_store rfl ?_; first | refine s_l E rfl rfl rfl rfl rfl rfl rfl (by first | assumption | exact Sp.all rfl | exact Sp.lit rfl rfl) rfl ?_ | refine s_1 E rfl rfl rfl rfl rfl rfl rfl rfl (by first | assumption | exact sp0 | exact spS sp0 | exact Sp.lit rfl rfl) rfl ?_) | (refine g_build rfl ?_; first | refine mx_build rfl rfl rfl rfl (b71a _ _ _) rfl ?_ | refine mx_build rfl rfl rfl rfl (b71b _ _ _ _) rfl ?_ | refine mx_build rfl rfl rfl rfl (b71c _ _ _ _ _ _) rfl ?_ | refine mx_build rfl rfl rfl rfl (b71d _ _ _ _) rfl ?_ | refine mx_build rfl rfl rfl rfl (b71e _ _ _ _ _ _) rfl ?_ | refine mx_build rfl rfl rfl rfl (b71f _ _ _ _ _) rfl ?_ | refine mx_build rfl rfl rfl rfl (b71g _ _) rfl ?_ | refine mx_build rfl rfl rfl rfl (b71h _ _ _) rfl ?_ | refine mx_build rfl rfl rfl rfl (b71i _) rfl ?_ | refine mx_build rfl rfl rfl rfl b71j rfl ?_) | (refine a_new rfl rfl rfl rfl rfl (fun _ => ?_)) | (refine g_box rfl ?_; first | refine a_boxl rfl rfl rfl rfl rfl rfl (fun _ => ?_) | refine a_box1 rfl rfl rfl rfl rfl rfl rfl (fun _ => ?_)) | (first | refine mx_indexn E rfl rfl rfl rfl rfl rfl rfl rfl (by omega) (by first | exact vr_RR _ (by omega)) rfl ?_ | refine mx_index E rfl rfl rfl rfl rfl rfl rfl rfl (by omega) (by omega) (by first | exact vr_RR _ (by omega)) rfl ?_) | (refine g_bs rfl ?_; first | refine a_bs0 E rfl rfl rfl rfl rfl rfl (fun _ => ?_) | refine a_bsi E rfl rfl rfl rfl rfl (by (repeat (first | exact EvI.nil | (apply EvI.cons; rfl)))) (by rfl) (by rfl) (by rfl) rfl (fun _ => ?_)) | (refine g_conv rfl ?_; first | refine mx_cv E rfl rfl rfl rfl rfl rfl (by with_reducible assumption) rfl ?_ | refine mx_cv E rfl rfl rfl rfl rfl rfl rfl rfl ?_) | (first | (refine g_bi .max rfl ?_; refine mx_maxi rfl rfl rfl rfl rfl rfl rfl ?_) | (refine g_bi .min rfl ?_; refine mx_mini rfl rfl rfl rfl rfl rfl rfl ?_)) | (fail) | (refine g_call rfl ?_; first | (refine g_cf 47 rfl ?_; refine mx_call rfl rfl rfl Try.func47 rfl rfl rfl _ (fun w => works47 w) rfl ?_))) | refine cw_seq ?_ | refine cw_line rfl ?_ | (fail) | refine cw_block ?_ | refine cw_cond_f rfl ?_ | refine cw_cond_t rfl ?_ | refine cw_skip ?_ | refine cw_exit ?_ | refine cw_ret ?_ | refine pw_then ?_ | refine pw_then_x ?_ | refine pw_then_r ?_ | refine pw_block ?_ | refine pw_block_e ?_ | refine pw_block_n rfl ?_ | refine pw_block_r ?_))
  refine g_cf 10 rfl ?_
  refine a_callv rfl rfl rfl rfl Try.func10 rfl rfl rfl (.bool true) (fun w' hw => by
    have h := lawCellsBack r2 c2 (rowK 66) p q 9223372036854776066 (rowK_byt 66) hp hq (by decide) (by rw [rowK_len]; exact (own_at (hw.holds 0 _ rfl)).2.2) w' (own_in len_U (hw.holds 0 _ rfl) (by rw [rowK_len]; exact Nat.le_refl _))
    rwa [rowK_len] at h) rfl ?_
  (repeat (first | ((refine (?_ : MX _ _ _ _ _ _ _ _ _ _ _)); first | refine mx_end ?_ | (refine mx_mv _ rfl rfl (by conv => {lhs; whnf}) ?_) | (refine mx_as _ rfl rfl (by conv => {lhs; whnf}) ?_) | (refine g_bin rfl ?_; (refine mx_ar rfl rfl rfl rfl rfl rfl (IntWalk.i64_in _ (by omega)) rfl ?_ ) ) | (refine mx_not rfl rfl rfl ?_) | (refine g_pick rfl ?_; refine mx_or rfl rfl rfl rfl rfl rfl ?_ ) ) | refine cw_line rfl ?_ | refine cw_cond_f rfl ?_ | refine cw_skip ?_ | refine pw_then ?_ | refine pw_block ?_ ))
  exact pw_round (k + 1) (by omega) (by omega) ⟨rfl, rfl, rfl, trivial⟩ (fun w h => h.only 6 rfl)
end Go.Proofs.Ytfekmflnfhjebaa
