/- The walk of the law MemKnown: the examples of chapter 13; places and sizes at their ends. -/
import Derived.Test.YtdimcafdmaidpaaMt
set_option maxRecDepth 100000
set_option maxHeartbeats 16000000
set_option linter.unusedSimpArgs false
set_option linter.unusedVariables false
namespace Go.Proofs.Ytdimcafdmaidpaa
open Go Go.Sx Go.RowKit
theorem Ok.sub' {S : Nat → Prop} {w0 : World} {H H' : List Res} {w : World} (h : Ok S w0 H w) (p : H'.Sublist H) : Ok S w0 H' w := by
  induction p with
  | slnil => exact h
  | cons a _ ih => exact ih h.tail
  | cons_cons a q ih =>
    rename_i l1 l2
    have h1 := ih h.tail
    have key : ∀ (j : Nat) (x : Res), l1[j]? = some x → ∃ i : Nat, l2[i]? = some x := fun j x hj => by
      obtain ⟨i, hi, e⟩ := List.mem_iff_getElem.1 (q.subset (List.mem_of_getElem? hj))
      exact ⟨i, by rw [List.getElem?_eq_getElem hi, e]⟩
    refine ⟨h.keep, fun j x hj => ?_, fun j x hj => ?_, fun j k x y hj hk hne b hb hb' => ?_⟩
    · cases j with
      | zero => exact h.holds 0 x (by simpa using hj)
      | succ j => exact h1.holds j x (by simpa using hj)
    · cases j with
      | zero => exact h.own 0 x (by simpa using hj)
      | succ j => exact h1.own j x (by simpa using hj)
    · cases j with
      | zero =>
        cases k with
        | zero => exact hne rfl
        | succ k =>
          obtain ⟨i, hi⟩ := key k y (by simpa using hk)
          exact h.sep 0 (i + 1) x y (by simpa using hj) (by simpa using hi) (by omega) b hb hb'
      | succ j =>
        cases k with
        | zero =>
          obtain ⟨i, hi⟩ := key j x (by simpa using hj)
          exact h.sep (i + 1) 0 x y (by simpa using hi) (by simpa using hk) (by omega) b hb hb'
        | succ k => exact h1.sep j k x y (by simpa using hj) (by simpa using hk) (by omega) b hb hb'
instance {S : Nat → Prop} {w0 : World} {x : Res} {a b : Res} {H : List Res} : SubC (Ok S w0 [a, b]) S w0 (x :: a :: b :: H) := ⟨fun w hw => Ok.sub' hw (by simp)⟩
theorem rdb_o (q : Nat) : rdb Fr.o q = false := by
  unfold rdb
  rw [show (Fr.o.S (q / 8)).a = (0 : Int) from rfl, hb_zero]
  simp
theorem gat_o (p : Nat) : ∀ n : Nat, gat Fr.o p (n + 1) = none
  | 0 => by rw [gat1, rdb_o]; rfl
  | n + 1 => by
    show (match gat Fr.o p (n + 1) with | some l => _ | none => none) = none
    rw [gat_o p n]
theorem ldR_o (off size : Int) : ldR Fr.o off size = (V3.o, if ldOk off size = true then 26 else 22) := by
  unfold ldR
  split
  · rename_i h
    obtain ⟨p, n, h1, h2, h3, h4, h5, h6, h7, e1, e2⟩ := ldOk_spec h
    rw [if_neg (by rintro ⟨_, _, h⟩; exact h rfl), e1, e2, show n = (n - 1) + 1 by omega, gat_o]
  · rfl
theorem stR_o (off size : Int) : (stR Fr.o off size ⟨1, 1, 0⟩).1 = if ldOk off size = true then 0 else 22 := by
  unfold stR
  rw [if_neg (by decide)]
  split
  · rfl
  · rfl
def E8 : List Int := [-9223372036854775808, -513, -512, -1, 0, 1, 65535, 9223372036854775807]
theorem e8 : ∀ i, i < 8 → (E8.flatMap (cK .i64))[0 + i * 1]? = some (.int .i64 (E8.getD i 0)) := by
  intro i hi
  rcases (show i = 0 ∨ i = 1 ∨ i = 2 ∨ i = 3 ∨ i = 4 ∨ i = 5 ∨ i = 6 ∨ i = 7 by omega) with rfl | rfl | rfl | rfl | rfl | rfl | rfl | rfl <;> rfl
def D8 (A : Bool) (B S : Int) (Y : Bool) (i k : Nat) : Prop :=
  (A = false ∧ B = 26 ∧ S = 0 ∧ Y = true ∧ k = 5 ∧ 2 ≤ i ∧ i ≤ 3) ∨ (A = true ∧ B = 22 ∧ S = 22 ∧ Y = false ∧ k = 5 ∧ i = 4) ∨ (A = true ∧ B = 22 ∧ S = 22 ∧ Y = false ∧ k = 5 ∧ i = 5) ∨
  (A = false ∧ B = 22 ∧ S = 22 ∧ Y = false ∧ k = 5 ∧ i < 2) ∨ (A = false ∧ B = 22 ∧ S = 22 ∧ Y = false ∧ k = 5 ∧ 5 < i) ∨
  (A = false ∧ B = 22 ∧ S = 22 ∧ Y = true ∧ k = 4 ∧ 2 ≤ i ∧ i ≤ 3) ∨ (A = false ∧ B = 22 ∧ S = 22 ∧ Y = true ∧ k = 4 ∧ i = 4) ∨
  (A = false ∧ B = 22 ∧ S = 22 ∧ Y = false ∧ k = 4 ∧ i < 2) ∨ (A = false ∧ B = 22 ∧ S = 22 ∧ Y = false ∧ k = 4 ∧ i = 5) ∨ (A = false ∧ B = 22 ∧ S = 22 ∧ Y = false ∧ k = 4 ∧ 5 < i) ∨
  (A = false ∧ B = 22 ∧ S = 22 ∧ Y = false ∧ (k < 4 ∨ 5 < k) ∧ i < 4) ∨ (A = false ∧ B = 22 ∧ S = 22 ∧ Y = false ∧ (k < 4 ∨ 5 < k) ∧ i = 4) ∨ (A = false ∧ B = 22 ∧ S = 22 ∧ Y = false ∧ (k < 4 ∨ 5 < k) ∧ i = 5) ∨ (A = false ∧ B = 22 ∧ S = 22 ∧ Y = false ∧ (k < 4 ∨ 5 < k) ∧ 5 < i)
instance (A : Bool) (B S : Int) (Y : Bool) (i k : Nat) : Decidable (D8 A B S Y i k) := by
  unfold D8
  repeat (refine @instDecidableOr _ _ ?_ ?_; infer_instance)
  infer_instance
theorem k_all : ∀ i, i < 8 → ∀ k, k < 8 → D8 (okP 65599 64 (E8.getD i 0) (E8.getD k 0)) (if ldOk (E8.getD i 0) (E8.getD k 0) = true then 26 else 22) (if ldOk (E8.getD i 0) (E8.getD k 0) = true then 0 else 22) (byOk (E8.getD i 0) (E8.getD k 0)) i k := by decide
theorem k_ad : ∀ i, i < 8 → (adP 65599 64 (E8.getD i 0) = (false, 64)) ∨ (adP 65599 64 (E8.getD i 0) = (true, (64 + E8.getD i 0).toNat) ∧ adP 65599 (64 + E8.getD i 0).toNat (0 - E8.getD i 0) = (true, 64) ∧ -64 ≤ E8.getD i 0 ∧ E8.getD i 0 ≤ 65535) := by decide
theorem ex2 : ∃ f1 f2 f3, stR Fr.o (-8) 8 ⟨5, 0, 0⟩ = (0, f1) ∧ stR f1 (-4) 1 ⟨1, 7, 0⟩ = (0, f2) ∧ ldR f2 (-4) 1 = (⟨1, 7, 0⟩, 0) ∧ ldR f2 (-8) 1 = (V3.o, 26) ∧ stR f2 (-4) 8 ⟨1, 1, 0⟩ = (22, f2) ∧ stR f2 (-12) 8 ⟨5, 0, 0⟩ = (24, f2) ∧ stR f2 (-12) 8 ⟨1, 1, 0⟩ = (0, f3) ∧ FrOk f2 :=
  ⟨(stR Fr.o (-8) 8 ⟨5, 0, 0⟩).2, (stR (stR Fr.o (-8) 8 ⟨5, 0, 0⟩).2 (-4) 1 ⟨1, 7, 0⟩).2, (stR (stR (stR Fr.o (-8) 8 ⟨5, 0, 0⟩).2 (-4) 1 ⟨1, 7, 0⟩).2 (-12) 8 ⟨1, 1, 0⟩).2, rfl, rfl, rfl, rfl, rfl, rfl, rfl, frok_st (frok_st frok_o (-8) 8 ⟨5, 0, 0⟩) (-4) 1 ⟨1, 7, 0⟩⟩
theorem k_z : ∀ k, k < 8 → (k = 4 → E8.getD k 0 = 0) ∧ (k = 5 → E8.getD k 0 = 1) := by decide
theorem lawMemKnown (w : World) : Calls Try.prog 13 #[] w fun e w' => e = .returned (.bool true) ∧ Grow w w' := by
  have hmx : maxLen = 9223372036854775807 := rfl
  refine enter0 (S := fun _ => False) 261 Try.func13 rfl rfl rfl (Ok.start w) ?_
  (repeat (first | ((refine (?_ : MX _ _ _ _ _ _ _ _ _ _ _)); first | refine mx_end ?_ | (refine mx_as _ rfl rfl (by conv => {lhs; whnf}) ?_) | (refine g_bs rfl ?_; refine a_bsi E rfl rfl rfl rfl rfl (by (repeat (first | exact EvI.nil | (apply EvI.cons; rfl)))) (by rfl) (by rfl) (by rfl) rfl (fun _ => ?_)) ) | refine cw_seq ?_ | refine cw_line rfl ?_ | refine pw_then ?_ ))
  rename_i b0
  refine g_cf 44 rfl ?_
  refine a_callL rfl rfl rfl rfl Try.func44 rfl rfl rfl [] _ rfl (fun a : Nat × Nat => .tuple #[.pointer (some ⟨a.1, 0, none⟩), .int .i64 0]) (fun a => [row a.1 98 (hdr a.2 67 67 64), row a.2 5 (List.flatMap cU (zer 64 ++ [1, 2, 3]) ++ ([] : List Value))]) (fun w' hw _ => new44s _ 3 3 [1, 2, 3] rfl (by omega) w' (row_in (c := cU) (xs := [1, 2, 3]) len_U (hw.holds 0 _ rfl))) (fun _ => rfl) (fun _ _ _ => trivial) (fun a => ?_)
  obtain ⟨bp, bd⟩ := a
  have hst : stP (zer 64 ++ [1, 2, 3]) 64 0 1 511 = (true, zer 64 ++ [255, 2, 3]) := by decide
  have a1 : adP 67 64 1 = (true, 65) := by decide
  have a2 : adP 67 65 (-2) = (true, 63) := by decide
  have a3 : adP 67 63 (-64) = (false, 63) := by decide
  have a4 : adP 67 63 5 = (false, 63) := by decide
  have a5 : adP 67 63 4 = (true, 67) := by decide
  have hdr0 : (zer 64 ++ [255, 2, 3]).drop 63 = [0, 255, 2, 3] := by decide
  dsimp only [List.cons_append, List.nil_append]
  refine mx_weak (H' := [row bp 98 (hdr bd 67 67 64), row bd 5 ((zer 64 ++ [1, 2, 3]).flatMap cU ++ ([] : List Value))]) (fun w h => h.pick [0, 1] (by simp) rfl) (fun _ _ => trivial) ?_
  (repeat (first | ((refine (?_ : MX _ _ _ _ _ _ _ _ _ _ _)); first | refine mx_end ?_ | (refine mx_mv _ rfl rfl (by conv => {lhs; whnf}) ?_) | (refine mx_as _ rfl rfl (by conv => {lhs; whnf}) ?_) | (refine g_bin rfl ?_; ( (refine mx_cmpl .neq rfl rfl rfl rfl rfl (by exact cmp_ne_f (by omega) ) ?_) ) ) | (refine mx_ex _ rfl rfl rfl (by conv => {lhs; whnf}) ?_) ) | refine cw_seq ?_ | refine cw_line rfl ?_ | refine pw_then ?_ ))
  refine g_cf 48 rfl ?_
  refine a_callr rfl rfl rfl rfl Try.func48 rfl rfl rfl bd ((zer 64 ++ [255, 2, 3]).flatMap cU ++ []) (.bool true) (fun w' hw h => by
    have h48 := store48 bp bd 67 67 64 (zer 64 ++ [1, 2, 3]) [] rfl (by omega) (by omega) (by omega) 0 1 511 (fun e => hw.sep 0 1 _ _ rfl rfl (by omega) bp rfl e) w' (hw.holds 0 _ rfl) h
    rw [hst] at h48; exact h48) rfl ?_
  (repeat (((refine (?_ : MX _ _ _ _ _ _ _ _ _ _ _)); first | (refine mx_mv _ rfl rfl (by conv => {lhs; whnf}) ?_) | (refine mx_not rfl rfl rfl ?_) | (refine g_pick rfl ?_; refine mx_or rfl rfl rfl rfl rfl rfl ?_ ) ) ))
  refine g_cf 50 rfl ?_; refine a_callr rfl rfl rfl rfl Try.func50 rfl rfl rfl bp (hdr bd 67 67 65) (.bool true) (fun w' hw h => by have h50 := adjust50 bp bd 67 67 64 (by omega) (by omega) 1 w' h; rw [a1] at h50; exact h50) rfl ?_
  (repeat (((refine (?_ : MX _ _ _ _ _ _ _ _ _ _ _)); first | (refine mx_mv _ rfl rfl (by conv => {lhs; whnf}) ?_) | (refine mx_not rfl rfl rfl ?_) | (refine g_pick rfl ?_; refine mx_or rfl rfl rfl rfl rfl rfl ?_ ) ) ))
  refine g_cf 50 rfl ?_; refine a_callr rfl rfl rfl rfl Try.func50 rfl rfl rfl bp (hdr bd 67 67 63) (.bool true) (fun w' hw h => by have h50 := adjust50 bp bd 67 67 65 (by omega) (by omega) (-2) w' h; rw [a2] at h50; exact h50) rfl ?_
  (repeat (((refine (?_ : MX _ _ _ _ _ _ _ _ _ _ _)); first | (refine mx_mv _ rfl rfl (by conv => {lhs; whnf}) ?_) | (refine mx_not rfl rfl rfl ?_) | (refine g_pick rfl ?_; refine mx_or rfl rfl rfl rfl rfl rfl ?_ ) ) ))
  refine g_cf 54 rfl ?_
  refine a_calln rfl rfl rfl rfl Try.func54 rfl rfl rfl (fun a : Option Addr × Nat => .slice a.1 4 a.2) (fun a => ownd a.1 a.2 5 1 4 (([0, 255, 2, 3] : List Int).flatMap cU)) (fun w' hw => by
    have h54 := bytes54 bp bd 67 67 63 (zer 64 ++ [255, 2, 3]) [] rfl (by omega) (by omega) (by omega) w' (hw.holds 0 _ rfl) (hw.holds 1 _ rfl)
    rw [hdr0] at h54; exact h54) rfl (fun q => ?_)
  obtain ⟨ax, cx⟩ := q
  (repeat (((refine (?_ : MX _ _ _ _ _ _ _ _ _ _ _)); (refine g_bs rfl ?_; refine a_bsi E rfl rfl rfl rfl rfl (by (repeat (first | exact EvI.nil | (apply EvI.cons; rfl)))) (by rfl) (by rfl) (by rfl) rfl (fun _ => ?_)) ) ))
  rename_i b1
  refine g_cf 37 rfl ?_
  refine a_callv rfl rfl rfl rfl Try.func37 rfl rfl rfl (.bool true) (fun w' hw => by
    have h37 := sameB ax (some ⟨b1, 0, none⟩) 4 4 cx 4 [0, 255, 2, 3] [0, 255, 2, 3] rfl rfl (by omega) w' (own_in len_U (hw.holds 1 _ rfl) (by simp)) (row_in (c := cU) len_U (hw.holds 0 _ rfl))
    rw [decide_eq_true rfl] at h37; exact h37) rfl ?_
  refine mx_weak (H' := [row bp 98 (hdr bd 67 67 63), row bd 5 ((zer 64 ++ [255, 2, 3]).flatMap cU ++ ([] : List Value))]) (fun w h => h.pick [2, 3] (by simp) rfl) (fun _ _ => trivial) ?_
  (repeat (((refine (?_ : MX _ _ _ _ _ _ _ _ _ _ _)); first | (refine mx_mv _ rfl rfl (by conv => {lhs; whnf}) ?_) | (refine mx_not rfl rfl rfl ?_) | (refine g_pick rfl ?_; refine mx_or rfl rfl rfl rfl rfl rfl ?_ ) ) ))
  refine g_cf 50 rfl ?_; refine a_callr rfl rfl rfl rfl Try.func50 rfl rfl rfl bp (hdr bd 67 67 63) (.bool false) (fun w' hw h => by have h50 := adjust50 bp bd 67 67 63 (by omega) (by omega) (-64) w' h; rw [a3] at h50; exact h50) rfl ?_
  (repeat (((refine (?_ : MX _ _ _ _ _ _ _ _ _ _ _)); first | (refine mx_mv _ rfl rfl (by conv => {lhs; whnf}) ?_) | (refine g_pick rfl ?_; refine mx_or rfl rfl rfl rfl rfl rfl ?_ ) ) ))
  refine g_cf 50 rfl ?_; refine a_callr rfl rfl rfl rfl Try.func50 rfl rfl rfl bp (hdr bd 67 67 63) (.bool false) (fun w' hw h => by have h50 := adjust50 bp bd 67 67 63 (by omega) (by omega) 5 w' h; rw [a4] at h50; exact h50) rfl ?_
  (repeat (((refine (?_ : MX _ _ _ _ _ _ _ _ _ _ _)); first | (refine mx_mv _ rfl rfl (by conv => {lhs; whnf}) ?_) | (refine g_pick rfl ?_; refine mx_or rfl rfl rfl rfl rfl rfl ?_ ) ) ))
  refine g_cf 50 rfl ?_; refine a_callr rfl rfl rfl rfl Try.func50 rfl rfl rfl bp (hdr bd 67 67 67) (.bool true) (fun w' hw h => by have h50 := adjust50 bp bd 67 67 63 (by omega) (by omega) 4 w' h; rw [a5] at h50; exact h50) rfl ?_
  (repeat (((refine (?_ : MX _ _ _ _ _ _ _ _ _ _ _)); first | (refine mx_mv _ rfl rfl (by conv => {lhs; whnf}) ?_) | (refine mx_not rfl rfl rfl ?_) | (refine g_pick rfl ?_; refine mx_or rfl rfl rfl rfl rfl rfl ?_ ) ) ))
  refine g_cf 52 rfl ?_
  refine a_callv rfl rfl rfl rfl Try.func52 rfl rfl rfl (.int .i64 0) (fun w' hw => len52 bp bd 67 67 67 (by omega) (by omega) w' (hw.holds 0 _ rfl)) rfl ?_
  refine mx_weak (H' := []) (fun w h => h.nil) (fun _ _ => trivial) ?_
  (repeat (first | ((refine (?_ : MX _ _ _ _ _ _ _ _ _ _ _)); first | refine mx_end ?_ | (refine g_bin rfl ?_; ( (refine mx_cmpl .neq rfl rfl rfl rfl rfl (by exact cmp_ne_f (by omega) ) ?_) ) ) | (refine g_pick rfl ?_; refine mx_or rfl rfl rfl rfl rfl rfl ?_ ) ) | refine cw_seq ?_ | refine cw_line rfl ?_ | refine cw_cond_f rfl ?_ | refine cw_skip ?_ | refine pw_then ?_ ))
  refine a_make (p := 65535) (c := 65535) E rfl rfl rfl rfl (by rfl) (by rfl) rfl (by omega) (by omega) rfl (fun bz => ?_)
  generalize hm : (65535 : Nat) = m
  rw [zer_tab]
  (repeat (first | ((refine (?_ : MX _ _ _ _ _ _ _ _ _ _ _)); first | refine mx_end ?_ | (refine mx_mv _ rfl rfl (by conv => {lhs; whnf}) ?_) | (refine mx_as _ rfl rfl (by conv => {lhs; whnf}) ?_) | (first | refine mx_fa0 E rfl rfl rfl rfl ?_ | refine mx_fa E rfl rfl rfl rfl ?_) | (refine g_load rfl ?_; first | refine mx_get E rfl rfl rfl rfl rfl (by first | exact rd_Vk _ | exact rd_Vn _ | exact rd_Vi _ | assumption | rfl) rfl ?_ | refine mx_getn E rfl rfl rfl rfl rfl (by first | exact vr_V _ | exact vr_F _ | exact Vr.all rfl) rfl ?_ | refine mx_oldn E rfl rfl rfl rfl rfl (by assumption) (by assumption) (rfl) rfl ?_ | refine mx_old1 E rfl rfl rfl rfl rfl (by assumption) (by assumption) rfl ?_ | refine mx_orow E rfl rfl rfl rfl rfl (by assumption) (by assumption) (by first | exact rd_Vk _ | exact rd_Vn _ | exact rd_Vi _ | assumption | rfl) rfl ?_ | refine mx_orown E rfl rfl rfl rfl rfl (by assumption) (by assumption) (by first | exact vr_V _ | exact vr_F _ | exact Vr.all rfl) rfl ?_ | refine mx_geta E rfl rfl rfl rfl rfl rfl (by first | exact rd_Vk _ | exact rd_Vn _ | exact rd_Vi _ | assumption | rfl) rfl ?_ | refine mx_getna E rfl rfl rfl rfl rfl rfl (by first | exact vr_V _ | exact vr_F _ | exact Vr.all rfl) rfl ?_) | (refine g_bin rfl ?_; first | (first | (refine mx_cmpl .eql rfl rfl rfl rfl rfl (by first | exact cmp_eq_t (by omega) | exact cmp_eq_f (by omega) | rfl) ?_) | (refine mx_cmpl .neq rfl rfl rfl rfl rfl (by first | exact cmp_ne_t (by omega) | exact cmp_ne_f (by omega) | rfl) ?_) | (refine mx_cmpl .lss rfl rfl rfl rfl rfl (by first | exact cmp_lt_t (by omega) | exact cmp_lt_f (by omega) | rfl) ?_) | (refine mx_cmpl .leq rfl rfl rfl rfl rfl (by first | exact cmp_le_t (by omega) | exact cmp_le_f (by omega) | rfl) ?_) | (refine mx_cmpl .gtr rfl rfl rfl rfl rfl (by first | exact cmp_gt_t (by omega) | exact cmp_gt_f (by omega) | rfl) ?_) | (refine mx_cmpl .geq rfl rfl rfl rfl rfl (by first | exact cmp_ge_t (by omega) | exact cmp_ge_f (by omega) | rfl) ?_)) | (first | refine mx_ar rfl rfl rfl rfl rfl rfl (IntWalk.i64_in _ (by omega)) rfl ?_ | refine mx_ar rfl rfl rfl rfl rfl rfl (IntWalk.u64_in _ (by omega)) rfl ?_ | refine mx_ar rfl rfl rfl rfl rfl rfl (IntWalk.u8_in _ (by omega)) rfl ?_ | refine mx_ar rfl rfl rfl rfl rfl rfl rfl rfl ?_) | (first | refine mx_eqs rfl rfl rfl rfl rfl rfl ?_ | refine mx_nes rfl rfl rfl rfl rfl rfl ?_ | refine mx_eq rfl rfl rfl rfl rfl rfl ?_ | refine mx_ne rfl rfl rfl rfl rfl rfl ?_) | refine mx_bsame E rfl rfl rfl rfl rfl rfl rfl ?_ | refine mx_bnsame E rfl rfl rfl rfl rfl rfl rfl ?_ | refine mx_beq E rfl rfl rfl rfl rfl rfl rfl ?_ | refine mx_bne E rfl rfl rfl rfl rfl rfl rfl ?_ | refine mx_dv rfl rfl rfl rfl rfl (by decide) (congrArg some (by assumption)) rfl rfl ?_ | refine mx_dv rfl rfl rfl rfl rfl (by decide) rfl rfl rfl ?_ | refine mx_bit rfl rfl rfl rfl rfl (congrArg some (by assumption)) rfl rfl ?_ | refine mx_bit rfl rfl rfl rfl rfl rfl rfl rfl ?_ | refine mx_sh rfl rfl rfl rfl rfl (by omega) (congrArg some (by assumption)) rfl rfl ?_ | refine mx_sh rfl rfl rfl rfl rfl (by omega) rfl rfl rfl ?_) | (refine g_ix rfl ?_; first | refine mx_ixan E rfl rfl rfl rfl rfl rfl (by omega) rfl ?_ | refine mx_ixsn E rfl rfl rfl rfl rfl rfl (by omega) rfl ?_ | refine mx_ixsi E rfl rfl rfl rfl rfl rfl (by omega) (by omega) rfl ?_ | refine mx_ixa E rfl rfl rfl rfl rfl rfl (by omega) (by omega) rfl rfl ?_) | (refine mx_nc rfl rfl rfl ?_) | (refine g_bi .len rfl ?_; refine mx_len E rfl rfl rfl rfl ?_) | (refine mx_not rfl rfl rfl ?_) | (refine mx_ex _ rfl rfl rfl (by conv => {lhs; whnf}) ?_) | (refine mx_skip rfl rfl rfl ?_) | (refine g_pick rfl ?_; first | refine mx_andf rfl rfl rfl rfl rfl ?_ | refine mx_ort rfl rfl rfl rfl rfl ?_ | refine mx_and rfl rfl rfl rfl rfl rfl ?_ | refine mx_or rfl rfl rfl rfl rfl rfl ?_ | refine mx_pickt _ rfl rfl rfl rfl (by conv => {lhs; whnf}) rfl ?_ | refine mx_pickf _ rfl rfl rfl rfl (by conv => {lhs; whnf}) rfl ?_) | (refine g_store rfl ?_; first | refine s_l E rfl rfl rfl rfl rfl rfl rfl (by first | exact Sp.all (by rw [len_V, len_V]) | exact Sp.all rfl | exact Sp.lit rfl rfl) rfl ?_ | refine s_1 E rfl rfl rfl rfl rfl rfl rfl rfl (by first | exact sp0 | exact spS sp0 | exact Sp.lit rfl rfl) rfl ?_) | (refine g_build rfl ?_; first | refine mx_build rfl rfl rfl rfl b24_0 rfl ?_ | refine mx_build rfl rfl rfl rfl (b28_1 _) rfl ?_ | refine mx_build rfl rfl rfl rfl (b39_2 _ _) rfl ?_ | refine mx_build rfl rfl rfl rfl (b24_1 _) rfl ?_ | refine mx_build rfl rfl rfl rfl (b24_2 _ _) rfl ?_ | refine mx_build rfl rfl rfl rfl b28_0 rfl ?_ | refine mx_build rfl rfl rfl rfl b29_0 rfl ?_ | refine mx_build rfl rfl rfl rfl (b25_1 _ _) rfl ?_ | refine mx_build rfl rfl rfl rfl (b31_1 _ _) rfl ?_ | refine mx_build rfl rfl rfl rfl (b31_2 _ _ _) rfl ?_) | (refine a_new rfl rfl rfl rfl rfl (fun _ => ?_)) | (refine g_box rfl ?_; first | refine a_boxl rfl rfl rfl rfl rfl rfl (fun _ => ?_) | refine a_box1 rfl rfl rfl rfl rfl rfl rfl (fun _ => ?_)) | (first | refine mx_indexn E rfl rfl rfl rfl rfl rfl rfl rfl (by omega) (by first | exact vr_RR _ (by omega)) rfl ?_ | refine mx_index E rfl rfl rfl rfl rfl rfl rfl rfl (by omega) (by omega) (by first | exact vr_RR _ (by omega)) rfl ?_) | (refine g_bs rfl ?_; first | refine a_bs0 E rfl rfl rfl rfl rfl rfl (fun _ => ?_) | refine a_bsi E rfl rfl rfl rfl rfl (by (repeat (first | exact EvI.nil | (apply EvI.cons; rfl)))) (by rfl) (by rfl) (by rfl) rfl (fun _ => ?_)) | (refine g_conv rfl ?_; first | refine mx_cv E rfl rfl rfl rfl rfl rfl (by assumption) rfl ?_ | refine mx_cv E rfl rfl rfl rfl rfl rfl (IntWalk.i64_in _ (by omega)) rfl ?_ | refine mx_cv E rfl rfl rfl rfl rfl rfl (IntWalk.u64_in _ (by omega)) rfl ?_ | refine mx_cv E rfl rfl rfl rfl rfl rfl (IntWalk.u8_in _ (by omega)) rfl ?_ | refine mx_cv E rfl rfl rfl rfl rfl rfl rfl rfl ?_) | (first | (refine g_bi .max rfl ?_; refine mx_maxi rfl rfl rfl rfl rfl rfl rfl ?_) | (refine g_bi .min rfl ?_; refine mx_mini rfl rfl rfl rfl rfl rfl rfl ?_)) | (first | refine mx_negi rfl rfl rfl rfl (IntWalk.i64_in _ (by omega)) rfl ?_ | fail) | (refine g_call rfl ?_; first | (refine g_cf 29 rfl ?_; refine mx_call rfl rfl rfl Try.func29 rfl rfl rfl _ (fun w => known29 w) rfl ?_) | (refine g_cf 31 rfl ?_; refine mx_call rfl rfl rfl Try.func31 rfl rfl rfl _ (fun w => num31 _ w) rfl ?_) | (refine g_cf 57 rfl ?_; refine mx_call rfl rfl rfl Try.func57 rfl rfl rfl _ (fun w => ctx57 w) rfl ?_))) | refine cw_seq ?_ | refine cw_line rfl ?_ | (fail) | refine cw_block ?_ | refine cw_cond_f rfl ?_ | refine cw_cond_t rfl ?_ | refine cw_skip ?_ | refine cw_exit ?_ | refine cw_ret ?_ | refine pw_then ?_ | refine pw_then_x ?_ | refine pw_then_r ?_ | refine pw_block ?_ | refine pw_block_e ?_ | refine pw_block_n rfl ?_ | refine pw_block_r ?_))
  refine g_cf 44 rfl ?_
  refine a_callL rfl rfl rfl rfl Try.func44 rfl rfl rfl [] _ rfl (fun a : Nat × Nat => .tuple #[.pointer (some ⟨a.1, 0, none⟩), .int .i64 0]) (fun a => [row a.1 98 (hdr a.2 (64 + m) (64 + m) 64), row a.2 5 ((zer 64 ++ zer m).flatMap cU ++ [])]) (fun w' hw _ => new44s _ m m (zer m) (by simp [zer]) (by omega) w' (row_in (c := cU) (xs := zer m) len_U (hw.holds 0 _ rfl))) (fun _ => rfl) (fun _ _ _ => trivial) (fun a => ?_)
  obtain ⟨bq, dq⟩ := a
  have hbz : Byts (zer 64 ++ zer m) := fun x hx => by
    rcases List.mem_append.1 hx with hx | hx <;> (obtain rfl := (List.mem_replicate.1 hx).2; omega)
  have hcs : (zer 64 ++ zer m).length = 64 + m := by rw [List.length_append]; simp only [zer, List.length_replicate]
  refine mx_weak (H' := [row bq 98 (hdr dq (64 + m) (64 + m) 64), row dq 5 ((zer 64 ++ zer m).flatMap cU ++ [])]) (fun w h => h.pick [0, 1] (by simp) rfl) (fun _ _ => trivial) ?_
  obtain ⟨N, hN⟩ : ∃ N, 64 + m = N := ⟨_, rfl⟩
  have hN2 : N = 65599 := by omega
  rw [hN] at hcs
  rw [hN]
  generalize zer 64 ++ zer m = cs at *
  (repeat (first | ((refine (?_ : MX _ _ _ _ _ _ _ _ _ _ _)); first | refine mx_end ?_ | (refine mx_mv _ rfl rfl (by conv => {lhs; whnf}) ?_) | (refine mx_as _ rfl rfl (by conv => {lhs; whnf}) ?_) | (refine mx_ex _ rfl rfl rfl (by conv => {lhs; whnf}) ?_) ) | refine cw_seq ?_ | refine cw_line rfl ?_ | refine pw_then ?_ ))
  refine a_make (p := 65536) (c := 65536) E rfl rfl rfl rfl (by rfl) (by rfl) rfl (by omega) (by omega) rfl (fun by' => ?_)
  generalize (tab 65536 fun _ => [Value.int .u8 0]) = tb
  (repeat (first | ((refine (?_ : MX _ _ _ _ _ _ _ _ _ _ _)); first | refine mx_end ?_ | (refine mx_mv _ rfl rfl (by conv => {lhs; whnf}) ?_) | (refine mx_as _ rfl rfl (by conv => {lhs; whnf}) ?_) | (first | refine mx_fa0 E rfl rfl rfl rfl ?_ | refine mx_fa E rfl rfl rfl rfl ?_) | (refine g_load rfl ?_; first | refine mx_get E rfl rfl rfl rfl rfl (by first | exact rd_Vk _ | exact rd_Vn _ | exact rd_Vi _ | assumption | rfl) rfl ?_ | refine mx_getn E rfl rfl rfl rfl rfl (by first | exact vr_V _ | exact vr_F _ | exact Vr.all rfl) rfl ?_ | refine mx_oldn E rfl rfl rfl rfl rfl (by assumption) (by assumption) (rfl) rfl ?_ | refine mx_old1 E rfl rfl rfl rfl rfl (by assumption) (by assumption) rfl ?_ | refine mx_orow E rfl rfl rfl rfl rfl (by assumption) (by assumption) (by first | exact rd_Vk _ | exact rd_Vn _ | exact rd_Vi _ | assumption | rfl) rfl ?_ | refine mx_orown E rfl rfl rfl rfl rfl (by assumption) (by assumption) (by first | exact vr_V _ | exact vr_F _ | exact Vr.all rfl) rfl ?_ | refine mx_geta E rfl rfl rfl rfl rfl rfl (by first | exact rd_Vk _ | exact rd_Vn _ | exact rd_Vi _ | assumption | rfl) rfl ?_ | refine mx_getna E rfl rfl rfl rfl rfl rfl (by first | exact vr_V _ | exact vr_F _ | exact Vr.all rfl) rfl ?_) | (refine g_bin rfl ?_; first | (first | (refine mx_cmpl .eql rfl rfl rfl rfl rfl (by first | exact cmp_eq_t (by omega) | exact cmp_eq_f (by omega) | rfl) ?_) | (refine mx_cmpl .neq rfl rfl rfl rfl rfl (by first | exact cmp_ne_t (by omega) | exact cmp_ne_f (by omega) | rfl) ?_) | (refine mx_cmpl .lss rfl rfl rfl rfl rfl (by first | exact cmp_lt_t (by omega) | exact cmp_lt_f (by omega) | rfl) ?_) | (refine mx_cmpl .leq rfl rfl rfl rfl rfl (by first | exact cmp_le_t (by omega) | exact cmp_le_f (by omega) | rfl) ?_) | (refine mx_cmpl .gtr rfl rfl rfl rfl rfl (by first | exact cmp_gt_t (by omega) | exact cmp_gt_f (by omega) | rfl) ?_) | (refine mx_cmpl .geq rfl rfl rfl rfl rfl (by first | exact cmp_ge_t (by omega) | exact cmp_ge_f (by omega) | rfl) ?_)) | (first | refine mx_ar rfl rfl rfl rfl rfl rfl (IntWalk.i64_in _ (by omega)) rfl ?_ | refine mx_ar rfl rfl rfl rfl rfl rfl (IntWalk.u64_in _ (by omega)) rfl ?_ | refine mx_ar rfl rfl rfl rfl rfl rfl (IntWalk.u8_in _ (by omega)) rfl ?_ | refine mx_ar rfl rfl rfl rfl rfl rfl rfl rfl ?_) | (first | refine mx_eqs rfl rfl rfl rfl rfl rfl ?_ | refine mx_nes rfl rfl rfl rfl rfl rfl ?_ | refine mx_eq rfl rfl rfl rfl rfl rfl ?_ | refine mx_ne rfl rfl rfl rfl rfl rfl ?_) | refine mx_bsame E rfl rfl rfl rfl rfl rfl rfl ?_ | refine mx_bnsame E rfl rfl rfl rfl rfl rfl rfl ?_ | refine mx_beq E rfl rfl rfl rfl rfl rfl rfl ?_ | refine mx_bne E rfl rfl rfl rfl rfl rfl rfl ?_ | refine mx_dv rfl rfl rfl rfl rfl (by decide) (congrArg some (by assumption)) rfl rfl ?_ | refine mx_dv rfl rfl rfl rfl rfl (by decide) rfl rfl rfl ?_ | refine mx_bit rfl rfl rfl rfl rfl (congrArg some (by assumption)) rfl rfl ?_ | refine mx_bit rfl rfl rfl rfl rfl rfl rfl rfl ?_ | refine mx_sh rfl rfl rfl rfl rfl (by omega) (congrArg some (by assumption)) rfl rfl ?_ | refine mx_sh rfl rfl rfl rfl rfl (by omega) rfl rfl rfl ?_) | (refine g_ix rfl ?_; first | refine mx_ixan E rfl rfl rfl rfl rfl rfl (by omega) rfl ?_ | refine mx_ixsn E rfl rfl rfl rfl rfl rfl (by omega) rfl ?_ | refine mx_ixsi E rfl rfl rfl rfl rfl rfl (by omega) (by omega) rfl ?_ | refine mx_ixa E rfl rfl rfl rfl rfl rfl (by omega) (by omega) rfl rfl ?_) | (refine mx_nc rfl rfl rfl ?_) | (refine g_bi .len rfl ?_; refine mx_len E rfl rfl rfl rfl ?_) | (refine mx_not rfl rfl rfl ?_) | (refine mx_ex _ rfl rfl rfl (by conv => {lhs; whnf}) ?_) | (refine mx_skip rfl rfl rfl ?_) | (refine g_pick rfl ?_; first | refine mx_andf rfl rfl rfl rfl rfl ?_ | refine mx_ort rfl rfl rfl rfl rfl ?_ | refine mx_and rfl rfl rfl rfl rfl rfl ?_ | refine mx_or rfl rfl rfl rfl rfl rfl ?_ | refine mx_pickt _ rfl rfl rfl rfl (by conv => {lhs; whnf}) rfl ?_ | refine mx_pickf _ rfl rfl rfl rfl (by conv => {lhs; whnf}) rfl ?_) | (refine g_store rfl ?_; first | refine s_l E rfl rfl rfl rfl rfl rfl rfl (by first | exact Sp.all (by rw [len_V, len_V]) | exact Sp.all rfl | exact Sp.lit rfl rfl) rfl ?_ | refine s_1 E rfl rfl rfl rfl rfl rfl rfl rfl (by first | exact sp0 | exact spS sp0 | exact Sp.lit rfl rfl) rfl ?_) | (refine g_build rfl ?_; first | refine mx_build rfl rfl rfl rfl b24_0 rfl ?_ | refine mx_build rfl rfl rfl rfl (b28_1 _) rfl ?_ | refine mx_build rfl rfl rfl rfl (b39_2 _ _) rfl ?_ | refine mx_build rfl rfl rfl rfl (b24_1 _) rfl ?_ | refine mx_build rfl rfl rfl rfl (b24_2 _ _) rfl ?_ | refine mx_build rfl rfl rfl rfl b28_0 rfl ?_ | refine mx_build rfl rfl rfl rfl b29_0 rfl ?_ | refine mx_build rfl rfl rfl rfl (b25_1 _ _) rfl ?_ | refine mx_build rfl rfl rfl rfl (b31_1 _ _) rfl ?_ | refine mx_build rfl rfl rfl rfl (b31_2 _ _ _) rfl ?_) | (refine a_new rfl rfl rfl rfl rfl (fun _ => ?_)) | (refine g_box rfl ?_; first | refine a_boxl rfl rfl rfl rfl rfl rfl (fun _ => ?_) | refine a_box1 rfl rfl rfl rfl rfl rfl rfl (fun _ => ?_)) | (first | refine mx_indexn E rfl rfl rfl rfl rfl rfl rfl rfl (by omega) (by first | exact vr_RR _ (by omega)) rfl ?_ | refine mx_index E rfl rfl rfl rfl rfl rfl rfl rfl (by omega) (by omega) (by first | exact vr_RR _ (by omega)) rfl ?_) | (refine g_bs rfl ?_; first | refine a_bs0 E rfl rfl rfl rfl rfl rfl (fun _ => ?_) | refine a_bsi E rfl rfl rfl rfl rfl (by (repeat (first | exact EvI.nil | (apply EvI.cons; rfl)))) (by rfl) (by rfl) (by rfl) rfl (fun _ => ?_)) | (refine g_conv rfl ?_; first | refine mx_cv E rfl rfl rfl rfl rfl rfl (by assumption) rfl ?_ | refine mx_cv E rfl rfl rfl rfl rfl rfl (IntWalk.i64_in _ (by omega)) rfl ?_ | refine mx_cv E rfl rfl rfl rfl rfl rfl (IntWalk.u64_in _ (by omega)) rfl ?_ | refine mx_cv E rfl rfl rfl rfl rfl rfl (IntWalk.u8_in _ (by omega)) rfl ?_ | refine mx_cv E rfl rfl rfl rfl rfl rfl rfl rfl ?_) | (first | (refine g_bi .max rfl ?_; refine mx_maxi rfl rfl rfl rfl rfl rfl rfl ?_) | (refine g_bi .min rfl ?_; refine mx_mini rfl rfl rfl rfl rfl rfl rfl ?_)) | (first | refine mx_negi rfl rfl rfl rfl (IntWalk.i64_in _ (by omega)) rfl ?_ | fail) | (refine g_call rfl ?_; first | (refine g_cf 29 rfl ?_; refine mx_call rfl rfl rfl Try.func29 rfl rfl rfl _ (fun w => known29 w) rfl ?_) | (refine g_cf 31 rfl ?_; refine mx_call rfl rfl rfl Try.func31 rfl rfl rfl _ (fun w => num31 _ w) rfl ?_) | (refine g_cf 57 rfl ?_; refine mx_call rfl rfl rfl Try.func57 rfl rfl rfl _ (fun w => ctx57 w) rfl ?_))) | refine cw_seq ?_ | refine cw_line rfl ?_ | (fail) | refine cw_block ?_ | refine cw_cond_f rfl ?_ | refine cw_cond_t rfl ?_ | refine cw_skip ?_ | refine cw_exit ?_ | refine cw_ret ?_ | refine pw_then ?_ | refine pw_then_x ?_ | refine pw_then_r ?_ | refine pw_block ?_ | refine pw_block_e ?_ | refine pw_block_n rfl ?_ | refine pw_block_r ?_))
  refine g_cf 44 rfl ?_
  refine a_callv rfl rfl rfl rfl Try.func44 rfl rfl rfl _ (fun w' hw => new44n _ 65536 65536 (by omega) (by omega) w') rfl ?_
  refine mx_weak (H' := [row bq 98 (hdr dq N N 64), row dq 5 (cs.flatMap cU ++ [])]) (fun w h => h.pick [1, 2] (by simp) rfl) (fun _ _ => trivial) ?_
  (repeat (first | ((refine (?_ : MX _ _ _ _ _ _ _ _ _ _ _)); first | refine mx_end ?_ | (refine mx_mv _ rfl rfl (by conv => {lhs; whnf}) ?_) | (refine mx_as _ rfl rfl (by conv => {lhs; whnf}) ?_) | (refine g_bin rfl ?_; ( (refine mx_cmpl .neq rfl rfl rfl rfl rfl (by exact cmp_ne_f (by omega) ) ?_) ) ) | (refine mx_ex _ rfl rfl rfl (by conv => {lhs; whnf}) ?_) | (refine g_pick rfl ?_; refine mx_or rfl rfl rfl rfl rfl rfl ?_ ) | (refine g_bs rfl ?_; refine a_bsi E rfl rfl rfl rfl rfl (by (repeat (first | exact EvI.nil | (apply EvI.cons; rfl)))) (by rfl) (by rfl) (by rfl) rfl (fun _ => ?_)) ) | refine cw_seq ?_ | refine cw_line rfl ?_ | refine cw_block ?_ | refine cw_cond_f rfl ?_ | refine cw_skip ?_ | refine pw_then ?_ ))
  rename_i be
  refine cw_loop (fun i : Nat => [(8, .int .i64 i), (3, .pointer (some ⟨bq, 0, none⟩)), (7, .slice (some ⟨be, 0, none⟩) 8 8)]) (fun _ => [row be 3 (E8.flatMap (cK .i64)), row bq 98 (hdr dq N N 64), row dq 5 (cs.flatMap cU ++ [])]) (fun i => i ≤ 8) (fun i => 8 - i) 0 (by omega) ⟨rfl, rfl, rfl, trivial⟩ (fun w h => h) ?_
  intro i jk hi
  by_cases h0 : (i : Int) < 8
  case neg =>
    (repeat (first | ((refine (?_ : MX _ _ _ _ _ _ _ _ _ _ _)); first | refine mx_end ?_ | (refine mx_mv _ rfl rfl (by conv => {lhs; whnf}) ?_) | (refine g_bin rfl ?_; ( (refine mx_cmpl .lss rfl rfl rfl rfl rfl (by exact cmp_lt_f (by omega) ) ?_) ) ) | (refine g_bi .len rfl ?_; refine mx_len E rfl rfl rfl rfl ?_) | (refine a_new rfl rfl rfl rfl rfl (fun _ => ?_)) | (refine g_call rfl ?_; (refine g_cf 57 rfl ?_; refine mx_call rfl rfl rfl Try.func57 rfl rfl rfl _ (fun w => ctx57 w) rfl ?_))) | refine cw_seq ?_ | refine cw_line rfl ?_ | refine cw_cond_f rfl ?_ | refine cw_exit ?_ | refine pw_then ?_ | refine pw_then_x ?_ | refine pw_block_e ?_ ))
    obtain ⟨f1, f2, f3, q1, q2, q3, q4, q5, q6, q7, hfo⟩ := ex2
    rename_i bg
    refine g_cf 28 rfl ?_
    refine a_callr rfl rfl rfl rfl Try.func28 rfl rfl rfl bg (cF f1) (.int .i64 0) (fun w' hw h => by
      have h28 := store28 bg Fr.o (-8) 8 ⟨5, 0, 0⟩ w' h
      rw [q1] at h28; exact h28) rfl ?_
    (repeat (first | ((refine (?_ : MX _ _ _ _ _ _ _ _ _ _ _)); first | refine mx_end ?_ | (refine mx_as _ rfl rfl (by conv => {lhs; whnf}) ?_) | (refine g_call rfl ?_; (refine g_cf 31 rfl ?_; refine mx_call rfl rfl rfl Try.func31 rfl rfl rfl _ (fun w => num31 _ w) rfl ?_) )) | refine cw_seq ?_ | refine cw_line rfl ?_ | refine pw_then ?_ ))
    refine g_cf 28 rfl ?_
    refine a_callr rfl rfl rfl rfl Try.func28 rfl rfl rfl bg (cF f2) (.int .i64 0) (fun w' hw h => by
      have h28 := store28 bg f1 (-4) 1 ⟨1, 7, 0⟩ w' h
      rw [q2] at h28; exact h28) rfl ?_
    (repeat (first | ((refine (?_ : MX _ _ _ _ _ _ _ _ _ _ _)); first | refine mx_end ?_ | (refine mx_as _ rfl rfl (by conv => {lhs; whnf}) ?_) ) | refine cw_seq ?_ | refine cw_line rfl ?_ | refine pw_then ?_ ))
    refine g_cf 30 rfl ?_
    refine a_callv rfl rfl rfl rfl Try.func30 rfl rfl rfl (.tuple #[.agg (cV ⟨1, 7, 0⟩).toArray, .int .i64 0]) (fun w' hw => by
      have h30 := load30 bg f2 hfo (-4) 1 w' (hw.holds 0 _ rfl)
      rw [q3] at h30; exact h30) rfl ?_
    (repeat (first | ((refine (?_ : MX _ _ _ _ _ _ _ _ _ _ _)); first | refine mx_end ?_ | (refine mx_mv _ rfl rfl (by conv => {lhs; whnf}) ?_) | (refine mx_as _ rfl rfl (by conv => {lhs; whnf}) ?_) | (refine mx_ex _ rfl rfl rfl (by conv => {lhs; whnf}) ?_) | (refine g_store rfl ?_; refine s_l E rfl rfl rfl rfl rfl rfl rfl (by exact Sp.all (by rw [len_V, len_V]) ) rfl ?_ ) | (refine a_new rfl rfl rfl rfl rfl (fun _ => ?_)) ) | refine cw_seq ?_ | refine cw_line rfl ?_ | refine pw_then ?_ ))
    rename_i b20
    refine g_cf 30 rfl ?_
    refine a_callv rfl rfl rfl rfl Try.func30 rfl rfl rfl (.tuple #[.agg (cV V3.o).toArray, .int .i64 26]) (fun w' hw => by
      have h30 := load30 bg f2 hfo (-8) 1 w' (hw.holds 1 _ rfl)
      rw [q4] at h30; exact h30) rfl ?_
    (repeat (first | ((refine (?_ : MX _ _ _ _ _ _ _ _ _ _ _)); first | refine mx_end ?_ | (refine mx_mv _ rfl rfl (by conv => {lhs; whnf}) ?_) | (refine mx_as _ rfl rfl (by conv => {lhs; whnf}) ?_) | (refine mx_ex _ rfl rfl rfl (by conv => {lhs; whnf}) ?_) | (refine g_store rfl ?_; refine s_l E rfl rfl rfl rfl rfl rfl rfl (by exact Sp.all rfl ) rfl ?_ ) | (refine a_new rfl rfl rfl rfl rfl (fun _ => ?_)) ) | refine cw_seq ?_ | refine pw_then ?_ ))
    rename_i b22
    refine cw_drawm [0, 1, 2, 3, 4, 5, 6, 7, 8, 9, 10, 11, 12, 13, 14, 15, 16, 17, 18, 19, 20, 21, 22, 23, 24, 25, 26, 27, 28, 29, 30, 31, 32, 33, 34, 35, 36, 37] (fun i => or (or (Nat.beq i 21) (Nat.beq i 26)) (Nat.beq i 31)) _ mixed (by kernel_rfl) (fun w h => h.only 1 rfl) ?_
    (repeat (((refine (?_ : MX _ _ _ _ _ _ _ _ _ _ _)); first | (refine mx_mv _ rfl rfl (by conv => {lhs; whnf}) ?_) | (refine g_load rfl ?_; refine mx_getn E rfl rfl rfl rfl rfl (by exact vr_V _ ) rfl ?_ ) | (refine g_bin rfl ?_; first | ((refine mx_cmpl .eql rfl rfl rfl rfl rfl (by first | exact cmp_eq_t (by omega) | rfl) ?_) ) | (refine mx_eqs rfl rfl rfl rfl rfl rfl ?_ ) ) | (refine g_pick rfl ?_; refine mx_and rfl rfl rfl rfl rfl rfl ?_ ) | (refine g_call rfl ?_; (refine g_cf 31 rfl ?_; refine mx_call rfl rfl rfl Try.func31 rfl rfl rfl _ (fun w => num31 _ w) rfl ?_) )) ))
    refine g_cf 28 rfl ?_
    refine a_callr rfl rfl rfl rfl Try.func28 rfl rfl rfl bg (cF f2) (.int .i64 22) (fun w' hw h => by
      have h28 := store28 bg f2 (-4) 8 ⟨1, 1, 0⟩ w' h
      rw [q5] at h28; exact h28) rfl ?_
    (repeat (((refine (?_ : MX _ _ _ _ _ _ _ _ _ _ _)); first | (refine mx_mv _ rfl rfl (by conv => {lhs; whnf}) ?_) | (refine g_bin rfl ?_; ((refine mx_cmpl .eql rfl rfl rfl rfl rfl (by exact cmp_eq_t (by omega) ) ?_) ) ) | (refine g_pick rfl ?_; refine mx_and rfl rfl rfl rfl rfl rfl ?_ ) | (refine g_call rfl ?_; (refine g_cf 57 rfl ?_; refine mx_call rfl rfl rfl Try.func57 rfl rfl rfl _ (fun w => ctx57 w) rfl ?_))) ))
    refine g_cf 28 rfl ?_
    refine a_callr rfl rfl rfl rfl Try.func28 rfl rfl rfl bg (cF f2) (.int .i64 24) (fun w' hw h => by
      have h28 := store28 bg f2 (-12) 8 ⟨5, 0, 0⟩ w' h
      rw [q6] at h28; exact h28) rfl ?_
    (repeat (((refine (?_ : MX _ _ _ _ _ _ _ _ _ _ _)); first | (refine mx_mv _ rfl rfl (by conv => {lhs; whnf}) ?_) | (refine g_bin rfl ?_; ((refine mx_cmpl .eql rfl rfl rfl rfl rfl (by exact cmp_eq_t (by omega) ) ?_) ) ) | (refine g_pick rfl ?_; refine mx_and rfl rfl rfl rfl rfl rfl ?_ ) | (refine g_call rfl ?_; (refine g_cf 31 rfl ?_; refine mx_call rfl rfl rfl Try.func31 rfl rfl rfl _ (fun w => num31 _ w) rfl ?_) )) ))
    refine g_cf 28 rfl ?_
    refine a_callr rfl rfl rfl rfl Try.func28 rfl rfl rfl bg (cF f3) (.int .i64 0) (fun w' hw h => by
      have h28 := store28 bg f2 (-12) 8 ⟨1, 1, 0⟩ w' h
      rw [q7] at h28; exact h28) rfl ?_
    (repeat (first | ((refine (?_ : MX _ _ _ _ _ _ _ _ _ _ _)); first | refine mx_end ?_ | (refine mx_mv _ rfl rfl (by conv => {lhs; whnf}) ?_) | (refine mx_as _ rfl rfl (by conv => {lhs; whnf}) ?_) | (refine g_bin rfl ?_; ((refine mx_cmpl .eql rfl rfl rfl rfl rfl (by exact cmp_eq_t (by omega) ) ?_) ) ) | (refine g_pick rfl ?_; refine mx_and rfl rfl rfl rfl rfl rfl ?_ ) | (refine g_call rfl ?_; (refine g_cf 29 rfl ?_; refine mx_call rfl rfl rfl Try.func29 rfl rfl rfl _ (fun w => known29 w) rfl ?_) )) | refine cw_ret ?_ | refine pw_then ?_ ))
    exact pw_ret rfl rfl rfl rfl fun w hw => ⟨rfl, hw.keep.grow⟩
  have hrdi := e8 i (by omega)
  have hadi := k_ad i (by omega)
  have halli := k_all i (by omega)
  obtain ⟨ei, hei⟩ : ∃ e, E8.getD i 0 = e := ⟨_, rfl⟩
  rw [hei] at hrdi hadi halli
  (repeat (first | ((refine (?_ : MX _ _ _ _ _ _ _ _ _ _ _)); first | refine mx_end ?_ | (refine mx_mv _ rfl rfl (by conv => {lhs; whnf}) ?_) | (refine mx_as _ rfl rfl (by conv => {lhs; whnf}) ?_) | (refine g_bin rfl ?_; ( (refine mx_cmpl .lss rfl rfl rfl rfl rfl (by exact cmp_lt_t (by omega) ) ?_) ) ) | (refine g_bi .len rfl ?_; refine mx_len E rfl rfl rfl rfl ?_) ) | refine cw_seq ?_ | refine cw_line rfl ?_ | refine cw_block ?_ | refine cw_cond_t rfl ?_ | refine cw_skip ?_ | refine pw_then ?_ ))
  refine cw_loop (fun k : Nat => [(9, .int .i64 k), (8, .int .i64 i), (3, .pointer (some ⟨bq, 0, none⟩)), (7, .slice (some ⟨be, 0, none⟩) 8 8)]) (fun _ => [row be 3 (E8.flatMap (cK .i64)), row bq 98 (hdr dq N N 64), row dq 5 (cs.flatMap cU ++ [])]) (fun k => k ≤ 8) (fun k => 8 - k) 0 (by omega) ⟨rfl, rfl, rfl, rfl, trivial⟩ (fun w h => h) ?_
  intro k jk hk
  by_cases h1 : (k : Int) < 8
  case neg =>
    rcases hadi with had | ⟨had, had2, hb1, hb2⟩
    · rw [← hN2] at had
      (repeat (first | ((refine (?_ : MX _ _ _ _ _ _ _ _ _ _ _)); first | refine mx_end ?_ | (refine mx_mv _ rfl rfl (by conv => {lhs; whnf}) ?_) | (refine g_load rfl ?_; refine mx_get E rfl rfl rfl rfl rfl (by assumption ) rfl ?_ ) | (refine g_bin rfl ?_; ( (refine mx_cmpl .lss rfl rfl rfl rfl rfl (by exact cmp_lt_f (by omega) ) ?_) ) ) | (refine g_ix rfl ?_; refine mx_ixsn E rfl rfl rfl rfl rfl rfl (by omega) rfl ?_ ) | (refine g_bi .len rfl ?_; refine mx_len E rfl rfl rfl rfl ?_) ) | refine cw_seq ?_ | refine cw_line rfl ?_ | refine cw_cond_f rfl ?_ | refine cw_exit ?_ | refine pw_then ?_ | refine pw_then_x ?_ | refine pw_block_e ?_ ))
      refine g_cf 50 rfl ?_; refine a_callr rfl rfl rfl rfl Try.func50 rfl rfl rfl bq (hdr dq N N 64) (.bool false) (fun w' hw h => by have h50 := adjust50 bq dq N N 64 (by omega) (by omega) ei w' h; rw [had] at h50; exact h50) rfl ?_
      (repeat (first | ((refine (?_ : MX _ _ _ _ _ _ _ _ _ _ _)); first | refine mx_end ?_ | (refine mx_mv _ rfl rfl (by conv => {lhs; whnf}) ?_) | (refine mx_as _ rfl rfl (by conv => {lhs; whnf}) ?_) | (refine g_bin rfl ?_; (refine mx_ar rfl rfl rfl rfl rfl rfl (IntWalk.i64_in _ (by omega)) rfl ?_ ) ) | (refine mx_skip rfl rfl rfl ?_) | (refine g_pick rfl ?_; refine mx_andf rfl rfl rfl rfl rfl ?_ ) ) | refine cw_line rfl ?_ | refine cw_cond_f rfl ?_ | refine cw_skip ?_ | refine pw_then ?_ | refine pw_block ?_ ))
      refine pw_round (i + 1) (by omega) (by omega) ⟨rfl, rfl, rfl, trivial⟩ (fun w h => h)
    · obtain ⟨G, hG⟩ : ∃ G, (64 + ei).toNat = G := ⟨_, rfl⟩
      rw [← hN2, hG] at had had2
      (repeat (first | ((refine (?_ : MX _ _ _ _ _ _ _ _ _ _ _)); first | refine mx_end ?_ | (refine mx_mv _ rfl rfl (by conv => {lhs; whnf}) ?_) | (refine g_load rfl ?_; refine mx_get E rfl rfl rfl rfl rfl (by assumption ) rfl ?_ ) | (refine g_bin rfl ?_; ( (refine mx_cmpl .lss rfl rfl rfl rfl rfl (by exact cmp_lt_f (by omega) ) ?_) ) ) | (refine g_ix rfl ?_; refine mx_ixsn E rfl rfl rfl rfl rfl rfl (by omega) rfl ?_ ) | (refine g_bi .len rfl ?_; refine mx_len E rfl rfl rfl rfl ?_) ) | refine cw_seq ?_ | refine cw_line rfl ?_ | refine cw_cond_f rfl ?_ | refine cw_exit ?_ | refine pw_then ?_ | refine pw_then_x ?_ | refine pw_block_e ?_ ))
      refine g_cf 50 rfl ?_; refine a_callr rfl rfl rfl rfl Try.func50 rfl rfl rfl bq (hdr dq N N G) (.bool true) (fun w' hw h => by have h50 := adjust50 bq dq N N 64 (by omega) (by omega) ei w' h; rw [had] at h50; exact h50) rfl ?_
      (repeat (((refine (?_ : MX _ _ _ _ _ _ _ _ _ _ _)); first | (refine mx_mv _ rfl rfl (by conv => {lhs; whnf}) ?_) | (refine g_load rfl ?_; refine mx_get E rfl rfl rfl rfl rfl (by assumption ) rfl ?_ ) | (refine g_bin rfl ?_; (first | (refine mx_cmpl .lss rfl rfl rfl rfl rfl (by first | exact cmp_lt_t (by omega) | exact cmp_lt_f (by omega) ) ?_) | (refine mx_cmpl .gtr rfl rfl rfl rfl rfl (by exact cmp_gt_f (by omega) ) ?_) ) ) | (refine g_ix rfl ?_; refine mx_ixsn E rfl rfl rfl rfl rfl rfl (by omega) rfl ?_ ) | (refine g_pick rfl ?_; refine mx_or rfl rfl rfl rfl rfl rfl ?_ ) | (refine mx_negi rfl rfl rfl rfl (IntWalk.i64_in _ (by omega)) rfl ?_ ) ) ))
      refine g_cf 50 rfl ?_; refine a_callr rfl rfl rfl rfl Try.func50 rfl rfl rfl bq (hdr dq N N 64) (.bool true) (fun w' hw h => by have h50 := adjust50 bq dq N N G (by omega) (by omega) (0 - ei) w' h; rw [had2] at h50; exact h50) rfl ?_
      (repeat (first | ((refine (?_ : MX _ _ _ _ _ _ _ _ _ _ _)); first | refine mx_end ?_ | (refine mx_mv _ rfl rfl (by conv => {lhs; whnf}) ?_) | (refine mx_as _ rfl rfl (by conv => {lhs; whnf}) ?_) | (refine g_bin rfl ?_; (refine mx_ar rfl rfl rfl rfl rfl rfl (IntWalk.i64_in _ (by omega)) rfl ?_ ) ) | (refine mx_not rfl rfl rfl ?_) | (refine g_pick rfl ?_; first | refine mx_and rfl rfl rfl rfl rfl rfl ?_ | refine mx_or rfl rfl rfl rfl rfl rfl ?_ ) ) | refine cw_line rfl ?_ | refine cw_cond_f rfl ?_ | refine cw_skip ?_ | refine pw_then ?_ | refine pw_block ?_ ))
      refine pw_round (i + 1) (by omega) (by omega) ⟨rfl, rfl, rfl, trivial⟩ (fun w h => h)
  have hrdk := e8 k (by omega)
  have hz := k_z k (by omega)
  have hall := halli k (by omega)
  obtain ⟨ek, hek⟩ : ∃ e, E8.getD k 0 = e := ⟨_, rfl⟩
  rw [hek] at hrdk hz hall
  obtain ⟨X, hX⟩ : ∃ X, ldP cs 64 ei ek = (X, okP 65599 64 ei ek) := by
    unfold ldP
    rw [hcs, hN2]
    cases okP 65599 64 ei ek <;> exact ⟨_, rfl⟩
  have hB0 := ldR_o ei ek
  have hS0 := stR_o ei ek
  obtain ⟨A, hA⟩ : ∃ A, okP 65599 64 ei ek = A := ⟨_, rfl⟩
  obtain ⟨B, hB⟩ : ∃ B : Int, (if ldOk ei ek = true then 26 else 22) = B := ⟨_, rfl⟩
  obtain ⟨S, hS⟩ : ∃ S : Int, (if ldOk ei ek = true then 0 else 22) = S := ⟨_, rfl⟩
  obtain ⟨Y, hY⟩ : ∃ Y, byOk ei ek = Y := ⟨_, rfl⟩
  rw [hA] at hX
  rw [hB] at hB0
  rw [hS] at hS0
  rw [hA, hB, hS, hY] at hall
  clear hA hB hS halli hei hek
  rcases hall with ⟨rfl, rfl, rfl, rfl, hk1⟩ | ⟨rfl, rfl, rfl, rfl, hk1⟩ | ⟨rfl, rfl, rfl, rfl, hk1⟩ | ⟨rfl, rfl, rfl, rfl, hk1⟩ | ⟨rfl, rfl, rfl, rfl, hk1⟩ | ⟨rfl, rfl, rfl, rfl, hk1⟩ | ⟨rfl, rfl, rfl, rfl, hk1⟩ | ⟨rfl, rfl, rfl, rfl, hk1⟩ | ⟨rfl, rfl, rfl, rfl, hk1⟩ | ⟨rfl, rfl, rfl, rfl, hk1⟩ | ⟨rfl, rfl, rfl, rfl, hk1⟩ | ⟨rfl, rfl, rfl, rfl, hk1⟩ | ⟨rfl, rfl, rfl, rfl, hk1⟩ | ⟨rfl, rfl, rfl, rfl, hk1⟩
  rotate_left 1
  rotate_left 4
  all_goals (
    (repeat (first | ((refine (?_ : MX _ _ _ _ _ _ _ _ _ _ _)); first | refine mx_end ?_ | (refine mx_mv _ rfl rfl (by conv => {lhs; whnf}) ?_) | (refine g_bin rfl ?_; ( (refine mx_cmpl .lss rfl rfl rfl rfl rfl (by exact cmp_lt_t (by omega) ) ?_) ) ) | (refine g_bi .len rfl ?_; refine mx_len E rfl rfl rfl rfl ?_) | (refine a_new rfl rfl rfl rfl rfl (fun _ => ?_)) ) | refine cw_seq ?_ | refine cw_line rfl ?_ | refine cw_block ?_ | refine cw_cond_t rfl ?_ | refine cw_skip ?_ | refine pw_then ?_ ))
    rename_i bf
    refine cw_drawm [0, 1, 2, 3, 4, 5, 6, 7, 8, 9, 10, 11, 12, 13, 14] (fun i => Nat.beq i 9) _ mixed (by kernel_rfl) (fun w h => h.only 1 rfl) ?_
    (repeat (((refine (?_ : MX _ _ _ _ _ _ _ _ _ _ _)); first | (refine mx_mv _ rfl rfl (by conv => {lhs; whnf}) ?_) | (refine g_load rfl ?_; refine mx_get E rfl rfl rfl rfl rfl (by assumption ) rfl ?_ ) | (refine g_ix rfl ?_; refine mx_ixsn E rfl rfl rfl rfl rfl rfl (by omega) rfl ?_ ) ) ))
    refine g_cf 46 rfl ?_
    refine a_callv rfl rfl rfl rfl Try.func46 rfl rfl rfl _ (fun w' hw => by
      have h46 := load46 bq dq N N 64 cs [] hbz hcs (by omega) (by omega) (by omega) ei ek w' (hw.holds 2 _ rfl) (hw.holds 3 _ rfl)
      rw [hX] at h46; exact h46) rfl ?_
    (repeat (first | ((refine (?_ : MX _ _ _ _ _ _ _ _ _ _ _)); first | refine mx_end ?_ | (refine mx_mv _ rfl rfl (by conv => {lhs; whnf}) ?_) | (refine mx_as _ rfl rfl (by conv => {lhs; whnf}) ?_) | (refine mx_ex _ rfl rfl rfl (by conv => {lhs; whnf}) ?_) ) | refine cw_seq ?_ | refine pw_then ?_ ))
    refine cw_drawm [0, 1, 2, 3, 4, 5, 6, 7, 8, 9, 10, 11, 12, 13, 14] (fun i => or (Nat.beq i 12) (Nat.beq i 13)) [row bf 31 (cF Fr.o), row be 3 (E8.flatMap (cK .i64))] mixed (by kernel_rfl) (fun w h => h.pick [0, 1] (by simp) rfl) ?_
    (repeat (((refine (?_ : MX _ _ _ _ _ _ _ _ _ _ _)); first | (refine mx_mv _ rfl rfl (by conv => {lhs; whnf}) ?_) | (refine g_load rfl ?_; refine mx_get E rfl rfl rfl rfl rfl (by assumption ) rfl ?_ ) | (refine g_ix rfl ?_; refine mx_ixsn E rfl rfl rfl rfl rfl rfl (by omega) rfl ?_ ) ) ))
    refine g_cf 30 rfl ?_
    refine f_call rfl rfl rfl rfl Try.func30 rfl rfl rfl _ (fun w' hw => by
      have h30 := load30 bf Fr.o frok_o ei ek w' (hw.holds 0 _ rfl)
      rw [hB0] at h30; exact h30) rfl ?_
    (repeat (first | ((refine (?_ : MX _ _ _ _ _ _ _ _ _ _ _)); first | refine mx_end ?_ | (refine mx_mv _ rfl rfl (by conv => {lhs; whnf}) ?_) | (refine mx_as _ rfl rfl (by conv => {lhs; whnf}) ?_) | (refine mx_ex _ rfl rfl rfl (by conv => {lhs; whnf}) ?_) | (refine g_store rfl ?_; refine s_l E rfl rfl rfl rfl rfl rfl rfl (by exact Sp.all rfl ) rfl ?_ ) | (refine a_new rfl rfl rfl rfl rfl (fun _ => ?_)) ) | refine cw_seq ?_ | refine pw_then ?_ ))
    rename_i b13
    refine cw_drawm [0, 1, 2, 3, 4, 5, 6, 7, 8, 9, 10, 11, 12, 13] (fun i => Nat.beq i 8) _ mixed (by kernel_rfl) (fun w h => h.only 2 rfl) ?_
    (repeat (((refine (?_ : MX _ _ _ _ _ _ _ _ _ _ _)); first | (refine mx_mv _ rfl rfl (by conv => {lhs; whnf}) ?_) | (refine g_load rfl ?_; refine mx_get E rfl rfl rfl rfl rfl (by assumption ) rfl ?_ ) | (refine g_ix rfl ?_; refine mx_ixsn E rfl rfl rfl rfl rfl rfl (by omega) rfl ?_ ) ) ))
    refine g_cf 35 rfl ?_
    first
    | (refine a_callv rfl rfl rfl rfl Try.func35 rfl rfl rfl _ (fun w' hw => bytes35b bf ei ek hY w') rfl ?_)
    | (refine a_callv rfl rfl rfl rfl Try.func35 rfl rfl rfl _ (fun w' hw => bytes35n bf Fr.o ei ek hY (by rw [hz.2 hk1.1]; exact gat_o _ 0) w' (hw.holds 1 _ rfl)) rfl ?_)
    | (refine a_calln rfl rfl rfl rfl Try.func35 rfl rfl rfl _ _ (fun w' hw => bytes35s bf Fr.o ei ek hY [] (by rw [hz.1 hk1.1]; rfl) w' (hw.holds 1 _ rfl)) rfl (fun q => ?_)
       refine mx_weak (H' := [row b13 24 (cV V3.o), row bf 31 (cF Fr.o), row be 3 (E8.flatMap (cK .i64)), row bq 98 (hdr dq N N 64), row dq 5 (cs.flatMap cU ++ [])]) (fun w h => h.pick [1, 2, 3, 4, 5] (by simp) rfl) (fun w h => h.only 2 rfl) ?_)
    (repeat (first | ((refine (?_ : MX _ _ _ _ _ _ _ _ _ _ _)); first | refine mx_end ?_ | (refine mx_mv _ rfl rfl (by conv => {lhs; whnf}) ?_) | (refine mx_as _ rfl rfl (by conv => {lhs; whnf}) ?_) | (refine mx_ex _ rfl rfl rfl (by conv => {lhs; whnf}) ?_) ) | refine cw_seq ?_ | refine pw_then ?_ ))
    refine cw_drawm [0, 1, 2, 3, 4, 5, 6, 7, 8, 9, 10, 11, 12, 13, 14, 15, 16, 17, 18, 19, 20, 21, 23, 22, 24, 25, 26, 27, 28, 29, 30, 31, 32, 33, 34, 35, 36, 37, 38, 39, 40, 41, 42, 43, 44] (fun i => Nat.beq i 22) _ mixed (by kernel_rfl) (fun w h => h.only 2 rfl) ?_
    (repeat (((refine (?_ : MX _ _ _ _ _ _ _ _ _ _ _)); first | (refine mx_mv _ rfl rfl (by conv => {lhs; whnf}) ?_) | (refine g_load rfl ?_; refine mx_get E rfl rfl rfl rfl rfl (by assumption ) rfl ?_ ) | (refine g_bin rfl ?_; first | ((refine mx_cmpl .eql rfl rfl rfl rfl rfl (by first | exact cmp_eq_t (by omega) | exact cmp_eq_f (by omega) | rfl) ?_) ) | refine mx_bnsame E rfl rfl rfl rfl rfl rfl rfl ?_ ) | (refine g_ix rfl ?_; refine mx_ixsn E rfl rfl rfl rfl rfl rfl (by omega) rfl ?_ ) | (refine mx_skip rfl rfl rfl ?_) | (refine g_pick rfl ?_; first | refine mx_andf rfl rfl rfl rfl rfl ?_ | refine mx_ort rfl rfl rfl rfl rfl ?_ | refine mx_and rfl rfl rfl rfl rfl rfl ?_ | refine mx_or rfl rfl rfl rfl rfl rfl ?_ ) | (refine g_call rfl ?_; (refine g_cf 31 rfl ?_; refine mx_call rfl rfl rfl Try.func31 rfl rfl rfl _ (fun w => num31 _ w) rfl ?_) )) ))
    refine g_cf 28 rfl ?_
    refine a_callr rfl rfl rfl rfl Try.func28 rfl rfl rfl bf (cF (stR Fr.o ei ek ⟨1, 1, 0⟩).2) (.int .i64 _) (fun w' hw h => by
      have h28 := store28 bf Fr.o ei ek ⟨1, 1, 0⟩ w' h
      rw [hS0] at h28; exact h28) rfl ?_
    (repeat (first | ((refine (?_ : MX _ _ _ _ _ _ _ _ _ _ _)); first | refine mx_end ?_ | (refine mx_mv _ rfl rfl (by conv => {lhs; whnf}) ?_) | (refine mx_as _ rfl rfl (by conv => {lhs; whnf}) ?_) | (refine g_bin rfl ?_; first | (first | (refine mx_cmpl .eql rfl rfl rfl rfl rfl (by first | exact cmp_eq_t (by omega) | exact cmp_eq_f (by omega) ) ?_) | (refine mx_cmpl .neq rfl rfl rfl rfl rfl (by first | exact cmp_ne_t (by omega) | exact cmp_ne_f (by omega) | rfl) ?_) | (refine mx_cmpl .leq rfl rfl rfl rfl rfl (by first | exact cmp_le_t (by omega) | exact cmp_le_f (by omega) | rfl) ?_) | (refine mx_cmpl .geq rfl rfl rfl rfl rfl (by first | exact cmp_ge_t (by omega) | exact cmp_ge_f (by omega) | rfl) ?_)) | (refine mx_ar rfl rfl rfl rfl rfl rfl (IntWalk.i64_in _ (by omega)) rfl ?_ ) | refine mx_bnsame E rfl rfl rfl rfl rfl rfl rfl ?_ ) | (refine mx_skip rfl rfl rfl ?_) | (refine g_pick rfl ?_; first | refine mx_andf rfl rfl rfl rfl rfl ?_ | refine mx_and rfl rfl rfl rfl rfl rfl ?_ | refine mx_or rfl rfl rfl rfl rfl rfl ?_ ) ) | refine cw_line rfl ?_ | refine cw_cond_f rfl ?_ | refine cw_skip ?_ | refine pw_then ?_ | refine pw_block ?_ ))
    refine pw_round (k + 1) (by omega) (by omega) ⟨rfl, rfl, rfl, rfl, trivial⟩ (fun w h => h.pick [2, 3, 4] (by simp) rfl))
end Go.Proofs.Ytdimcafdmaidpaa
