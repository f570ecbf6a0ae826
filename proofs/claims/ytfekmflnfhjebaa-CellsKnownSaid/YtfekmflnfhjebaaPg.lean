/- Layer 7's document: its beats written and told (as Ph2, behind the cells' texts). -/
import Derived.Test.YtfekmflnfhjebaaCg
set_option maxRecDepth 100000
set_option maxHeartbeats 4000000
set_option linter.unusedSimpArgs false
set_option linter.unusedVariables false
namespace Go.Proofs.Ytfekmflnfhjebaa
open Go Go.Sx Go.RowKit
theorem steady17v (b : Bt) (now : Int) (v : Bool) (hv : b.std now = v) (hb : b.ok) (hn : b.n ≤ 1000) (w : World) : Calls Try.prog 17 #[.agg (cBt b).toArray, .int .i64 now] w fun e w' => e = .returned (.bool v) ∧ Grow w w' := by
  subst hv
  exact steady17 b now hb hn w
theorem cI_eq : cI = cK .i64 := rfl
/-- Four counts. -/
def cnts (f : Nat → Int) : List Value := tab 4 fun j => cI (f j)
theorem rd_cnt (f : Nat → Int) {k : Nat} (hk : k < 4) : (cnts f)[0 + k * 1]? = some (.int .i64 (f k)) := by
  have := tab_get (f := fun j => cI (f j)) (z := 1) (fun _ => rfl) (c := 0) (by omega) 4 hk
  rw [Nat.zero_add]
  exact this
theorem sp_cnt (f : Nat → Int) {k : Nat} (hk : k < 4) (v : Int) : Sp (cnts f) (0 + k * 1) [.int .i64 v] (cnts (fset f k v)) := by
  have := Sp.tab (f := fun j => cI (f j)) (z := 1) (fun _ => rfl) (c := 0) hk (us := [.int .i64 v]) (vs := [.int .i64 v]) (by simp) (Sp.lit rfl rfl)
  rw [tab_fset 4 cI f k v, Nat.add_comm] at this
  exact this
attribute [irreducible] cnts
theorem new21 (w : World) : Calls Try.prog 21 #[] w fun e w' => e = .returned (.agg #[.slice none 0 0]) ∧ Grow w w' := by
  refine enter0 (S := fun _ => False) 2 Try.func21 rfl rfl rfl (Ok.start w) ?_
  (repeat (first | ((refine (?_ : MX _ _ _ _ _ _ _ _ _ _ _)); first | refine mx_end ?_ | (refine g_store rfl ?_; refine s_l E rfl rfl rfl rfl rfl rfl rfl (by exact Sp.lit rfl rfl) rfl ?_ ) | (refine g_build rfl ?_; refine mx_build rfl rfl rfl rfl b33_0 rfl ?_ ) | (refine a_new rfl rfl rfl rfl rfl (fun _ => ?_)) ) | refine cw_seq ?_ | refine cw_line rfl ?_ | refine cw_ret ?_ | refine pw_then ?_ ))
  exact pw_retc E (j := 0) rfl rfl rfl rfl rfl rfl fun w hw => ⟨rfl, hw.keep.grow⟩
theorem writes24 (ad : Option Addr) (m c : Nat) (w : World) : Calls Try.prog 24 #[.agg #[.slice ad m c]] w fun e w' => e = .returned (.int .i64 m) ∧ Grow w w' := by
  refine enter1 (S := fun _ => False) 6 Try.func24 rfl rfl rfl (Ok.start w) ?_
  (repeat (first | ((refine (?_ : MX _ _ _ _ _ _ _ _ _ _ _)); first | refine mx_end ?_ | (refine mx_as _ rfl rfl (by conv => {lhs; whnf}) ?_) | (refine mx_fa0 E rfl rfl rfl rfl ?_ ) | (refine g_load rfl ?_; refine mx_get E rfl rfl rfl rfl rfl (by rfl ) rfl ?_ ) | (refine g_bi .len rfl ?_; refine mx_len E rfl rfl rfl rfl ?_) | (refine g_box rfl ?_; refine a_boxl rfl rfl rfl rfl rfl rfl (fun _ => ?_) ) ) | refine cw_seq ?_ | refine cw_line rfl ?_ | refine cw_ret ?_ | refine pw_then ?_ ))
  exact pw_ret rfl rfl rfl rfl fun w hw => ⟨rfl, hw.keep.grow⟩
theorem write23 (ad : Option Addr) (cap : Nat) (l : List Int) (now : Int) (hm : l.length ≤ 1000000) (w : World) (hl : InL w ad 1 cI l) : Calls Try.prog 23 #[.agg #[.slice ad l.length cap], .int .i64 now] w fun e w' => ∃ a : Option Addr × Nat, e = .returned (.agg #[.slice a.1 (l.length + 1) a.2]) ∧ Grow w w' ∧ (ownd a.1 a.2 3 1 (l.length + 1) ((l ++ [now]).flatMap cI)).holds w' ∧ ∀ b, (ownd a.1 a.2 3 1 (l.length + 1) ((l ++ [now]).flatMap cI)).dom b → b < w'.heap.size ∧ ¬ b < w.heap.size := by
  refine enter2 (S := fun _ => False) 13 Try.func23 rfl rfl rfl (Ok.start w) ?_
  (repeat (first | ((refine (?_ : MX _ _ _ _ _ _ _ _ _ _ _)); first | refine mx_end ?_ | (refine mx_fa0 E rfl rfl rfl rfl ?_ ) | (refine g_load rfl ?_; refine mx_get E rfl rfl rfl rfl rfl (by rfl ) rfl ?_ ) | (refine a_new rfl rfl rfl rfl rfl (fun _ => ?_)) | (refine g_box rfl ?_; refine a_boxl rfl rfl rfl rfl rfl rfl (fun _ => ?_) ) | (refine g_bs rfl ?_; refine a_bs0 E rfl rfl rfl rfl rfl rfl (fun _ => ?_) ) ) | refine cw_seq ?_ | refine cw_line rfl ?_ | refine pw_then ?_ ))
  refine a_app E rfl rfl rfl rfl rfl rfl rfl rfl (l.flatMap cI) (by rw [flatMap_len len_I]) (fun w hw => (hl.keep hw fun _ _ _ h => h).src len_I) (by rw [List.all_eq_true]; intro x hx; obtain ⟨a, _, h⟩ := List.mem_flatMap.1 hx; simp at h; subst h; rfl) (by omega) rfl (fun _ _ _ _ => trivial) (fun ad1 cap1 => ?_)
  (repeat (((refine (?_ : MX _ _ _ _ _ _ _ _ _ _ _)); first | (refine mx_mv _ rfl rfl (by conv => {lhs; whnf}) ?_) | (refine g_bs rfl ?_; refine a_bsi E rfl rfl rfl rfl rfl (by (repeat (first | exact EvI.nil | (apply EvI.cons; rfl)))) (by rfl) (by rfl) (by rfl) rfl (fun _ => ?_)) ) ))
  refine a_app E rfl rfl rfl rfl rfl rfl rfl rfl [.int .i64 now] rfl (fun w hw => (row_in (c := cI) (xs := [now]) len_I (hw.holds 0 _ rfl)).src len_I) rfl (by omega) rfl (fun _ _ _ _ => trivial) (fun ad2 cap2 => ?_)
  (repeat (first | ((refine (?_ : MX _ _ _ _ _ _ _ _ _ _ _)); first | refine mx_end ?_ | (refine g_store rfl ?_; refine s_l E rfl rfl rfl rfl rfl rfl rfl (by exact Sp.lit rfl rfl) rfl ?_ ) | (refine g_build rfl ?_; refine mx_build rfl rfl rfl rfl (b33_1 _ _ _) rfl ?_) ) | refine cw_ret ?_ | refine pw_then ?_ ))
  refine pw_retc E (j := 2) rfl rfl rfl rfl rfl rfl fun w1 hw => ⟨(ad2, cap2), by simp [splice], hw.keep.grow, ?_, ?_⟩
  · have := hw.holds 1 _ rfl
    simpa using this
  · intro b hb
    exact hw.fresh 1 rfl b (by simpa [ownd] using hb)
theorem apart58 (a b : Int) (ha : 0 ≤ a ∧ a ≤ 1000000) (hb : 0 ≤ b ∧ b ≤ 1000000) (w : World) : Calls Try.prog 58 #[.int .i64 a, .int .i64 b] w fun e w' => e = .returned (.int .i64 ((a - b).natAbs : Int)) ∧ Grow w w' := by
  refine enter2 (S := fun _ => False) 12 Try.func58 rfl rfl rfl (Ok.start w) ?_
  (repeat (first | ((refine (?_ : MX _ _ _ _ _ _ _ _ _ _ _)); first | refine mx_end ?_ | (refine mx_mv _ rfl rfl (by conv => {lhs; whnf}) ?_) | (refine mx_as _ rfl rfl (by conv => {lhs; whnf}) ?_) | (refine g_bin rfl ?_; (refine mx_ar rfl rfl rfl rfl rfl rfl (IntWalk.i64_in _ (by omega)) rfl ?_ ) ) | ((refine g_bi .max rfl ?_; refine mx_maxi rfl rfl rfl rfl rfl rfl rfl ?_) ) ) | refine cw_seq ?_ | refine cw_line rfl ?_ | refine cw_ret ?_ | refine pw_then ?_ ))
  exact pw_ret (v := .int .i64 (max (a - b) (b - a))) rfl rfl rfl rfl fun w hw => ⟨by congr 2; omega, hw.keep.grow⟩
def cnt (l : List Int) (k : Nat) : Int := (l.filter fun x => four x == k).length
theorem cnt_le (l : List Int) (k : Nat) : 0 ≤ cnt l k ∧ cnt l k ≤ l.length := by
  unfold cnt
  have := List.length_filter_le (fun x => four x == k) l
  omega
theorem cnt_succ (l : List Int) (i : Nat) (x : Int) (h : l[i]? = some x) : fset (cnt (l.take i)) (four x) (cnt (l.take i) (four x) + 1) = cnt (l.take (i + 1)) := by
  rw [List.take_add_one, h]
  funext j
  unfold fset cnt
  by_cases hj : j = four x
  · subst hj; simp
  · have : ¬ four x = j := fun e => hj e.symm
    simp [hj, this]
theorem list_rev {P : List Int → Prop} (h0 : P []) (hs : ∀ l a, P l → P (l ++ [a])) (l : List Int) : P l := by
  have : ∀ n (l : List Int), l.length = n → P l := by
    intro n
    induction n with
    | zero => intro l h; obtain rfl := List.eq_nil_of_length_eq_zero h; exact h0
    | succ n ih =>
      intro l h
      have hne : l ≠ [] := by intro e; subst e; simp at h
      rw [← List.dropLast_concat_getLast hne]
      exact hs _ _ (ih _ (by simp [h]))
  exact this _ l rfl
theorem wrs_cnt (l : List Int) : (wrs l).x = cnt l 0 - cnt l 2 ∧ (wrs l).y = cnt l 1 - cnt l 3 := by
  induction l using list_rev with
  | h0 => simp [wrs, Bt.o, cnt]
  | hs l a ih =>
    have e : wrs (l ++ [a]) = (wrs l).wr a := by simp [wrs]
    have c : ∀ k, cnt (l ++ [a]) k = cnt l k + if four a = k then 1 else 0 := by
      intro k
      unfold cnt
      by_cases h : four a = k <;> simp [h]
    rw [e, c, c, c, c]
    unfold Bt.wr
    have h4 := four_lt a
    generalize four a = k at *
    match k, h4 with
    | 0, _ => simp [dx, dy, ih.1, ih.2]; omega
    | 1, _ => simp [dx, dy, ih.1, ih.2]; omega
    | 2, _ => simp [dx, dy, ih.1, ih.2]; omega
    | 3, _ => simp [dx, dy, ih.1, ih.2]; omega
theorem four_tmod (a : Int) : (a.tmod 4 + 4).tmod 4 = (four a : Int) ∧ -3 ≤ a.tmod 4 ∧ a.tmod 4 ≤ 3 := by
  have h1 : a.tmod 4 = a % 4 ∨ a % 4 ≠ 0 ∧ a.tmod 4 = a % 4 - 4 := by
    rcases Int.lt_or_le a 0 with h | h
    · have e : a.tmod 4 = -((-a) % 4) := by
        rw [← Int.tmod_eq_emod_of_nonneg (by omega), Int.neg_tmod, Int.neg_neg]
      omega
    · left; exact Int.tmod_eq_emod_of_nonneg h
  have h2 : (a.tmod 4 + 4).tmod 4 = (a.tmod 4 + 4) % 4 := Int.tmod_eq_emod_of_nonneg (by omega)
  unfold four
  rw [h2]
  clear h2
  revert h1
  generalize a.tmod 4 = m
  intro h1
  have h3 := Int.emod_nonneg a (show (4 : Int) ≠ 0 by decide)
  have h4 := Int.emod_lt_of_pos a (show (0 : Int) < 4 by decide)
  refine ⟨?_, ?_, ?_⟩
  · rcases h1 with h1 | ⟨_, h1⟩ <;> rw [h1] <;> omega
  · omega
  · omega
theorem sway25 (ad : Option Addr) (cap : Nat) (l : List Int) (hm : l.length ≤ 1000000) (w : World) (hl : InL w ad 1 cI l) : Calls Try.prog 25 #[.agg #[.slice ad l.length cap]] w fun e w' => e = .returned (.int .i64 (wrs l).sway) ∧ Grow w w' := by
  refine enter1 (S := fun _ => False) 45 Try.func25 rfl rfl rfl (Ok.start w) ?_
  (repeat (first | ((refine (?_ : MX _ _ _ _ _ _ _ _ _ _ _)); first | refine mx_end ?_ | (refine mx_as _ rfl rfl (by conv => {lhs; whnf}) ?_) | (refine g_box rfl ?_; refine a_boxl rfl rfl rfl rfl rfl rfl (fun _ => ?_) ) | (refine g_bs rfl ?_; refine a_bsi E rfl rfl rfl rfl rfl (by (repeat (first | exact EvI.nil | (apply EvI.cons; rfl)))) (by rfl) (by rfl) (by rfl) rfl (fun _ => ?_)) ) | refine cw_seq ?_ | refine cw_line rfl ?_ | refine cw_block ?_ | refine pw_then ?_ ))
  rename_i b1 b3
  refine cw_loop (fun i : Nat => [(4, .int .i64 i), (3, .slice (some ⟨b3, 0, none⟩) 4 4), (1, .pointer (some ⟨b1, 0, none⟩))]) (fun i => [row b3 3 (cnts (cnt (l.take i))), row b1 33 [.slice ad l.length cap]]) (fun i => i ≤ l.length) (fun i => l.length - i) 0 (by omega) ⟨rfl, rfl, rfl, trivial⟩ (fun w h => by
    have e : cnts (cnt (l.take 0)) = List.flatMap (cK .i64) [0, 0, 0, 0] := by unfold cnts; rfl
    rw [e]; exact h) ?_
  intro i jk hi
  (repeat (first | ((refine (?_ : MX _ _ _ _ _ _ _ _ _ _ _)); first | refine mx_end ?_ | (refine mx_mv _ rfl rfl (by conv => {lhs; whnf}) ?_) | (refine mx_fa0 E rfl rfl rfl rfl ?_ ) | (refine g_load rfl ?_; refine mx_get E rfl rfl rfl rfl rfl (by rfl ) rfl ?_ ) | (refine g_bin rfl ?_; ( (refine mx_cmpl .lss rfl rfl rfl rfl rfl (by rfl) ?_) ) ) | (refine g_bi .len rfl ?_; refine mx_len E rfl rfl rfl rfl ?_) ) | refine cw_seq ?_ | refine cw_line rfl ?_ | refine pw_then ?_ ))
  refine cw_cond rfl (fun ht => ?_) (fun hf => ?_); (try simp only [decide_eq_true_eq, decide_eq_false_iff_not, Bool.not_eq_true', Bool.not_eq_false', beq_iff_eq, beq_eq_false_iff_ne, bne_iff_ne, bne_eq_false_iff_eq, Bool.and_eq_true, Bool.or_eq_true, Bool.or_eq_false_iff, Bool.not_eq_true, ne_eq, Bool.true_and, Bool.false_and, Bool.true_or, Bool.false_or, Bool.and_true, Bool.or_false, ge_iff_le, gt_iff_lt] at ht); rotate_left; (try simp only [decide_eq_true_eq, decide_eq_false_iff_not, Bool.not_eq_true', Bool.not_eq_false', beq_iff_eq, beq_eq_false_iff_ne, bne_iff_ne, bne_eq_false_iff_eq, Bool.and_eq_true, Bool.or_eq_true, Bool.or_eq_false_iff, Bool.not_eq_true, ne_eq, Bool.true_and, Bool.false_and, Bool.true_or, Bool.false_or, Bool.and_true, Bool.or_false, ge_iff_le, gt_iff_lt] at hf); rotate_right
  · have hil : i < l.length := by omega
    have hx : l[i]? = some l[i] := List.getElem?_eq_getElem hil
    generalize l[i] = x at hx
    obtain ⟨b4, off, e, hcc⟩ := hl (by intro e; subst e; simp at hil)
    subst e
    have hS : ¬ (fun _ : Nat => False) b4 := id
    have hc0 : w.cell? ⟨b4, off + i * 1, none⟩ = some (.int .i64 x) := hcc i x hx 0 _ rfl
    obtain ⟨h41, h42, h43⟩ := four_tmod x
    have h44 := four_lt x
    have hcl := cnt_le (l.take i) (four x)
    rw [List.length_take] at hcl
    refine cw_skip ?_
    refine pw_then ?_
    refine cw_seq ?_
    refine cw_block ?_
    refine cw_seq ?_; refine cw_line rfl ?_; (repeat (first | ((refine (?_ : MX _ _ _ _ _ _ _ _ _ _ _)); first | refine mx_end ?_ | (refine mx_mv _ rfl rfl (by conv => {lhs; whnf}) ?_) | (refine mx_as _ rfl rfl (by conv => {lhs; whnf}) ?_) | (refine mx_fa0 E rfl rfl rfl rfl ?_ ) | (refine g_load rfl ?_; first | refine mx_get E rfl rfl rfl rfl rfl (by rfl ) rfl ?_ | refine mx_old1 E rfl rfl rfl rfl rfl (by assumption) (by assumption) rfl ?_ ) | (refine g_bin rfl ?_; first | (refine mx_ar rfl rfl rfl rfl rfl rfl (IntWalk.i64_in _ (by omega)) rfl ?_ ) | refine mx_dv rfl rfl rfl rfl rfl (by decide) (congrArg some (by assumption)) rfl rfl ?_ | refine mx_dv rfl rfl rfl rfl rfl (by decide) rfl rfl rfl ?_ ) | (refine g_ix rfl ?_; refine mx_ixsn E rfl rfl rfl rfl rfl rfl (by omega) rfl ?_ ) ) | refine pw_then ?_))
    (repeat (first | ((refine (?_ : MX _ _ _ _ _ _ _ _ _ _ _)); first | refine mx_end ?_ | (refine mx_mv _ rfl rfl (by conv => {lhs; whnf}) ?_) | (refine mx_as _ rfl rfl (by conv => {lhs; whnf}) ?_) | (refine g_load rfl ?_; refine mx_get E rfl rfl rfl rfl rfl (by exact rd_cnt _ (by omega)) rfl ?_ ) | (refine g_bin rfl ?_; (refine mx_ar rfl rfl rfl rfl rfl rfl (IntWalk.i64_in _ (by omega)) rfl ?_ ) ) | (refine g_ix rfl ?_; refine mx_ixsn E rfl rfl rfl rfl rfl rfl (by omega) rfl ?_ ) | (refine g_store rfl ?_; refine s_1 E rfl rfl rfl rfl rfl rfl rfl rfl (by exact sp_cnt _ (by omega) _ ) rfl ?_) ) | refine cw_line rfl ?_ | refine pw_then ?_ | refine pw_block ?_ ))
    refine pw_round (i + 1) (by omega) (by omega) ⟨rfl, rfl, rfl, trivial⟩ (fun w h => ?_)
    rwa [cnt_succ l i x hx] at h
  · obtain rfl : i = l.length := by omega
    rw [List.take_of_length_le (Nat.le_refl _)]
    have c0 := cnt_le l (Int.toNat 0)
    have c1 := cnt_le l (Int.toNat 1)
    have c2 := cnt_le l (Int.toNat 2)
    have c3 := cnt_le l (Int.toNat 3)
    (repeat (first | ((refine (?_ : MX _ _ _ _ _ _ _ _ _ _ _)); first | refine mx_end ?_ | (refine mx_mv _ rfl rfl (by conv => {lhs; whnf}) ?_) | (refine mx_as _ rfl rfl (by conv => {lhs; whnf}) ?_) | (refine g_load rfl ?_; refine mx_get E rfl rfl rfl rfl rfl (by exact rd_cnt _ (by omega)) rfl ?_ ) | (refine g_bin rfl ?_; (refine mx_ar rfl rfl rfl rfl rfl rfl (IntWalk.i64_in _ (by omega)) rfl ?_ ) ) | (refine g_ix rfl ?_; refine mx_ixsi E rfl rfl rfl rfl rfl rfl (by omega) (by omega) rfl ?_ ) | (refine g_call rfl ?_; (refine g_cf 58 rfl ?_; refine mx_call rfl rfl rfl Try.func58 rfl rfl rfl _ (fun w => apart58 _ _ (by omega) (by omega) w) rfl ?_))) | refine cw_seq ?_ | (refine cw_drawq mixed rfl (by kernel_rfl) rfl ?_) | refine cw_exit ?_ | refine cw_ret ?_ | refine pw_then ?_ | refine pw_then_x ?_ | refine pw_block_e ?_ ))
    refine pw_ret (v := .int .i64 (((cnt l 0 - cnt l 2).natAbs : Int) + ((cnt l 1 - cnt l 3).natAbs : Int))) rfl rfl rfl rfl fun w hw => ⟨?_, hw.keep.grow⟩
    have e := wrs_cnt l
    unfold Bt.sway
    rw [e.1, e.2]

theorem wrs_last (l : List Int) (i : Nat) (x : Int) (h : l[i]? = some x) (hi : i + 1 = l.length) : (wrs l).last = x := by
  rw [← List.take_of_length_le (l := l) (i := i + 1) (by omega), ← wrs_succ l i x h]
  rfl
theorem steady26 (ad : Option Addr) (cap : Nat) (l : List Int) (now : Int) (hm : l.length ≤ 1000000) (w : World) (hl : InL w ad 1 cI l) : Calls Try.prog 26 #[.agg #[.slice ad l.length cap], .int .i64 now] w fun e w' => e = .returned (.bool ((wrs l).std now)) ∧ Grow w w' := by
  have hn := wrs_n l
  have hok := wrs_ok l
  unfold Bt.ok at hok
  unfold Bt.std std
  have hs : (wrs l).sway = ((wrs l).x.natAbs : Int) + (wrs l).y.natAbs := rfl
  rw [hn]
  refine enter2 (S := fun _ => False) 37 Try.func26 rfl rfl rfl (Ok.start w) ?_
  (repeat (first | ((refine (?_ : MX _ _ _ _ _ _ _ _ _ _ _)); first | refine mx_end ?_ | (refine mx_as _ rfl rfl (by conv => {lhs; whnf}) ?_) | (refine mx_fa0 E rfl rfl rfl rfl ?_ ) | (refine g_load rfl ?_; refine mx_get E rfl rfl rfl rfl rfl (by rfl ) rfl ?_ ) | (refine g_bin rfl ?_; ( (refine mx_cmpl .lss rfl rfl rfl rfl rfl (by rfl) ?_) ) ) | (refine g_bi .len rfl ?_; refine mx_len E rfl rfl rfl rfl ?_) | (refine g_box rfl ?_; refine a_boxl rfl rfl rfl rfl rfl rfl (fun _ => ?_) ) ) | refine cw_seq ?_ | refine cw_line rfl ?_ | refine pw_then ?_ ))
  refine cw_cond rfl (fun ht => ?_) (fun hf => ?_); (try simp only [decide_eq_true_eq, decide_eq_false_iff_not, Bool.not_eq_true', Bool.not_eq_false', beq_iff_eq, beq_eq_false_iff_ne, bne_iff_ne, bne_eq_false_iff_eq, Bool.and_eq_true, Bool.or_eq_true, Bool.or_eq_false_iff, Bool.not_eq_true, ne_eq, Bool.true_and, Bool.false_and, Bool.true_or, Bool.false_or, Bool.and_true, Bool.or_false, ge_iff_le, gt_iff_lt] at ht); rotate_left; (try simp only [decide_eq_true_eq, decide_eq_false_iff_not, Bool.not_eq_true', Bool.not_eq_false', beq_iff_eq, beq_eq_false_iff_ne, bne_iff_ne, bne_eq_false_iff_eq, Bool.and_eq_true, Bool.or_eq_true, Bool.or_eq_false_iff, Bool.not_eq_true, ne_eq, Bool.true_and, Bool.false_and, Bool.true_or, Bool.false_or, Bool.and_true, Bool.or_false, ge_iff_le, gt_iff_lt] at hf); rotate_right
  · (repeat (first | ((refine (?_ : MX _ _ _ _ _ _ _ _ _ _ _)); first | refine mx_end ?_ | (refine mx_as _ rfl rfl (by conv => {lhs; whnf}) ?_) ) | refine cw_seq ?_ | refine cw_line rfl ?_ | refine cw_ret ?_ | refine pw_then ?_ | refine pw_then_r ?_ ))
    exact pw_ret (v := .bool true) rfl rfl rfl rfl fun w hw => ⟨by simp [ht], hw.keep.grow⟩
  · have hil : l.length - 1 < l.length := by omega
    have hx : l[l.length - 1]? = some l[l.length - 1] := List.getElem?_eq_getElem hil
    generalize l[l.length - 1] = x at hx
    have hlast := wrs_last l _ x hx (by omega)
    obtain ⟨b4, off, e, hcc⟩ := hl (by intro e; subst e; simp at hil)
    subst e
    have hS : ¬ (fun _ : Nat => False) b4 := id
    have e1 : ((l.length : Int) - 1).toNat = l.length - 1 := by omega
    have hc0 : w.cell? ⟨b4, off + ((l.length : Int) - 1).toNat * 1, none⟩ = some (.int .i64 x) := by rw [e1]; exact hcc _ x hx 0 _ rfl
    have hf' : decide ((l.length : Int) < 3) = false := by simp; omega
    rw [hf', Bool.false_or, hlast]
    (repeat (first | ((refine (?_ : MX _ _ _ _ _ _ _ _ _ _ _)); first | refine mx_end ?_ | (refine mx_mv _ rfl rfl (by conv => {lhs; whnf}) ?_) | (refine mx_as _ rfl rfl (by conv => {lhs; whnf}) ?_) | (refine mx_fa0 E rfl rfl rfl rfl ?_ ) | (refine g_load rfl ?_; first | refine mx_get E rfl rfl rfl rfl rfl (by rfl ) rfl ?_ | refine mx_old1 E rfl rfl rfl rfl rfl (by assumption) (by assumption) rfl ?_ ) | (refine g_bin rfl ?_; first | ( (refine mx_cmpl .gtr rfl rfl rfl rfl rfl (by rfl) ?_) ) | (refine mx_ar rfl rfl rfl rfl rfl rfl (IntWalk.i64_in _ (by omega)) rfl ?_ ) ) | (refine g_ix rfl ?_; refine mx_ixsi E rfl rfl rfl rfl rfl rfl (by omega) (by omega) rfl ?_ ) | (refine g_bi .len rfl ?_; refine mx_len E rfl rfl rfl rfl ?_) ) | refine cw_seq ?_ | refine cw_line rfl ?_ | (refine cw_drawq mixed rfl (by kernel_rfl) rfl ?_) | refine cw_skip ?_ | refine pw_then ?_ ))
    cases h0 : decide (x < now)
    · (repeat (first | ((refine (?_ : MX _ _ _ _ _ _ _ _ _ _ _)); first | refine mx_end ?_ | (refine mx_as _ rfl rfl (by conv => {lhs; whnf}) ?_) | (refine mx_skip rfl rfl rfl ?_) | (refine g_pick rfl ?_; refine mx_andf rfl rfl rfl rfl rfl ?_ ) ) | refine cw_ret ?_ | refine pw_then ?_ ))
      exact pw_ret rfl rfl rfl rfl fun w hw => ⟨rfl, hw.keep.grow⟩
    · (repeat (((refine (?_ : MX _ _ _ _ _ _ _ _ _ _ _)); first | (refine mx_mv _ rfl rfl (by conv => {lhs; whnf}) ?_) | (refine mx_fa0 E rfl rfl rfl rfl ?_ ) | (refine g_load rfl ?_; first | refine mx_get E rfl rfl rfl rfl rfl (by rfl ) rfl ?_ | refine mx_getn E rfl rfl rfl rfl rfl (by exact Vr.all rfl ) rfl ?_ ) | (refine g_bin rfl ?_; (first | refine mx_ar rfl rfl rfl rfl rfl rfl (IntWalk.i64_in _ (by omega)) rfl ?_ | refine mx_ar rfl rfl rfl rfl rfl rfl rfl rfl ?_) ) | (refine g_bi .len rfl ?_; refine mx_len E rfl rfl rfl rfl ?_) | (refine g_conv rfl ?_; refine mx_cv E rfl rfl rfl rfl rfl rfl rfl rfl ?_) ) ))
      refine g_cf 25 rfl ?_
      refine mx_call' rfl rfl rfl Try.func25 rfl rfl rfl _ (fun w' hw => sway25 _ _ l hm w' (hl.keep hw fun _ _ _ h => h)) rfl ?_
      (repeat (first | ((refine (?_ : MX _ _ _ _ _ _ _ _ _ _ _)); first | refine mx_end ?_ | (refine mx_as _ rfl rfl (by conv => {lhs; whnf}) ?_) | (refine g_bin rfl ?_; first | ( (refine mx_cmpl .geq rfl rfl rfl rfl rfl (by rfl) ?_)) | (refine mx_ar rfl rfl rfl rfl rfl rfl (IntWalk.i64_in _ (by omega)) rfl ?_ ) ) | (refine g_pick rfl ?_; refine mx_and rfl rfl rfl rfl rfl rfl ?_ ) | (refine g_conv rfl ?_; refine mx_cv E rfl rfl rfl rfl rfl rfl (IntWalk.u64_in _ (by omega)) rfl ?_ ) ) | refine cw_ret ?_ | refine pw_then ?_ ))
      exact pw_ret rfl rfl rfl rfl fun w hw => ⟨rfl, hw.keep.grow⟩
end Go.Proofs.Ytfekmflnfhjebaa
