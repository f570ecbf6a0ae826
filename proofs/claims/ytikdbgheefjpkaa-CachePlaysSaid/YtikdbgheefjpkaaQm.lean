/- What goes comes ahead of all that are kept: plain; the walk of right. -/
import Derived.Test.YtikdbgheefjpkaaQl
set_option maxRecDepth 100000
set_option maxHeartbeats 8000000
set_option linter.unusedSimpArgs false
set_option linter.unusedVariables false
namespace Go.Proofs.Ytikdbgheefjpkaa
open Go Go.Sx Go.RowKit
theorem minV_mem {r : Int → Int} : ∀ {l : List Int} {m : Int}, minV r l m ∈ m :: l
  | [], m => by simp [minV]
  | x :: l, m => by
    unfold minV
    split
    · exact List.mem_cons_of_mem _ minV_mem
    · rcases List.mem_cons.1 (minV_mem (r := r) (l := l) (m := m)) with e | e
      · rw [e]; simp
      · exact List.mem_cons_of_mem _ (List.mem_cons_of_mem _ e)
/-- Comes ahead, or is it. -/
def Ahd (r : Int → Int) (a b : Int) : Prop := r a < r b ∨ (r a = r b ∧ a ≤ b)
theorem minV_ahd {r : Int → Int} : ∀ {l : List Int} {m : Int}, (m :: l).Pairwise (· < ·) → ∀ b ∈ m :: l, Ahd r (minV r l m) b
  | [], m, _, b, hb => by
    obtain rfl := List.mem_singleton.1 hb
    exact .inr ⟨rfl, Int.le_refl _⟩
  | x :: l, m, h, b, hb => by
    have h1 := List.pairwise_cons.1 h
    have h2 := List.pairwise_cons.1 h1.2
    unfold minV
    by_cases hlt : r x < r m
    · rw [if_pos hlt]
      have ih := minV_ahd (r := r) (l := l) (m := x) h1.2
      rcases List.mem_cons.1 hb with rfl | hb
      · have h3 := ih x (by simp)
        unfold Ahd at h3 ⊢
        omega
      · exact ih b hb
    · rw [if_neg hlt]
      have ih := minV_ahd (r := r) (l := l) (m := m) (List.pairwise_cons.2 ⟨fun y hy => h1.1 y (List.mem_cons_of_mem _ hy), h2.2⟩)
      have h3 := ih m (by simp)
      have h4 := h1.1 x (by simp)
      rcases List.mem_cons.1 hb with rfl | hb
      · exact h3
      · rcases List.mem_cons.1 hb with rfl | hb
        · unfold Ahd at h3 ⊢
          omega
        · exact ih b (List.mem_cons_of_mem _ hb)
theorem evV_ahd {r : Int → Int} {l : List Int} (h : l.Pairwise (· < ·)) : ∀ b ∈ l, Ahd r (evV r l) b := by
  cases l with
  | nil => intro b hb; simp at hb
  | cons x l => exact minV_ahd h
theorem progs_rise {L : List VC} (h : (L.map VC.prog).Nodup) : (progsL L).Pairwise (· < ·) := srt_rise h
theorem progs_del {p q : Int} {L : List VC} : q ∈ progsL (delV p L) ↔ q ∈ progsL L ∧ q ≠ p := by
  rw [progs_mem', progs_mem', List.mem_map, List.mem_map]
  constructor
  · rintro ⟨v, hv, rfl⟩
    obtain ⟨h1, h2⟩ := List.mem_filter.1 hv
    exact ⟨⟨v, h1, rfl⟩, by simpa using h2⟩
  · rintro ⟨⟨v, hv, rfl⟩, hne⟩
    exact ⟨v, List.mem_filter.2 ⟨hv, by simpa using hne⟩, rfl⟩
theorem delV_len {p : Int} {L : List VC} (hn : (L.map VC.prog).Nodup) (hp : p ∈ L.map VC.prog) : (delV p L).length + 1 = L.length := by
  obtain ⟨x, hx, rfl⟩ := List.mem_map.1 hp
  obtain ⟨A, B, rfl⟩ := List.append_of_mem hx
  rw [List.map_append, List.map_cons] at hn
  have h2 := (List.perm_middle (a := x.prog) (l₁ := A.map VC.prog) (l₂ := B.map VC.prog)).nodup_iff.1 hn
  have h3 := (List.nodup_cons.1 h2).1
  have hA : ∀ y ∈ A, y.prog ≠ x.prog := fun y hy e2 => h3 (e2 ▸ List.mem_append_left _ (List.mem_map.2 ⟨y, hy, rfl⟩))
  have hB : ∀ y ∈ B, y.prog ≠ x.prog := fun y hy e2 => h3 (e2 ▸ List.mem_append_right _ (List.mem_map.2 ⟨y, hy, rfl⟩))
  unfold delV
  rw [List.filter_append, List.filter_cons_of_neg (by simp), List.filter_eq_self.2 (fun y hy => by simpa using hA y hy), List.filter_eq_self.2 (fun y hy => by simpa using hB y hy)]
  simp
  omega
/-- What Resize lets go, and what it leaves. -/
theorem res_spec {r : Int → Int} {m : Int} (hm : 0 ≤ m) : ∀ (n : Nat) (L : List VC), L.length = n → (L.map VC.prog).Nodup →
    ((resV r m n L).1.length + (resV r m n L).2.length = L.length ∧ ((resV r m n L).2.length : Int) = min (L.length : Int) m) ∧ ((∀ a ∈ (resV r m n L).1, a ∈ progsL L) ∧ (∀ b ∈ progsL (resV r m n L).2, b ∈ progsL L)) ∧ (∀ a ∈ (resV r m n L).1, ∀ b ∈ progsL (resV r m n L).2, Ahd r a b) ∧ ((resV r m n L).2.map VC.prog).Nodup
  | 0, L, hl, hn => by
    unfold resV
    obtain rfl := List.eq_nil_of_length_eq_zero hl
    refine ⟨⟨rfl, by simp; omega⟩, ⟨by simp, fun b h => h⟩, by simp, hn⟩
  | n + 1, L, hl, hn => by
    unfold resV
    by_cases hgt : (L.length : Int) > m
    case neg =>
      rw [if_neg hgt]
      exact ⟨⟨by simp, by simp; omega⟩, ⟨by simp, fun b h => h⟩, by simp, hn⟩
    rw [if_pos hgt]
    have hne : progsL L ≠ [] := fun e => by have := progs_len (L := L); rw [e] at this; simp at this; omega
    have hin := progs_mem'.1 (evV_in (r := r) hne)
    have ha := evV_ahd (r := r) (progs_rise hn)
    generalize evV r (progsL L) = p at *
    have hdl := delV_len hn hin
    have hnd : ((delV p L).map VC.prog).Nodup := hn.sublist (List.filter_sublist.map _)
    obtain ⟨⟨i1, i2⟩, ⟨i3, i4⟩, i5, i6⟩ := res_spec (r := r) hm n (delV p L) (by omega) hnd
    refine ⟨⟨?_, ?_⟩, ⟨fun a hA => ?_, fun b hB => (progs_del.1 (i4 b hB)).1⟩, fun a hA b hB => ?_, i6⟩
    · simp only [List.length_cons]; omega
    · simp only; omega
    · rcases List.mem_cons.1 hA with rfl | hA
      · exact progs_mem'.2 hin
      · exact (progs_del.1 (i3 a hA)).1
    · rcases List.mem_cons.1 hA with rfl | hA
      · exact ha b (progs_del.1 (i4 b hB)).1
      · exact i5 a hA b hB
/-- What Put lets go, and what it leaves. -/
theorem put_spec {r : Int → Int} {m : Int} (hm : 0 ≤ m) {x : VC} {L : List VC} (hn : (L.map VC.prog).Nodup) (hl : (L.length : Int) ≤ m) (gone : List Int) (L' : List VC) (h : putC m r x L = (gone, L')) :
    ((L'.length : Int) ≤ m ∧ gone.length ≤ 1) ∧ ((∀ a ∈ gone, a ∈ progsL L ∨ a = x.prog) ∧ (∀ b ∈ progsL L', b ∈ progsL L ∨ b = x.prog)) ∧ (∀ a ∈ gone, ∀ b ∈ progsL L', b ≠ x.prog → a ≠ x.prog → Ahd r a b) := by
  have hput : ∀ b, b ∈ progsL (putV x L) → b ∈ progsL L ∨ b = x.prog := fun b hb => by
    rw [progs_mem', putV_prog] at hb
    split at hb
    · exact .inl (progs_mem'.2 hb)
    · rcases List.mem_append.1 hb with hb | hb
      · exact .inl (progs_mem'.2 hb)
      · exact .inr (by simpa using hb)
  have hpl : (putV x L).length ≤ L.length + 1 := by
    have := congrArg List.length (putV_prog (x := x) (L := L))
    rw [List.length_map] at this
    rw [this]
    split <;> simp
  have hpn : ((putV x L).map VC.prog).Nodup := by
    rw [putV_prog]
    split
    · exact hn
    · rename_i hh
      refine List.nodup_append.2 ⟨hn, by simp, fun a ha b hb e => ?_⟩
      obtain rfl : b = x.prog := by simpa using hb
      exact hh (hasV_iff.2 (e ▸ ha))
  unfold putC at h
  by_cases h0 : m = 0
  · rw [if_pos h0] at h
    obtain ⟨rfl, rfl⟩ := Prod.mk.inj h
    have hL : L = [] := List.eq_nil_of_length_eq_zero (by omega)
    subst hL
    have e0 : delV x.prog [] = [] := rfl
    refine ⟨⟨by rw [e0]; simp; omega, by simp⟩, ⟨fun a ha => .inr (by simpa using ha), fun b hb => ?_⟩, fun a ha b hb => ?_⟩
    all_goals (
      rw [e0, progs_mem'] at hb
      simp at hb)
  rw [if_neg h0] at h
  by_cases h1 : ((putV x L).length : Int) ≤ m
  · rw [if_pos h1] at h
    obtain ⟨rfl, rfl⟩ := Prod.mk.inj h
    exact ⟨⟨h1, by simp⟩, ⟨by simp, hput⟩, by simp⟩
  rw [if_neg h1] at h
  obtain ⟨rfl, rfl⟩ := Prod.mk.inj h
  have hr := progs_rise hpn
  have hQr : ((progsL (putV x L)).filter fun q => decide (q ≠ x.prog)).Pairwise (· < ·) := hr.sublist List.filter_sublist
  have ha := evV_ahd (r := r) hQr
  have hxm : x.prog ∈ progsL (putV x L) := by
    rw [progs_mem', putV_prog]
    split
    · rename_i hh; exact hasV_iff.1 hh
    · exact List.mem_append_right _ (by simp)
  have hQne : ((progsL (putV x L)).filter fun q => decide (q ≠ x.prog)) ≠ [] := fun e => by
    have h2 : ∀ q ∈ progsL (putV x L), q = x.prog := fun q hq => by
      have := List.filter_eq_nil_iff.1 e q hq
      simpa using this
    have h3 : (progsL (putV x L)).length ≤ 1 := by
      have hnd := progs_nd hpn
      cases hP : progsL (putV x L) with
      | nil => simp
      | cons a l => cases l with
        | nil => simp
        | cons b l =>
          rw [hP] at h2 hnd
          have e1 := h2 a (by simp)
          have e2 := h2 b (by simp)
          rw [e1, e2] at hnd
          simp at hnd
    rw [progs_len] at h3
    omega
  have hgm := evV_in (r := r) hQne
  generalize evV r ((progsL (putV x L)).filter fun q => decide (q ≠ x.prog)) = g at *
  obtain ⟨hg1, hg2⟩ := List.mem_filter.1 hgm
  have hgp := progs_mem'.1 hg1
  have hdl := delV_len hpn hgp
  refine ⟨⟨by omega, by simp⟩, ⟨fun a hA => ?_, fun b hB => hput b (progs_del.1 hB).1⟩, fun a hA b hB hb1 hb2 => ?_⟩
  · obtain rfl : a = g := by simpa using hA
    exact hput _ hg1
  · obtain rfl : a = g := by simpa using hA
    exact ha b (List.mem_filter.2 ⟨(progs_del.1 hB).1, by simpa using hb1⟩)
theorem right36 (ad ad' : Option Addr) (cap cap' : Nat) (gone kept : List Int) (RL : List Int) (hRL : RL.length = 256) (but : Int) (hg : gone.length ≤ 1000) (hk : kept.length ≤ 1000) (hga : ∀ a ∈ gone, 0 ≤ a ∧ a ≤ 255) (hkb : ∀ b ∈ kept, 0 ≤ b ∧ b ≤ 255) (hrel : ∀ a ∈ gone, ∀ b ∈ kept, b ≠ but → a ≠ but → ∀ x y, RL[a.toNat]? = some x → RL[b.toNat]? = some y → x < y ∨ (x = y ∧ a ≤ b)) (w : World) (hl : InL w ad 1 cI gone) (hl' : InL w ad' 1 cI kept) :
    Calls Try.prog 36 #[.slice ad gone.length cap, .slice ad' kept.length cap', .agg (RL.flatMap cI).toArray, .int .i64 but] w fun e w' => e = .returned (.bool true) ∧ Grow w w' := by
  refine enter4 (S := fun _ => False) 78 Try.func36 rfl rfl rfl (Ok.start w) ?_
  (repeat (first | ((refine (?_ : MX _ _ _ _ _ _ _ _ _ _ _)); first | refine mx_end ?_ | (refine mx_as _ rfl rfl (by conv => {lhs; whnf}) ?_) | (refine g_box rfl ?_; refine a_boxl rfl rfl rfl rfl rfl rfl (fun _ => ?_) ) ) | refine cw_seq ?_ | refine cw_line rfl ?_ | refine cw_block ?_ | refine pw_then ?_ ))
  rename_i b6
  refine cw_loop (fun i : Nat => [(9, .int .i64 i), (0, .slice ad gone.length cap), (1, .slice ad' kept.length cap'), (3, .int .i64 but), (6, .pointer (some ⟨b6, 0, none⟩))]) (fun i => [row b6 54 (RL.flatMap cI)]) (fun i => i ≤ gone.length) (fun i => gone.length - i) 0 (Nat.zero_le _) ⟨rfl, rfl, rfl, rfl, rfl, trivial⟩ (fun w h => h) ?_
  intro i jk hi
  by_cases h0 : (i : Int) < gone.length
  case neg =>
    (repeat (first | ((refine (?_ : MX _ _ _ _ _ _ _ _ _ _ _)); first | refine mx_end ?_ | (refine mx_mv _ rfl rfl (by conv => {lhs; whnf}) ?_) | (refine mx_as _ rfl rfl (by conv => {lhs; whnf}) ?_) | (refine g_bin rfl ?_; ( (refine mx_cmpl .lss rfl rfl rfl rfl rfl (by exact cmp_lt_f (by omega) ) ?_) ) ) | (refine g_bi .len rfl ?_; refine mx_len E rfl rfl rfl rfl ?_) ) | refine cw_seq ?_ | refine cw_line rfl ?_ | refine cw_cond_f rfl ?_ | refine cw_exit ?_ | refine cw_ret ?_ | refine pw_then ?_ | refine pw_then_x ?_ | refine pw_block_e ?_ ))
    exact pw_ret rfl rfl rfl rfl fun w hw => ⟨rfl, hw.keep.grow⟩
  obtain ⟨a, ha⟩ := getElem_some (xs := gone) (i := i) (by omega)
  have ham := List.mem_of_getElem? ha
  have har := hga a ham
  obtain ⟨na, rfl⟩ : ∃ n : Nat, a = (n : Int) := ⟨a.toNat, by omega⟩
  obtain ⟨b4, off, e, hcc⟩ := inl_at hl ha
  subst e
  have hS : ¬ (fun _ : Nat => False) b4 := id
  have hc0 : w.cell? ⟨b4, off + i * 1, none⟩ = some (.int .i64 na) := hcc 0 _ rfl
  (repeat (first | ((refine (?_ : MX _ _ _ _ _ _ _ _ _ _ _)); first | refine mx_end ?_ | (refine mx_mv _ rfl rfl (by conv => {lhs; whnf}) ?_) | (refine mx_as _ rfl rfl (by conv => {lhs; whnf}) ?_) | (refine g_bin rfl ?_; ( (refine mx_cmpl .lss rfl rfl rfl rfl rfl (by exact cmp_lt_t (by omega) ) ?_) ) ) | (refine g_bi .len rfl ?_; refine mx_len E rfl rfl rfl rfl ?_) ) | refine cw_seq ?_ | refine cw_line rfl ?_ | refine cw_block ?_ | refine cw_cond_t rfl ?_ | refine cw_skip ?_ | refine pw_then ?_ ))
  refine cw_loop (fun k : Nat => [(10, .int .i64 k), (9, .int .i64 i), (0, .slice (some ⟨b4, off, none⟩) gone.length cap), (1, .slice ad' kept.length cap'), (3, .int .i64 but), (6, .pointer (some ⟨b6, 0, none⟩))]) (fun k => [row b6 54 (RL.flatMap cI)]) (fun k => k ≤ kept.length) (fun k => kept.length - k) 0 (Nat.zero_le _) ⟨rfl, rfl, rfl, rfl, rfl, rfl, trivial⟩ (fun w h => h) ?_
  intro k jk2 hk2
  by_cases h1 : (k : Int) < kept.length
  case neg =>
    (repeat (first | ((refine (?_ : MX _ _ _ _ _ _ _ _ _ _ _)); first | refine mx_end ?_ | (refine mx_mv _ rfl rfl (by conv => {lhs; whnf}) ?_) | (refine mx_as _ rfl rfl (by conv => {lhs; whnf}) ?_) | (refine g_bin rfl ?_; first | ( (refine mx_cmpl .lss rfl rfl rfl rfl rfl (by first | exact cmp_lt_t (by omega) | exact cmp_lt_f (by omega) ) ?_) ) | ( refine mx_ar rfl rfl rfl rfl rfl rfl (IntWalk.i64_in _ (by omega)) rfl ?_ ) ) | (refine g_bi .len rfl ?_; refine mx_len E rfl rfl rfl rfl ?_) ) | refine cw_seq ?_ | refine cw_line rfl ?_ | refine cw_cond_f rfl ?_ | refine cw_exit ?_ | refine pw_then ?_ | refine pw_then_x ?_ | refine pw_block ?_ | refine pw_block_e ?_ ))
    exact pw_round (i + 1) (by omega) (by omega) ⟨rfl, rfl, rfl, rfl, rfl, trivial⟩ (fun w h => h)
  obtain ⟨b, hb⟩ := getElem_some (xs := kept) (i := k) (by omega)
  have hbm := List.mem_of_getElem? hb
  have hbr := hkb b hbm
  obtain ⟨nb, rfl⟩ : ∃ n : Nat, b = (n : Int) := ⟨b.toNat, by omega⟩
  obtain ⟨b5, off5, e5, hcc5⟩ := inl_at hl' hb
  subst e5
  have hS5 : ¬ (fun _ : Nat => False) b5 := id
  have hc5 : w.cell? ⟨b5, off5 + k * 1, none⟩ = some (.int .i64 nb) := hcc5 0 _ rfl
  obtain ⟨x, hx⟩ := getElem_some (xs := RL) (i := na) (by omega)
  obtain ⟨y, hy⟩ := getElem_some (xs := RL) (i := nb) (by omega)
  have hrx : (RL.flatMap cI)[0 + na * 1]? = some (.int .i64 x) := by
    have := rd_at len_I hx (o := 0) (show 0 < 1 by omega) rfl [] (p := 0 + na * 1) (by omega)
    rwa [List.append_nil] at this
  have hry : (RL.flatMap cI)[0 + nb * 1]? = some (.int .i64 y) := by
    have := rd_at len_I hy (o := 0) (show 0 < 1 by omega) rfl [] (p := 0 + nb * 1) (by omega)
    rwa [List.append_nil] at this
  (repeat (first | ((refine (?_ : MX _ _ _ _ _ _ _ _ _ _ _)); first | refine mx_end ?_ | (refine mx_mv _ rfl rfl (by conv => {lhs; whnf}) ?_) | (refine mx_as _ rfl rfl (by conv => {lhs; whnf}) ?_) | (refine g_load rfl ?_; refine mx_old1 E rfl rfl rfl rfl rfl (by assumption) (by assumption) rfl ?_ ) | (refine g_bin rfl ?_; (first | (refine mx_cmpl .lss rfl rfl rfl rfl rfl (by first | exact cmp_lt_t (by omega) | exact cmp_lt_f (by omega) ) ?_) | (refine mx_cmpl .gtr rfl rfl rfl rfl rfl (by exact cmp_gt_f (by omega) ) ?_) ) ) | (refine g_ix rfl ?_; refine mx_ixsn E rfl rfl rfl rfl rfl rfl (by omega) rfl ?_ ) | (refine g_bi .len rfl ?_; refine mx_len E rfl rfl rfl rfl ?_) | (refine g_pick rfl ?_; refine mx_or rfl rfl rfl rfl rfl rfl ?_ ) ) | refine cw_seq ?_ | refine cw_line rfl ?_ | refine cw_block ?_ | refine cw_cond_f rfl ?_ | refine cw_cond_t rfl ?_ | refine cw_skip ?_ | refine pw_then ?_ ))
  refine cw_drawm [0, 1, 2, 3, 4, 5, 6, 7, 8, 9, 10, 11, 12, 13, 14, 15, 16, 17, 18, 19, 20, 21, 22, 23, 24, 25, 26, 27, 28, 29, 30] (fun i => false) [row b6 54 (RL.flatMap cI)] mixed (by kernel_rfl) (fun w h => h) ?_
  by_cases q1 : (nb : Int) = but
  · (repeat (first | ((refine (?_ : MX _ _ _ _ _ _ _ _ _ _ _)); first | refine mx_end ?_ | (refine mx_mv _ rfl rfl (by conv => {lhs; whnf}) ?_) | (refine mx_as _ rfl rfl (by conv => {lhs; whnf}) ?_) | (refine g_bin rfl ?_; first | ( (refine mx_cmpl .neq rfl rfl rfl rfl rfl (by exact cmp_ne_f (by omega) ) ?_) ) | ( refine mx_ar rfl rfl rfl rfl rfl rfl (IntWalk.i64_in _ (by omega)) rfl ?_ ) ) | (refine mx_skip rfl rfl rfl ?_) | (refine g_pick rfl ?_; refine mx_andf rfl rfl rfl rfl rfl ?_ ) ) | refine cw_line rfl ?_ | refine cw_cond_f rfl ?_ | refine cw_skip ?_ | refine pw_then ?_ | refine pw_block ?_ ))
    exact pw_round (k + 1) (by omega) (by omega) ⟨rfl, rfl, rfl, rfl, rfl, rfl, trivial⟩ (fun w h => h)
  by_cases q2 : (na : Int) = but
  · (repeat (first | ((refine (?_ : MX _ _ _ _ _ _ _ _ _ _ _)); first | refine mx_end ?_ | (refine mx_mv _ rfl rfl (by conv => {lhs; whnf}) ?_) | (refine mx_as _ rfl rfl (by conv => {lhs; whnf}) ?_) | (refine g_bin rfl ?_; first | ( (refine mx_cmpl .neq rfl rfl rfl rfl rfl (by first | exact cmp_ne_t (by omega) | exact cmp_ne_f (by omega) ) ?_) ) | ( refine mx_ar rfl rfl rfl rfl rfl rfl (IntWalk.i64_in _ (by omega)) rfl ?_ ) ) | (refine mx_skip rfl rfl rfl ?_) | (refine g_pick rfl ?_; first | refine mx_andf rfl rfl rfl rfl rfl ?_ | refine mx_and rfl rfl rfl rfl rfl rfl ?_ ) ) | refine cw_line rfl ?_ | refine cw_cond_f rfl ?_ | refine cw_skip ?_ | refine pw_then ?_ | refine pw_block ?_ ))
    exact pw_round (k + 1) (by omega) (by omega) ⟨rfl, rfl, rfl, rfl, rfl, rfl, trivial⟩ (fun w h => h)
  have hr := hrel na ham nb hbm q1 q2 x y (by rw [Int.toNat_natCast]; exact hx) (by rw [Int.toNat_natCast]; exact hy)
  by_cases q3 : x = y
  · (repeat (first | ((refine (?_ : MX _ _ _ _ _ _ _ _ _ _ _)); first | refine mx_end ?_ | (refine mx_mv _ rfl rfl (by conv => {lhs; whnf}) ?_) | (refine mx_as _ rfl rfl (by conv => {lhs; whnf}) ?_) | (refine g_load rfl ?_; refine mx_get E rfl rfl rfl rfl rfl (by assumption ) rfl ?_ ) | (refine g_bin rfl ?_; first | (first | (refine mx_cmpl .eql rfl rfl rfl rfl rfl (by exact cmp_eq_t (by omega) ) ?_) | (refine mx_cmpl .neq rfl rfl rfl rfl rfl (by exact cmp_ne_t (by omega) ) ?_) | (refine mx_cmpl .gtr rfl rfl rfl rfl rfl (by first | exact cmp_gt_t (by omega) | exact cmp_gt_f (by omega) ) ?_) ) | ( refine mx_ar rfl rfl rfl rfl rfl rfl (IntWalk.i64_in _ (by omega)) rfl ?_ ) ) | (refine g_ix rfl ?_; refine mx_ixan E rfl rfl rfl rfl rfl rfl (by omega) rfl ?_ ) | (refine g_pick rfl ?_; first | refine mx_and rfl rfl rfl rfl rfl rfl ?_ | refine mx_or rfl rfl rfl rfl rfl rfl ?_ ) ) | refine cw_line rfl ?_ | refine cw_cond_f rfl ?_ | refine cw_skip ?_ | refine pw_then ?_ | refine pw_block ?_ ))
    exact pw_round (k + 1) (by omega) (by omega) ⟨rfl, rfl, rfl, rfl, rfl, rfl, trivial⟩ (fun w h => h)
  · (repeat (first | ((refine (?_ : MX _ _ _ _ _ _ _ _ _ _ _)); first | refine mx_end ?_ | (refine mx_mv _ rfl rfl (by conv => {lhs; whnf}) ?_) | (refine mx_as _ rfl rfl (by conv => {lhs; whnf}) ?_) | (refine g_load rfl ?_; refine mx_get E rfl rfl rfl rfl rfl (by assumption ) rfl ?_ ) | (refine g_bin rfl ?_; first | (first | (refine mx_cmpl .eql rfl rfl rfl rfl rfl (by exact cmp_eq_f (by omega) ) ?_) | (refine mx_cmpl .neq rfl rfl rfl rfl rfl (by exact cmp_ne_t (by omega) ) ?_) | (refine mx_cmpl .gtr rfl rfl rfl rfl rfl (by first | exact cmp_gt_t (by omega) | exact cmp_gt_f (by omega) ) ?_) ) | ( refine mx_ar rfl rfl rfl rfl rfl rfl (IntWalk.i64_in _ (by omega)) rfl ?_ ) ) | (refine g_ix rfl ?_; refine mx_ixan E rfl rfl rfl rfl rfl rfl (by omega) rfl ?_ ) | (refine mx_skip rfl rfl rfl ?_) | (refine g_pick rfl ?_; first | refine mx_andf rfl rfl rfl rfl rfl ?_ | refine mx_and rfl rfl rfl rfl rfl rfl ?_ | refine mx_or rfl rfl rfl rfl rfl rfl ?_ ) ) | refine cw_line rfl ?_ | refine cw_cond_f rfl ?_ | refine cw_skip ?_ | refine pw_then ?_ | refine pw_block ?_ ))
    exact pw_round (k + 1) (by omega) (by omega) ⟨rfl, rfl, rfl, rfl, rfl, rfl, trivial⟩ (fun w h => h)
end Go.Proofs.Ytikdbgheefjpkaa
