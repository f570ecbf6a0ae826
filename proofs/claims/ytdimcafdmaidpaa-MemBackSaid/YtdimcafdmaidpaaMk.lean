/- Packets: of the program and of the document; walked. -/
import Derived.Test.YtdimcafdmaidpaaMr
set_option maxRecDepth 100000
set_option maxHeartbeats 8000000
set_option linter.unusedSimpArgs false
set_option linter.unusedVariables false
namespace Go.Proofs.Ytdimcafdmaidpaa
open Go Go.Sx Go.RowKit
theorem b98 (ad : Option Addr) (m c : Nat) (g : Int) : Blt Try.prog 98 [(0, .slice ad m c), (1, .int .i64 g)] [.slice ad m c, .int .i64 g] := ⟨by kernel_rfl⟩
theorem b100 (ad : Option Addr) (m c : Nat) (g : Int) : Blt Try.prog 100 [(0, .slice ad m c), (1, .int .i64 g)] [.slice ad m c, .int .i64 g] := ⟨by kernel_rfl⟩
instance Cl.slice {ad : Option Addr} {a b : Nat} {us : List Value} {m : Nat} [h : Cl us m] : Cl (.slice ad a b :: us) (m + 1) := ⟨by simp [h.len], by simp [h.one]; rfl⟩
@[reducible] def hdr (bd n cap g : Nat) : List Value := [.slice (some ⟨bd, 0, none⟩) n cap, .int .i64 (g : Int)]
theorem sla_at (bd cap p : Nat) (h : p < cap) : sla (some ⟨bd, 0, none⟩) cap p 1 = some ⟨bd, p, none⟩ := by
  unfold sla
  rw [if_neg (by omega)]
  simp [add_at]
theorem len52 (bp bd n cap g : Nat) (hn : n ≤ 1000000) (hg : g ≤ n) (w : World) (h : (row bp 98 (hdr bd n cap g)).holds w) :
    Calls Try.prog 52 #[.pointer (some ⟨bp, 0, none⟩)] w fun e w' => e = .returned (.int .i64 ((n : Int) - g)) ∧ Grow w w' := by
  refine enter1 (S := fun _ => False) 13 Try.func52 rfl rfl rfl (Ok.start w) ?_
  have hS0 : ¬ (fun _ : Nat => False) bp := id
  (repeat (first | ((refine (?_ : MX _ _ _ _ _ _ _ _ _ _ _)); first | refine mx_end ?_ | (refine mx_mv _ rfl rfl (by conv => {lhs; whnf}) ?_) | (refine mx_as _ rfl rfl (by conv => {lhs; whnf}) ?_) | (first | refine mx_fa0 E rfl rfl rfl rfl ?_ | refine mx_fa E rfl rfl rfl rfl ?_) | (refine g_load rfl ?_; refine mx_orow E rfl rfl rfl rfl rfl (by assumption) (by assumption) (by rfl ) rfl ?_ ) | (refine g_bin rfl ?_; (refine mx_ar rfl rfl rfl rfl rfl rfl (IntWalk.i64_in _ (by omega)) rfl ?_ ) ) | (refine mx_nc rfl rfl rfl ?_) | (refine g_bi .len rfl ?_; refine mx_len E rfl rfl rfl rfl ?_) ) | refine cw_seq ?_ | refine cw_line rfl ?_ | (refine cw_drawq mixed rfl (by kernel_rfl) rfl ?_) | refine cw_ret ?_ | refine pw_then ?_ ))
  exact pw_ret rfl rfl rfl rfl fun w hw => ⟨rfl, hw.keep.grow⟩
theorem len53 (bp bd n cap g : Nat) (hn : n ≤ 1000000) (hg : g ≤ n) (w : World) (h : (row bp 100 (hdr bd n cap g)).holds w) :
    Calls Try.prog 53 #[.pointer (some ⟨bp, 0, none⟩)] w fun e w' => e = .returned (.int .i64 ((n : Int) - g)) ∧ Grow w w' := by
  refine enter1 (S := fun _ => False) 13 Try.func53 rfl rfl rfl (Ok.start w) ?_
  have hS0 : ¬ (fun _ : Nat => False) bp := id
  (repeat (first | ((refine (?_ : MX _ _ _ _ _ _ _ _ _ _ _)); first | refine mx_end ?_ | (refine mx_mv _ rfl rfl (by conv => {lhs; whnf}) ?_) | (refine mx_as _ rfl rfl (by conv => {lhs; whnf}) ?_) | (first | refine mx_fa0 E rfl rfl rfl rfl ?_ | refine mx_fa E rfl rfl rfl rfl ?_) | (refine g_load rfl ?_; refine mx_orow E rfl rfl rfl rfl rfl (by assumption) (by assumption) (by rfl ) rfl ?_ ) | (refine g_bin rfl ?_; (refine mx_ar rfl rfl rfl rfl rfl rfl (IntWalk.i64_in _ (by omega)) rfl ?_ ) ) | (refine mx_nc rfl rfl rfl ?_) | (refine g_bi .len rfl ?_; refine mx_len E rfl rfl rfl rfl ?_) ) | refine cw_seq ?_ | refine cw_line rfl ?_ | (refine cw_drawq mixed rfl (by kernel_rfl) rfl ?_) | refine cw_ret ?_ | refine pw_then ?_ ))
  exact pw_ret rfl rfl rfl rfl fun w hw => ⟨rfl, hw.keep.grow⟩
theorem bytes54 (bp bd n cap g : Nat) (cs : List Int) (rest : List Value) (hm : cs.length = n) (hc : n ≤ cap) (hn : n ≤ 1000000) (hg : g ≤ n) (w : World) (h : (row bp 98 (hdr bd n cap g)).holds w) (h2 : (row bd 5 (cs.flatMap cU ++ rest)).holds w) :
    Calls Try.prog 54 #[.pointer (some ⟨bp, 0, none⟩)] w fun e w' => ∃ a : Option Addr × Nat, e = .returned (.slice a.1 (n - g) a.2) ∧ Grow w w' ∧ (ownd a.1 a.2 5 1 (n - g) ((cs.drop g).flatMap cU)).holds w' ∧ ∀ b, (ownd a.1 a.2 5 1 (n - g) ((cs.drop g).flatMap cU)).dom b → b < w'.heap.size ∧ ¬ b < w.heap.size := by
  refine enter1 (S := fun _ => False) 13 Try.func54 rfl rfl rfl (Ok.start w) ?_
  have hS0 : ¬ (fun _ : Nat => False) bp := id
  refine cw_seq ?_; refine cw_line rfl ?_; (repeat (first | ((refine (?_ : MX _ _ _ _ _ _ _ _ _ _ _)); first | refine mx_end ?_ | (refine mx_as _ rfl rfl (by conv => {lhs; whnf}) ?_) ) | refine pw_then ?_))
  refine cw_seq ?_
  refine cw_drawm [0, 1, 2, 3, 4, 5, 6, 7, 8, 9, 10] (fun i => Nat.beq i 9) _ mixed (by kernel_rfl) (fun w h => h) ?_
  (repeat (((refine (?_ : MX _ _ _ _ _ _ _ _ _ _ _)); first | (refine mx_mv _ rfl rfl (by conv => {lhs; whnf}) ?_) | (first | refine mx_fa0 E rfl rfl rfl rfl ?_ | refine mx_fa E rfl rfl rfl rfl ?_) | (refine g_load rfl ?_; refine mx_orow E rfl rfl rfl rfl rfl (by assumption) (by assumption) (by rfl ) rfl ?_ ) | (refine mx_nc rfl rfl rfl ?_) | ( refine mx_slice_lo E rfl rfl rfl rfl rfl rfl (by omega) rfl ?_) ) ))
  refine g_cf 77 rfl ?_
  refine a_calln rfl rfl rfl rfl Try.func77 rfl rfl rfl (fun a : Option Addr × Nat => .slice a.1 (n - g) a.2) (fun a => ownd a.1 a.2 5 1 (n - g) ((cs.drop g).flatMap cU)) (fun w' hw => cloneB _ (n - g) _ (cs.drop g) (by rw [List.length_drop]; omega) (by omega) w' ((row_pre len_U (hw.orow h2 id)).drop cap g (by omega))) rfl (fun a => ?_)
  obtain ⟨a1, c1⟩ := a
  (repeat (first | ((refine (?_ : MX _ _ _ _ _ _ _ _ _ _ _)); first | refine mx_end ?_ | (refine mx_as _ rfl rfl (by conv => {lhs; whnf}) ?_) ) | refine cw_ret ?_ | refine pw_then ?_ ))
  exact pw_ret rfl rfl rfl rfl fun w' hw => ⟨(a1, c1), rfl, hw.keep.grow, hw.holds 0 _ rfl, fun b hb => hw.fresh 0 rfl b hb⟩
theorem bytes55 (bp bd n cap g : Nat) (cs : List Int) (rest : List Value) (hm : cs.length = n) (hc : n ≤ cap) (hn : n ≤ 1000000) (hg : g ≤ n) (w : World) (h : (row bp 100 (hdr bd n cap g)).holds w) (h2 : (row bd 5 (cs.flatMap cU ++ rest)).holds w) :
    Calls Try.prog 55 #[.pointer (some ⟨bp, 0, none⟩)] w fun e w' => ∃ a : Option Addr × Nat, e = .returned (.slice a.1 (n - g) a.2) ∧ Grow w w' ∧ (ownd a.1 a.2 5 1 (n - g) ((cs.drop g).flatMap cU)).holds w' ∧ ∀ b, (ownd a.1 a.2 5 1 (n - g) ((cs.drop g).flatMap cU)).dom b → b < w'.heap.size ∧ ¬ b < w.heap.size := by
  refine enter1 (S := fun _ => False) 13 Try.func55 rfl rfl rfl (Ok.start w) ?_
  have hS0 : ¬ (fun _ : Nat => False) bp := id
  refine cw_seq ?_; refine cw_line rfl ?_; (repeat (first | ((refine (?_ : MX _ _ _ _ _ _ _ _ _ _ _)); first | refine mx_end ?_ | (refine mx_as _ rfl rfl (by conv => {lhs; whnf}) ?_) ) | refine pw_then ?_))
  refine cw_seq ?_
  refine cw_drawm [0, 1, 2, 3, 4, 5, 6, 7, 8, 9, 10] (fun i => Nat.beq i 9) _ mixed (by kernel_rfl) (fun w h => h) ?_
  (repeat (((refine (?_ : MX _ _ _ _ _ _ _ _ _ _ _)); first | (refine mx_mv _ rfl rfl (by conv => {lhs; whnf}) ?_) | (first | refine mx_fa0 E rfl rfl rfl rfl ?_ | refine mx_fa E rfl rfl rfl rfl ?_) | (refine g_load rfl ?_; refine mx_orow E rfl rfl rfl rfl rfl (by assumption) (by assumption) (by rfl ) rfl ?_ ) | (refine mx_nc rfl rfl rfl ?_) | ( refine mx_slice_lo E rfl rfl rfl rfl rfl rfl (by omega) rfl ?_) ) ))
  refine g_cf 56 rfl ?_
  refine a_calln rfl rfl rfl rfl Try.func56 rfl rfl rfl (fun a : Option Addr × Nat => .slice a.1 (n - g) a.2) (fun a => ownd a.1 a.2 5 1 (n - g) ((cs.drop g).flatMap cU)) (fun w' hw => copyB _ (n - g) _ (cs.drop g) (by rw [List.length_drop]; omega) (by omega) w' ((row_pre len_U (hw.orow h2 id)).drop cap g (by omega))) rfl (fun a => ?_)
  obtain ⟨a1, c1⟩ := a
  (repeat (first | ((refine (?_ : MX _ _ _ _ _ _ _ _ _ _ _)); first | refine mx_end ?_ | (refine mx_as _ rfl rfl (by conv => {lhs; whnf}) ?_) ) | refine cw_ret ?_ | refine pw_then ?_ ))
  exact pw_ret rfl rfl rfl rfl fun w' hw => ⟨(a1, c1), rfl, hw.keep.grow, hw.holds 0 _ rfl, fun b hb => hw.fresh 0 rfl b hb⟩
/-- Is a number inside? -/
def okP (n g : Nat) (off size : Int) : Bool := sizedB size && decide (0 ≤ off) && decide (off ≤ (n : Int) - g - size)
theorem okP_spec {n g : Nat} {off size : Int} (h : okP n g off size = true) : ∃ p m : Nat, off = p ∧ size = m ∧ 1 ≤ m ∧ m ≤ 8 ∧ p + m + g ≤ n ∧ sizedB size = true := by
  unfold okP at h
  simp only [Bool.and_eq_true, decide_eq_true_eq] at h
  have h1 := (sizedB_iff size).1 h.1.1
  exact ⟨off.toNat, size.toNat, by omega, by omega, by omega, by omega, by omega, h.1.1⟩
theorem inside76 (bp bd n cap g : Nat) (off size : Int) (hn : n ≤ 1000000) (hg : g ≤ n) (w : World) (h : (row bp 100 (hdr bd n cap g)).holds w) :
    Calls Try.prog 76 #[.pointer (some ⟨bp, 0, none⟩), .int .i64 off, .int .i64 size] w fun e w' => e = .returned (.bool (okP n g off size)) ∧ Grow w w' := by
  refine enter3 (S := fun _ => False) 21 Try.func76 rfl rfl rfl (Ok.start w) ?_
  have hS0 : ¬ (fun _ : Nat => False) bp := id
  unfold okP
  cases hsz : sizedB size with
  | false => ((repeat (first | ((refine (?_ : MX _ _ _ _ _ _ _ _ _ _ _)); first | refine mx_end ?_ | (refine mx_mv _ rfl rfl (by conv => {lhs; whnf}) ?_) | (refine mx_as _ rfl rfl (by conv => {lhs; whnf}) ?_) | (refine mx_skip rfl rfl rfl ?_) | (refine g_pick rfl ?_; refine mx_andf rfl rfl rfl rfl rfl ?_ ) | (refine g_call rfl ?_; (refine g_cf 69 rfl ?_; refine mx_call rfl rfl rfl Try.func69 rfl rfl rfl _ (fun w => sized69v _ _ (by assumption) w) rfl ?_))) | refine cw_seq ?_ | refine cw_line rfl ?_ | refine cw_ret ?_ | refine pw_then ?_ )); exact pw_ret rfl rfl rfl rfl fun w hw => ⟨rfl, hw.keep.grow⟩)
  | true =>
    have hs := (sizedB_iff size).1 hsz
    by_cases h1 : 0 ≤ off
    case neg => (rw [decide_eq_false h1]; (repeat (first | ((refine (?_ : MX _ _ _ _ _ _ _ _ _ _ _)); first | refine mx_end ?_ | (refine mx_mv _ rfl rfl (by conv => {lhs; whnf}) ?_) | (refine mx_as _ rfl rfl (by conv => {lhs; whnf}) ?_) | (refine g_bin rfl ?_; ( (refine mx_cmpl .geq rfl rfl rfl rfl rfl (by first | exact cmp_ge_f (by omega) | rfl) ?_)) ) | (refine mx_skip rfl rfl rfl ?_) | (refine g_pick rfl ?_; first | refine mx_andf rfl rfl rfl rfl rfl ?_ | refine mx_and rfl rfl rfl rfl rfl rfl ?_ ) | (refine g_call rfl ?_; (refine g_cf 69 rfl ?_; refine mx_call rfl rfl rfl Try.func69 rfl rfl rfl _ (fun w => sized69v _ _ (by assumption) w) rfl ?_))) | refine cw_seq ?_ | refine cw_line rfl ?_ | refine cw_ret ?_ | refine pw_then ?_ )); exact pw_ret rfl rfl rfl rfl fun w hw => ⟨rfl, hw.keep.grow⟩)
    rw [decide_eq_true h1]
    by_cases h2 : off ≤ (n : Int) - g - size
    case neg =>
      rw [decide_eq_false h2]
      (repeat (first | ((refine (?_ : MX _ _ _ _ _ _ _ _ _ _ _)); first | refine mx_end ?_ | (refine mx_mv _ rfl rfl (by conv => {lhs; whnf}) ?_) | (refine mx_as _ rfl rfl (by conv => {lhs; whnf}) ?_) | (refine g_bin rfl ?_; ( (refine mx_cmpl .geq rfl rfl rfl rfl rfl (by exact cmp_ge_t (by omega) ) ?_)) ) | (refine g_pick rfl ?_; refine mx_and rfl rfl rfl rfl rfl rfl ?_ ) | (refine g_call rfl ?_; (refine g_cf 69 rfl ?_; refine mx_call rfl rfl rfl Try.func69 rfl rfl rfl _ (fun w => sized69v _ _ (by assumption) w) rfl ?_))) | refine cw_seq ?_ | refine cw_line rfl ?_ | refine pw_then ?_ ))
      refine g_cf 53 rfl ?_
      refine a_callv rfl rfl rfl rfl Try.func53 rfl rfl rfl _ (fun w' hw => len53 bp bd n cap g hn hg w' (hw.orow h hS0)) rfl ?_
      (repeat (first | ((refine (?_ : MX _ _ _ _ _ _ _ _ _ _ _)); first | refine mx_end ?_ | (refine mx_mv _ rfl rfl (by conv => {lhs; whnf}) ?_) | (refine mx_as _ rfl rfl (by conv => {lhs; whnf}) ?_) | (refine g_bin rfl ?_; first | ( (refine mx_cmpl .leq rfl rfl rfl rfl rfl (by first | exact cmp_le_t (by omega) | exact cmp_le_f (by omega) ) ?_) ) | (refine mx_ar rfl rfl rfl rfl rfl rfl (IntWalk.i64_in _ (by omega)) rfl ?_ ) ) | (refine g_pick rfl ?_; refine mx_and rfl rfl rfl rfl rfl rfl ?_ ) ) | refine cw_ret ?_ | refine pw_then ?_ ))
      exact pw_ret rfl rfl rfl rfl fun w hw => ⟨rfl, hw.keep.grow⟩
    case pos =>
      rw [decide_eq_true h2]
      (repeat (first | ((refine (?_ : MX _ _ _ _ _ _ _ _ _ _ _)); first | refine mx_end ?_ | (refine mx_mv _ rfl rfl (by conv => {lhs; whnf}) ?_) | (refine mx_as _ rfl rfl (by conv => {lhs; whnf}) ?_) | (refine g_bin rfl ?_; ( (refine mx_cmpl .geq rfl rfl rfl rfl rfl (by exact cmp_ge_t (by omega) ) ?_)) ) | (refine g_pick rfl ?_; refine mx_and rfl rfl rfl rfl rfl rfl ?_ ) | (refine g_call rfl ?_; (refine g_cf 69 rfl ?_; refine mx_call rfl rfl rfl Try.func69 rfl rfl rfl _ (fun w => sized69v _ _ (by assumption) w) rfl ?_))) | refine cw_seq ?_ | refine cw_line rfl ?_ | refine pw_then ?_ ))
      refine g_cf 53 rfl ?_
      refine a_callv rfl rfl rfl rfl Try.func53 rfl rfl rfl _ (fun w' hw => len53 bp bd n cap g hn hg w' (hw.orow h hS0)) rfl ?_
      (repeat (first | ((refine (?_ : MX _ _ _ _ _ _ _ _ _ _ _)); first | refine mx_end ?_ | (refine mx_mv _ rfl rfl (by conv => {lhs; whnf}) ?_) | (refine mx_as _ rfl rfl (by conv => {lhs; whnf}) ?_) | (refine g_bin rfl ?_; first | ( (refine mx_cmpl .leq rfl rfl rfl rfl rfl (by exact cmp_le_t (by omega) ) ?_) ) | (refine mx_ar rfl rfl rfl rfl rfl rfl (IntWalk.i64_in _ (by omega)) rfl ?_ ) ) | (refine g_pick rfl ?_; refine mx_and rfl rfl rfl rfl rfl rfl ?_ ) ) | refine cw_ret ?_ | refine pw_then ?_ ))
      exact pw_ret rfl rfl rfl rfl fun w hw => ⟨rfl, hw.keep.grow⟩
theorem part75n (bp bd n cap g : Nat) (off size : Int) (hn : n ≤ 1000000) (hg : g ≤ n) (hok : okP n g off size = false) (w : World) (h : (row bp 98 (hdr bd n cap g)).holds w) :
    Calls Try.prog 75 #[.pointer (some ⟨bp, 0, none⟩), .int .i64 off, .int .i64 size] w fun e w' => e = .returned (.tuple #[.slice none 0 0, .bool false]) ∧ Grow w w' := by
  refine enter3 (S := fun _ => False) 36 Try.func75 rfl rfl rfl (Ok.start w) ?_
  have hS0 : ¬ (fun _ : Nat => False) bp := id
  unfold okP at hok
  cases hsz : sizedB size with
  | false => ((repeat (first | ((refine (?_ : MX _ _ _ _ _ _ _ _ _ _ _)); first | refine mx_end ?_ | (refine mx_mv _ rfl rfl (by conv => {lhs; whnf}) ?_) | (refine mx_as _ rfl rfl (by conv => {lhs; whnf}) ?_) | (refine mx_not rfl rfl rfl ?_) | (refine mx_skip rfl rfl rfl ?_) | (refine g_pick rfl ?_; refine mx_ort rfl rfl rfl rfl rfl ?_ ) | (refine g_call rfl ?_; (refine g_cf 63 rfl ?_; refine mx_call rfl rfl rfl Try.func63 rfl rfl rfl _ (fun w => sized63v _ _ (by assumption) w) rfl ?_) )) | refine cw_seq ?_ | refine cw_line rfl ?_ | refine cw_cond_t rfl ?_ | refine cw_ret ?_ | refine pw_then ?_ | refine pw_then_r ?_ )); exact pw_rets rfl [_, _] ⟨rfl, rfl, trivial⟩ rfl fun w hw => ⟨rfl, hw.keep.grow⟩)
  | true =>
    have hs := (sizedB_iff size).1 hsz
    by_cases h1 : 0 ≤ off
    case neg => ((repeat (first | ((refine (?_ : MX _ _ _ _ _ _ _ _ _ _ _)); first | refine mx_end ?_ | (refine mx_mv _ rfl rfl (by conv => {lhs; whnf}) ?_) | (refine mx_as _ rfl rfl (by conv => {lhs; whnf}) ?_) | (refine g_bin rfl ?_; ( (refine mx_cmpl .lss rfl rfl rfl rfl rfl (by first | exact cmp_lt_t (by omega) | rfl) ?_) ) ) | (refine mx_not rfl rfl rfl ?_) | (refine mx_skip rfl rfl rfl ?_) | (refine g_pick rfl ?_; first | refine mx_ort rfl rfl rfl rfl rfl ?_ | refine mx_or rfl rfl rfl rfl rfl rfl ?_ ) | (refine g_call rfl ?_; (refine g_cf 63 rfl ?_; refine mx_call rfl rfl rfl Try.func63 rfl rfl rfl _ (fun w => sized63v _ _ (by assumption) w) rfl ?_) )) | refine cw_seq ?_ | refine cw_line rfl ?_ | refine cw_cond_t rfl ?_ | refine cw_ret ?_ | refine pw_then ?_ | refine pw_then_r ?_ )); exact pw_rets rfl [_, _] ⟨rfl, rfl, trivial⟩ rfl fun w hw => ⟨rfl, hw.keep.grow⟩)
    have h2 : ¬ off ≤ (n : Int) - g - size := by simpa [hsz, h1] using hok
    (repeat (first | ((refine (?_ : MX _ _ _ _ _ _ _ _ _ _ _)); first | refine mx_end ?_ | (refine mx_mv _ rfl rfl (by conv => {lhs; whnf}) ?_) | (refine mx_as _ rfl rfl (by conv => {lhs; whnf}) ?_) | (refine g_bin rfl ?_; ( (refine mx_cmpl .lss rfl rfl rfl rfl rfl (by exact cmp_lt_f (by omega) ) ?_) ) ) | (refine mx_not rfl rfl rfl ?_) | (refine g_pick rfl ?_; refine mx_or rfl rfl rfl rfl rfl rfl ?_ ) | (refine g_call rfl ?_; (refine g_cf 63 rfl ?_; refine mx_call rfl rfl rfl Try.func63 rfl rfl rfl _ (fun w => sized63v _ _ (by assumption) w) rfl ?_) )) | refine cw_seq ?_ | refine cw_line rfl ?_ | refine pw_then ?_ ))
    refine g_cf 52 rfl ?_
    refine a_callv rfl rfl rfl rfl Try.func52 rfl rfl rfl _ (fun w' hw => len52 bp bd n cap g hn hg w' (hw.orow h hS0)) rfl ?_
    (repeat (first | ((refine (?_ : MX _ _ _ _ _ _ _ _ _ _ _)); first | refine mx_end ?_ | (refine mx_mv _ rfl rfl (by conv => {lhs; whnf}) ?_) | (refine mx_as _ rfl rfl (by conv => {lhs; whnf}) ?_) | (refine g_bin rfl ?_; first | ( (refine mx_cmpl .gtr rfl rfl rfl rfl rfl (by first | exact cmp_gt_t (by omega) | exact cmp_gt_f (by omega) ) ?_) ) | (refine mx_ar rfl rfl rfl rfl rfl rfl (IntWalk.i64_in _ (by omega)) rfl ?_ ) ) | (refine g_pick rfl ?_; refine mx_or rfl rfl rfl rfl rfl rfl ?_ ) ) | refine cw_seq ?_ | refine cw_line rfl ?_ | refine cw_cond_t rfl ?_ | refine cw_ret ?_ | refine pw_then ?_ | refine pw_then_r ?_ ))
    exact pw_rets rfl [_, _] ⟨rfl, rfl, trivial⟩ rfl fun w hw => ⟨rfl, hw.keep.grow⟩
theorem part75s (bp bd n cap g : Nat) (p m : Nat) (hn : n ≤ 1000000) (hg : g ≤ n) (hc : n ≤ cap) (hok : okP n g p m = true) (w : World) (h : (row bp 98 (hdr bd n cap g)).holds w) :
    Calls Try.prog 75 #[.pointer (some ⟨bp, 0, none⟩), .int .i64 p, .int .i64 m] w fun e w' => e = .returned (.tuple #[.slice (some ⟨bd, g + p, none⟩) m (cap - (g + p)), .bool true]) ∧ Grow w w' := by
  obtain ⟨p', m', e1, e2, k1, k2, k3, hsz⟩ := okP_spec hok
  obtain rfl : p = p' := by omega
  obtain rfl : m = m' := by omega
  refine enter3 (S := fun _ => False) 36 Try.func75 rfl rfl rfl (Ok.start w) ?_
  have hS0 : ¬ (fun _ : Nat => False) bp := id
  (repeat (first | ((refine (?_ : MX _ _ _ _ _ _ _ _ _ _ _)); first | refine mx_end ?_ | (refine mx_mv _ rfl rfl (by conv => {lhs; whnf}) ?_) | (refine mx_as _ rfl rfl (by conv => {lhs; whnf}) ?_) | (refine g_bin rfl ?_; ( (refine mx_cmpl .lss rfl rfl rfl rfl rfl (by exact cmp_lt_f (by omega) ) ?_) ) ) | (refine mx_not rfl rfl rfl ?_) | (refine g_pick rfl ?_; refine mx_or rfl rfl rfl rfl rfl rfl ?_ ) | (refine g_call rfl ?_; (refine g_cf 63 rfl ?_; refine mx_call rfl rfl rfl Try.func63 rfl rfl rfl _ (fun w => sized63v _ _ (by assumption) w) rfl ?_) )) | refine cw_seq ?_ | refine cw_line rfl ?_ | refine pw_then ?_ ))
  refine g_cf 52 rfl ?_
  refine a_callv rfl rfl rfl rfl Try.func52 rfl rfl rfl _ (fun w' hw => len52 bp bd n cap g hn hg w' (hw.orow h hS0)) rfl ?_
  (repeat (first | ((refine (?_ : MX _ _ _ _ _ _ _ _ _ _ _)); first | refine mx_end ?_ | (refine mx_mv _ rfl rfl (by conv => {lhs; whnf}) ?_) | (first | refine mx_fa0 E rfl rfl rfl rfl ?_ | refine mx_fa E rfl rfl rfl rfl ?_) | (refine g_load rfl ?_; refine mx_orow E rfl rfl rfl rfl rfl (by assumption) (by assumption) (by rfl ) rfl ?_ ) | (refine g_bin rfl ?_; first | ( (refine mx_cmpl .gtr rfl rfl rfl rfl rfl (by first | exact cmp_gt_f (by omega) | rfl) ?_) ) | (refine mx_ar rfl rfl rfl rfl rfl rfl (IntWalk.i64_in _ (by omega)) rfl ?_ ) ) | (refine mx_nc rfl rfl rfl ?_) | (refine g_pick rfl ?_; refine mx_or rfl rfl rfl rfl rfl rfl ?_ ) | ( refine mx_slice_lo E rfl rfl rfl rfl rfl rfl (by omega) rfl ?_) ) | refine cw_seq ?_ | (refine cw_drawq mixed rfl (by kernel_rfl) rfl ?_) | refine cw_cond_f rfl ?_ | refine cw_skip ?_ | refine pw_then ?_ ))
  rw [sla_at bd cap (g + p) (by omega)]
  (repeat (first | ((refine (?_ : MX _ _ _ _ _ _ _ _ _ _ _)); first | refine mx_end ?_ | (refine mx_mv _ rfl rfl (by conv => {lhs; whnf}) ?_) | (refine mx_as _ rfl rfl (by conv => {lhs; whnf}) ?_) | (first | refine mx_fa0 E rfl rfl rfl rfl ?_ | refine mx_fa E rfl rfl rfl rfl ?_) | (refine g_load rfl ?_; first | refine mx_get E rfl rfl rfl rfl rfl (by first | rfl | exact rd_Vk _ | exact rd_Vn _ | exact rd_Vi _) rfl ?_ | refine mx_getn E rfl rfl rfl rfl rfl (by first | exact Vr.all rfl | exact ⟨⟨rfl⟩, rfl⟩) rfl ?_ | refine mx_oldn E rfl rfl rfl rfl rfl (by assumption) (by assumption) (rfl) rfl ?_ | refine mx_old1 E rfl rfl rfl rfl rfl (by assumption) (by assumption) rfl ?_ | refine mx_orow E rfl rfl rfl rfl rfl (by assumption) (by assumption) (by first | rfl | exact rd_Vk _ | exact rd_Vn _ | exact rd_Vi _) rfl ?_ | refine mx_orown E rfl rfl rfl rfl rfl (by assumption) (by assumption) (by first | exact Vr.all rfl | exact ⟨⟨rfl⟩, rfl⟩) rfl ?_ | refine mx_geta E rfl rfl rfl rfl rfl rfl (by first | rfl | exact rd_Vk _ | exact rd_Vn _ | exact rd_Vi _) rfl ?_ | refine mx_getna E rfl rfl rfl rfl rfl rfl (by first | exact Vr.all rfl | exact ⟨⟨rfl⟩, rfl⟩) rfl ?_) | (refine g_bin rfl ?_; first | (first | (refine mx_cmpl .eql rfl rfl rfl rfl rfl (by first | exact cmp_eq_t (by omega) | exact cmp_eq_f (by omega) | rfl) ?_) | (refine mx_cmpl .neq rfl rfl rfl rfl rfl (by first | exact cmp_ne_t (by omega) | exact cmp_ne_f (by omega) | rfl) ?_) | (refine mx_cmpl .lss rfl rfl rfl rfl rfl (by first | exact cmp_lt_t (by omega) | exact cmp_lt_f (by omega) | rfl) ?_) | (refine mx_cmpl .leq rfl rfl rfl rfl rfl (by first | exact cmp_le_t (by omega) | exact cmp_le_f (by omega) | rfl) ?_) | (refine mx_cmpl .gtr rfl rfl rfl rfl rfl (by first | exact cmp_gt_t (by omega) | exact cmp_gt_f (by omega) | rfl) ?_) | (refine mx_cmpl .geq rfl rfl rfl rfl rfl (by first | exact cmp_ge_t (by omega) | exact cmp_ge_f (by omega) | rfl) ?_)) | (first | refine mx_ar rfl rfl rfl rfl rfl rfl (IntWalk.i64_in _ (by omega)) rfl ?_ | refine mx_ar rfl rfl rfl rfl rfl rfl (IntWalk.u64_in _ (by omega)) rfl ?_ | refine mx_ar rfl rfl rfl rfl rfl rfl (IntWalk.u8_in _ (by omega)) rfl ?_ | refine mx_ar rfl rfl rfl rfl rfl rfl rfl rfl ?_) | (first | refine mx_eqs rfl rfl rfl rfl rfl rfl ?_ | refine mx_nes rfl rfl rfl rfl rfl rfl ?_ | refine mx_eq rfl rfl rfl rfl rfl rfl ?_ | refine mx_ne rfl rfl rfl rfl rfl rfl ?_) | refine mx_bsame E rfl rfl rfl rfl rfl rfl rfl ?_ | refine mx_bnsame E rfl rfl rfl rfl rfl rfl rfl ?_ | refine mx_beq E rfl rfl rfl rfl rfl rfl rfl ?_ | refine mx_bne E rfl rfl rfl rfl rfl rfl rfl ?_ | refine mx_dv rfl rfl rfl rfl rfl (by decide) (congrArg some (by assumption)) rfl rfl ?_ | refine mx_dv rfl rfl rfl rfl rfl (by decide) rfl rfl rfl ?_ | refine mx_bit rfl rfl rfl rfl rfl (congrArg some (by assumption)) rfl rfl ?_ | refine mx_bit rfl rfl rfl rfl rfl rfl rfl rfl ?_ | refine mx_sh rfl rfl rfl rfl rfl (by omega) (congrArg some (by assumption)) rfl rfl ?_ | refine mx_sh rfl rfl rfl rfl rfl (by omega) rfl rfl rfl ?_) | (refine g_ix rfl ?_; first | refine mx_ixan E rfl rfl rfl rfl rfl rfl (by omega) rfl ?_ | refine mx_ixsn E rfl rfl rfl rfl rfl rfl (by omega) rfl ?_ | refine mx_ixsi E rfl rfl rfl rfl rfl rfl (by omega) (by omega) rfl ?_ | refine mx_ixa E rfl rfl rfl rfl rfl rfl (by omega) (by omega) rfl rfl ?_) | (refine mx_nc rfl rfl rfl ?_) | (refine g_bi .len rfl ?_; refine mx_len E rfl rfl rfl rfl ?_) | (refine mx_not rfl rfl rfl ?_) | (refine mx_ex _ rfl rfl rfl (by conv => {lhs; whnf}) ?_) | (refine mx_skip rfl rfl rfl ?_) | (refine g_pick rfl ?_; first | refine mx_andf rfl rfl rfl rfl rfl ?_ | refine mx_ort rfl rfl rfl rfl rfl ?_ | refine mx_and rfl rfl rfl rfl rfl rfl ?_ | refine mx_or rfl rfl rfl rfl rfl rfl ?_ | refine mx_pickt _ rfl rfl rfl rfl (by conv => {lhs; whnf}) rfl ?_ | refine mx_pickf _ rfl rfl rfl rfl (by conv => {lhs; whnf}) rfl ?_) | (refine g_store rfl ?_; first | refine s_l E rfl rfl rfl rfl rfl rfl rfl (by first | exact Sp.all rfl | exact Sp.lit rfl rfl) rfl ?_ | refine s_1 E rfl rfl rfl rfl rfl rfl rfl rfl (by first | exact sp0 | exact spS sp0 | exact Sp.lit rfl rfl) rfl ?_) | (refine g_build rfl ?_; first | refine mx_build rfl rfl rfl rfl (b98 _ _ _ _) rfl ?_ | refine mx_build rfl rfl rfl rfl (b100 _ _ _ _) rfl ?_) | (refine a_new rfl rfl rfl rfl rfl (fun _ => ?_)) | (refine g_box rfl ?_; first | refine a_boxl rfl rfl rfl rfl rfl rfl (fun _ => ?_) | refine a_box1 rfl rfl rfl rfl rfl rfl rfl (fun _ => ?_)) | (first | refine mx_indexn E rfl rfl rfl rfl rfl rfl rfl rfl (by omega) (by first | exact vr_RR _ (by omega)) rfl ?_ | refine mx_index E rfl rfl rfl rfl rfl rfl rfl rfl (by omega) (by omega) (by first | exact vr_RR _ (by omega)) rfl ?_) | (refine g_bs rfl ?_; first | refine a_bs0 E rfl rfl rfl rfl rfl rfl (fun _ => ?_) | refine a_bsi E rfl rfl rfl rfl rfl (by (repeat (first | exact EvI.nil | (apply EvI.cons; rfl)))) (by rfl) (by rfl) (by rfl) rfl (fun _ => ?_)) | (refine g_conv rfl ?_; first | refine mx_cv E rfl rfl rfl rfl rfl rfl (by assumption) rfl ?_ | refine mx_cv E rfl rfl rfl rfl rfl rfl (IntWalk.i64_in _ (by omega)) rfl ?_ | refine mx_cv E rfl rfl rfl rfl rfl rfl (IntWalk.u64_in _ (by omega)) rfl ?_ | refine mx_cv E rfl rfl rfl rfl rfl rfl (IntWalk.u8_in _ (by omega)) rfl ?_ | refine mx_cv E rfl rfl rfl rfl rfl rfl rfl rfl ?_) | (first | (refine g_bi .max rfl ?_; refine mx_maxi rfl rfl rfl rfl rfl rfl rfl ?_) | (refine g_bi .min rfl ?_; refine mx_mini rfl rfl rfl rfl rfl rfl rfl ?_)) | (first | refine mx_negi rfl rfl rfl rfl (IntWalk.i64_in _ (by omega)) rfl ?_ | refine mx_nilp rfl rfl false rfl (by kernel_rfl) rfl rfl rfl rfl ?_ | refine mx_nilp rfl rfl true rfl (by kernel_rfl) rfl rfl rfl rfl ?_ | refine mx_slice_lohi E rfl rfl rfl rfl rfl rfl rfl (by omega) (by omega) rfl ?_ | refine mx_slice_lo E rfl rfl rfl rfl rfl rfl (by omega) rfl ?_) | (refine g_call rfl ?_; first | (refine g_cf 63 rfl ?_; refine mx_call rfl rfl rfl Try.func63 rfl rfl rfl _ (fun w => sized63v _ _ (by assumption) w) rfl ?_) | (refine g_cf 69 rfl ?_; refine mx_call rfl rfl rfl Try.func69 rfl rfl rfl _ (fun w => sized69v _ _ (by assumption) w) rfl ?_))) | refine cw_seq ?_ | refine cw_line rfl ?_ | (refine cw_drawq mixed rfl (by kernel_rfl) rfl ?_) | refine cw_block ?_ | refine cw_cond_f rfl ?_ | refine cw_cond_t rfl ?_ | refine cw_skip ?_ | refine cw_exit ?_ | refine cw_ret ?_ | refine pw_then ?_ | refine pw_then_x ?_ | refine pw_then_r ?_ | refine pw_block ?_ | refine pw_block_e ?_ | refine pw_block_n rfl ?_ | refine pw_block_r ?_))
  refine mx_slice_to E rfl rfl rfl rfl rfl rfl (by omega) (by omega) rfl ?_
  rw [Int.toNat_natCast]
  (repeat (first | ((refine (?_ : MX _ _ _ _ _ _ _ _ _ _ _)); first | refine mx_end ?_ | (refine mx_as _ rfl rfl (by conv => {lhs; whnf}) ?_) ) | refine cw_ret ?_ | refine pw_then ?_ ))
  exact pw_rets rfl [_, _] ⟨rfl, rfl, trivial⟩ rfl fun w hw => ⟨rfl, hw.keep.grow⟩
/-- What a load of a packet tells. -/
def ldP (cs : List Int) (g : Nat) (off size : Int) : Int × Bool := if okP cs.length g off size = true then (numB ((cs.drop (g + off.toNat)).take size.toNat), true) else (0, false)
theorem cut_byts {cs : List Int} (h : Byts cs) (i m : Nat) : Byts ((cs.drop i).take m) := take_byts (drop_byts h i) m
theorem load46 (bp bd n cap g : Nat) (cs : List Int) (rest : List Value) (hb : Byts cs) (hm : cs.length = n) (hc : n ≤ cap) (hn : n ≤ 1000000) (hg : g ≤ n) (off size : Int) (w : World) (h : (row bp 98 (hdr bd n cap g)).holds w) (h2 : (row bd 5 (cs.flatMap cU ++ rest)).holds w) :
    Calls Try.prog 46 #[.pointer (some ⟨bp, 0, none⟩), .int .i64 off, .int .i64 size] w fun e w' => e = .returned (.tuple #[.int .u64 (ldP cs g off size).1, .bool (ldP cs g off size).2]) ∧ Grow w w' := by
  refine enter3 (S := fun _ => False) 20 Try.func46 rfl rfl rfl (Ok.start w) ?_
  have hS0 : ¬ (fun _ : Nat => False) bp := id
  unfold ldP
  rw [hm]
  cases hok : okP n g off size with
  | false =>
    rw [if_neg (by simp)]
    (repeat (first | ((refine (?_ : MX _ _ _ _ _ _ _ _ _ _ _)); first | refine mx_end ?_ | (refine mx_mv _ rfl rfl (by conv => {lhs; whnf}) ?_) | (refine mx_as _ rfl rfl (by conv => {lhs; whnf}) ?_) ) | refine cw_seq ?_ | refine cw_line rfl ?_ | refine pw_then ?_ ))
    refine g_cf 75 rfl ?_
    refine a_callv rfl rfl rfl rfl Try.func75 rfl rfl rfl _ (fun w' hw => part75n bp bd n cap g off size hn hg hok w' (hw.orow h hS0)) rfl ?_
    (repeat (first | ((refine (?_ : MX _ _ _ _ _ _ _ _ _ _ _)); first | refine mx_end ?_ | (refine mx_mv _ rfl rfl (by conv => {lhs; whnf}) ?_) | (refine mx_as _ rfl rfl (by conv => {lhs; whnf}) ?_) | (refine mx_ex _ rfl rfl rfl (by conv => {lhs; whnf}) ?_) ) | refine cw_seq ?_ | refine cw_line rfl ?_ | refine pw_then ?_ ))
    refine g_cf 68 rfl ?_
    refine a_callv rfl rfl rfl rfl Try.func68 rfl rfl rfl _ (fun w' hw => number68 none 0 0 [] rfl (by omega) (fun _ h => by cases h) w' (fun h => absurd rfl h)) rfl ?_
    (repeat (first | ((refine (?_ : MX _ _ _ _ _ _ _ _ _ _ _)); first | refine mx_end ?_ | (refine mx_mv _ rfl rfl (by conv => {lhs; whnf}) ?_) | (refine mx_as _ rfl rfl (by conv => {lhs; whnf}) ?_) ) | refine cw_ret ?_ | refine pw_then ?_ ))
    exact pw_rets rfl [_, _] ⟨rfl, rfl, trivial⟩ rfl fun w hw => ⟨rfl, hw.keep.grow⟩
  | true =>
    rw [if_pos rfl]
    obtain ⟨p, m, rfl, rfl, k1, k2, k3, hsz⟩ := okP_spec hok
    simp only [Int.toNat_natCast]
    (repeat (first | ((refine (?_ : MX _ _ _ _ _ _ _ _ _ _ _)); first | refine mx_end ?_ | (refine mx_mv _ rfl rfl (by conv => {lhs; whnf}) ?_) | (refine mx_as _ rfl rfl (by conv => {lhs; whnf}) ?_) ) | refine cw_seq ?_ | refine cw_line rfl ?_ | refine pw_then ?_ ))
    refine g_cf 75 rfl ?_
    refine a_callv rfl rfl rfl rfl Try.func75 rfl rfl rfl _ (fun w' hw => part75s bp bd n cap g p m hn hg hc hok w' (hw.orow h hS0)) rfl ?_
    (repeat (first | ((refine (?_ : MX _ _ _ _ _ _ _ _ _ _ _)); first | refine mx_end ?_ | (refine mx_mv _ rfl rfl (by conv => {lhs; whnf}) ?_) | (refine mx_as _ rfl rfl (by conv => {lhs; whnf}) ?_) | (refine mx_ex _ rfl rfl rfl (by conv => {lhs; whnf}) ?_) ) | refine cw_seq ?_ | refine cw_line rfl ?_ | refine pw_then ?_ ))
    refine g_cf 68 rfl ?_
    refine a_callv rfl rfl rfl rfl Try.func68 rfl rfl rfl _ (fun w' hw => number68 _ m _ ((cs.drop (g + p)).take m) (by rw [List.length_take, List.length_drop]; omega) k2 (cut_byts hb _ _) w' (by
      have := ((row_pre len_U (hw.orow h2 id)).drop cap (g + p) (by omega)).take m
      unfold sla at this
      rw [if_neg (by omega)] at this
      simpa [add_at] using this)) rfl ?_
    (repeat (first | ((refine (?_ : MX _ _ _ _ _ _ _ _ _ _ _)); first | refine mx_end ?_ | (refine mx_mv _ rfl rfl (by conv => {lhs; whnf}) ?_) | (refine mx_as _ rfl rfl (by conv => {lhs; whnf}) ?_) ) | refine cw_ret ?_ | refine pw_then ?_ ))
    exact pw_rets rfl [_, _] ⟨rfl, rfl, trivial⟩ rfl fun w hw => ⟨rfl, hw.keep.grow⟩
theorem load47 (bp bd n cap g : Nat) (cs : List Int) (rest : List Value) (hb : Byts cs) (hm : cs.length = n) (hc : n ≤ cap) (hn : n ≤ 1000000) (hg : g ≤ n) (off size : Int) (w : World) (h : (row bp 100 (hdr bd n cap g)).holds w) (h2 : (row bd 5 (cs.flatMap cU ++ rest)).holds w) :
    Calls Try.prog 47 #[.pointer (some ⟨bp, 0, none⟩), .int .i64 off, .int .i64 size] w fun e w' => e = .returned (.tuple #[.int .u64 (ldP cs g off size).1, .bool (ldP cs g off size).2]) ∧ Grow w w' := by
  refine enter3 (S := fun _ => False) 33 Try.func47 rfl rfl rfl (Ok.start w) ?_
  have hS0 : ¬ (fun _ : Nat => False) bp := id
  unfold ldP
  rw [hm]
  cases hok : okP n g off size with
  | false =>
    rw [if_neg (by simp)]
    (repeat (first | ((refine (?_ : MX _ _ _ _ _ _ _ _ _ _ _)); first | refine mx_end ?_ | (refine mx_mv _ rfl rfl (by conv => {lhs; whnf}) ?_) | (refine mx_as _ rfl rfl (by conv => {lhs; whnf}) ?_) ) | refine cw_seq ?_ | refine cw_line rfl ?_ | refine pw_then ?_ ))
    refine g_cf 76 rfl ?_
    refine a_callv rfl rfl rfl rfl Try.func76 rfl rfl rfl (.bool false) (fun w' hw => hok ▸ inside76 bp bd n cap g off size hn hg w' (hw.orow h hS0)) rfl ?_
    (repeat (first | ((refine (?_ : MX _ _ _ _ _ _ _ _ _ _ _)); first | refine mx_end ?_ | (refine mx_as _ rfl rfl (by conv => {lhs; whnf}) ?_) | (refine mx_not rfl rfl rfl ?_) ) | refine cw_seq ?_ | refine cw_line rfl ?_ | refine cw_cond_t rfl ?_ | refine cw_ret ?_ | refine pw_then ?_ | refine pw_then_r ?_ ))
    exact pw_rets rfl [_, _] ⟨rfl, rfl, trivial⟩ rfl fun w hw => ⟨rfl, hw.keep.grow⟩
  | true =>
    rw [if_pos rfl]
    obtain ⟨p, m, rfl, rfl, k1, k2, k3, hsz⟩ := okP_spec hok
    simp only [Int.toNat_natCast]
    (repeat (first | ((refine (?_ : MX _ _ _ _ _ _ _ _ _ _ _)); first | refine mx_end ?_ | (refine mx_mv _ rfl rfl (by conv => {lhs; whnf}) ?_) | (refine mx_as _ rfl rfl (by conv => {lhs; whnf}) ?_) ) | refine cw_seq ?_ | refine cw_line rfl ?_ | refine pw_then ?_ ))
    refine g_cf 76 rfl ?_
    refine a_callv rfl rfl rfl rfl Try.func76 rfl rfl rfl (.bool true) (fun w' hw => hok ▸ inside76 bp bd n cap g p m hn hg w' (hw.orow h hS0)) rfl ?_
    (repeat (first | ((refine (?_ : MX _ _ _ _ _ _ _ _ _ _ _)); first | refine mx_end ?_ | (refine mx_mv _ rfl rfl (by conv => {lhs; whnf}) ?_) | (first | refine mx_fa0 E rfl rfl rfl rfl ?_ | refine mx_fa E rfl rfl rfl rfl ?_) | (refine g_load rfl ?_; refine mx_orow E rfl rfl rfl rfl rfl (by assumption) (by assumption) (by rfl ) rfl ?_ ) | (refine g_bin rfl ?_; (refine mx_ar rfl rfl rfl rfl rfl rfl (IntWalk.i64_in _ (by omega)) rfl ?_ ) ) | (refine mx_nc rfl rfl rfl ?_) | (refine mx_not rfl rfl rfl ?_) | ( refine mx_slice_lohi E rfl rfl rfl rfl rfl rfl rfl (by omega) (by omega) rfl ?_ ) ) | refine cw_seq ?_ | (refine cw_drawq mixed rfl (by kernel_rfl) rfl ?_) | refine cw_cond_f rfl ?_ | refine cw_skip ?_ | refine pw_then ?_ ))
    rw [sla_at bd cap (g + p) (by omega), (by omega : g + p + m - (g + p) = m)]
    refine g_cf 72 rfl ?_
    refine mx_call' rfl rfl rfl Try.func72 rfl rfl rfl _ (fun w' hw => number72 _ m _ ((cs.drop (g + p)).take m) (by rw [List.length_take, List.length_drop]; omega) k2 (cut_byts hb _ _) w' (by
      have := ((row_pre len_U (hw.orow h2 id)).drop cap (g + p) (by omega)).take m
      unfold sla at this
      rw [if_neg (by omega)] at this
      simpa [add_at] using this)) rfl ?_
    (repeat (first | ((refine (?_ : MX _ _ _ _ _ _ _ _ _ _ _)); first | refine mx_end ?_ | (refine mx_as _ rfl rfl (by conv => {lhs; whnf}) ?_) ) | refine cw_ret ?_ | refine pw_then ?_ ))
    exact pw_rets rfl [_, _] ⟨rfl, rfl, trivial⟩ rfl fun w hw => ⟨rfl, hw.keep.grow⟩
end Go.Proofs.Ytdimcafdmaidpaa
