/- The program's table: where a key stands. -/
import Derived.Test.YtminmbkhlnaabaaHb
set_option maxRecDepth 100000
set_option maxHeartbeats 8000000
set_option linter.unusedSimpArgs false
set_option linter.unusedVariables false
namespace Go.Proofs.Ytminmbkhlnaabaa
open Go Go.Sx Go.RowKit
instance : ZeroT Try.prog 3 [.int .i64 0] := ⟨by kernel_rfl⟩
def kvH (pl : List PLc) : List Value := pl.flatMap fun c => c.k.map (Value.int .u8)
def svH (pl : List PLc) : List Value := pl.map fun c => Value.int .u8 c.s
def cvH (pl : List PLc) : List Value := pl.map fun c => Value.int .i64 c.c
attribute [irreducible] kvH svH cvH
def BytK (k : List Int) : Prop := ∀ x ∈ k, 0 ≤ x ∧ x < 256
def OkP (kl : Nat) (pl : List PLc) : Prop := ∀ c ∈ pl, c.k.length = kl ∧ BytK c.k
theorem svH_at {pl : List PLc} {p : Nat} {c : PLc} (h : pl[p]? = some c) : (svH pl)[p]? = some (.int .u8 c.s) := by simp [svH, h]
theorem cvH_at {pl : List PLc} {p : Nat} {c : PLc} (h : pl[p]? = some c) : (cvH pl)[p]? = some (.int .i64 c.c) := by simp [cvH, h]
theorem fm_at {α : Type} {z : Nat} {g : α → List Value} : ∀ {xs : List α} (hz : ∀ x ∈ xs, (g x).length = z) {i j : Nat} {x : α}, xs[i]? = some x → j < z → (xs.flatMap g)[i * z + j]? = (g x)[j]?
  | [], _, i, j, x, h, _ => by simp at h
  | y :: xs, hz, 0, j, x, h, hj => by
    obtain rfl : y = x := by simpa using h
    rw [List.flatMap_cons, Nat.zero_mul, Nat.zero_add, List.getElem?_append_left (by rw [hz y (by simp)]; exact hj)]
  | y :: xs, hz, i + 1, j, x, h, hj => by
    have hy := hz y (by simp)
    rw [List.flatMap_cons, List.getElem?_append_right (by rw [hy, Nat.succ_mul]; omega), hy, show (i + 1) * z + j - z = i * z + j by rw [Nat.succ_mul]; omega]
    exact fm_at (fun x hx => hz x (by simp [hx])) (by simpa using h) hj
theorem fm_len {α : Type} {z : Nat} {g : α → List Value} : ∀ {xs : List α} (hz : ∀ x ∈ xs, (g x).length = z), (xs.flatMap g).length = xs.length * z
  | [], _ => by simp
  | y :: xs, hz => by
    rw [List.flatMap_cons, List.length_append, hz y (by simp), fm_len (fun x hx => hz x (by simp [hx])), List.length_cons, Nat.succ_mul]
    omega
theorem kvH_len {kl : Nat} {pl : List PLc} (h : OkP kl pl) : (kvH pl).length = pl.length * kl := by
  unfold kvH
  exact fm_len fun x hx => by rw [List.length_map]; exact (h x hx).1
theorem kvH_in {kl : Nat} {pl : List PLc} (h : OkP kl pl) {p : Nat} {c : PLc} (hc : pl[p]? = some c) {w : World} {kb : Nat} (hr : (row kb 5 (kvH pl)).holds w) : InL w (some ⟨kb, p * kl, none⟩) 1 cU c.k := fun _ => ⟨kb, p * kl, rfl, fun i x hx j v hj => by
  have hj0 : j = 0 := by
    have := (List.getElem?_eq_some_iff.1 hj).1
    simpa using this
  subst hj0
  obtain rfl : Value.int .u8 x = v := by simpa using hj
  have hlen := (h c (List.mem_of_getElem? hc)).1
  have hi : i < kl := by rw [← hlen]; exact (List.getElem?_eq_some_iff.1 hx).1
  rw [Nat.mul_one, Nat.add_zero]
  refine row_cell hr ?_
  unfold kvH
  rw [fm_at (z := kl) (fun x hx => by rw [List.length_map]; exact (h x hx).1) hc hi]
  simp [hx]⟩
def stpH (pl : List PLc) (k : List Int) (p : Nat) : Option (Option Nat) := match pl[p]? with
  | some c => if c.s = 0 then some none else if c.s = 1 ∧ c.k = k then some (some p) else none
  | none => none
def lookH (pl : List PLc) (kl : Nat) (k : List Int) : Option Nat := if k.length = kl then ((wayL (homeK k pl.length) pl.length).findSome? (stpH pl k)).getD none else none
def oixH : Option Nat → Int
  | some i => i
  | none => -1
theorem fs_prefix {α β : Type} {f : α → Option β} {l l' : List α} (h : l <+: l') {r : β} (hr : l.findSome? f = some r) : l'.findSome? f = some r := by
  obtain ⟨t, rfl⟩ := h
  rw [List.findSome?_append, hr]
  rfl
theorem fs_snoc {α β : Type} {f : α → Option β} {l : List α} {x : α} (h : l.findSome? f = none) : (l ++ [x]).findSome? f = f x := by
  rw [List.findSome?_append, h]
  simp
theorem eq72v (ad ad' : Option Addr) (m cap m' cap' : Nat) (a b : List Int) (v : Bool) (hv : decide (a = b) = v) (ha : BytK a) (hb : BytK b) (hm : a.length = m) (hm' : b.length = m') (w : World) (hl : InL w ad 1 cU a) (hl' : InL w ad' 1 cU b) :
    Calls Try.prog 72 #[.slice ad m cap, .slice ad' m' cap'] w fun e w' => e = .returned (.bool v) ∧ Grow w w' := hv ▸ eq72 ad ad' m cap m' cap' a b ha hb hm hm' w hl hl'
theorem place61 (bx kb sb cb kl mx n : Nat) (pl : List PLc) (hP0 : 0 < pl.length) (hP : pl.length ≤ 1000) (hkl : kl ≤ 1000) (hkl0 : 0 < kl) (hok : OkP kl pl) (ad : Option Addr) (m cap : Nat) (k : List Int) (hkb : BytK k) (hm : k.length = m) (hs : m ≤ 1000000) (w : World)
    (hrx : (row bx 87 (hdH kb sb cb kl mx n pl.length)).holds w) (hrk : (row kb 5 (kvH pl)).holds w) (hrs : (row sb 5 (svH pl)).holds w) (hl : InL w ad 1 cU k) :
    Calls Try.prog 61 #[.pointer (some ⟨bx, 0, none⟩), .slice ad m cap] w fun e w' => e = .returned (.int .i64 (oixH (lookH pl kl k))) ∧ Grow w w' := by
  refine enterG2 (m := 3) (S := fun _ => False) (H := []) 43 Try.func61 rfl rfl rfl (Ok.start w) ?_
  subst hm
  have hSx : ¬ (fun _ : Nat => False) bx := id
  refine cg_seq ?_; refine cg_line rfl rfl ?_; (repeat (first | ((refine (?_ : MX _ _ _ _ _ _ _ _ _ _ _)); first | refine mx_end ?_ | (refine a_new rfl rfl rfl rfl rfl (fun _ => ?_)) | (refine g_box rfl ?_; refine a_box1 rfl rfl rfl rfl rfl rfl rfl (fun _ => ?_)) ) | refine pg_then ?_))
  rename_i b2 b3 b4
  by_cases hlen : (k.length : Int) = kl
  case neg =>
    have e : lookH pl kl k = none := if_neg (by omega)
    rw [e]
    (repeat (first | ((refine (?_ : MX _ _ _ _ _ _ _ _ _ _ _)); first | refine mx_end ?_ | (refine mx_fa0 E rfl rfl rfl rfl ?_ ) | (refine g_load rfl ?_; first | refine mx_get E rfl rfl rfl rfl rfl (by rfl) rfl ?_ | refine mx_orow E rfl rfl rfl rfl rfl (by assumption) (by assumption) (by rfl) rfl ?_ ) | (refine g_bin rfl ?_; ( (refine mx_cmpl .neq rfl rfl rfl rfl rfl (by exact cmp_ne_t (by omega) ) ?_) ) ) | (refine mx_nc rfl rfl rfl ?_) | (refine g_bi .len rfl ?_; refine mx_len E rfl rfl rfl rfl ?_) | (refine g_store rfl ?_; refine s_1 E rfl rfl rfl rfl rfl rfl rfl rfl (by exact sp0 ) rfl ?_) ) | refine cg_seq ?_ | refine cg_line rfl rfl ?_ | (refine cg_drawq rfl mixed rfl (by kernel_rfl) rfl ?_) | refine cg_cond_t rfl ?_ | refine cg_ret ?_ | refine pg_then ?_ | refine pg_then_r ?_ ))
    exact pg_ret0 (pw_retc1 E (j := 0) rfl rfl rfl rfl rfl rfl fun w hw => ⟨rfl, hw.keep.grow⟩) rfl
  have e : lookH pl kl k = ((wayL (homeK k pl.length) pl.length).findSome? (stpH pl k)).getD none := if_pos (by omega)
  rw [e]
  (repeat (first | ((refine (?_ : MX _ _ _ _ _ _ _ _ _ _ _)); first | refine mx_end ?_ | (refine mx_fa0 E rfl rfl rfl rfl ?_ ) | (refine g_load rfl ?_; first | refine mx_get E rfl rfl rfl rfl rfl (by rfl) rfl ?_ | refine mx_orow E rfl rfl rfl rfl rfl (by assumption) (by assumption) (by rfl) rfl ?_ ) | (refine g_bin rfl ?_; ( (refine mx_cmpl .neq rfl rfl rfl rfl rfl (by exact cmp_ne_f (by omega) ) ?_) ) ) | (refine mx_nc rfl rfl rfl ?_) | (refine g_bi .len rfl ?_; refine mx_len E rfl rfl rfl rfl ?_) ) | refine cg_seq ?_ | refine cg_line rfl rfl ?_ | (refine cg_drawq rfl mixed rfl (by kernel_rfl) rfl ?_) | refine cg_cond_f rfl ?_ | refine cg_skip ?_ | refine pg_then ?_ ))
  refine g_cf 62 rfl ?_
  refine a_callL rfl rfl rfl rfl Try.func62 rfl rfl rfl [] _ rfl (fun a : Nat × Nat => .func (.func 73) #[] #[.pointer (some ⟨a.1, 0, none⟩), .pointer (some ⟨a.2, 0, none⟩)]) (fun a => [row a.1 22 [.slice ad k.length cap], row a.2 54 [.pointer (some ⟨bx, 0, none⟩)]]) (fun w' hw _ => way62 bx ad k.length cap w') (fun _ => rfl) (fun _ _ _ => trivial) (fun a => ?_)
  obtain ⟨a1, a2⟩ := a
  dsimp only [List.cons_append, List.nil_append]
  (repeat (first | ((refine (?_ : MX _ _ _ _ _ _ _ _ _ _ _)); refine mx_end ?_ ) | refine cg_block ?_ | refine pg_then ?_ ))
  refine cg_range (α := {p : Nat // p < pl.length}) (by omega) (gf := 73) (lb := #[.pointer (some ⟨a1, 0, none⟩), .pointer (some ⟨a2, 0, none⟩)]) rfl (eg_of Try.func73 rfl rfl) [row a1 22 [.slice ad k.length cap], row a2 54 [.pointer (some ⟨bx, 0, none⟩)], row bx 87 (hdH kb sb cb kl mx n pl.length)]
    (fun w' hw => way73 (3 - 1) a1 a2 bx kb sb cb kl mx n pl.length hP0 hP ad k.length cap k rfl (by omega) w' (hw.holds 0 _ rfl) (hw.holds 1 _ rfl) (hw.orow hrx hSx) (hl.keep hw fun _ _ _ h => h)) (fun _ => rfl) _ _ (fun x => pst1) (fun x => rfl)
    (fun pre => [row a1 22 [.slice ad k.length cap], row a2 54 [.pointer (some ⟨bx, 0, none⟩)], row b4 3 [.int .i64 0], row b3 22 [.slice ad k.length cap], row b2 54 [.pointer (some ⟨bx, 0, none⟩)]])
    (fun _ pre => [row a1 22 [.slice ad k.length cap], row a2 54 [.pointer (some ⟨bx, 0, none⟩)], row b4 3 [.int .i64 (oixH (((pre.map (·.1)).findSome? (stpH pl k)).getD none))], row b3 22 [.slice ad k.length cap], row b2 54 [.pointer (some ⟨bx, 0, none⟩)]])
    (fun pre => (pre.map (·.1)).findSome? (stpH pl k) = none) (fun c pre => c = .ret ∧ ∃ r, (pre.map (·.1)).findSome? (stpH pl k) = some r) (fun _ => rfl) (fun _ _ _ => rfl) ?_ rfl rfl ?_ ?_ ?_
  · intro pre r hr
    simp only [List.mem_cons, List.not_mem_nil, or_false] at hr
    rcases hr with rfl | rfl | rfl
    · exact .inl (by simp)
    · exact .inl (by simp)
    · exact .inr ⟨hrx, fun b hb => ⟨row_lt hrx b hb, id⟩⟩
  · intro l pre x w1 hw1 hI hlt
    obtain ⟨p, hp⟩ := x
    obtain ⟨c, hc⟩ := getElem_some (xs := pl) (i := p) hp
    have hx1 := hw1.orow hrx hSx
    have hs1 := hw1.orow hrs (S := fun _ => False) id
    have hk1 := hw1.orow hrk (S := fun _ => False) id
    have hl1 := hl.keep hw1 fun _ _ _ h => h
    have hSx1 := hw1.oldN (row_lt hrx _ rfl) hSx
    have hSs1 := hw1.oldN (row_lt hrs _ rfl) (S := fun _ => False) id
    have hS1 : ∀ b off, k ≠ [] → ad = some ⟨b, off, none⟩ → ¬ domL _ b := fun b off hne e => hw1.oldN (hl.lt (fun _ => by simp) hne b off e) id
    have hSk1 := hw1.oldN (row_lt hrk _ rfl) (S := fun _ => False) id
    have hsv : (svH pl)[0 + p * 1]? = some (.int .u8 c.s) := by rw [Nat.zero_add, Nat.mul_one]; exact svH_at hc
    have hmm : (pre ++ [(⟨p, hp⟩ : {p : Nat // p < pl.length})]).map (·.1) = pre.map (·.1) ++ [p] := by simp
    have hfs : ((pre ++ [(⟨p, hp⟩ : {p : Nat // p < pl.length})]).map (·.1)).findSome? (stpH pl k) = stpH pl k p := by rw [hmm]; exact fs_snoc hI
    have hst : stpH pl k p = if c.s = 0 then some none else if c.s = 1 ∧ c.k = k then some (some p) else none := by unfold stpH; rw [hc]
    have hckl := (hok c (List.mem_of_getElem? hc)).1
    have hckb := (hok c (List.mem_of_getElem? hc)).2
    by_cases h0 : (c.s : Int) = 0
    case pos =>
      have e1 : stpH pl k p = some none := by rw [hst, if_pos (by omega)]
      (repeat (first | ((refine (?_ : MX _ _ _ _ _ _ _ _ _ _ _)); first | refine mx_end ?_ | (refine mx_mv _ rfl rfl (by conv => {lhs; whnf}) ?_) | (refine mx_as _ rfl rfl (by conv => {lhs; whnf}) ?_) | ( refine mx_fa E rfl rfl rfl rfl ?_) | (refine g_load rfl ?_; first | refine mx_get E rfl rfl rfl rfl rfl (by rfl) rfl ?_ | refine mx_orow E rfl rfl rfl rfl rfl (by assumption) (by assumption) (by first | assumption | rfl) rfl ?_ ) | (refine g_bin rfl ?_; ((refine mx_cmpl .eql rfl rfl rfl rfl rfl (by exact cmp_eq_t (by omega) ) ?_) ) ) | (refine g_ix rfl ?_; refine mx_ixsn E rfl rfl rfl rfl rfl rfl (by omega) rfl ?_ ) | (refine mx_nc rfl rfl rfl ?_) | (refine g_store rfl ?_; refine s_1 E rfl rfl rfl rfl rfl rfl rfl rfl (by exact sp0 ) rfl ?_) ) | refine cg_seq ?_ | refine cg_line rfl rfl ?_ | refine cg_block ?_ | refine cg_cond_t rfl ?_ | refine cg_ret ?_ | refine pg_then ?_ | refine pg_block_r ?_))
      exact pg_rr (fun w' h => by rw [hfs, e1]; exact h) ⟨rfl, _, hfs.trans e1⟩
    refine cg_block (cg_block ?_)
    refine cg_seq ?_; refine cg_line rfl rfl ?_; (repeat (first | ((refine (?_ : MX _ _ _ _ _ _ _ _ _ _ _)); first | refine mx_end ?_ | (refine mx_mv _ rfl rfl (by conv => {lhs; whnf}) ?_) | (refine mx_as _ rfl rfl (by conv => {lhs; whnf}) ?_) | ( refine mx_fa E rfl rfl rfl rfl ?_) | (refine g_load rfl ?_; first | refine mx_get E rfl rfl rfl rfl rfl (by rfl) rfl ?_ | refine mx_orow E rfl rfl rfl rfl rfl (by assumption) (by assumption) (by first | assumption | rfl) rfl ?_ ) | (refine g_bin rfl ?_; ((refine mx_cmpl .eql rfl rfl rfl rfl rfl (by exact cmp_eq_f (by omega) ) ?_) ) ) | (refine g_ix rfl ?_; refine mx_ixsn E rfl rfl rfl rfl rfl rfl (by omega) rfl ?_ ) | (refine mx_nc rfl rfl rfl ?_) ) | refine pg_then ?_))
    refine cg_cond_f rfl (cg_seq ?_)
    by_cases h1 : (c.s : Int) = 1
    case neg =>
      have e1 : stpH pl k p = none := by rw [hst, if_neg (by omega), if_neg (by omega)]
      refine cg_drawm rfl [0, 1, 2, 3, 4, 5, 6, 7, 8, 9, 10, 12, 11, 13, 14, 15] (fun i => or (Nat.beq i 11) (Nat.beq i 13)) [row a2 54 [.pointer (some ⟨bx, 0, none⟩)], row b3 22 [.slice ad k.length cap], row b2 54 [.pointer (some ⟨bx, 0, none⟩)]] mixed (by kernel_rfl) (fun w h => h.pick [1, 3, 4] (by simp) rfl) ?_
      (repeat (first | ((refine (?_ : MX _ _ _ _ _ _ _ _ _ _ _)); first | refine mx_end ?_ | (refine mx_mv _ rfl rfl (by conv => {lhs; whnf}) ?_) | (refine mx_as _ rfl rfl (by conv => {lhs; whnf}) ?_) | ( refine mx_fa E rfl rfl rfl rfl ?_) | (refine g_load rfl ?_; first | refine mx_get E rfl rfl rfl rfl rfl (by rfl) rfl ?_ | refine mx_orow E rfl rfl rfl rfl rfl (by assumption) (by assumption) (by first | assumption | rfl) rfl ?_ ) | (refine g_bin rfl ?_; ((refine mx_cmpl .eql rfl rfl rfl rfl rfl (by exact cmp_eq_f (by omega) ) ?_) ) ) | (refine g_ix rfl ?_; refine mx_ixsn E rfl rfl rfl rfl rfl rfl (by omega) rfl ?_ ) | (refine mx_nc rfl rfl rfl ?_) | (refine mx_skip rfl rfl rfl ?_) | (refine g_pick rfl ?_; refine mx_andf rfl rfl rfl rfl rfl ?_ ) ) | refine cg_cond_f rfl ?_ | refine cg_skip ?_ | refine pg_then ?_ | refine pg_block ?_ ))
      exact pg_rn (fun w' h => h) (hfs.trans e1)
    refine cg_drawm rfl [0, 1, 2, 3, 4, 5, 6, 7, 8, 9, 10, 12, 11, 13, 14, 15] (fun i => or (Nat.beq i 11) (Nat.beq i 13)) [row a2 54 [.pointer (some ⟨bx, 0, none⟩)], row b3 22 [.slice ad k.length cap], row b2 54 [.pointer (some ⟨bx, 0, none⟩)]] mixed (by kernel_rfl) (fun w h => h.pick [1, 3, 4] (by simp) rfl) ?_
    (repeat (((refine (?_ : MX _ _ _ _ _ _ _ _ _ _ _)); first | (refine mx_mv _ rfl rfl (by conv => {lhs; whnf}) ?_) | ( refine mx_fa E rfl rfl rfl rfl ?_) | (refine g_load rfl ?_; first | refine mx_get E rfl rfl rfl rfl rfl (by rfl) rfl ?_ | refine mx_orow E rfl rfl rfl rfl rfl (by assumption) (by assumption) (by first | assumption | rfl) rfl ?_ ) | (refine g_bin rfl ?_; ((refine mx_cmpl .eql rfl rfl rfl rfl rfl (by exact cmp_eq_t (by omega) ) ?_) ) ) | (refine g_ix rfl ?_; refine mx_ixsn E rfl rfl rfl rfl rfl rfl (by omega) rfl ?_ ) | (refine mx_nc rfl rfl rfl ?_) ) ))
    refine g_cf 63 rfl ?_
    refine a_callv rfl rfl rfl rfl Try.func63 rfl rfl rfl _ (fun w' hw => at63 bx kb sb cb kl mx n pl.length p hp hkl hP hkl0 w' (hw.orow hx1 hSx1)) rfl ?_
    (repeat (first | ((refine (?_ : MX _ _ _ _ _ _ _ _ _ _ _)); first | refine mx_end ?_ | (refine mx_mv _ rfl rfl (by conv => {lhs; whnf}) ?_) | (refine mx_as _ rfl rfl (by conv => {lhs; whnf}) ?_) | (first | refine mx_fa0 E rfl rfl rfl rfl ?_ | refine mx_fa E rfl rfl rfl rfl ?_) | (refine g_load rfl ?_; first | refine mx_get E rfl rfl rfl rfl rfl (by first | assumption | rfl) rfl ?_ | refine mx_getn E rfl rfl rfl rfl rfl (by first | exact Vr.all rfl | exact ⟨⟨rfl⟩, rfl⟩) rfl ?_ | refine mx_oldn E rfl rfl rfl rfl rfl (by assumption) (by assumption) (rfl) rfl ?_ | refine mx_old1 E rfl rfl rfl rfl rfl (by assumption) (by assumption) rfl ?_ | refine mx_orow E rfl rfl rfl rfl rfl (by assumption) (by assumption) (by first | assumption | rfl) rfl ?_ | refine mx_orown E rfl rfl rfl rfl rfl (by assumption) (by assumption) (by first | exact Vr.all rfl | exact ⟨⟨rfl⟩, rfl⟩) rfl ?_ | refine mx_geta E rfl rfl rfl rfl rfl rfl (by first | assumption | rfl) rfl ?_ | refine mx_getna E rfl rfl rfl rfl rfl rfl (by first | exact Vr.all rfl | exact ⟨⟨rfl⟩, rfl⟩) rfl ?_) | (refine g_bin rfl ?_; first | (first | (refine mx_cmpl .eql rfl rfl rfl rfl rfl (by first | exact cmp_eq_t (by omega) | exact cmp_eq_f (by omega) | rfl) ?_) | (refine mx_cmpl .neq rfl rfl rfl rfl rfl (by first | exact cmp_ne_t (by omega) | exact cmp_ne_f (by omega) | rfl) ?_) | (refine mx_cmpl .lss rfl rfl rfl rfl rfl (by first | exact cmp_lt_t (by omega) | exact cmp_lt_f (by omega) | rfl) ?_) | (refine mx_cmpl .leq rfl rfl rfl rfl rfl (by first | exact cmp_le_t (by omega) | exact cmp_le_f (by omega) | rfl) ?_) | (refine mx_cmpl .gtr rfl rfl rfl rfl rfl (by first | exact cmp_gt_t (by omega) | exact cmp_gt_f (by omega) | rfl) ?_) | (refine mx_cmpl .geq rfl rfl rfl rfl rfl (by first | exact cmp_ge_t (by omega) | exact cmp_ge_f (by omega) | rfl) ?_)) | (first | refine mx_ar rfl rfl rfl rfl rfl rfl (IntWalk.i64_in _ (by omega)) rfl ?_ | refine mx_ar rfl rfl rfl rfl rfl rfl (IntWalk.u64_in _ (by omega)) rfl ?_ | refine mx_ar rfl rfl rfl rfl rfl rfl (IntWalk.u8_in _ (by omega)) rfl ?_ | refine mx_ar rfl rfl rfl rfl rfl rfl rfl rfl ?_) | (first | refine mx_eqs rfl rfl rfl rfl rfl rfl ?_ | refine mx_nes rfl rfl rfl rfl rfl rfl ?_ | refine mx_eq rfl rfl rfl rfl rfl rfl ?_ | refine mx_ne rfl rfl rfl rfl rfl rfl ?_) | refine mx_bsame E rfl rfl rfl rfl rfl rfl rfl ?_ | refine mx_bnsame E rfl rfl rfl rfl rfl rfl rfl ?_ | refine mx_beq E rfl rfl rfl rfl rfl rfl rfl ?_ | refine mx_bne E rfl rfl rfl rfl rfl rfl rfl ?_ | refine mx_dv rfl rfl rfl rfl rfl (by decide) (congrArg some (by assumption)) rfl rfl ?_ | refine mx_dv rfl rfl rfl rfl rfl (by decide) rfl rfl rfl ?_ | refine mx_bit rfl rfl rfl rfl rfl (congrArg some (by assumption)) rfl rfl ?_ | refine mx_bit rfl rfl rfl rfl rfl rfl rfl rfl ?_ | refine mx_sh rfl rfl rfl rfl rfl (by omega) (congrArg some (by assumption)) rfl rfl ?_ | refine mx_sh rfl rfl rfl rfl rfl (by omega) rfl rfl rfl ?_) | (refine g_ix rfl ?_; first | refine mx_ixan E rfl rfl rfl rfl rfl rfl (by omega) rfl ?_ | refine mx_ixsn E rfl rfl rfl rfl rfl rfl (by omega) rfl ?_ | refine mx_ixsi E rfl rfl rfl rfl rfl rfl (by omega) (by omega) rfl ?_ | refine mx_ixa E rfl rfl rfl rfl rfl rfl (by omega) (by omega) rfl rfl ?_) | (refine mx_nc rfl rfl rfl ?_) | (refine g_bi .len rfl ?_; refine mx_len E rfl rfl rfl rfl ?_) | (refine mx_not rfl rfl rfl ?_) | (refine mx_ex _ rfl rfl rfl (by conv => {lhs; whnf}) ?_) | (refine mx_skip rfl rfl rfl ?_) | (refine g_pick rfl ?_; first | refine mx_andf rfl rfl rfl rfl rfl ?_ | refine mx_ort rfl rfl rfl rfl rfl ?_ | refine mx_and rfl rfl rfl rfl rfl rfl ?_ | refine mx_or rfl rfl rfl rfl rfl rfl ?_ | refine mx_pickt _ rfl rfl rfl rfl (by conv => {lhs; whnf}) rfl ?_ | refine mx_pickf _ rfl rfl rfl rfl (by conv => {lhs; whnf}) rfl ?_) | (refine g_store rfl ?_; first | refine s_l E rfl rfl rfl rfl rfl rfl rfl (by first | exact Sp.all rfl | exact Sp.lit rfl rfl) rfl ?_ | refine s_1 E rfl rfl rfl rfl rfl rfl rfl rfl (by first | exact sp0 | exact spS sp0 | exact spS (spS sp0) | exact Sp.lit rfl rfl) rfl ?_) | (refine g_build rfl ?_; first | refine mx_build rfl rfl rfl rfl b24_0 rfl ?_ | refine mx_build rfl rfl rfl rfl (b28_1 _) rfl ?_ | refine mx_build rfl rfl rfl rfl (b39_2 _ _) rfl ?_ | refine mx_build rfl rfl rfl rfl (b24_1 _) rfl ?_ | refine mx_build rfl rfl rfl rfl (b24_2 _ _) rfl ?_ | refine mx_build rfl rfl rfl rfl b28_0 rfl ?_ | refine mx_build rfl rfl rfl rfl b29_0 rfl ?_ | refine mx_build rfl rfl rfl rfl (b25_1 _ _) rfl ?_ | refine mx_build rfl rfl rfl rfl (b31_1 _ _) rfl ?_ | refine mx_build rfl rfl rfl rfl (b31_2 _ _ _) rfl ?_) | (refine a_new rfl rfl rfl rfl rfl (fun _ => ?_)) | (refine g_box rfl ?_; first | refine a_boxl rfl rfl rfl rfl rfl rfl (fun _ => ?_) | refine a_box1 rfl rfl rfl rfl rfl rfl rfl (fun _ => ?_)) | (first | refine mx_indexn E rfl rfl rfl rfl rfl rfl rfl rfl (by omega) (by first | exact vr_RR _ (by omega)) rfl ?_ | refine mx_index E rfl rfl rfl rfl rfl rfl rfl rfl (by omega) (by omega) (by first | exact vr_RR _ (by omega)) rfl ?_) | (refine g_bs rfl ?_; first | refine a_bs0 E rfl rfl rfl rfl rfl rfl (fun _ => ?_) | refine a_bsi E rfl rfl rfl rfl rfl (by (repeat (first | exact EvI.nil | (apply EvI.cons; rfl)))) (by rfl) (by rfl) (by rfl) rfl (fun _ => ?_)) | (refine g_conv rfl ?_; first | refine mx_cv E rfl rfl rfl rfl rfl rfl (by assumption) rfl ?_ | refine mx_cv E rfl rfl rfl rfl rfl rfl (IntWalk.i64_in _ (by omega)) rfl ?_ | refine mx_cv E rfl rfl rfl rfl rfl rfl (IntWalk.u64_in _ (by omega)) rfl ?_ | refine mx_cv E rfl rfl rfl rfl rfl rfl (IntWalk.u8_in _ (by omega)) rfl ?_ | refine mx_cv E rfl rfl rfl rfl rfl rfl rfl rfl ?_) | (first | (refine g_bi .max rfl ?_; refine mx_maxi rfl rfl rfl rfl rfl rfl rfl ?_) | (refine g_bi .min rfl ?_; refine mx_mini rfl rfl rfl rfl rfl rfl rfl ?_)) | (fail) | (fail)) | refine cg_seq ?_ | refine cg_line rfl rfl ?_ | (refine cg_drawq rfl mixed rfl (by kernel_rfl) rfl ?_) | refine cg_block ?_ | refine cg_cond_f rfl ?_ | refine cg_cond_t rfl ?_ | refine cg_skip ?_ | refine cg_exit ?_ | refine cg_ret ?_ | refine pg_then ?_ | refine pg_then_x ?_ | refine pg_then_r ?_ | refine pg_block ?_ | refine pg_block_e ?_ | refine pg_block_n rfl ?_ | refine pg_block_r ?_))
    by_cases h2 : c.k = k
    · have e1 : stpH pl k p = some (some p) := by rw [hst, if_neg (by omega), if_pos ⟨by omega, h2⟩]
      refine g_cf 72 rfl ?_
      refine a_callv rfl rfl rfl rfl Try.func72 rfl rfl rfl _ (fun w' hw => eq72v (some ⟨kb, p * kl, none⟩) ad kl kl k.length cap c.k k true (decide_eq_true h2) hckb hkb hckl rfl w' (kvH_in hok hc (hw.orow hk1 hSk1)) (hl1.keep' hw fun hne b off e => hS1 b off hne e)) rfl ?_
      (repeat (first | ((refine (?_ : MX _ _ _ _ _ _ _ _ _ _ _)); first | refine mx_end ?_ | (refine mx_mv _ rfl rfl (by conv => {lhs; whnf}) ?_) | (refine mx_as _ rfl rfl (by conv => {lhs; whnf}) ?_) | (refine g_pick rfl ?_; refine mx_and rfl rfl rfl rfl rfl rfl ?_ ) | (refine g_store rfl ?_; refine s_1 E rfl rfl rfl rfl rfl rfl rfl rfl (by exact sp0 ) rfl ?_) ) | refine cg_seq ?_ | refine cg_line rfl rfl ?_ | refine cg_cond_t rfl ?_ | refine cg_ret ?_ | refine pg_then ?_ | refine pg_block_r ?_))
      exact pg_rr (fun w' h => by rw [hfs, e1]; exact h) ⟨rfl, _, hfs.trans e1⟩
    · have e1 : stpH pl k p = none := by rw [hst, if_neg (by omega), if_neg (fun h => h2 h.2)]
      refine g_cf 72 rfl ?_
      refine a_callv rfl rfl rfl rfl Try.func72 rfl rfl rfl _ (fun w' hw => eq72v (some ⟨kb, p * kl, none⟩) ad kl kl k.length cap c.k k false (decide_eq_false h2) hckb hkb hckl rfl w' (kvH_in hok hc (hw.orow hk1 hSk1)) (hl1.keep' hw fun hne b off e => hS1 b off hne e)) rfl ?_
      (repeat (first | ((refine (?_ : MX _ _ _ _ _ _ _ _ _ _ _)); first | refine mx_end ?_ | (refine mx_as _ rfl rfl (by conv => {lhs; whnf}) ?_) | (refine g_pick rfl ?_; refine mx_and rfl rfl rfl rfl rfl rfl ?_ ) ) | refine cg_cond_f rfl ?_ | refine cg_skip ?_ | refine pg_then ?_ | refine pg_block ?_ ))
      exact pg_rn (fun w' h => h) (hfs.trans e1)
  · intro D xs hxs hI
    have hn : (wayL (homeK k pl.length) pl.length).findSome? (stpH pl k) = none := by rw [← hxs]; exact hI
    rw [hn]
    (repeat (first | ((refine (?_ : MX _ _ _ _ _ _ _ _ _ _ _)); first | refine mx_end ?_ | (refine g_store rfl ?_; refine s_1 E rfl rfl rfl rfl rfl rfl rfl rfl (by exact sp0 ) rfl ?_) ) | refine cg_seq ?_ | refine cg_line rfl rfl ?_ | refine cg_ret ?_ | refine pg_then ?_ | refine pg_block ?_ ))
    refine pg_retm ?_ rfl
    exact pw_retc1 E (j := 2) rfl rfl rfl rfl rfl rfl fun w hw => ⟨rfl, hw.keep.grow⟩
  · rintro D c pre hpre ⟨rfl, r, hr⟩
    rw [fs_prefix hpre hr, hr]
    (repeat (first | refine cg_ret ?_ | refine pg_then_r ?_ | refine pg_block_r ?_))
    refine pg_retm ?_ rfl
    exact pw_retc1 E (j := 2) rfl rfl rfl rfl rfl rfl fun w hw => ⟨rfl, hw.keep.grow⟩
end Go.Proofs.Ytminmbkhlnaabaa
