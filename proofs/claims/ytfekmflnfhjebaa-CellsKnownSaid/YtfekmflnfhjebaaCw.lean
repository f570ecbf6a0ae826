/- The program's cells: written, swept; walked once each. -/
import Derived.Test.YtfekmflnfhjebaaAr
set_option maxRecDepth 100000
set_option maxHeartbeats 8000000
set_option linter.unusedSimpArgs false
set_option linter.unusedVariables false
namespace Go.Proofs.Ytfekmflnfhjebaa
open Go Go.Sx Go.RowKit
theorem cell35z (ax ab L n : Nat) (k : Int) (hk0 : 0 ≤ k) (hk1 : k < n) (w : World) (h1 : (row ax 85 [.slice (some ⟨ab, 0, none⟩) n n]).holds w) (h2 : (row ab 3 (AV L n)).holds w) : Calls Try.prog 35 #[.pointer (some ⟨ax, 0, none⟩), .int .i64 k] w fun e w' => e = .returned (.tuple #[.int .i64 ((L : Int) + k + 1), .bool true]) ∧ Grow w w' := by
  obtain ⟨q, rfl⟩ := Int.eq_ofNat_of_zero_le hk0
  exact cell35y ax ab L n q (by omega) w h1 h2
/-- The numbers of cells rise by one from 1 on. -/
def Num (cs : List PC) : Prop := ∀ j c, cs[j]? = some c → c.id = ((j + 1 : Nat) : Int)
theorem lc_num : ∀ {cs : List PC} {s : Nat}, (∀ j c, cs[j]? = some c → c.id = ((s + j + 1 : Nat) : Int)) → ∀ {j : Nat} {c : PC}, cs[j]? = some c → lc ((s + j + 1 : Nat) : Int) cs = some c
  | [], _, _, _, _, hj => by simp at hj
  | a :: cs, s, h, j, c, hj => by
    have h0 := h 0 a rfl
    unfold lc
    rw [List.find?_cons]
    cases j with
    | zero =>
      obtain rfl : a = c := by simpa using hj
      rw [decide_eq_true h0]
    | succ j =>
      rw [decide_eq_false (by rw [h0]; omega)]
      have h2 := lc_num (cs := cs) (s := s + 1) (fun j' c' hj' => by
        have := h (j' + 1) c' (by simpa using hj')
        rw [this]
        congr 1
        omega) (j := j) (c := c) (by simpa using hj)
      rw [show s + (j + 1) + 1 = s + 1 + j + 1 by omega]
      exact h2
theorem Num.lc {cs : List PC} (h : Num cs) {j : Nat} {c : PC} (hj : cs[j]? = some c) : lc ((j + 1 : Nat) : Int) cs = some c := by
  have := lc_num (s := 0) (fun j c hj => by rw [h j c hj, Nat.zero_add]) hj
  rwa [Nat.zero_add] at this
theorem Num.lt {cs : List PC} (h : Num cs) {c : PC} (hc : c ∈ cs) : 1 ≤ c.id ∧ c.id ≤ cs.length := by
  obtain ⟨j, hj⟩ := List.mem_iff_getElem?.1 hc
  have h1 := h j c hj
  have h2 := (List.getElem?_eq_some_iff.1 hj).1
  omega
theorem Num.out {cs : List PC} (h : Num cs) {k : Int} (hk : k < 1 ∨ (cs.length : Int) < k) : Go.Proofs.Ytfekmflnfhjebaa.lc k cs = none := by
  unfold Go.Proofs.Ytfekmflnfhjebaa.lc
  rw [List.find?_eq_none]
  intro c hc
  have := h.lt hc
  simp
  omega
theorem Num.app {cs nc : List PC} {K i : Nat} (h : Num cs) (hn : NC cs.length K i nc) : Num (cs ++ nc) := by
  intro j c hj
  by_cases hjl : j < cs.length
  · rw [List.getElem?_append_left hjl] at hj
    exact h j c hj
  · rw [List.getElem?_append_right (by omega)] at hj
    rw [(hn.2 _ c hj).1]
    congr 1
    omega
theorem Num.nil : Num [] := fun j c hj => by simp at hj
theorem gone_nil {cs : List PC} (h : ∀ c ∈ cs, c.dr = false) (n : Nat) : goneTo cs n = [] := by
  unfold goneTo
  rw [List.filter_eq_nil_iff]
  intro k _
  unfold isG
  cases hl : lc k cs with
  | none => simp
  | some c => simp [h c (lc_mem hl).1]
/-- Cells of at most so many bytes, of which none was dropped. -/
structure CsK (cs : List PC) : Prop where
  num : Num cs
  dr : ∀ c ∈ cs, c.dr = false
  bs : ∀ c ∈ cs, c.bs.length ≤ 64
theorem CsK.nil : CsK [] := ⟨Num.nil, fun c h => by simp at h, fun c h => by simp at h⟩
theorem CsK.app {cs nc : List PC} {K i : Nat} (h : CsK cs) (hK : K ≤ 64) (hn : NC cs.length K i nc) : CsK (cs ++ nc) := ⟨h.num.app hn, fun c hc => by
    rcases List.mem_append.1 hc with hc | hc
    · exact h.dr c hc
    · obtain ⟨j, hj⟩ := List.mem_iff_getElem?.1 hc
      exact (hn.2 j c hj).2.2.1, fun c hc => by
    rcases List.mem_append.1 hc with hc | hc
    · exact h.bs c hc
    · obtain ⟨j, hj⟩ := List.mem_iff_getElem?.1 hc
      rw [(hn.2 j c hj).2.1, List.length_replicate]
      exact hK⟩
theorem NC.at {L K n : Nat} {nc : List PC} (h : NC L K n nc) {j : Nat} (hj : j < n) : ∃ c, nc[j]? = some c ∧ c.bs = List.replicate K 0 := by
  obtain ⟨c, hc⟩ := getElem_some (xs := nc) (i := j) (by rw [h.1]; exact hj)
  exact ⟨c, hc, (h.2 j c hc).2.1⟩
theorem size37v (bx r : Nat) (last : Int) (cs : List PC) (k : Int) (v : Nat) (h : CsK cs) {j : Nat} {c : PC} (hj : cs[j]? = some c) (hk : k = ((j + 1 : Nat) : Int)) (hv : c.bs.length = v) (w : World) (h1 : (row bx 83 (hdC r last)).holds w) (h2 : (mapR r (kvC cs)).holds w) (h3 : (allC cs).holds w) :
    Calls Try.prog 37 #[.pointer (some ⟨bx, 0, none⟩), .int .i64 k] w fun e w' => e = .returned (.int .i64 v) ∧ Grow w w' := by
  have := size37 bx r last k cs (fun c hc => by have := h.bs c hc; omega) w h1 h2 h3
  have e : bsOf k cs = c.bs := by unfold bsOf; rw [hk, h.num.lc hj]
  rw [e, hv] at this
  exact this
theorem live33v (bx r L : Nat) (cs : List PC) (h : CsK cs) (hL : L ≤ 100000) (hcl : cs.length ≤ 100000) (w : World) (h1 : (row bx 83 (hdC r L)).holds w) (h2 : (mapR r (kvC cs)).holds w) (h3 : (allC cs).holds w) :
    Calls Try.prog 33 #[.pointer (some ⟨bx, 0, none⟩)] w fun e w' => e = .returned (.int .i64 cs.length) ∧ Grow w w' := by
  have := live33 bx r L cs hL hcl w h1 h2 h3
  rw [gone_nil h.dr] at this
  simpa using this
theorem oc1 {bx r : Nat} {last : Int} {cs : List PC} {w : World} (h : (star (OC bx r last cs)).holds w) : (row bx 83 (hdC r last)).holds w := star_holds h (by simp [OC])
theorem oc2 {bx r : Nat} {last : Int} {cs : List PC} {w : World} (h : (star (OC bx r last cs)).holds w) : (mapR r (kvC cs)).holds w := star_holds h (by simp [OC])
theorem oc3 {bx r : Nat} {last : Int} {cs : List PC} {w : World} (h : (star (OC bx r last cs)).holds w) : (allC cs).holds w := star_holds h (by simp [OC])
theorem known42 (w : World) : Calls Try.prog 42 #[] w fun e w' => e = .returned (.bool true) ∧ Grow w w' := by
  refine enter0 (S := fun _ => False) 59 Try.func42 rfl rfl rfl (Ok.start w) ?_
  (repeat (first | ((refine (?_ : MX _ _ _ _ _ _ _ _ _ _ _)); first | refine mx_end ?_ | (refine mx_as _ rfl rfl (by conv => {lhs; whnf}) ?_) ) | refine cw_seq ?_ | refine cw_line rfl ?_ | refine pw_then ?_ ))
  refine g_cf 27 rfl ?_
  refine a_callL rfl rfl rfl rfl Try.func27 rfl rfl rfl [] _ rfl (fun a : Nat × Nat => .pointer (some ⟨a.1, 0, none⟩)) (fun a => OC a.1 a.2 0 []) (fun w' hw _ => new27 w') (fun _ => rfl) (fun _ _ _ => trivial) (fun a => ?_)
  obtain ⟨bx, r⟩ := a
  refine mx_weak (H' := [Sx.star (OC bx r ((0 : Nat) : Int) [])]) (fun w h => h.star) (fun _ _ => trivial) ?_
  (repeat (first | ((refine (?_ : MX _ _ _ _ _ _ _ _ _ _ _)); first | refine mx_end ?_ | (refine mx_mv _ rfl rfl (by conv => {lhs; whnf}) ?_) | (refine mx_as _ rfl rfl (by conv => {lhs; whnf}) ?_) ) | refine cw_seq ?_ | refine cw_line rfl ?_ | refine pw_then ?_ ))
  refine g_cf 29 rfl ?_
  refine a_callo rfl rfl rfl rfl Try.func29 rfl rfl rfl 0 rfl (fun a : (Nat × Nat) × {nc : List PC // NC 0 4 3 nc} => .pointer (some ⟨a.1.1, 0, none⟩)) (fun a => OA a.1.1 a.1.2 0 3) (fun a => OC bx r ((0 + 3 : Nat) : Int) ([] ++ a.2.1)) (fun w' hw h => new29 bx r 0 [] 3 4 3 4 (by decide) (by decide) (by omega) (fun c hc => by simp at hc) w' h) (fun _ => rfl) (fun _ _ _ => trivial) (fun a => ?_)
  obtain ⟨⟨ax, ab⟩, ⟨nc, hnc⟩⟩ := a
  rw [List.nil_append]
  have hck : CsK nc := by have := CsK.nil.app (by omega) hnc; rwa [List.nil_append] at this
  obtain ⟨c2, hc2, hb2⟩ := hnc.at (j := 2) (by omega)
  (repeat (first | ((refine (?_ : MX _ _ _ _ _ _ _ _ _ _ _)); first | refine mx_end ?_ | (refine mx_mv _ rfl rfl (by conv => {lhs; whnf}) ?_) | (refine mx_as _ rfl rfl (by conv => {lhs; whnf}) ?_) ) | refine cw_seq ?_ | refine cw_line rfl ?_ | refine pw_then ?_ ))
  refine g_cf 35 rfl ?_
  refine a_callv rfl rfl rfl rfl Try.func35 rfl rfl rfl _ (fun w' hw => cell35z ax ab 0 3 0 (by omega) (by omega) w' (hw.holds 0 _ rfl) (hw.holds 1 _ rfl)) rfl ?_
  (repeat (first | ((refine (?_ : MX _ _ _ _ _ _ _ _ _ _ _)); first | refine mx_end ?_ | (refine mx_mv _ rfl rfl (by conv => {lhs; whnf}) ?_) | (refine mx_as _ rfl rfl (by conv => {lhs; whnf}) ?_) | (refine mx_ex _ rfl rfl rfl (by conv => {lhs; whnf}) ?_) ) | refine cw_seq ?_ | refine cw_line rfl ?_ | refine pw_then ?_ ))
  refine g_cf 35 rfl ?_
  refine a_callv rfl rfl rfl rfl Try.func35 rfl rfl rfl _ (fun w' hw => cell35z ax ab 0 3 2 (by omega) (by omega) w' (hw.holds 0 _ rfl) (hw.holds 1 _ rfl)) rfl ?_
  (repeat (first | ((refine (?_ : MX _ _ _ _ _ _ _ _ _ _ _)); first | refine mx_end ?_ | (refine mx_mv _ rfl rfl (by conv => {lhs; whnf}) ?_) | (refine mx_as _ rfl rfl (by conv => {lhs; whnf}) ?_) | (refine mx_ex _ rfl rfl rfl (by conv => {lhs; whnf}) ?_) ) | refine cw_seq ?_ | refine cw_line rfl ?_ | refine pw_then ?_ ))
  refine g_cf 35 rfl ?_
  refine a_callv rfl rfl rfl rfl Try.func35 rfl rfl rfl _ (fun w' hw => cell35n ax ab 0 3 3 (by omega) w' (hw.holds 0 _ rfl)) rfl ?_
  (repeat (first | ((refine (?_ : MX _ _ _ _ _ _ _ _ _ _ _)); first | refine mx_end ?_ | (refine mx_mv _ rfl rfl (by conv => {lhs; whnf}) ?_) | (refine mx_as _ rfl rfl (by conv => {lhs; whnf}) ?_) | (refine g_bin rfl ?_; ((refine mx_cmpl .eql rfl rfl rfl rfl rfl (by exact cmp_eq_t (by omega) ) ?_) ) ) | (refine mx_not rfl rfl rfl ?_) | (refine mx_ex _ rfl rfl rfl (by conv => {lhs; whnf}) ?_) | (refine g_pick rfl ?_; refine mx_and rfl rfl rfl rfl rfl rfl ?_ ) ) | refine cw_seq ?_ | refine cw_line rfl ?_ | refine pw_then ?_ ))
  refine g_cf 31 rfl ?_
  refine a_callv rfl rfl rfl rfl Try.func31 rfl rfl rfl _ (fun w' hw => len31 ax ab 0 3 w' (hw.holds 0 _ rfl)) rfl ?_
  (repeat (((refine (?_ : MX _ _ _ _ _ _ _ _ _ _ _)); first | (refine mx_mv _ rfl rfl (by conv => {lhs; whnf}) ?_) | (refine g_bin rfl ?_; ((refine mx_cmpl .eql rfl rfl rfl rfl rfl (by exact cmp_eq_t (by omega) ) ?_) ) ) | (refine g_pick rfl ?_; refine mx_and rfl rfl rfl rfl rfl rfl ?_ ) ) ))
  refine g_cf 37 rfl ?_
  refine a_callv rfl rfl rfl rfl Try.func37 rfl rfl rfl (.int .i64 4) (fun w' hw => size37v bx r ((0 + 3 : Nat) : Int) nc _ 4 hck hc2 (by decide) (by rw [hb2]; rfl) w' (oc1 (hw.holds 2 _ rfl)) (oc2 (hw.holds 2 _ rfl)) (oc3 (hw.holds 2 _ rfl))) rfl ?_
  (repeat (((refine (?_ : MX _ _ _ _ _ _ _ _ _ _ _)); first | (refine mx_mv _ rfl rfl (by conv => {lhs; whnf}) ?_) | (refine g_bin rfl ?_; ((refine mx_cmpl .eql rfl rfl rfl rfl rfl (by exact cmp_eq_t (by omega) ) ?_) ) ) | (refine g_pick rfl ?_; refine mx_and rfl rfl rfl rfl rfl rfl ?_ ) ) ))
  refine g_cf 33 rfl ?_
  refine a_callv rfl rfl rfl rfl Try.func33 rfl rfl rfl (.int .i64 3) (fun w' hw => by
    have h33 := live33v bx r 3 nc hck (by omega) (by rw [hnc.1]; omega) w' (oc1 (hw.holds 2 _ rfl)) (oc2 (hw.holds 2 _ rfl)) (oc3 (hw.holds 2 _ rfl))
    rw [hnc.1] at h33
    exact h33) rfl ?_
  (repeat (first | ((refine (?_ : MX _ _ _ _ _ _ _ _ _ _ _)); first | refine mx_end ?_ | (refine mx_as _ rfl rfl (by conv => {lhs; whnf}) ?_) | (refine g_bin rfl ?_; ((refine mx_cmpl .eql rfl rfl rfl rfl rfl (by exact cmp_eq_t (by omega) ) ?_) ) ) | (refine g_pick rfl ?_; refine mx_and rfl rfl rfl rfl rfl rfl ?_ ) ) | refine cw_ret ?_ | refine pw_then ?_ ))
  exact pw_ret rfl rfl rfl rfl fun w' hw => ⟨rfl, hw.keep.grow⟩
end Go.Proofs.Ytfekmflnfhjebaa
set_option maxRecDepth 100000
set_option maxHeartbeats 8000000
set_option linter.unusedSimpArgs false
set_option linter.unusedVariables false
namespace Go.Proofs.Ytfekmflnfhjebaa
open Go Go.Sx Go.RowKit
def PC.wrt (c : PC) (now : Int) : PC := { c with wr := c.wr + 1, bt := c.bt.wr now }
theorem vr_bt (a b x y z f : Value) : Vr [a, b, x, y, z, f] 2 3 [x, y, z] := ⟨⟨rfl⟩, rfl⟩
theorem sp_bt (a b x y z f x' y' z' : Value) : Sp [a, b, x, y, z, f] 2 [x', y', z'] [a, b, x', y', z', f] := Sp.lit rfl rfl
theorem written65 (c : PC) (now : Int) (hok : c.bt.ok) (hn : c.bt.n ≤ 999) (hw : c.wr ≤ 100000) (w : World) (h : (row c.p 94 (cPC c)).holds w) :
    Calls Try.prog 65 #[.pointer (some ⟨c.p, 0, none⟩), .int .i64 now] w fun e w' => e = .returned (.tuple #[]) ∧ Chg (row c.p 94 (cPC c)).dom w w' ∧ (row c.p 94 (cPC (c.wrt now))).holds w' := by
  refine enter2 (S := (row c.p 94 (cPC c)).dom) (H := [row c.p 94 (cPC c)]) 20 Try.func65 rfl rfl rfl (Ok.one h (row_lt h)) ?_
  (repeat (first | ((refine (?_ : MX _ _ _ _ _ _ _ _ _ _ _)); first | refine mx_end ?_ | (refine mx_mv _ rfl rfl (by conv => {lhs; whnf}) ?_) | ( refine mx_fa E rfl rfl rfl rfl ?_) | (refine g_load rfl ?_; first | refine mx_get E rfl rfl rfl rfl rfl (by rfl) rfl ?_ | refine mx_getn E rfl rfl rfl rfl rfl (by exact vr_bt _ _ _ _ _ _ ) rfl ?_ ) | (refine g_bin rfl ?_; (refine mx_ar rfl rfl rfl rfl rfl rfl (IntWalk.i64_in _ (by omega)) rfl ?_ ) ) | (refine mx_nc rfl rfl rfl ?_) | (refine g_store rfl ?_; refine s_1 E rfl rfl rfl rfl rfl rfl rfl rfl (by exact spS sp0 ) rfl ?_) ) | refine cw_seq ?_ | refine cw_line rfl ?_ | refine pw_then ?_ ))
  refine g_cf 19 rfl ?_
  refine mx_call rfl rfl rfl Try.func19 rfl rfl rfl _ (fun w => write19 c.bt now hok hn w) rfl ?_
  (repeat (((refine (?_ : MX _ _ _ _ _ _ _ _ _ _ _)); first | refine mx_end ?_ | ( refine mx_fa E rfl rfl rfl rfl ?_) | (refine mx_nc rfl rfl rfl ?_) | (refine g_store rfl ?_; refine s_l E rfl rfl rfl rfl rfl rfl rfl (by exact sp_bt _ _ _ _ _ _ _ _ _ ) rfl ?_ ) ) ))
  exact pw_ret0 rfl rfl fun w' hw => ⟨rfl, hw.keep, hw.holds 0 _ rfl⟩
theorem sp_head {xs bs : List Int} (h : xs.length = bs.length) (rest : List Value) : Sp (bs.flatMap cU ++ rest) 0 (xs.flatMap cU) (xs.flatMap cU ++ rest) := by
  refine ⟨by rw [List.length_append, flatU_len, flatU_len]; omega, ?_⟩
  unfold splice
  rw [List.take_zero, List.nil_append, Nat.zero_add, List.drop_left' (by rw [flatU_len, flatU_len, h])]
theorem kvC_set {cs : List PC} {i : Nat} {c c' : PC} (hi : cs[i]? = some c) (h1 : c'.id = c.id) (h2 : c'.p = c.p) : kvC (cs.set i c') = kvC cs := by
  unfold kvC
  rw [List.map_set, h1, h2]
  apply List.ext_getElem?
  intro j
  rw [List.getElem?_set]
  split
  · rename_i e
    subst e
    have hlt := (List.getElem?_eq_some_iff.1 hi).1
    rw [if_pos (by simpa using hlt), List.getElem?_map, hi]
    rfl
  · rfl
def PC.put (c : PC) (xs : List Int) (now : Int) : PC := { c with bs := xs, wr := c.wr + 1, bt := c.bt.wr now }
theorem write44 (bx r : Nat) (last k : Int) (cs : List PC) (i : Nat) (c : PC) (hi : cs[i]? = some c) (hk : lc k cs = some c) (ad : Option Addr) (m capx : Nat) (xs : List Int) (hx : xs.length = m) (hcm : c.bs.length = m) (hpos : 0 < m) (hbl : m ≤ 100000) (now : Int) (hok : c.bt.ok) (hn : c.bt.n ≤ 999) (hwr : c.wr ≤ 100000) (w : World) (h0 : Ok (domL (OC bx r last cs)) w (OC bx r last cs) w) (hl : InL w ad 1 cU xs) (hne : xs ≠ [] → ∀ b off, ad = some ⟨b, off, none⟩ → ¬ domL (OC bx r last cs) b) :
    Calls Try.prog 44 #[.pointer (some ⟨bx, 0, none⟩), .int .i64 k, .slice ad m capx, .int .i64 now] w fun e w' => e = .returned (.bool true) ∧ Ok (domL (OC bx r last cs)) w (OC bx r last (cs.set i (c.put xs now))) w' := by
  have h1 : Ok (domL (OC bx r last cs)) w [row c.p 94 (cPC c), ownd c.ba c.cap 5 1 c.bs.length (c.bs.flatMap cU), allC (cs.eraseIdx i), row bx 83 (hdC r last), mapR r (kvC cs)] w := unplug (perm_at hi) (h0.pick [2, 0, 1] (by simp) rfl)
  obtain ⟨id, p, ba, cap, bs, wr, bt, dr⟩ := c
  dsimp only at hok hn hwr h1 hcm
  have hlv := look_some hk
  dsimp only at hlv
  obtain ⟨bb, rfl, _⟩ := (own_at (h1.holds 1 _ rfl)).2.1 (by omega)
  obtain ⟨rest, ⟨e1, e2, e3, e4⟩, h2⟩ := ok_open 1 rfl h1
  refine enter4 (S := domL (OC bx r last cs)) (H := [row p 94 [.slice (some ⟨bb, 0, none⟩) bs.length cap, .int .i64 wr, .complex .f64 (fe bt.x) (fe bt.y), .int .i64 bt.n, .int .i64 bt.last, .bool dr], row bb 5 (bs.flatMap cU ++ rest), allC (cs.eraseIdx i), row bx 83 (hdC r last), mapR r (kvC cs)]) 41 Try.func44 rfl rfl rfl h2 ?_
  (repeat (first | ((refine (?_ : MX _ _ _ _ _ _ _ _ _ _ _)); first | refine mx_end ?_ | (refine mx_mv _ rfl rfl (by conv => {lhs; whnf}) ?_) | (refine mx_as _ rfl rfl (by conv => {lhs; whnf}) ?_) | (refine mx_fa0 E rfl rfl rfl rfl ?_ ) | (refine g_load rfl ?_; refine mx_get E rfl rfl rfl rfl rfl (by rfl) rfl ?_ ) | (refine g_bin rfl ?_; ( (refine mx_cmpl .neq rfl rfl rfl rfl rfl (by exact cmp_ne_f (by omega) ) ?_) ) ) | (refine mx_nc rfl rfl rfl ?_) | (refine g_bi .len rfl ?_; refine mx_len E rfl rfl rfl rfl ?_) | (refine mx_not rfl rfl rfl ?_) | (refine mx_ex _ rfl rfl rfl (by conv => {lhs; whnf}) ?_) | (refine g_pick rfl ?_; refine mx_or rfl rfl rfl rfl rfl rfl ?_ ) | (refine mx_look mt81 rfl rfl rfl rfl rfl (by with_reducible assumption) rfl ?_ ) ) | refine cw_seq ?_ | refine cw_line rfl ?_ | refine cw_cond_f rfl ?_ | refine cw_skip ?_ | refine pw_then ?_ ))
  refine g_bi .copy rfl ?_
  refine a_copyS E rfl rfl rfl rfl rfl rfl rfl (xs.flatMap cU) (by rw [flatU_len, hx, hcm]; simp) (fun w' hw => (hl.keep' hw hne).src len_U) (one_U xs) (sp_head (bs := bs) (by omega) rest) (fun _ _ => trivial) rfl ?_
  (repeat (first | ((refine (?_ : MX _ _ _ _ _ _ _ _ _ _ _)); first | refine mx_end ?_ | (refine mx_mv _ rfl rfl (by conv => {lhs; whnf}) ?_) ) | refine cw_seq ?_ | refine cw_line rfl ?_ | refine pw_then ?_ ))
  refine g_cf 65 rfl ?_
  refine a_callr rfl rfl rfl rfl Try.func65 rfl rfl rfl p (cPC (PC.wrt ⟨id, p, some ⟨bb, 0, none⟩, cap, bs, wr, bt, dr⟩ now)) (.tuple #[]) (fun w' hw h => written65 ⟨id, p, some ⟨bb, 0, none⟩, cap, bs, wr, bt, dr⟩ now hok hn hwr w' h) rfl ?_
  (repeat (first | ((refine (?_ : MX _ _ _ _ _ _ _ _ _ _ _)); first | refine mx_end ?_ | (refine mx_as _ rfl rfl (by conv => {lhs; whnf}) ?_) ) | refine cw_seq ?_ | refine cw_line rfl ?_ | refine cw_ret ?_ | refine pw_then ?_ ))
  refine pw_ret rfl rfl rfl rfl fun w' hw => ⟨rfl, ?_⟩
  have h3 := ok_close (xs := xs.flatMap cU) (rest := rest) (len := bs.length) (z := 1) (cap := cap) 1 rfl (by rw [flatU_len]; omega) (by rw [List.length_append, flatU_len, ← e2, List.length_append, flatU_len]; omega) e3 e4 hw
  have h4 : Ok (domL (OC bx r last cs)) w [row p 94 (cPC (PC.put ⟨id, p, some ⟨bb, 0, none⟩, cap, bs, wr, bt, dr⟩ xs now)), ownd (some ⟨bb, 0, none⟩) cap 5 1 xs.length (xs.flatMap cU), allC (cs.eraseIdx i), row bx 83 (hdC r last), mapR r (kvC cs)] w' := by
    have e5 : bs.length = xs.length := by omega
    have h5 : Ok (domL (OC bx r last cs)) w [row p 94 [.slice (some ⟨bb, 0, none⟩) bs.length cap, .int .i64 (wr + 1 : Nat), .complex .f64 (fe (bt.wr now).x) (fe (bt.wr now).y), .int .i64 (bt.wr now).n, .int .i64 (bt.wr now).last, .bool dr], ownd (some ⟨bb, 0, none⟩) cap 5 1 bs.length (xs.flatMap cU), allC (cs.eraseIdx i), row bx 83 (hdC r last), mapR r (kvC cs)] w' := h3
    rw [e5] at h5
    exact h5
  have h6 := plug (c := PC.put ⟨id, p, some ⟨bb, 0, none⟩, cap, bs, wr, bt, dr⟩ xs now) (perm_set hi) h4
  have h7 : Ok (domL (OC bx r last cs)) w [allC (cs.set i (PC.put ⟨id, p, some ⟨bb, 0, none⟩, cap, bs, wr, bt, dr⟩ xs now)), row bx 83 (hdC r last), mapR r (kvC (cs.set i (PC.put ⟨id, p, some ⟨bb, 0, none⟩, cap, bs, wr, bt, dr⟩ xs now)))] w' := by
    rw [kvC_set (c' := PC.put ⟨id, p, some ⟨bb, 0, none⟩, cap, bs, wr, bt, dr⟩ xs now) hi rfl rfl]
    exact h6
  exact h7.pick [1, 2, 0] (by simp) rfl
/-- A sweep with nothing dropped. -/
theorem sweep46 (bx r L : Nat) (cs : List PC) (hd : ∀ c ∈ cs, c.dr = false) (hL : L ≤ 100000) (w : World) (h1 : (row bx 83 (hdC r L)).holds w) (h2 : (mapR r (kvC cs)).holds w) (h3 : (allC cs).holds w) :
    Calls Try.prog 46 #[.pointer (some ⟨bx, 0, none⟩)] w fun e w' => e = .returned (.int .i64 0) ∧ Grow w w' := by
  refine enter1 (S := fun _ => False) 22 Try.func46 rfl rfl rfl (Ok.start w) ?_
  have hS : ¬ (fun _ : Nat => False) bx := id
  (repeat (first | ((refine (?_ : MX _ _ _ _ _ _ _ _ _ _ _)); first | refine mx_end ?_ | (refine mx_mv _ rfl rfl (by conv => {lhs; whnf}) ?_) | (refine mx_as _ rfl rfl (by conv => {lhs; whnf}) ?_) ) | refine cw_seq ?_ | refine cw_line rfl ?_ | refine pw_then ?_ ))
  refine g_cf 61 rfl ?_
  refine a_callL rfl rfl rfl rfl Try.func61 rfl rfl rfl [] _ rfl (fun a : Option Addr × Nat => .slice a.1 0 a.2) (fun a => [ownd a.1 a.2 3 1 0 []]) (fun w' hw _ => by
    have h61 := gone61 bx r L cs hL w' (hw.orow h1 id) (Ok.oldM hw h2 id) (oldA hw h3 (fun _ => id))
    rw [gone_nil hd] at h61
    exact h61) (fun _ => rfl) (fun _ _ _ => trivial) (fun a => ?_)
  (repeat (first | ((refine (?_ : MX _ _ _ _ _ _ _ _ _ _ _)); first | refine mx_end ?_ | (refine mx_mv _ rfl rfl (by conv => {lhs; whnf}) ?_) | (refine mx_as _ rfl rfl (by conv => {lhs; whnf}) ?_) | (refine g_bi .len rfl ?_; refine mx_len E rfl rfl rfl rfl ?_) ) | refine cw_seq ?_ | refine cw_line rfl ?_ | refine cw_block ?_ | refine pw_then ?_ ))
  refine cw_loop (ι := Nat) (fun i => [(10, .int .i64 0), (9, .int .i64 0), (3, .slice a.1 0 a.2)]) (fun i => []) (fun i => True) (fun i => 0) 0 trivial ⟨rfl, rfl, rfl, trivial⟩ (fun w h => h.nil) ?_
  intro i jk hi
  (repeat (first | ((refine (?_ : MX _ _ _ _ _ _ _ _ _ _ _)); first | refine mx_end ?_ | (refine mx_mv _ rfl rfl (by conv => {lhs; whnf}) ?_) | (refine mx_as _ rfl rfl (by conv => {lhs; whnf}) ?_) | (refine g_bin rfl ?_; ( (refine mx_cmpl .lss rfl rfl rfl rfl rfl (by exact cmp_lt_f (by omega) ) ?_) ) ) | (refine g_bi .len rfl ?_; refine mx_len E rfl rfl rfl rfl ?_) ) | refine cw_seq ?_ | refine cw_line rfl ?_ | refine cw_cond_f rfl ?_ | refine cw_exit ?_ | refine cw_ret ?_ | refine pw_then ?_ | refine pw_then_x ?_ | refine pw_block_e ?_ ))
  exact pw_ret rfl rfl rfl rfl fun w' hw => ⟨rfl, hw.keep.grow⟩
end Go.Proofs.Ytfekmflnfhjebaa
