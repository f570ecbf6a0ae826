/- The program's cells: written, swept; walked once each. -/
import Derived.Test.YtfekmflnfhjebaaAk
set_option maxRecDepth 100000
set_option maxHeartbeats 8000000
set_option linter.unusedSimpArgs false
set_option linter.unusedVariables false
namespace Go.Proofs.Ytfekmflnfhjebaa
open Go Go.Sx Go.RowKit
def PC.wrt (c : PC) (now : Int) : PC := { c with wr := c.wr + 1, bt := c.bt.wr now }
theorem vr_bt (a b x y z f : Value) : Vr [a, b, x, y, z, f] 2 3 [x, y, z] := ⟨⟨rfl⟩, rfl⟩
theorem sp_bt (a b x y z f x' y' z' : Value) : Sp [a, b, x, y, z, f] 2 [x', y', z'] [a, b, x', y', z', f] := Sp.lit rfl rfl
theorem written65 (c : PC) (now : Int) (hok : c.bt.ok) (hn : c.bt.n ≤ 999) (hw : c.wr ≤ 100000) (w : World) (h : (row c.p 94 (cPC c)).holds w) :
    Calls Try.prog 65 #[.pointer (some ⟨c.p, 0, none⟩), .int .i64 now] w fun e w' => e = .returned (.tuple #[]) ∧ Chg (row c.p 94 (cPC c)).dom w w' ∧ (row c.p 94 (cPC (c.wrt now))).holds w' := by
  refine enter2 (S := (row c.p 94 (cPC c)).dom) (H := [row c.p 94 (cPC c)]) 20 Try.func65 rfl rfl rfl (Ok.one h (row_lt h)) ?_
  (repeat (first | ((refine (?_ : MX _ _ _ _ _ _ _ _ _ _ _)); first | refine mx_end ?_ | (refine mx_mv _ rfl rfl (by conv => {lhs; whnf}) ?_) | ( refine mx_fa E rfl rfl rfl rfl ?_) | (refine g_load rfl ?_; first | refine mx_get E rfl rfl rfl rfl rfl (by rfl) rfl ?_ | refine mx_getn E rfl rfl rfl rfl rfl (by exact vr_bt _ _ _ _ _ _ ) rfl ?_ ) | (refine g_bin rfl ?_; (refine mx_ar rfl rfl rfl rfl rfl rfl (IntWalk.i64_in _ (by omega)) rfl ?_ ) ) | (refine mx_nc rfl rfl rfl ?_) | (refine g_store rfl ?_; refine s_1 E rfl rfl rfl rfl rfl rfl rfl rfl (by exact spS sp0 ) rfl ?_) ) | refine cw_seq ?_ | refine cw_line rfl ?_ | refine pw_then ?_ ))
  refine g_cf 19 rfl ?_
  refine mx_call rfl rfl rfl Try.func19 rfl rfl rfl _ (fun w => write19 c.bt now hok hn w) rfl ?_
  (repeat (((refine (?_ : MX _ _ _ _ _ _ _ _ _ _ _)); first | refine mx_end ?_ | ( refine mx_fa E rfl rfl rfl rfl ?_) | (refine mx_nc rfl rfl rfl ?_) | (refine g_store rfl ?_; refine s_l E rfl rfl rfl rfl rfl rfl rfl (by exact sp_bt _ _ _ _ _ _ _ _ _ ) rfl ?_ ) ) ))
  exact pw_ret0 rfl rfl fun w' hw => ⟨rfl, hw.keep, hw.holds 0 _ rfl⟩
theorem sp_head {xs bs : List Int} (h : xs.length = bs.length) (rest : List Value) : Sp (bs.flatMap cU ++ rest) 0 (xs.flatMap cU) (xs.flatMap cU ++ rest) := by
  refine ⟨by rw [List.length_append, flatU_len, flatU_len]; omega, ?_⟩
  unfold splice
  rw [List.take_zero, List.nil_append, Nat.zero_add, List.drop_left' (by rw [flatU_len, flatU_len, h])]
theorem kvC_set {cs : List PC} {i : Nat} {c c' : PC} (hi : cs[i]? = some c) (h1 : c'.id = c.id) (h2 : c'.p = c.p) : kvC (cs.set i c') = kvC cs := by
  unfold kvC
  rw [List.map_set, h1, h2]
  apply List.ext_getElem?
  intro j
  rw [List.getElem?_set]
  split
  · rename_i e
    subst e
    have hlt := (List.getElem?_eq_some_iff.1 hi).1
    rw [if_pos (by simpa using hlt), List.getElem?_map, hi]
    rfl
  · rfl
def PC.put (c : PC) (xs : List Int) (now : Int) : PC := { c with bs := xs, wr := c.wr + 1, bt := c.bt.wr now }
theorem write44 (bx r : Nat) (last k : Int) (cs : List PC) (i : Nat) (c : PC) (hi : cs[i]? = some c) (hk : lc k cs = some c) (ad : Option Addr) (m capx : Nat) (xs : List Int) (hx : xs.length = m) (hcm : c.bs.length = m) (hpos : 0 < m) (hbl : m ≤ 100000) (now : Int) (hok : c.bt.ok) (hn : c.bt.n ≤ 999) (hwr : c.wr ≤ 100000) (w : World) (h0 : Ok (domL (OC bx r last cs)) w (OC bx r last cs) w) (hl : InL w ad 1 cU xs) (hne : xs ≠ [] → ∀ b off, ad = some ⟨b, off, none⟩ → ¬ domL (OC bx r last cs) b) :
    Calls Try.prog 44 #[.pointer (some ⟨bx, 0, none⟩), .int .i64 k, .slice ad m capx, .int .i64 now] w fun e w' => e = .returned (.bool true) ∧ Ok (domL (OC bx r last cs)) w (OC bx r last (cs.set i (c.put xs now))) w' := by
  have h1 : Ok (domL (OC bx r last cs)) w [row c.p 94 (cPC c), ownd c.ba c.cap 5 1 c.bs.length (c.bs.flatMap cU), allC (cs.eraseIdx i), row bx 83 (hdC r last), mapR r (kvC cs)] w := unplug (perm_at hi) (h0.pick [2, 0, 1] (by simp) rfl)
  obtain ⟨id, p, ba, cap, bs, wr, bt, dr⟩ := c
  dsimp only at hok hn hwr h1 hcm
  have hlv := look_some hk
  dsimp only at hlv
  obtain ⟨bb, rfl, _⟩ := (own_at (h1.holds 1 _ rfl)).2.1 (by omega)
  obtain ⟨rest, ⟨e1, e2, e3, e4⟩, h2⟩ := ok_open 1 rfl h1
  refine enter4 (S := domL (OC bx r last cs)) (H := [row p 94 [.slice (some ⟨bb, 0, none⟩) bs.length cap, .int .i64 wr, .complex .f64 (fe bt.x) (fe bt.y), .int .i64 bt.n, .int .i64 bt.last, .bool dr], row bb 5 (bs.flatMap cU ++ rest), allC (cs.eraseIdx i), row bx 83 (hdC r last), mapR r (kvC cs)]) 41 Try.func44 rfl rfl rfl h2 ?_
  (repeat (first | ((refine (?_ : MX _ _ _ _ _ _ _ _ _ _ _)); first | refine mx_end ?_ | (refine mx_mv _ rfl rfl (by conv => {lhs; whnf}) ?_) | (refine mx_as _ rfl rfl (by conv => {lhs; whnf}) ?_) | (refine mx_fa0 E rfl rfl rfl rfl ?_ ) | (refine g_load rfl ?_; refine mx_get E rfl rfl rfl rfl rfl (by rfl) rfl ?_ ) | (refine g_bin rfl ?_; ( (refine mx_cmpl .neq rfl rfl rfl rfl rfl (by exact cmp_ne_f (by omega) ) ?_) ) ) | (refine mx_nc rfl rfl rfl ?_) | (refine g_bi .len rfl ?_; refine mx_len E rfl rfl rfl rfl ?_) | (refine mx_not rfl rfl rfl ?_) | (refine mx_ex _ rfl rfl rfl (by conv => {lhs; whnf}) ?_) | (refine g_pick rfl ?_; refine mx_or rfl rfl rfl rfl rfl rfl ?_ ) | (refine mx_look mt81 rfl rfl rfl rfl rfl (by with_reducible assumption) rfl ?_ ) ) | refine cw_seq ?_ | refine cw_line rfl ?_ | refine cw_cond_f rfl ?_ | refine cw_skip ?_ | refine pw_then ?_ ))
  refine g_bi .copy rfl ?_
  refine a_copyS E rfl rfl rfl rfl rfl rfl rfl (xs.flatMap cU) (by rw [flatU_len, hx, hcm]; simp) (fun w' hw => (hl.keep' hw hne).src len_U) (one_U xs) (sp_head (bs := bs) (by omega) rest) (fun _ _ => trivial) rfl ?_
  (repeat (first | ((refine (?_ : MX _ _ _ _ _ _ _ _ _ _ _)); first | refine mx_end ?_ | (refine mx_mv _ rfl rfl (by conv => {lhs; whnf}) ?_) ) | refine cw_seq ?_ | refine cw_line rfl ?_ | refine pw_then ?_ ))
  refine g_cf 65 rfl ?_
  refine a_callr rfl rfl rfl rfl Try.func65 rfl rfl rfl p (cPC (PC.wrt ⟨id, p, some ⟨bb, 0, none⟩, cap, bs, wr, bt, dr⟩ now)) (.tuple #[]) (fun w' hw h => written65 ⟨id, p, some ⟨bb, 0, none⟩, cap, bs, wr, bt, dr⟩ now hok hn hwr w' h) rfl ?_
  (repeat (first | ((refine (?_ : MX _ _ _ _ _ _ _ _ _ _ _)); first | refine mx_end ?_ | (refine mx_as _ rfl rfl (by conv => {lhs; whnf}) ?_) ) | refine cw_seq ?_ | refine cw_line rfl ?_ | refine cw_ret ?_ | refine pw_then ?_ ))
  refine pw_ret rfl rfl rfl rfl fun w' hw => ⟨rfl, ?_⟩
  have h3 := ok_close (xs := xs.flatMap cU) (rest := rest) (len := bs.length) (z := 1) (cap := cap) 1 rfl (by rw [flatU_len]; omega) (by rw [List.length_append, flatU_len, ← e2, List.length_append, flatU_len]; omega) e3 e4 hw
  have h4 : Ok (domL (OC bx r last cs)) w [row p 94 (cPC (PC.put ⟨id, p, some ⟨bb, 0, none⟩, cap, bs, wr, bt, dr⟩ xs now)), ownd (some ⟨bb, 0, none⟩) cap 5 1 xs.length (xs.flatMap cU), allC (cs.eraseIdx i), row bx 83 (hdC r last), mapR r (kvC cs)] w' := by
    have e5 : bs.length = xs.length := by omega
    have h5 : Ok (domL (OC bx r last cs)) w [row p 94 [.slice (some ⟨bb, 0, none⟩) bs.length cap, .int .i64 (wr + 1 : Nat), .complex .f64 (fe (bt.wr now).x) (fe (bt.wr now).y), .int .i64 (bt.wr now).n, .int .i64 (bt.wr now).last, .bool dr], ownd (some ⟨bb, 0, none⟩) cap 5 1 bs.length (xs.flatMap cU), allC (cs.eraseIdx i), row bx 83 (hdC r last), mapR r (kvC cs)] w' := h3
    rw [e5] at h5
    exact h5
  have h6 := plug (c := PC.put ⟨id, p, some ⟨bb, 0, none⟩, cap, bs, wr, bt, dr⟩ xs now) (perm_set hi) h4
  have h7 : Ok (domL (OC bx r last cs)) w [allC (cs.set i (PC.put ⟨id, p, some ⟨bb, 0, none⟩, cap, bs, wr, bt, dr⟩ xs now)), row bx 83 (hdC r last), mapR r (kvC (cs.set i (PC.put ⟨id, p, some ⟨bb, 0, none⟩, cap, bs, wr, bt, dr⟩ xs now)))] w' := by
    rw [kvC_set (c' := PC.put ⟨id, p, some ⟨bb, 0, none⟩, cap, bs, wr, bt, dr⟩ xs now) hi rfl rfl]
    exact h6
  exact h7.pick [1, 2, 0] (by simp) rfl
/-- A sweep with nothing dropped. -/
theorem sweep46 (bx r L : Nat) (cs : List PC) (hd : ∀ c ∈ cs, c.dr = false) (hL : L ≤ 100000) (w : World) (h1 : (row bx 83 (hdC r L)).holds w) (h2 : (mapR r (kvC cs)).holds w) (h3 : (allC cs).holds w) :
    Calls Try.prog 46 #[.pointer (some ⟨bx, 0, none⟩)] w fun e w' => e = .returned (.int .i64 0) ∧ Grow w w' := by
  refine enter1 (S := fun _ => False) 22 Try.func46 rfl rfl rfl (Ok.start w) ?_
  have hS : ¬ (fun _ : Nat => False) bx := id
  (repeat (first | ((refine (?_ : MX _ _ _ _ _ _ _ _ _ _ _)); first | refine mx_end ?_ | (refine mx_mv _ rfl rfl (by conv => {lhs; whnf}) ?_) | (refine mx_as _ rfl rfl (by conv => {lhs; whnf}) ?_) ) | refine cw_seq ?_ | refine cw_line rfl ?_ | refine pw_then ?_ ))
  refine g_cf 61 rfl ?_
  refine a_callL rfl rfl rfl rfl Try.func61 rfl rfl rfl [] _ rfl (fun a : Option Addr × Nat => .slice a.1 0 a.2) (fun a => [ownd a.1 a.2 3 1 0 []]) (fun w' hw _ => by
    have h61 := gone61 bx r L cs hL w' (hw.orow h1 id) (Ok.oldM hw h2 id) (oldA hw h3 (fun _ => id))
    rw [gone_nil hd] at h61
    exact h61) (fun _ => rfl) (fun _ _ _ => trivial) (fun a => ?_)
  (repeat (first | ((refine (?_ : MX _ _ _ _ _ _ _ _ _ _ _)); first | refine mx_end ?_ | (refine mx_mv _ rfl rfl (by conv => {lhs; whnf}) ?_) | (refine mx_as _ rfl rfl (by conv => {lhs; whnf}) ?_) | (refine g_bi .len rfl ?_; refine mx_len E rfl rfl rfl rfl ?_) ) | refine cw_seq ?_ | refine cw_line rfl ?_ | refine cw_block ?_ | refine pw_then ?_ ))
  refine cw_loop (ι := Nat) (fun i => [(10, .int .i64 0), (9, .int .i64 0), (3, .slice a.1 0 a.2)]) (fun i => []) (fun i => True) (fun i => 0) 0 trivial ⟨rfl, rfl, rfl, trivial⟩ (fun w h => h.nil) ?_
  intro i jk hi
  (repeat (first | ((refine (?_ : MX _ _ _ _ _ _ _ _ _ _ _)); first | refine mx_end ?_ | (refine mx_mv _ rfl rfl (by conv => {lhs; whnf}) ?_) | (refine mx_as _ rfl rfl (by conv => {lhs; whnf}) ?_) | (refine g_bin rfl ?_; ( (refine mx_cmpl .lss rfl rfl rfl rfl rfl (by exact cmp_lt_f (by omega) ) ?_) ) ) | (refine g_bi .len rfl ?_; refine mx_len E rfl rfl rfl rfl ?_) ) | refine cw_seq ?_ | refine cw_line rfl ?_ | refine cw_cond_f rfl ?_ | refine cw_exit ?_ | refine cw_ret ?_ | refine pw_then ?_ | refine pw_then_x ?_ | refine pw_block_e ?_ ))
  exact pw_ret rfl rfl rfl rfl fun w' hw => ⟨rfl, hw.keep.grow⟩
end Go.Proofs.Ytfekmflnfhjebaa
