/- The program's cells: a number stored; the example of chapter 8. -/
import Derived.Test.YtfekmflnfhjebaaCp
set_option maxRecDepth 100000
set_option maxHeartbeats 8000000
set_option linter.unusedSimpArgs false
set_option linter.unusedVariables false
namespace Go.Proofs.Ytfekmflnfhjebaa
open Go Go.Sx Go.RowKit
theorem store48n (bx r : Nat) (last k off size v now : Int) (cs : List PC) (hno : ∀ c, lc k cs = some c → ¬ fits c off size) (ho : -9223372036854775808 ≤ off ∧ off < 9223372036854775808) (hb : ∀ c ∈ cs, c.bs.length ≤ 100000) (w : World) (h1 : (row bx 83 (hdC r last)).holds w) (h2 : (mapR r (kvC cs)).holds w) (h3 : (allC cs).holds w) :
    Calls Try.prog 48 #[.pointer (some ⟨bx, 0, none⟩), .int .i64 k, .int .i64 off, .int .i64 size, .int .u64 v, .int .i64 now] w fun e w' => e = .returned (.bool false) ∧ Grow w w' := by
  refine enter6 (S := fun _ => False) 45 Try.func48 rfl rfl rfl (Ok.start w) ?_
  (repeat (first | ((refine (?_ : MX _ _ _ _ _ _ _ _ _ _ _)); first | refine mx_end ?_ | (refine mx_mv _ rfl rfl (by conv => {lhs; whnf}) ?_) | (refine mx_as _ rfl rfl (by conv => {lhs; whnf}) ?_) ) | refine cw_seq ?_ | refine cw_line rfl ?_ | refine pw_then ?_ ))
  refine g_cf 66 rfl ?_
  refine a_callv rfl rfl rfl rfl Try.func66 rfl rfl rfl _ (fun w' hw => part66n bx r last k off size cs hno ho hb w' (hw.orow h1 id) (Ok.oldM hw h2 id) (oldA hw h3 (fun _ => id))) rfl ?_
  (repeat (first | ((refine (?_ : MX _ _ _ _ _ _ _ _ _ _ _)); first | refine mx_end ?_ | (refine mx_mv _ rfl rfl (by conv => {lhs; whnf}) ?_) | (refine mx_as _ rfl rfl (by conv => {lhs; whnf}) ?_) | (refine mx_not rfl rfl rfl ?_) | (refine mx_ex _ rfl rfl rfl (by conv => {lhs; whnf}) ?_) ) | refine cw_seq ?_ | refine cw_line rfl ?_ | refine cw_cond_t rfl ?_ | refine cw_ret ?_ | refine pw_then ?_ | refine pw_then_r ?_ ))
  exact pw_ret rfl rfl rfl rfl fun w' hw => ⟨rfl, hw.keep.grow⟩
theorem store48y (bx r : Nat) (last k : Int) (cs : List PC) (i0 : Nat) (c : PC) (hi : cs[i0]? = some c) (hc : lc k cs = some c) (ob nb : Nat) (v now : Int) (hsz : nb = 1 ∨ nb = 2 ∨ nb = 4 ∨ nb = 8) (hfit : ob + nb ≤ c.bs.length) (hbl : c.bs.length ≤ 100000) (hok : c.bt.ok) (hn : c.bt.n ≤ 999) (hwr : c.wr ≤ 100000) (w : World) (h0 : Ok (domL (OC bx r last cs)) w (OC bx r last cs) w) :
    Calls Try.prog 48 #[.pointer (some ⟨bx, 0, none⟩), .int .i64 k, .int .i64 ob, .int .i64 nb, .int .u64 v, .int .i64 now] w fun e w' => e = .returned (.bool true) ∧ Ok (domL (OC bx r last cs)) w (OC bx r last (cs.set i0 (c.put (wrB c.bs ob (byts v nb)) now))) w' := by
  have h1 : Ok (domL (OC bx r last cs)) w [row c.p 94 (cPC c), ownd c.ba c.cap 5 1 c.bs.length (c.bs.flatMap cU), allC (cs.eraseIdx i0), row bx 83 (hdC r last), mapR r (kvC cs)] w := unplug (perm_at hi) (h0.pick [2, 0, 1] (by simp) rfl)
  obtain ⟨id', p, ba, cap, bs, wr, bt, dr⟩ := c
  dsimp only at hok hn hwr h1 hfit hbl
  obtain ⟨bb, rfl, _⟩ := (own_at (h1.holds 1 _ rfl)).2.1 (by omega)
  obtain ⟨rest, ⟨e1, e2, e3, e4⟩, h2⟩ := ok_open 1 rfl h1
  refine enter6 (S := domL (OC bx r last cs)) (H := [row p 94 [.slice (some ⟨bb, 0, none⟩) bs.length cap, .int .i64 wr, .complex .f64 (fe bt.x) (fe bt.y), .int .i64 bt.n, .int .i64 bt.last, .bool dr], row bb 5 (bs.flatMap cU ++ rest), allC (cs.eraseIdx i0), row bx 83 (hdC r last), mapR r (kvC cs)]) 45 Try.func48 rfl rfl rfl h2 ?_
  (repeat (first | ((refine (?_ : MX _ _ _ _ _ _ _ _ _ _ _)); first | refine mx_end ?_ | (refine mx_mv _ rfl rfl (by conv => {lhs; whnf}) ?_) | (refine mx_as _ rfl rfl (by conv => {lhs; whnf}) ?_) ) | refine cw_seq ?_ | refine cw_line rfl ?_ | refine pw_then ?_ ))
  refine g_cf 66 rfl ?_
  refine a_callv rfl rfl rfl rfl Try.func66 rfl rfl rfl (.tuple #[.pointer (some ⟨p, 0, none⟩), .slice (some ⟨bb, ob, none⟩) nb (cap - ob), .bool true]) (fun w' hw => part66y bx r last k cs ⟨id', p, some ⟨bb, 0, none⟩, cap, bs, wr, bt, dr⟩ hc ob nb bb rfl hsz hfit e3 hbl w' (hw.holds 3 _ rfl) (hw.holds 4 _ rfl) (hw.holds 0 _ rfl)) rfl ?_
  (repeat (first | ((refine (?_ : MX _ _ _ _ _ _ _ _ _ _ _)); first | refine mx_end ?_ | (refine mx_mv _ rfl rfl (by conv => {lhs; whnf}) ?_) | (refine mx_as _ rfl rfl (by conv => {lhs; whnf}) ?_) | (refine g_bi .len rfl ?_; refine mx_len E rfl rfl rfl rfl ?_) | (refine mx_not rfl rfl rfl ?_) | (refine mx_ex _ rfl rfl rfl (by conv => {lhs; whnf}) ?_) ) | refine cw_seq ?_ | refine cw_line rfl ?_ | refine cw_block ?_ | refine cw_cond_f rfl ?_ | refine cw_skip ?_ | refine pw_then ?_ ))
  refine cw_loop (ι := Nat) (fun i => [(30, .int .i64 i), (29, .int .i64 nb), (14, .slice (some ⟨bb, ob, none⟩) nb (cap - ob)), (4, .int .u64 v), (13, .pointer (some ⟨p, 0, none⟩)), (5, .int .i64 now)]) (fun i => [row p 94 [.slice (some ⟨bb, 0, none⟩) bs.length cap, .int .i64 wr, .complex .f64 (fe bt.x) (fe bt.y), .int .i64 bt.n, .int .i64 bt.last, .bool dr], row bb 5 ((wrB bs ob (byts v i)).flatMap cU ++ rest), allC (cs.eraseIdx i0), row bx 83 (hdC r last), mapR r (kvC cs)]) (fun i => i ≤ nb) (fun i => nb - i) 0 (by omega) ⟨rfl, rfl, rfl, rfl, rfl, rfl, trivial⟩ (fun w h => by
    have e : wrB bs ob (byts v 0) = bs := by simp [wrB, byts]
    rw [e]
    exact h) ?_
  intro i jk hin
  by_cases hil : (i : Int) < nb
  case pos =>
    have hsr := shr64 v i (by omega)
    have hcv : IntKind.u8.wrap (v / 2 ^ (8 * i)) = bytw v i := rfl
    (repeat (first | ((refine (?_ : MX _ _ _ _ _ _ _ _ _ _ _)); first | refine mx_end ?_ | (refine mx_mv _ rfl rfl (by conv => {lhs; whnf}) ?_) | (refine mx_as _ rfl rfl (by conv => {lhs; whnf}) ?_) | (refine g_bin rfl ?_; first | ( (refine mx_cmpl .lss rfl rfl rfl rfl rfl (by exact cmp_lt_t (by omega) ) ?_) ) | (refine mx_ar rfl rfl rfl rfl rfl rfl (IntWalk.i64_in _ (by omega)) rfl ?_ ) | refine mx_sh rfl rfl rfl rfl rfl (by omega) (congrArg some (by assumption)) rfl rfl ?_ ) | (refine g_ix rfl ?_; refine mx_ixsn E rfl rfl rfl rfl rfl rfl (by omega) rfl ?_ ) | (refine g_store rfl ?_; refine s_1 E rfl rfl rfl rfl rfl rfl rfl rfl (by exact sp_wr _ _ _ (by omega) ) rfl ?_) | (refine g_conv rfl ?_; refine mx_cv E rfl rfl rfl rfl rfl rfl (by assumption) rfl ?_ ) ) | refine cw_seq ?_ | refine cw_line rfl ?_ | refine cw_block ?_ | refine cw_cond_t rfl ?_ | refine cw_skip ?_ | refine pw_then ?_ | refine pw_block ?_ ))
    exact pw_round (i + 1) (by omega) (by omega) ⟨rfl, rfl, rfl, rfl, rfl, rfl, trivial⟩ (fun w h => h)
  case neg =>
    obtain rfl : i = nb := by omega
    have hwl : (wrB bs ob (byts v i)).length = bs.length := wrB_len (by rw [byts_len]; exact hfit)
    generalize wrB bs ob (byts v i) = xs at hwl ⊢
    (repeat (first | ((refine (?_ : MX _ _ _ _ _ _ _ _ _ _ _)); first | refine mx_end ?_ | (refine mx_mv _ rfl rfl (by conv => {lhs; whnf}) ?_) | (refine g_bin rfl ?_; ( (refine mx_cmpl .lss rfl rfl rfl rfl rfl (by exact cmp_lt_f (by omega) ) ?_) ) ) ) | refine cw_seq ?_ | refine cw_line rfl ?_ | refine cw_cond_f rfl ?_ | refine cw_exit ?_ | refine pw_then ?_ | refine pw_then_x ?_ | refine pw_block_e ?_ ))
    refine g_cf 65 rfl ?_
    refine a_callr rfl rfl rfl rfl Try.func65 rfl rfl rfl p (cPC (PC.wrt ⟨id', p, some ⟨bb, 0, none⟩, cap, bs, wr, bt, dr⟩ now)) (.tuple #[]) (fun w' hw h => written65 ⟨id', p, some ⟨bb, 0, none⟩, cap, bs, wr, bt, dr⟩ now hok hn hwr w' h) rfl ?_
    (repeat (first | ((refine (?_ : MX _ _ _ _ _ _ _ _ _ _ _)); first | refine mx_end ?_ | (refine mx_as _ rfl rfl (by conv => {lhs; whnf}) ?_) ) | refine cw_seq ?_ | refine cw_line rfl ?_ | refine cw_ret ?_ | refine pw_then ?_ ))
    refine pw_ret rfl rfl rfl rfl fun w' hw => ⟨rfl, ?_⟩
    have h3 := ok_close (xs := xs.flatMap cU) (rest := rest) (len := bs.length) (z := 1) (cap := cap) 1 rfl (by rw [flatU_len]; omega) (by rw [List.length_append, flatU_len, ← e2, List.length_append, flatU_len]; omega) e3 e4 hw
    have h4 : Ok (domL (OC bx r last cs)) w [row p 94 (cPC (PC.put ⟨id', p, some ⟨bb, 0, none⟩, cap, bs, wr, bt, dr⟩ xs now)), ownd (some ⟨bb, 0, none⟩) cap 5 1 xs.length (xs.flatMap cU), allC (cs.eraseIdx i0), row bx 83 (hdC r last), mapR r (kvC cs)] w' := by
      have e5 : bs.length = xs.length := by omega
      have h5 : Ok (domL (OC bx r last cs)) w [row p 94 [.slice (some ⟨bb, 0, none⟩) bs.length cap, .int .i64 (wr + 1 : Nat), .complex .f64 (fe (bt.wr now).x) (fe (bt.wr now).y), .int .i64 (bt.wr now).n, .int .i64 (bt.wr now).last, .bool dr], ownd (some ⟨bb, 0, none⟩) cap 5 1 bs.length (xs.flatMap cU), allC (cs.eraseIdx i0), row bx 83 (hdC r last), mapR r (kvC cs)] w' := h3
      rw [e5] at h5
      exact h5
    have h6 := plug (c := PC.put ⟨id', p, some ⟨bb, 0, none⟩, cap, bs, wr, bt, dr⟩ xs now) (perm_set hi) h4
    have h7 : Ok (domL (OC bx r last cs)) w [allC (cs.set i0 (PC.put ⟨id', p, some ⟨bb, 0, none⟩, cap, bs, wr, bt, dr⟩ xs now)), row bx 83 (hdC r last), mapR r (kvC (cs.set i0 (PC.put ⟨id', p, some ⟨bb, 0, none⟩, cap, bs, wr, bt, dr⟩ xs now)))] w' := by
      rw [kvC_set (c' := PC.put ⟨id', p, some ⟨bb, 0, none⟩, cap, bs, wr, bt, dr⟩ xs now) hi rfl rfl]
      exact h6
    exact h7.pick [1, 2, 0] (by simp) rfl
end Go.Proofs.Ytfekmflnfhjebaa
