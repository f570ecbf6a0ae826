/- Forms written over: the walks of SpoilFills, SpoilCode. -/
import Derived.Test.YtikdbgheefjpkaaQc
set_option maxRecDepth 100000
set_option maxHeartbeats 8000000
set_option linter.unusedSimpArgs false
set_option linter.unusedVariables false
namespace Go.Proofs.Ytikdbgheefjpkaa
open Go Go.Sx Go.RowKit
instance : ZeroT Try.prog 122 [.int .i64 0, .int .u64 0] := ⟨by kernel_rfl⟩
theorem b122s (a b : Int) : Blt Try.prog 122 [(0, .int .i64 a), (1, .int .u64 b)] [.int .i64 a, .int .u64 b] := ⟨by kernel_rfl⟩
@[reducible] def spOp (k i : Int) : OP := ⟨⟨k, 0, 0, i, 0, 0, 0, 0, 0, 0, 0, 0, 0, [], []⟩, none, 0, none, 0⟩
theorem b112s (k i : Int) : Blt Try.prog 112 [(0, .int .i64 k), (3, .int .i64 i)] (cOP (spOp k i)) := ⟨by kernel_rfl⟩
theorem mark98 (i : Int) (h0 : 0 ≤ i) (h1 : i ≤ 200000000000000) (w : World) : Calls Try.prog 98 #[.int .i64 i] w fun e w' => e = .returned (.agg (cFL ⟨50 + i, 7⟩).toArray) ∧ Grow w w' := by
  refine enter1 (S := fun _ => False) 6 Try.func98 rfl rfl rfl (Ok.start w) ?_
  (repeat (first | ((refine (?_ : MX _ _ _ _ _ _ _ _ _ _ _)); first | refine mx_end ?_ | (refine mx_mv _ rfl rfl (by conv => {lhs; whnf}) ?_) | (refine g_bin rfl ?_; ( refine mx_ar rfl rfl rfl rfl rfl rfl (IntWalk.i64_in _ (by omega)) rfl ?_ ) ) | (refine g_store rfl ?_; refine s_l E rfl rfl rfl rfl rfl rfl rfl (by exact Sp.all rfl ) rfl ?_ ) | (refine g_build rfl ?_; refine mx_build rfl rfl rfl rfl (b122s _ _) rfl ?_ ) | (refine a_new rfl rfl rfl rfl rfl (fun _ => ?_)) ) | refine cw_seq ?_ | refine cw_line rfl ?_ | refine cw_ret ?_ | refine pw_then ?_ ))
  exact pw_retc E (j := 0) rfl rfl rfl rfl rfl rfl fun w hw => ⟨rfl, hw.keep.grow⟩
theorem spoilF77 (ad : Option Addr) (cap n : Nat) (xs : List Value) (hn : n ≤ 8796093022208) (w : World) (h0 : Ok (domL [ownd ad cap 122 2 n xs]) w [ownd ad cap 122 2 n xs] w) :
    Calls Try.prog 77 #[.slice ad n cap] w fun e w' => ∃ u : Unit, e = .returned (.tuple #[]) ∧ Ok (domL [ownd ad cap 122 2 n xs]) w [] w' := by
  refine enter1 (S := domL [ownd ad cap 122 2 n xs]) (H := [ownd ad cap 122 2 n xs]) 15 Try.func77 rfl rfl rfl h0 ?_
  by_cases hz : n = 0
  · subst hz
    (repeat (first | ((refine (?_ : MX _ _ _ _ _ _ _ _ _ _ _)); first | refine mx_end ?_ | (refine mx_as _ rfl rfl (by conv => {lhs; whnf}) ?_) ) | refine cw_seq ?_ | refine cw_line rfl ?_ | refine cw_block ?_ | refine pw_then ?_ ))
    refine cw_loop (fun i : Nat => [(2, .int .i64 i), (0, .slice ad 0 cap)]) (fun i => []) (fun i => i ≤ 1000) (fun i => 0) 0 (Nat.zero_le _) ⟨rfl, rfl, trivial⟩ (fun w h => h.nil) ?_
    intro i jk hi
    have hne : ¬ ((i : Int) < (0 : Nat)) := by omega
    (repeat (first | ((refine (?_ : MX _ _ _ _ _ _ _ _ _ _ _)); first | refine mx_end ?_ | (refine mx_mv _ rfl rfl (by conv => {lhs; whnf}) ?_) | (refine g_bin rfl ?_; ( (refine mx_cmpl .lss rfl rfl rfl rfl rfl (by exact cmp_lt_f (by omega) ) ?_) ) ) | (refine g_bi .len rfl ?_; refine mx_len E rfl rfl rfl rfl ?_) ) | refine cw_seq ?_ | refine cw_line rfl ?_ | refine cw_cond_f rfl ?_ | refine cw_exit ?_ | refine pw_then ?_ | refine pw_then_x ?_ | refine pw_block_e ?_ ))
    exact pw_ret0 rfl rfl fun w' hw => ⟨(), rfl, hw⟩
  refine cw_know (p := ∃ b, ad = some ⟨b, 0, none⟩) (fun w hw => by obtain ⟨b, e, _⟩ := (own_at (hw.holds 0 _ rfl)).2.1 (by omega); exact ⟨b, e⟩) (fun hb => ?_)
  obtain ⟨b, rfl⟩ := hb
  refine cw_ex (fun rest => [row b 122 (xs ++ rest)]) _ (fun w hw => (ok_open 0 rfl hw).imp fun rest h => ⟨h.1, h.2⟩) (fun rest he => ?_)
  obtain ⟨e1, e2, e3, e4⟩ := he
  (repeat (first | ((refine (?_ : MX _ _ _ _ _ _ _ _ _ _ _)); first | refine mx_end ?_ | (refine mx_as _ rfl rfl (by conv => {lhs; whnf}) ?_) ) | refine cw_seq ?_ | refine cw_line rfl ?_ | refine cw_block ?_ | refine pw_then ?_ ))
  refine cw_loop (ι := Nat × List Value) (fun q => [(2, .int .i64 q.1), (0, .slice (some ⟨b, 0, none⟩) n cap)]) (fun q => [row b 122 q.2]) (fun q => q.1 ≤ n ∧ q.2.length = cap * 2) (fun q => n - q.1) (0, xs ++ rest) ⟨Nat.zero_le _, e2⟩ ⟨rfl, rfl, trivial⟩ (fun w h => h) ?_
  rintro ⟨i, vs⟩ jk ⟨hi, hv⟩
  dsimp only at hi hv ⊢
  by_cases h1 : (i : Int) < n
  case neg =>
    (repeat (first | ((refine (?_ : MX _ _ _ _ _ _ _ _ _ _ _)); first | refine mx_end ?_ | (refine mx_mv _ rfl rfl (by conv => {lhs; whnf}) ?_) | (refine g_bin rfl ?_; ( (refine mx_cmpl .lss rfl rfl rfl rfl rfl (by exact cmp_lt_f (by omega) ) ?_) ) ) | (refine g_bi .len rfl ?_; refine mx_len E rfl rfl rfl rfl ?_) ) | refine cw_seq ?_ | refine cw_line rfl ?_ | refine cw_cond_f rfl ?_ | refine cw_exit ?_ | refine pw_then ?_ | refine pw_then_x ?_ | refine pw_block_e ?_ ))
    exact pw_ret0 rfl rfl fun w' hw => ⟨(), rfl, hw.nil⟩
  (repeat (first | ((refine (?_ : MX _ _ _ _ _ _ _ _ _ _ _)); first | refine mx_end ?_ | (refine mx_mv _ rfl rfl (by conv => {lhs; whnf}) ?_) | (refine g_bin rfl ?_; first | ( (refine mx_cmpl .lss rfl rfl rfl rfl rfl (by exact cmp_lt_t (by omega) ) ?_) ) | ( refine mx_ar rfl rfl rfl rfl rfl rfl (IntWalk.i64_in _ (by omega)) rfl ?_ ) ) | (refine g_bi .len rfl ?_; refine mx_len E rfl rfl rfl rfl ?_) ) | refine cw_seq ?_ | refine cw_line rfl ?_ | refine cw_block ?_ | refine cw_cond_t rfl ?_ | refine cw_skip ?_ | refine pw_then ?_ ))
  refine g_cf 98 rfl ?_
  refine a_callv rfl rfl rfl rfl Try.func98 rfl rfl rfl (.agg (cFL ⟨50 + ((i : Int) + 7), 7⟩).toArray) (fun w' hw => mark98 ((i : Int) + 7) (by omega) (by omega) w') rfl ?_
  have hsp : Sp vs (0 + i * 2) (cFL ⟨50 + ((i : Int) + 7), 7⟩) (splice vs (0 + i * 2) (cFL ⟨50 + ((i : Int) + 7), 7⟩)) := sp_any (by simp; omega)
  have hv2 : (splice vs (0 + i * 2) (cFL ⟨50 + ((i : Int) + 7), 7⟩)).length = cap * 2 := by rw [splice_len (by simp; omega)]; exact hv
  (repeat (first | ((refine (?_ : MX _ _ _ _ _ _ _ _ _ _ _)); first | refine mx_end ?_ | (refine mx_mv _ rfl rfl (by conv => {lhs; whnf}) ?_) | (refine mx_as _ rfl rfl (by conv => {lhs; whnf}) ?_) | (refine g_bin rfl ?_; ( refine mx_ar rfl rfl rfl rfl rfl rfl (IntWalk.i64_in _ (by omega)) rfl ?_ ) ) | (refine g_ix rfl ?_; refine mx_ixsn E rfl rfl rfl rfl rfl rfl (by omega) rfl ?_ ) | (refine g_store rfl ?_; refine s_l E rfl rfl rfl rfl rfl rfl rfl (by assumption ) rfl ?_ ) ) | refine cw_line rfl ?_ | refine pw_then ?_ | refine pw_block ?_ ))
  exact pw_round (i + 1, splice vs (0 + i * 2) (cFL ⟨50 + ((i : Int) + 7), 7⟩)) ⟨by show i + 1 ≤ n; omega, hv2⟩ (by show n - (i + 1) < n - i; omega) ⟨rfl, rfl, trivial⟩ (fun w h => h)
theorem allF_cons {S : Nat → Prop} {w0 w : World} {H : List Res} {l : List OP} {x : OP} (h : Ok S w0 (allF (x :: l) :: H) w) : Ok S w0 (ownd x.ha x.hc 122 2 x.v.held.length (x.v.held.flatMap cFL) :: ownd x.na x.nc 122 2 x.v.need.length (x.v.need.flatMap cFL) :: allF l :: H) w := by
  have h1 : Ok S w0 ((x :: l).flatMap RF ++ H) w := Ok.unstar h
  have h1' : Ok S w0 ([ownd x.ha x.hc 122 2 x.v.held.length (x.v.held.flatMap cFL), ownd x.na x.nc 122 2 x.v.need.length (x.v.need.flatMap cFL)] ++ (l.flatMap RF ++ H)) w := h1
  have h2 : Ok S w0 (l.flatMap RF ++ ([ownd x.ha x.hc 122 2 x.v.held.length (x.v.held.flatMap cFL), ownd x.na x.nc 122 2 x.v.need.length (x.v.need.flatMap cFL)] ++ H)) w := h1'.perm (List.perm_append_comm_assoc _ _ _)
  have h3 : Ok S w0 (allF l :: ([ownd x.ha x.hc 122 2 x.v.held.length (x.v.held.flatMap cFL), ownd x.na x.nc 122 2 x.v.need.length (x.v.need.flatMap cFL)] ++ H)) w := Ok.star h2
  exact h3.perm List.perm_middle.symm
theorem spoilC47 (c : CD) (hs : c.ops.length ≤ 2000 ∧ c.at'.length ≤ 1000 ∧ c.evs.length ≤ 1000) (ho : ∀ o ∈ c.ops, o.v.held.length ≤ 8796093022208 ∧ o.v.need.length ≤ 8796093022208) (hk : ∀ x ∈ c.evs, x.v.key.length ≤ 140737488355328) (w : World) (h0 : Ok (domL (OCd c)) w (OCd c) w) :
    Calls Try.prog 47 #[.agg (cCD c).toArray] w fun e w' => ∃ u : Unit, e = .returned (.tuple #[]) ∧ Ok (domL (OCd c)) w [] w' := by
  obtain ⟨hs1, hs2, hs3⟩ := hs
  refine enter1 (S := domL (OCd c)) (H := [ownd c.oa c.oc 112 15 c.ops.length (c.ops.flatMap cOP), allF c.ops, ownd c.ta c.tc 3 1 c.at'.length (c.at'.flatMap cI), ownd c.ea c.ec 49 5 c.evs.length (c.evs.flatMap cEV), allK c.evs]) 36 Try.func47 rfl rfl rfl h0 ?_
  (repeat (first | ((refine (?_ : MX _ _ _ _ _ _ _ _ _ _ _)); first | refine mx_end ?_ | ( refine mx_fa E rfl rfl rfl rfl ?_) | (refine g_load rfl ?_; refine mx_get E rfl rfl rfl rfl rfl (by rfl) rfl ?_ ) | (refine g_box rfl ?_; refine a_boxl rfl rfl rfl rfl rfl rfl (fun _ => ?_) ) ) | refine cw_seq ?_ | refine cw_line rfl ?_ | refine pw_then ?_ ))
  rename_i b1
  refine g_cf 23 rfl ?_
  refine a_calls rfl rfl rfl rfl Try.func23 rfl rfl rfl [ownd c.ta c.tc 3 1 c.at'.length (c.at'.flatMap cI)] [row b1 59 (cCD c), ownd c.oa c.oc 112 15 c.ops.length (c.ops.flatMap cOP), allF c.ops, ownd c.ea c.ec 49 5 c.evs.length (c.evs.flatMap cEV), allK c.evs] (fun w h => h.pick [3, 0, 1, 2, 4, 5] (by simp) rfl) (fun _ : Unit => .tuple #[]) (fun _ => []) (fun w' hw h => spoilI23 c.ta c.tc c.at'.length _ (by omega) w' h) (fun _ => rfl) (fun _ _ _ => trivial) (fun _ => ?_)
  dsimp only [List.nil_append]
  (repeat (first | ((refine (?_ : MX _ _ _ _ _ _ _ _ _ _ _)); first | refine mx_end ?_ | ( refine mx_fa E rfl rfl rfl rfl ?_) | (refine g_load rfl ?_; refine mx_get E rfl rfl rfl rfl rfl (by rfl) rfl ?_ ) ) | refine cw_seq ?_ | refine cw_line rfl ?_ | refine pw_then ?_ ))
  refine g_cf 25 rfl ?_
  refine a_calls rfl rfl rfl rfl Try.func25 rfl rfl rfl [ownd c.ea c.ec 49 5 c.evs.length (c.evs.flatMap cEV), allK c.evs] [row b1 59 (cCD c), ownd c.oa c.oc 112 15 c.ops.length (c.ops.flatMap cOP), allF c.ops] (fun w h => h.pick [3, 4, 0, 1, 2] (by simp) rfl) (fun _ : Unit => .tuple #[]) (fun _ => []) (fun w' hw h => spoilE25 c.ea c.ec c.evs (by omega) hk w' h) (fun _ => rfl) (fun _ _ _ => trivial) (fun _ => ?_)
  dsimp only [List.nil_append]
  (repeat (first | ((refine (?_ : MX _ _ _ _ _ _ _ _ _ _ _)); first | refine mx_end ?_ | (refine mx_as _ rfl rfl (by conv => {lhs; whnf}) ?_) ) | refine cw_seq ?_ | refine cw_line rfl ?_ | refine cw_block ?_ | refine pw_then ?_ ))
  by_cases hz : c.ops.length = 0
  · refine cw_loop (fun i : Nat => [(2, .int .i64 i), (1, .pointer (some ⟨b1, 0, none⟩))]) (fun i => [row b1 59 (cCD c)]) (fun i => i ≤ 1000) (fun i => 0) 0 (Nat.zero_le _) ⟨rfl, rfl, trivial⟩ (fun w h => h.only 0 rfl) ?_
    intro i jk hi
    have hne : ¬ ((i : Int) < c.ops.length) := by omega
    (repeat (first | ((refine (?_ : MX _ _ _ _ _ _ _ _ _ _ _)); first | refine mx_end ?_ | (refine mx_mv _ rfl rfl (by conv => {lhs; whnf}) ?_) | ( refine mx_fa E rfl rfl rfl rfl ?_) | (refine g_load rfl ?_; refine mx_get E rfl rfl rfl rfl rfl (by rfl) rfl ?_ ) | (refine g_bin rfl ?_; ( (refine mx_cmpl .lss rfl rfl rfl rfl rfl (by exact cmp_lt_f (by omega) ) ?_) ) ) | (refine g_bi .len rfl ?_; refine mx_len E rfl rfl rfl rfl ?_) ) | refine cw_seq ?_ | refine cw_line rfl ?_ | refine cw_cond_f rfl ?_ | refine cw_exit ?_ | refine pw_then ?_ | refine pw_then_x ?_ | refine pw_block_e ?_ ))
    exact pw_ret0 rfl rfl fun w' hw => ⟨(), rfl, hw.nil⟩
  obtain ⟨prog, oa, oc, ops, ta, tc, at', ea, ec, evs⟩ := c
  dsimp only at *
  refine cw_know (p := ∃ b, oa = some ⟨b, 0, none⟩) (fun w hw => by obtain ⟨b, e, _⟩ := (own_at (hw.holds 1 _ rfl)).2.1 (by omega); exact ⟨b, e⟩) (fun hb => ?_)
  obtain ⟨b, rfl⟩ := hb
  refine cw_ex (fun rest => [row b1 59 [.int .i64 prog, .slice (some ⟨b, 0, none⟩) ops.length oc, .slice ta at'.length tc, .slice ea evs.length ec], row b 112 (ops.flatMap cOP ++ rest), allF ops]) _ (fun w hw => (ok_open 1 rfl hw).imp fun rest h => ⟨h.1, h.2⟩) (fun rest he => ?_)
  refine cw_loop (ι := Nat × List OP) (fun q => [(2, .int .i64 q.1), (1, .pointer (some ⟨b1, 0, none⟩))]) (fun q => [row b1 59 [.int .i64 prog, .slice (some ⟨b, 0, none⟩) ops.length oc, .slice ta at'.length tc, .slice ea evs.length ec], row b 112 ((q.2 ++ ops.drop q.1).flatMap cOP ++ rest), allF (ops.drop q.1)]) (fun q => q.1 ≤ ops.length ∧ q.2.length = q.1) (fun q => ops.length - q.1) (0, []) ⟨Nat.zero_le _, rfl⟩ ⟨rfl, rfl, trivial⟩ (fun w h => h) ?_
  rintro ⟨i, dn⟩ jk ⟨hi, hdl⟩
  dsimp only at hi hdl ⊢
  by_cases h1 : (i : Int) < ops.length
  case neg =>
    (repeat (first | ((refine (?_ : MX _ _ _ _ _ _ _ _ _ _ _)); first | refine mx_end ?_ | (refine mx_mv _ rfl rfl (by conv => {lhs; whnf}) ?_) | ( refine mx_fa E rfl rfl rfl rfl ?_) | (refine g_load rfl ?_; refine mx_get E rfl rfl rfl rfl rfl (by rfl) rfl ?_ ) | (refine g_bin rfl ?_; ( (refine mx_cmpl .lss rfl rfl rfl rfl rfl (by exact cmp_lt_f (by omega) ) ?_) ) ) | (refine g_bi .len rfl ?_; refine mx_len E rfl rfl rfl rfl ?_) ) | refine cw_seq ?_ | refine cw_line rfl ?_ | refine cw_cond_f rfl ?_ | refine cw_exit ?_ | refine pw_then ?_ | refine pw_then_x ?_ | refine pw_block_e ?_ ))
    exact pw_ret0 rfl rfl fun w' hw => ⟨(), rfl, hw.nil⟩
  obtain ⟨x, hx⟩ := getElem_some (xs := ops) (i := i) (by omega)
  have hdr : ops.drop i = x :: ops.drop (i + 1) := by
    rw [List.drop_eq_getElem_cons (by omega)]
    congr 1
    exact (List.getElem?_eq_some_iff.1 hx).2
  have hkx := ho x (List.mem_of_getElem? hx)
  rw [hdr]
  generalize htl : ops.drop (i + 1) = tl
  have hrh : ((dn ++ x :: tl).flatMap cOP ++ rest)[0 + i * 15 + 13]? = some (.slice x.ha x.v.held.length x.hc) := rd_at len_OP (xs := dn ++ x :: tl) (j := dn.length) (x := x) (by simp) (show 13 < 15 by omega) rfl rest (by omega)
  have hrn : ((dn ++ x :: tl).flatMap cOP ++ rest)[0 + i * 15 + 14]? = some (.slice x.na x.v.need.length x.nc) := rd_at len_OP (xs := dn ++ x :: tl) (j := dn.length) (x := x) (by simp) (show 14 < 15 by omega) rfl rest (by omega)
  have hsp : Sp ((dn ++ x :: tl).flatMap cOP ++ rest) (0 + i * 15) (cOP (spOp 77 (i : Int))) ((dn ++ spOp 77 (i : Int) :: tl).flatMap cOP ++ rest) := by
    have h2 := sp_at len_OP (xs := dn ++ x :: tl) (j := dn.length) (x := x) (x' := spOp 77 (i : Int)) (by simp) (o := 0) (us := cOP (spOp 77 (i : Int))) (Sp.all (by rfl)) rest (p := 0 + i * 15) (by omega)
    rwa [set_cat] at h2
  refine cw_weak (H' := [ownd x.ha x.hc 122 2 x.v.held.length (x.v.held.flatMap cFL), ownd x.na x.nc 122 2 x.v.need.length (x.v.need.flatMap cFL), allF tl, row b1 59 [.int .i64 prog, .slice (some ⟨b, 0, none⟩) ops.length oc, .slice ta at'.length tc, .slice ea evs.length ec], row b 112 ((dn ++ x :: tl).flatMap cOP ++ rest)]) (fun w1 h => allF_cons (h.pick [2, 0, 1] (by simp) rfl)) ?_
  (repeat (first | ((refine (?_ : MX _ _ _ _ _ _ _ _ _ _ _)); first | refine mx_end ?_ | (refine mx_mv _ rfl rfl (by conv => {lhs; whnf}) ?_) | ( refine mx_fa E rfl rfl rfl rfl ?_) | (refine g_load rfl ?_; refine mx_get E rfl rfl rfl rfl rfl (by first | assumption | rfl) rfl ?_ ) | (refine g_bin rfl ?_; ( (refine mx_cmpl .lss rfl rfl rfl rfl rfl (by exact cmp_lt_t (by omega) ) ?_) ) ) | (refine g_ix rfl ?_; refine mx_ixsn E rfl rfl rfl rfl rfl rfl (by omega) rfl ?_ ) | (refine g_bi .len rfl ?_; refine mx_len E rfl rfl rfl rfl ?_) ) | refine cw_seq ?_ | refine cw_line rfl ?_ | refine cw_block ?_ | refine cw_cond_t rfl ?_ | refine cw_skip ?_ | refine pw_then ?_ ))
  refine g_cf 77 rfl ?_
  refine a_calls rfl rfl rfl rfl Try.func77 rfl rfl rfl [ownd x.ha x.hc 122 2 x.v.held.length (x.v.held.flatMap cFL)] [ownd x.na x.nc 122 2 x.v.need.length (x.v.need.flatMap cFL), allF tl, row b1 59 [.int .i64 prog, .slice (some ⟨b, 0, none⟩) ops.length oc, .slice ta at'.length tc, .slice ea evs.length ec], row b 112 ((dn ++ x :: tl).flatMap cOP ++ rest)] (fun w h => h) (fun _ : Unit => .tuple #[]) (fun _ => []) (fun w' hw h => spoilF77 x.ha x.hc x.v.held.length _ (by omega) w' h) (fun _ => rfl) (fun _ _ _ => trivial) (fun _ => ?_)
  dsimp only [List.nil_append]
  (repeat (first | ((refine (?_ : MX _ _ _ _ _ _ _ _ _ _ _)); first | refine mx_end ?_ | (refine mx_mv _ rfl rfl (by conv => {lhs; whnf}) ?_) | ( refine mx_fa E rfl rfl rfl rfl ?_) | (refine g_load rfl ?_; refine mx_get E rfl rfl rfl rfl rfl (by first | assumption | rfl) rfl ?_ ) | (refine g_ix rfl ?_; refine mx_ixsn E rfl rfl rfl rfl rfl rfl (by omega) rfl ?_ ) ) | refine cw_seq ?_ | refine cw_line rfl ?_ | refine pw_then ?_ ))
  refine g_cf 77 rfl ?_
  refine a_calls rfl rfl rfl rfl Try.func77 rfl rfl rfl [ownd x.na x.nc 122 2 x.v.need.length (x.v.need.flatMap cFL)] [allF tl, row b1 59 [.int .i64 prog, .slice (some ⟨b, 0, none⟩) ops.length oc, .slice ta at'.length tc, .slice ea evs.length ec], row b 112 ((dn ++ x :: tl).flatMap cOP ++ rest)] (fun w h => h) (fun _ : Unit => .tuple #[]) (fun _ => []) (fun w' hw h => spoilF77 x.na x.nc x.v.need.length _ (by omega) w' h) (fun _ => rfl) (fun _ _ _ => trivial) (fun _ => ?_)
  dsimp only [List.nil_append]
  (repeat (first | ((refine (?_ : MX _ _ _ _ _ _ _ _ _ _ _)); first | refine mx_end ?_ | (refine mx_mv _ rfl rfl (by conv => {lhs; whnf}) ?_) | (refine mx_as _ rfl rfl (by conv => {lhs; whnf}) ?_) | ( refine mx_fa E rfl rfl rfl rfl ?_) | (refine g_load rfl ?_; refine mx_get E rfl rfl rfl rfl rfl (by rfl) rfl ?_ ) | (refine g_bin rfl ?_; ( refine mx_ar rfl rfl rfl rfl rfl rfl (IntWalk.i64_in _ (by omega)) rfl ?_ ) ) | (refine g_ix rfl ?_; refine mx_ixsn E rfl rfl rfl rfl rfl rfl (by omega) rfl ?_ ) | (refine g_store rfl ?_; refine s_l E rfl rfl rfl rfl rfl rfl rfl (by assumption ) rfl ?_ ) | (refine g_build rfl ?_; refine mx_build rfl rfl rfl rfl (b112s _ _) rfl ?_) ) | refine cw_line rfl ?_ | refine pw_then ?_ | refine pw_block ?_ ))
  have hcat : dn ++ spOp 77 (i : Int) :: tl = (dn ++ [spOp 77 (i : Int)]) ++ ops.drop (i + 1) := by rw [htl]; simp
  rw [hcat]
  exact pw_round (i + 1, dn ++ [spOp 77 (i : Int)]) ⟨by show i + 1 ≤ ops.length; omega, by simp [hdl]⟩ (by show ops.length - (i + 1) < ops.length - i; omega) ⟨rfl, rfl, trivial⟩ (fun w h => by
    rw [← htl] at h
    exact h.pick [1, 2, 0] (by simp) rfl)
end Go.Proofs.Ytikdbgheefjpkaa
