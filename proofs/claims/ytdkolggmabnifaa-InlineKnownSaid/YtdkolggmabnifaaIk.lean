/- The chapter's two forms, joined. -/
import Derived.Test.YtdkolggmabnifaaIj
set_option maxRecDepth 100000
set_option maxHeartbeats 8000000
set_option linter.unusedSimpArgs false
set_option linter.unusedVariables false
namespace Go.Proofs.Ytdkolggmabnifaa
open Go Go.Sx Go.RowKit
theorem b26f (p : Int) (oa : Option Addr) (on oc : Nat) (ta : Option Addr) (n c : Nat) : Blt Try.prog 26 [(0, .int .i64 p), (1, .slice oa on oc), (2, .slice ta n c)] [.int .i64 p, .slice oa on oc, .slice ta n c, .slice none 0 0] := ⟨by kernel_rfl⟩
theorem b36a (k x t : Int) : Blt Try.prog 36 [(0, .int .i64 k), (8, .int .i64 x), (6, .int .i64 t)] (cVO ⟨k, 0, 0, 0, 0, 0, 0, 0, 0, 0, t, 0, x, [], []⟩ none 0 none 0) := ⟨by kernel_rfl⟩
theorem b36b (k t : Int) : Blt Try.prog 36 [(0, .int .i64 k), (6, .int .i64 t)] (cVO ⟨k, 0, 0, 0, 0, 0, 0, 0, 0, 0, t, 0, 0, [], []⟩ none 0 none 0) := ⟨by kernel_rfl⟩
def mpM {α : Type} (f : α → α) (i : Nat) (l : List α) : List α := (l.take i).map f ++ l.drop i
theorem mpM_at {α : Type} {f : α → α} {l : List α} {i : Nat} {m : α} (hi : l[i]? = some m) : (mpM f i l)[i]? = some m := by
  have hlt := (List.getElem?_eq_some_iff.1 hi).1
  unfold mpM
  rw [List.getElem?_append_right (by simp; omega)]
  simp only [List.length_map, List.length_take, List.getElem?_drop]
  rw [show i + (i - min i l.length) = i by omega]
  exact hi
theorem mpM_s {α : Type} {f : α → α} {l : List α} {i : Nat} {m : α} (hi : l[i]? = some m) : (mpM f i l).set i (f m) = mpM f (i + 1) l := by
  have hlt := (List.getElem?_eq_some_iff.1 hi).1
  have h1 := (list_cut (mpM_at (f := f) hi)).2 (f m)
  rw [h1]
  unfold mpM
  have hl : ((l.take i).map f).length = i := by simp; omega
  rw [List.take_left' hl, List.take_add_one, hi, List.drop_append, List.drop_of_length_le (by omega), hl, List.drop_drop, show i + (i + 1 - i) = i + 1 by omega]
  simp
def OP.pg (p : Int) (o : OP) : OP := { o with v := { o.v with prog := p } }
theorem form19 (p : Int) (b : Nat) (ops : List OP) (hs : ops.length ≤ 1000) (w : World) (h0 : Ok (domL [row b 36 (ops.flatMap cOP)]) w [row b 36 (ops.flatMap cOP)] w) :
    Calls Try.prog 19 #[.int .i64 p, .slice (some ⟨b, 0, none⟩) ops.length ops.length] w fun r w' => ∃ a : Nat, r = .returned (.agg (cCD ⟨p, some ⟨b, 0, none⟩, ops.length, ops.map (OP.pg p), some ⟨a, 0, none⟩, 1, [0], none, 0, []⟩).toArray) ∧ Ok (domL [row b 36 (ops.flatMap cOP)]) w [row b 36 ((ops.map (OP.pg p)).flatMap cOP), row a 3 [.int .i64 0]] w' := by
  refine enter2 (S := domL [row b 36 (ops.flatMap cOP)]) (H := [row b 36 (ops.flatMap cOP)]) 21 Try.func19 rfl rfl rfl h0 ?_
  (repeat (first | ((refine (?_ : MX _ _ _ _ _ _ _ _ _ _ _)); first | refine mx_end ?_ | (refine mx_as _ rfl rfl (by conv => {lhs; whnf}) ?_) | (refine a_new rfl rfl rfl rfl rfl (fun _ => ?_)) ) | refine cw_seq ?_ | refine cw_line rfl ?_ | refine cw_block ?_ | refine pw_then ?_ ))
  rename_i b4
  refine cw_loop (fun i : Nat => [(5, .int .i64 i), (4, .pointer (some ⟨b4, 0, none⟩)), (1, .slice (some ⟨b, 0, none⟩) ops.length ops.length), (0, .int .i64 p)]) (fun i => [row b4 26 z26, row b 36 ((mpM (OP.pg p) i ops).flatMap cOP ++ [])]) (fun i => i ≤ ops.length) (fun i => ops.length - i) 0 (Nat.zero_le _) ⟨rfl, rfl, rfl, rfl, trivial⟩ (fun w h => by rw [show mpM (OP.pg p) 0 ops = ops by simp [mpM], List.append_nil]; exact h) ?_
  intro i jk hi
  by_cases h1 : (i : Int) < ops.length
  case neg =>
    have hin : i = ops.length := by omega
    have e : mpM (OP.pg p) i ops = ops.map (OP.pg p) := by rw [hin]; simp [mpM]
    rw [e, List.append_nil]
    (repeat (first | ((refine (?_ : MX _ _ _ _ _ _ _ _ _ _ _)); first | refine mx_end ?_ | (refine mx_mv _ rfl rfl (by conv => {lhs; whnf}) ?_) | (refine g_bin rfl ?_; ( (refine mx_cmpl .lss rfl rfl rfl rfl rfl (by exact cmp_lt_f (by omega) ) ?_) ) ) | (refine g_bi .len rfl ?_; refine mx_len E rfl rfl rfl rfl ?_) | (refine g_store rfl ?_; refine s_l E rfl rfl rfl rfl rfl rfl rfl (by exact Sp.all rfl ) rfl ?_ ) | (refine g_build rfl ?_; refine mx_build rfl rfl rfl rfl (b26f _ _ _ _ _ _ _) rfl ?_ ) | (refine g_bs rfl ?_; refine a_bsi E rfl rfl rfl rfl rfl (by (repeat (first | exact EvI.nil | (apply EvI.cons; rfl)))) (by rfl) (by rfl) (by rfl) rfl (fun _ => ?_)) ) | refine cw_seq ?_ | refine cw_line rfl ?_ | refine cw_cond_f rfl ?_ | refine cw_exit ?_ | refine cw_ret ?_ | refine pw_then ?_ | refine pw_then_x ?_ | refine pw_block_e ?_ ))
    rename_i bt
    refine pw_retc E (j := 1) rfl rfl rfl rfl rfl rfl fun w' hw => ⟨bt, by show _ = Ending.returned (.agg #[.int .i64 p, .slice _ (ops.map (OP.pg p)).length _, _, _]); rw [List.length_map]; rfl, hw.pick [2, 0] (by simp) rfl⟩
  obtain ⟨x, hx⟩ := getElem_some (xs := ops) (i := i) (by omega)
  have hsp : Sp ((mpM (OP.pg p) i ops).flatMap cOP ++ []) (0 + i * 15 + 1) [.int .i64 p] ((mpM (OP.pg p) (i + 1) ops).flatMap cOP ++ []) := by
    rw [← mpM_s hx]
    exact sp_at len_OP (mpM_at hx) (x' := x.pg p) (o := 1) (Sp.lit rfl rfl) [] (by omega)
  (repeat (first | ((refine (?_ : MX _ _ _ _ _ _ _ _ _ _ _)); first | refine mx_end ?_ | (refine mx_mv _ rfl rfl (by conv => {lhs; whnf}) ?_) | (refine mx_as _ rfl rfl (by conv => {lhs; whnf}) ?_) | ( refine mx_fa E rfl rfl rfl rfl ?_) | (refine g_bin rfl ?_; first | ( (refine mx_cmpl .lss rfl rfl rfl rfl rfl (by exact cmp_lt_t (by omega) ) ?_) ) | ( refine mx_ar rfl rfl rfl rfl rfl rfl (IntWalk.i64_in _ (by omega)) rfl ?_ ) ) | (refine g_ix rfl ?_; refine mx_ixsn E rfl rfl rfl rfl rfl rfl (by omega) rfl ?_ ) | (refine g_bi .len rfl ?_; refine mx_len E rfl rfl rfl rfl ?_) | (refine g_store rfl ?_; refine s_1 E rfl rfl rfl rfl rfl rfl rfl rfl (by assumption ) rfl ?_) ) | refine cw_seq ?_ | refine cw_line rfl ?_ | refine cw_block ?_ | refine cw_cond_t rfl ?_ | refine cw_skip ?_ | refine pw_then ?_ | refine pw_block ?_ ))
  exact pw_round (i + 1) (by omega) (by omega) ⟨rfl, rfl, rfl, rfl, trivial⟩ (fun w h => h)
@[reducible] def vop (k x t p : Int) : VO := ⟨k, p, 0, 0, 0, 0, 0, 0, 0, 0, t, 0, x, [], []⟩
@[reducible] def oop (k x t p : Int) : OP := ⟨vop k x t p, none, 0, none, 0⟩
@[reducible] def oneC (b a : Nat) : CD := ⟨1, some ⟨b, 0, none⟩, 2, [oop 5 2 (-1) 1, oop 6 0 (-1) 1], some ⟨a, 0, none⟩, 1, [0], none, 0, []⟩
@[reducible] def twoC (b a : Nat) : CD := ⟨2, some ⟨b, 0, none⟩, 2, [oop 4 0 1 2, oop 5 1 (-1) 2], some ⟨a, 0, none⟩, 1, [0], none, 0, []⟩
theorem one21 (w : World) : Calls Try.prog 21 #[] w fun r w' => ∃ a : Nat × Nat, r = .returned (.agg (cCD (oneC a.1 a.2)).toArray) ∧ Ok (domL []) w [row a.1 36 ((oneC a.1 a.2).ops.flatMap cOP), row a.2 3 [.int .i64 0]] w' := by
  refine enter0 (S := domL []) 5 Try.func21 rfl rfl rfl (Ok.start w) ?_
  (repeat (first | ((refine (?_ : MX _ _ _ _ _ _ _ _ _ _ _)); first | refine mx_end ?_ | (refine g_build rfl ?_; first | refine mx_build rfl rfl rfl rfl (b36a _ _ _) rfl ?_ | refine mx_build rfl rfl rfl rfl (b36b _ _) rfl ?_) | (refine a_new rfl rfl rfl rfl rfl (fun _ => ?_)) ) | refine cw_seq ?_ | refine cw_line rfl ?_ | refine pw_then ?_ ))
  refine g_bs rfl ?_
  refine a_bslice E rfl rfl rfl rfl [.agg (cOP (oop 5 2 (-1) 0)).toArray, .agg (cOP (oop 6 0 (-1) 0)).toArray] rfl (us := [oop 5 2 (-1) 0, oop 6 0 (-1) 0].flatMap cOP) rfl rfl (by intro v hv; simp at hv; rcases hv with rfl | rfl <;> rfl) rfl rfl rfl rfl (fun b => ?_)
  refine g_cf 19 rfl ?_
  refine a_callL rfl rfl rfl rfl Try.func19 rfl rfl rfl [row b 36 ([oop 5 2 (-1) 0, oop 6 0 (-1) 0].flatMap cOP)] _ rfl (fun a : Nat => .agg (cCD (oneC b a)).toArray) (fun a => [row b 36 ((oneC b a).ops.flatMap cOP), row a 3 [.int .i64 0]]) (fun w' hw h => form19 1 b [oop 5 2 (-1) 0, oop 6 0 (-1) 0] (by simp) w' h) (fun _ => rfl) (fun _ _ _ => trivial) (fun a => ?_)
  dsimp only [List.cons_append, List.nil_append]
  (repeat (first | ((refine (?_ : MX _ _ _ _ _ _ _ _ _ _ _)); first | refine mx_end ?_ | (refine g_store rfl ?_; refine s_l E rfl rfl rfl rfl rfl rfl rfl (by exact Sp.all rfl ) rfl ?_ ) ) | refine cw_ret ?_ | refine pw_then ?_ ))
  exact pw_retc E (j := 2) rfl rfl rfl rfl rfl rfl fun w' hw => ⟨(b, a), rfl, hw.pick [0, 1] (by simp) rfl⟩
theorem two22 (w : World) : Calls Try.prog 22 #[] w fun r w' => ∃ a : Nat × Nat, r = .returned (.agg (cCD (twoC a.1 a.2)).toArray) ∧ Ok (domL []) w [row a.1 36 ((twoC a.1 a.2).ops.flatMap cOP), row a.2 3 [.int .i64 0]] w' := by
  refine enter0 (S := domL []) 5 Try.func22 rfl rfl rfl (Ok.start w) ?_
  (repeat (first | ((refine (?_ : MX _ _ _ _ _ _ _ _ _ _ _)); first | refine mx_end ?_ | (refine g_build rfl ?_; first | refine mx_build rfl rfl rfl rfl (b36a _ _ _) rfl ?_ | refine mx_build rfl rfl rfl rfl (b36b _ _) rfl ?_) | (refine a_new rfl rfl rfl rfl rfl (fun _ => ?_)) ) | refine cw_seq ?_ | refine cw_line rfl ?_ | refine pw_then ?_ ))
  refine g_bs rfl ?_
  refine a_bslice E rfl rfl rfl rfl [.agg (cOP (oop 4 0 1 0)).toArray, .agg (cOP (oop 5 1 (-1) 0)).toArray] rfl (us := [oop 4 0 1 0, oop 5 1 (-1) 0].flatMap cOP) rfl rfl (by intro v hv; simp at hv; rcases hv with rfl | rfl <;> rfl) rfl rfl rfl rfl (fun b => ?_)
  refine g_cf 19 rfl ?_
  refine a_callL rfl rfl rfl rfl Try.func19 rfl rfl rfl [row b 36 ([oop 4 0 1 0, oop 5 1 (-1) 0].flatMap cOP)] _ rfl (fun a : Nat => .agg (cCD (twoC b a)).toArray) (fun a => [row b 36 ((twoC b a).ops.flatMap cOP), row a 3 [.int .i64 0]]) (fun w' hw h => form19 2 b [oop 4 0 1 0, oop 5 1 (-1) 0] (by simp) w' h) (fun _ => rfl) (fun _ _ _ => trivial) (fun a => ?_)
  dsimp only [List.cons_append, List.nil_append]
  (repeat (first | ((refine (?_ : MX _ _ _ _ _ _ _ _ _ _ _)); first | refine mx_end ?_ | (refine g_store rfl ?_; refine s_l E rfl rfl rfl rfl rfl rfl rfl (by exact Sp.all rfl ) rfl ?_ ) ) | refine cw_ret ?_ | refine pw_then ?_ ))
  exact pw_retc E (j := 2) rfl rfl rfl rfl rfl rfl fun w' hw => ⟨(b, a), rfl, hw.pick [0, 1] (by simp) rfl⟩
/-! ### What is answered is one thing -/
theorem runV_stop {others : List VC} {s0 : VJ} {k : Nat} (h : (runV others s0 k).ops.length ≤ k) : ∀ j, runV others s0 (k + j) = runV others s0 k
  | 0 => rfl
  | j + 1 => by
    have ih := runV_stop h j
    show stepV others (runV others s0 (k + j)) (k + j) = _
    rw [ih]
    unfold stepV
    rw [List.getElem?_eq_none (by omega)]
theorem isJ_eq {others : List VC} {c a : VC} (h : IsJ others c a) {k : Nat} (hk : (runV others (layV (iniV c) c) k).ops.length = k) : (runV others (layV (iniV c) c) k).prog = a.prog ∧ (runV others (layV (iniV c) c) k).ops = a.ops ∧ (runV others (layV (iniV c) c) k).at' = a.at' ∧ (runV others (layV (iniV c) c) k).evs = a.evs := by
  obtain ⟨i, h1, h2, h3, h4, h5⟩ := h.ex
  have hi : (runV others (layV (iniV c) c) i).ops.length = i := by rw [h3, h1]
  have e : runV others (layV (iniV c) c) i = runV others (layV (iniV c) c) k := by
    rcases Nat.le_total i k with h6 | h6
    · have := runV_stop (others := others) (s0 := layV (iniV c) c) (k := i) (Nat.le_of_eq hi) (k - i)
      rw [show i + (k - i) = k by omega] at this
      exact this.symm
    · have := runV_stop (others := others) (s0 := layV (iniV c) c) (k := k) (Nat.le_of_eq hk) (i - k)
      rw [show k + (i - k) = i by omega] at this
      exact this
  rw [← e]
  exact ⟨h2, h3, h4, h5⟩
def oneV : VC := ⟨1, [vop 5 2 (-1) 1, vop 6 0 (-1) 1], [0], []⟩
def twoV : VC := ⟨2, [vop 4 0 1 2, vop 5 1 (-1) 2], [0], []⟩
theorem work_run : (runV [twoV] (layV (iniV oneV) oneV) 4).prog = 1 ∧ (runV [twoV] (layV (iniV oneV) oneV) 4).ops = [vop 5 2 2 1, vop 6 0 (-1) 1, vop 4 0 3 2, vop 5 1 0 2] := by decide
theorem inN_row {α : Type} {c : α → List Value} {z : Nat} (hz : ∀ x, (c x).length = z) {w : World} {b T : Nat} {xs : List α} (h : (row b T (xs.flatMap c)).holds w) : InN w.heap.size w (some ⟨b, 0, none⟩) z c xs := ⟨row_in hz h, fun _ b' off e => by
  obtain ⟨rfl, rfl⟩ : b = b' ∧ 0 = off := by simpa using e
  exact row_lt h b rfl⟩
theorem inN_nil {α : Type} {N : Nat} {w : World} {ad : Option Addr} {z : Nat} {c : α → List Value} : InN N w ad z c [] := ⟨fun h => absurd rfl h, fun h => absurd rfl h⟩
end Go.Proofs.Ytdkolggmabnifaa
