/- What the laws of joined forms ask: the walks of alike, of, has, stands. -/
import Derived.Test.YtdkolggmabnifaaIn
import Derived.Test.YtdkolggmabnifaaIq
set_option maxRecDepth 100000
set_option maxHeartbeats 8000000
set_option linter.unusedSimpArgs false
set_option linter.unusedVariables false
namespace Go.Sx
open Go.RowKit
/-- Two results, the first one in memory. -/
theorem pw_retcs {n : Nat} {st : Slots} {S : Nat → Prop} {w0 : World} {H : List Res} {P : Program} (E : Env P) {fn : Func} {e : Exit} {R : Ending → World → Prop} (hn : (match e with | .normal | .ret => true | _ => false) = true) {p ty t : Nat} (hr : fn.results = #[.cell p ty, .tmp t]) {b : Nat} (hp : ev n st (.tmp p) = .pointer (some ⟨b, 0, none⟩)) {m : Nat} (ht : at0 E.agg ty = some m) {j T : Nat} {vs : List Value} (hj : H[j]? = some (row b T vs)) (hl : vs.length = m) {v : Value} (hv : ev n st (.tmp t) = v)
    (h : ∀ w, Ok S w0 H w → R (.returned (.tuple #[.agg vs.toArray, v])) w) : PW (bodyPost P fn R) e n st S w0 H := by
  refine pw_rets (st := st) hn [.agg vs.toArray, v] ?_ rfl h
  rw [hr]
  refine ⟨⟨⟨b, 0, none⟩, hp, fun w hw => ?_⟩, hv, trivial⟩
  have h1 := E.agg_load ht ⟨b, 0, none⟩ vs hl (hw.at' j hj (Vw.all vs))
  simpa [Instr.loadAt, Instr.sureAddr] using h1
end Go.Sx
namespace Go.Proofs.Ytdkolggmabnifaa
open Go Go.Sx Go.RowKit
theorem alike12 (a b : OP) (h : sk a.v = sk b.v) (h1 : a.v.held.length ≤ 1000) (h2 : a.v.need.length ≤ 1000) (w : World) (l1 : InL w a.ha 2 cFL a.v.held) (l2 : InL w a.na 2 cFL a.v.need) (l3 : InL w b.ha 2 cFL b.v.held) (l4 : InL w b.na 2 cFL b.v.need) :
    Calls Try.prog 12 #[.agg (cOP a).toArray, .agg (cOP b).toArray] w fun e w' => e = .returned (.bool true) ∧ Grow w w' := by
  refine enter2 (S := fun _ => False) 11 Try.func12 rfl rfl rfl (Ok.start w) ?_
  (repeat (first | ((refine (?_ : MX _ _ _ _ _ _ _ _ _ _ _)); first | refine mx_end ?_ | (refine mx_as _ rfl rfl (by conv => {lhs; whnf}) ?_) | ( refine mx_fa E rfl rfl rfl rfl ?_) | (refine g_load rfl ?_; first | refine mx_get E rfl rfl rfl rfl rfl (by rfl) rfl ?_ | refine mx_getn E rfl rfl rfl rfl rfl (by exact Vr.all rfl ) rfl ?_ ) | (refine g_store rfl ?_; refine s_1 E rfl rfl rfl rfl rfl rfl rfl rfl (by exact Sp.lit rfl rfl) rfl ?_) | (refine g_box rfl ?_; refine a_boxl rfl rfl rfl rfl rfl rfl (fun _ => ?_) ) ) | refine cw_seq ?_ | refine cw_line rfl ?_ | refine pw_then ?_ ))
  refine g_cf 17 rfl ?_
  refine a_callv rfl rfl rfl rfl Try.func17 rfl rfl rfl (.bool true) (fun w' hw => same17e ⟨{ a.v with tgt := b.v.tgt }, a.ha, a.hc, a.na, a.nc⟩ b (sk_set h) (by show a.v.held.length ≤ _; omega) (by show a.v.need.length ≤ _; omega) w' (l1.keep hw fun _ _ _ h => h) (l2.keep hw fun _ _ _ h => h) (l3.keep hw fun _ _ _ h => h) (l4.keep hw fun _ _ _ h => h)) rfl ?_
  (repeat (first | ((refine (?_ : MX _ _ _ _ _ _ _ _ _ _ _)); first | refine mx_end ?_ | (refine mx_as _ rfl rfl (by conv => {lhs; whnf}) ?_) ) | refine cw_ret ?_ | refine pw_then ?_ ))
  exact pw_ret rfl rfl rfl rfl fun w hw => ⟨rfl, hw.keep.grow⟩
def frmC (c : CD) (l : List CD) (p : Int) : Option CD := (c :: l).find? fun x => decide (x.prog = p)
theorem frm_C {c : CD} {l : List CD} {p : Int} {f : VC} (h : frm c.vc (l.map CD.vc) p = some f) : ∃ f', frmC c l p = some f' ∧ f'.vc = f := by
  unfold frm at h
  unfold frmC
  rw [← List.map_cons (f := CD.vc), List.find?_map] at h
  have e : ((fun x : VC => decide (x.prog = p)) ∘ CD.vc) = fun x : CD => decide (x.prog = p) := rfl
  rw [e] at h
  cases hf : (c :: l).find? (fun x : CD => decide (x.prog = p)) with
  | none => rw [hf] at h; cases h
  | some f' => rw [hf] at h; exact ⟨f', rfl, Option.some.inj h⟩
theorem of11 (c : CD) (xa : Option Addr) (l : List CD) (xc : Nat) (p : Int) (f : CD) (hf : frmC c l p = some f) (hl : l.length ≤ 1000) (w : World) (hin : InL w xa 4 cCD l) :
    Calls Try.prog 11 #[.agg (cCD c).toArray, .slice xa l.length xc, .int .i64 p] w fun e w' => e = .returned (.tuple #[.agg (cCD f).toArray, .bool true]) ∧ Grow w w' := by
  refine enter3 (S := fun _ => False) 32 Try.func11 rfl rfl rfl (Ok.start w) ?_
  unfold frmC at hf
  rw [List.find?_cons] at hf
  by_cases hp : c.prog = p
  · rw [decide_eq_true hp] at hf
    obtain rfl : c = f := Option.some.inj hf
    (repeat (first | ((refine (?_ : MX _ _ _ _ _ _ _ _ _ _ _)); first | refine mx_end ?_ | (refine mx_mv _ rfl rfl (by conv => {lhs; whnf}) ?_) | (refine mx_as _ rfl rfl (by conv => {lhs; whnf}) ?_) | (refine mx_fa0 E rfl rfl rfl rfl ?_ ) | (refine g_load rfl ?_; first | refine mx_get E rfl rfl rfl rfl rfl (by rfl) rfl ?_ | refine mx_getn E rfl rfl rfl rfl rfl (by exact Vr.all rfl ) rfl ?_ ) | (refine g_bin rfl ?_; ((refine mx_cmpl .eql rfl rfl rfl rfl rfl (by exact cmp_eq_t (by omega) ) ?_) ) ) | (refine g_store rfl ?_; refine s_l E rfl rfl rfl rfl rfl rfl rfl (by exact Sp.all rfl ) rfl ?_ ) | (refine a_new rfl rfl rfl rfl rfl (fun _ => ?_)) | (refine g_box rfl ?_; refine a_boxl rfl rfl rfl rfl rfl rfl (fun _ => ?_) ) ) | refine cw_seq ?_ | refine cw_line rfl ?_ | refine cw_cond_t rfl ?_ | refine cw_ret ?_ | refine pw_then ?_ | refine pw_then_r ?_ ))
    exact pw_retcs E (j := 0) rfl rfl rfl rfl rfl rfl rfl fun w hw => ⟨rfl, hw.keep.grow⟩
  rw [decide_eq_false hp] at hf
  (repeat (first | ((refine (?_ : MX _ _ _ _ _ _ _ _ _ _ _)); first | refine mx_end ?_ | (refine mx_mv _ rfl rfl (by conv => {lhs; whnf}) ?_) | (refine mx_as _ rfl rfl (by conv => {lhs; whnf}) ?_) | (refine mx_fa0 E rfl rfl rfl rfl ?_ ) | (refine g_load rfl ?_; refine mx_get E rfl rfl rfl rfl rfl (by rfl) rfl ?_ ) | (refine g_bin rfl ?_; ((refine mx_cmpl .eql rfl rfl rfl rfl rfl (by exact cmp_eq_f (by omega) ) ?_) ) ) | (refine a_new rfl rfl rfl rfl rfl (fun _ => ?_)) | (refine g_box rfl ?_; refine a_boxl rfl rfl rfl rfl rfl rfl (fun _ => ?_) ) ) | refine cw_seq ?_ | refine cw_line rfl ?_ | refine cw_block ?_ | refine cw_cond_f rfl ?_ | refine cw_skip ?_ | refine pw_then ?_ ))
  rename_i b3 b6
  refine cw_loop (fun i : Nat => [(8, .int .i64 i), (6, .pointer (some ⟨b6, 0, none⟩)), (1, .slice xa l.length xc), (2, .int .i64 p)]) (fun i => [row b6 26 z26, row b3 26 (cCD c)]) (fun i => i ≤ l.length ∧ (l.drop i).find? (fun x => decide (x.prog = p)) = some f) (fun i => l.length - i) 0 ⟨Nat.zero_le _, hf⟩ ⟨rfl, rfl, rfl, rfl, trivial⟩ (fun w h => h) ?_
  intro i jk ⟨hi, hfi⟩
  have hil : i < l.length := by
    refine Decidable.byContradiction fun hge => ?_
    rw [List.drop_of_length_le (by omega)] at hfi
    cases hfi
  have h0 : (i : Int) < l.length := by omega
  obtain ⟨x, hx⟩ := getElem_some (xs := l) (i := i) hil
  obtain ⟨b4, off, e, hcc⟩ := inl_at hin hx
  subst e
  have hS : ¬ (fun _ : Nat => False) b4 := id
  have hc0 : ∀ (k : Nat) (v : Value), (cCD x)[k]? = some v → w.cell? ⟨b4, off + i * 4 + k, none⟩ = some v := hcc
  have hc1 : w.cell? ⟨b4, off + i * 4, none⟩ = some (.int .i64 x.prog) := hcc 0 _ rfl
  have hd : l.drop i = x :: l.drop (i + 1) := by
    obtain ⟨h1, h2⟩ := List.getElem?_eq_some_iff.1 hx
    rw [List.drop_eq_getElem_cons h1, h2]
  rw [hd, List.find?_cons] at hfi
  by_cases hq : x.prog = p
  · rw [decide_eq_true hq] at hfi
    obtain rfl : x = f := Option.some.inj hfi
    (repeat (first | ((refine (?_ : MX _ _ _ _ _ _ _ _ _ _ _)); first | refine mx_end ?_ | (refine mx_mv _ rfl rfl (by conv => {lhs; whnf}) ?_) | (refine mx_as _ rfl rfl (by conv => {lhs; whnf}) ?_) | (refine mx_fa0 E rfl rfl rfl rfl ?_ ) | (refine g_load rfl ?_; first | refine mx_oldn E rfl rfl rfl rfl rfl (by assumption) (by assumption) (rfl) rfl ?_ | refine mx_old1 E rfl rfl rfl rfl rfl (by assumption) (by assumption) rfl ?_ ) | (refine g_bin rfl ?_; (first | (refine mx_cmpl .eql rfl rfl rfl rfl rfl (by exact cmp_eq_t (by omega) ) ?_) | (refine mx_cmpl .lss rfl rfl rfl rfl rfl (by exact cmp_lt_t (by omega) ) ?_) ) ) | (refine g_ix rfl ?_; refine mx_ixsn E rfl rfl rfl rfl rfl rfl (by omega) rfl ?_ ) | (refine g_bi .len rfl ?_; refine mx_len E rfl rfl rfl rfl ?_) | (refine g_store rfl ?_; refine s_l E rfl rfl rfl rfl rfl rfl rfl (by exact Sp.all rfl ) rfl ?_ ) ) | refine cw_seq ?_ | refine cw_line rfl ?_ | refine cw_block ?_ | refine cw_cond_t rfl ?_ | refine cw_skip ?_ | refine cw_ret ?_ | refine pw_then ?_ | refine pw_then_r ?_ | refine pw_block_r ?_))
    exact pw_retcs E (j := 0) rfl rfl rfl rfl rfl rfl rfl fun w hw => ⟨rfl, hw.keep.grow⟩
  · rw [decide_eq_false hq] at hfi
    (repeat (first | ((refine (?_ : MX _ _ _ _ _ _ _ _ _ _ _)); first | refine mx_end ?_ | (refine mx_mv _ rfl rfl (by conv => {lhs; whnf}) ?_) | (refine mx_as _ rfl rfl (by conv => {lhs; whnf}) ?_) | (refine mx_fa0 E rfl rfl rfl rfl ?_ ) | (refine g_load rfl ?_; refine mx_old1 E rfl rfl rfl rfl rfl (by assumption) (by assumption) rfl ?_ ) | (refine g_bin rfl ?_; first | (first | (refine mx_cmpl .eql rfl rfl rfl rfl rfl (by exact cmp_eq_f (by omega) ) ?_) | (refine mx_cmpl .lss rfl rfl rfl rfl rfl (by exact cmp_lt_t (by omega) ) ?_) ) | ( refine mx_ar rfl rfl rfl rfl rfl rfl (IntWalk.i64_in _ (by omega)) rfl ?_ ) ) | (refine g_ix rfl ?_; refine mx_ixsn E rfl rfl rfl rfl rfl rfl (by omega) rfl ?_ ) | (refine g_bi .len rfl ?_; refine mx_len E rfl rfl rfl rfl ?_) ) | refine cw_seq ?_ | refine cw_line rfl ?_ | refine cw_block ?_ | refine cw_cond_f rfl ?_ | refine cw_cond_t rfl ?_ | refine cw_skip ?_ | refine pw_then ?_ | refine pw_block ?_ ))
    exact pw_round (i + 1) ⟨by omega, hfi⟩ (by omega) ⟨rfl, rfl, rfl, rfl, trivial⟩ (fun w h => h)
theorem has14 (ad : Option Addr) (cap : Nat) (xs : List Int) (n : Int) (hs : xs.length ≤ 1000) (w : World) (hl : InL w ad 1 cI xs) :
    Calls Try.prog 14 #[.slice ad xs.length cap, .int .i64 n] w fun e w' => e = .returned (.bool (decide (n ∈ xs))) ∧ Grow w w' := by
  refine enter2 (S := fun _ => False) 18 Try.func14 rfl rfl rfl (Ok.start w) ?_
  (repeat (first | ((refine (?_ : MX _ _ _ _ _ _ _ _ _ _ _)); first | refine mx_end ?_ | (refine mx_as _ rfl rfl (by conv => {lhs; whnf}) ?_) ) | refine cw_seq ?_ | refine cw_line rfl ?_ | refine cw_block ?_ | refine pw_then ?_ ))
  refine cw_loop (fun i : Nat => [(5, .int .i64 i), (0, .slice ad xs.length cap), (1, .int .i64 n)]) (fun i => []) (fun i => i ≤ xs.length ∧ n ∉ xs.take i) (fun i => xs.length - i) 0 ⟨Nat.zero_le _, by simp⟩ ⟨rfl, rfl, rfl, trivial⟩ (fun w h => h) ?_
  intro i jk ⟨hi, hn⟩
  by_cases h0 : (i : Int) < xs.length
  case neg =>
    have hin : i = xs.length := by omega
    rw [hin, List.take_length] at hn
    rw [decide_eq_false hn]
    (repeat (first | ((refine (?_ : MX _ _ _ _ _ _ _ _ _ _ _)); first | refine mx_end ?_ | (refine mx_mv _ rfl rfl (by conv => {lhs; whnf}) ?_) | (refine mx_as _ rfl rfl (by conv => {lhs; whnf}) ?_) | (refine g_bin rfl ?_; ( (refine mx_cmpl .lss rfl rfl rfl rfl rfl (by exact cmp_lt_f (by omega) ) ?_) ) ) | (refine g_bi .len rfl ?_; refine mx_len E rfl rfl rfl rfl ?_) ) | refine cw_seq ?_ | refine cw_line rfl ?_ | refine cw_cond_f rfl ?_ | refine cw_exit ?_ | refine cw_ret ?_ | refine pw_then ?_ | refine pw_then_x ?_ | refine pw_block_e ?_ ))
    exact pw_ret rfl rfl rfl rfl fun w hw => ⟨rfl, hw.keep.grow⟩
  obtain ⟨x, hx⟩ := getElem_some (xs := xs) (i := i) (by omega)
  obtain ⟨b4, off, e, hcc⟩ := inl_at hl hx
  subst e
  have hS : ¬ (fun _ : Nat => False) b4 := id
  have hc1 : w.cell? ⟨b4, off + i * 1, none⟩ = some (.int .i64 x) := hcc 0 _ rfl
  by_cases hq : x = n
  · subst hq
    rw [decide_eq_true (List.mem_of_getElem? hx)]
    (repeat (first | ((refine (?_ : MX _ _ _ _ _ _ _ _ _ _ _)); first | refine mx_end ?_ | (refine mx_mv _ rfl rfl (by conv => {lhs; whnf}) ?_) | (refine mx_as _ rfl rfl (by conv => {lhs; whnf}) ?_) | (refine g_load rfl ?_; refine mx_old1 E rfl rfl rfl rfl rfl (by assumption) (by assumption) rfl ?_ ) | (refine g_bin rfl ?_; (first | (refine mx_cmpl .eql rfl rfl rfl rfl rfl (by first | exact cmp_eq_t (by omega) | rfl) ?_) | (refine mx_cmpl .lss rfl rfl rfl rfl rfl (by exact cmp_lt_t (by omega) ) ?_) ) ) | (refine g_ix rfl ?_; refine mx_ixsn E rfl rfl rfl rfl rfl rfl (by omega) rfl ?_ ) | (refine g_bi .len rfl ?_; refine mx_len E rfl rfl rfl rfl ?_) ) | refine cw_seq ?_ | refine cw_line rfl ?_ | refine cw_block ?_ | refine cw_cond_t rfl ?_ | refine cw_skip ?_ | refine cw_ret ?_ | refine pw_then ?_ | refine pw_then_r ?_ | refine pw_block_r ?_))
    exact pw_ret rfl rfl rfl rfl fun w hw => ⟨rfl, hw.keep.grow⟩
  · (repeat (first | ((refine (?_ : MX _ _ _ _ _ _ _ _ _ _ _)); first | refine mx_end ?_ | (refine mx_mv _ rfl rfl (by conv => {lhs; whnf}) ?_) | (refine mx_as _ rfl rfl (by conv => {lhs; whnf}) ?_) | (refine g_load rfl ?_; refine mx_old1 E rfl rfl rfl rfl rfl (by assumption) (by assumption) rfl ?_ ) | (refine g_bin rfl ?_; first | (first | (refine mx_cmpl .eql rfl rfl rfl rfl rfl (by exact cmp_eq_f (by omega) ) ?_) | (refine mx_cmpl .lss rfl rfl rfl rfl rfl (by exact cmp_lt_t (by omega) ) ?_) ) | ( refine mx_ar rfl rfl rfl rfl rfl rfl (IntWalk.i64_in _ (by omega)) rfl ?_ ) ) | (refine g_ix rfl ?_; refine mx_ixsn E rfl rfl rfl rfl rfl rfl (by omega) rfl ?_ ) | (refine g_bi .len rfl ?_; refine mx_len E rfl rfl rfl rfl ?_) ) | refine cw_seq ?_ | refine cw_line rfl ?_ | refine cw_block ?_ | refine cw_cond_f rfl ?_ | refine cw_cond_t rfl ?_ | refine cw_skip ?_ | refine pw_then ?_ | refine pw_block ?_ ))
    refine pw_round (i + 1) ⟨by omega, fun hm => ?_⟩ (by omega) ⟨rfl, rfl, rfl, trivial⟩ (fun w h => h)
    rw [List.take_add_one, hx] at hm
    rcases List.mem_append.1 hm with h | h
    · exact hn h
    · have h2 : n = x := by simpa using h
      exact hq h2.symm
theorem mv_tgt_p {d : Int} {v : VO} (h : 0 ≤ v.tgt) : (v.mv d).tgt = v.tgt + d := by unfold VO.mv; rw [if_pos h]
theorem mv_tgt_n {d : Int} {v : VO} (h : ¬ 0 ≤ v.tgt) : (v.mv d).tgt = v.tgt := by unfold VO.mv; rw [if_neg h]
theorem stands15 (a : CD) (d : Nat) (la : Option Addr) (lc : Nat) (l : List OP) (hlen : d + l.length ≤ a.ops.length) (h1024 : a.ops.length ≤ 1024) (hst : ∀ (j : Nat) (z : OP), l[j]? = some z → ∃ y, a.ops[d + j]? = some y ∧ Sim (z.v.mv d) y.v) (hb : ∀ z ∈ l, z.v.tgt ≤ 100000 ∧ -100000 ≤ z.v.tgt) (hh : ∀ y ∈ a.ops, y.v.held.length ≤ 1000 ∧ y.v.need.length ≤ 1000) (w : World) (ra : InL w a.oa 15 cOP a.ops) (ras : ∀ y ∈ a.ops, InL w y.ha 2 cFL y.v.held ∧ InL w y.na 2 cFL y.v.need) (rl : InL w la 15 cOP l) (rls : ∀ y ∈ l, InL w y.ha 2 cFL y.v.held ∧ InL w y.na 2 cFL y.v.need) :
    Calls Try.prog 15 #[.agg (cCD a).toArray, .int .i64 (d : Nat), .slice la l.length lc] w fun e w' => e = .returned (.bool true) ∧ Grow w w' := by
  refine enter3 (S := fun _ => False) 66 Try.func15 rfl rfl rfl (Ok.start w) ?_
  (repeat (first | ((refine (?_ : MX _ _ _ _ _ _ _ _ _ _ _)); first | refine mx_end ?_ | (refine mx_mv _ rfl rfl (by conv => {lhs; whnf}) ?_) | (refine mx_as _ rfl rfl (by conv => {lhs; whnf}) ?_) | ( refine mx_fa E rfl rfl rfl rfl ?_) | (refine g_load rfl ?_; refine mx_get E rfl rfl rfl rfl rfl (by rfl) rfl ?_ ) | (refine g_bin rfl ?_; first | ( (refine mx_cmpl .gtr rfl rfl rfl rfl rfl (by first | exact cmp_gt_f (by omega) | rfl) ?_) ) | ( refine mx_ar rfl rfl rfl rfl rfl rfl (IntWalk.i64_in _ (by omega)) rfl ?_ ) ) | (refine g_bi .len rfl ?_; refine mx_len E rfl rfl rfl rfl ?_) | (refine g_box rfl ?_; refine a_boxl rfl rfl rfl rfl rfl rfl (fun _ => ?_) ) ) | refine cw_seq ?_ | refine cw_line rfl ?_ | refine cw_block ?_ | refine cw_cond_f rfl ?_ | refine cw_skip ?_ | refine pw_then ?_ ))
  rename_i b3
  refine cw_loop (fun i : Nat => [(7, .int .i64 i), (3, .pointer (some ⟨b3, 0, none⟩)), (1, .int .i64 (d : Nat)), (2, .slice la l.length lc)]) (fun i => [row b3 26 (cCD a)]) (fun i => i ≤ l.length) (fun i => l.length - i) 0 (Nat.zero_le _) ⟨rfl, rfl, rfl, rfl, trivial⟩ (fun w h => h) ?_
  intro i jk hi
  by_cases h0 : (i : Int) < l.length
  case neg =>
    (repeat (first | ((refine (?_ : MX _ _ _ _ _ _ _ _ _ _ _)); first | refine mx_end ?_ | (refine mx_mv _ rfl rfl (by conv => {lhs; whnf}) ?_) | (refine mx_as _ rfl rfl (by conv => {lhs; whnf}) ?_) | (refine g_bin rfl ?_; ( (refine mx_cmpl .lss rfl rfl rfl rfl rfl (by exact cmp_lt_f (by omega) ) ?_) ) ) | (refine g_bi .len rfl ?_; refine mx_len E rfl rfl rfl rfl ?_) ) | refine cw_seq ?_ | refine cw_line rfl ?_ | refine cw_cond_f rfl ?_ | refine cw_exit ?_ | refine cw_ret ?_ | refine pw_then ?_ | refine pw_then_x ?_ | refine pw_block_e ?_ ))
    exact pw_ret rfl rfl rfl rfl fun w hw => ⟨rfl, hw.keep.grow⟩
  obtain ⟨z, hz⟩ := getElem_some (xs := l) (i := i) (by omega)
  obtain ⟨y, hy, hsim⟩ := hst i z hz
  have hzm := List.mem_of_getElem? hz
  have hym := List.mem_of_getElem? hy
  obtain ⟨b4, off, e, hcc⟩ := inl_at ra hy
  obtain ⟨b5, off5, e5, hcc5⟩ := inl_at rl hz
  subst e5
  have hS : ¬ (fun _ : Nat => False) b4 := id
  have hS5 : ¬ (fun _ : Nat => False) b5 := id
  have hc0 : ∀ (k : Nat) (v : Value), (cOP y)[k]? = some v → w.cell? ⟨b4, off + (d + i) * 15 + k, none⟩ = some v := hcc
  have hc5 : ∀ (k : Nat) (v : Value), (cOP z)[k]? = some v → w.cell? ⟨b5, off5 + i * 15 + k, none⟩ = some v := hcc5
  have hc50 : w.cell? ⟨b5, off5 + i * 15, none⟩ = some (.int .i64 z.v.kind) := hcc5 0 _ rfl
  have hc51 : w.cell? ⟨b5, off5 + i * 15 + 10, none⟩ = some (.int .i64 z.v.tgt) := hcc5 10 _ rfl
  have hc01 : w.cell? ⟨b4, off + (d + i) * 15 + 10, none⟩ = some (.int .i64 y.v.tgt) := hcc 10 _ rfl
  have hadd : ((d : Nat) : Int) + (i : Int) = ((d + i : Nat) : Int) := by omega
  have hbz := hb z hzm
  have hsk : sk y.v = sk z.v := by rw [← hsim.1, sk_mv]
  have hyl : d + i < a.ops.length := (List.getElem?_eq_some_iff.1 hy).1
  have hyl2 : ((d + i : Nat) : Int) < a.ops.length := by omega
  refine cw_weak (H' := [row b3 26 [.int .i64 a.prog, .slice (some ⟨b4, off, none⟩) a.ops.length a.oc, .slice a.ta a.at'.length a.tc, .slice a.ea a.evs.length a.ec]]) (fun w1 h => by rw [← e]; exact h) ?_
  have back : ∀ w1 : World, Ok (fun _ => False) w [row b3 26 [.int .i64 a.prog, .slice (some ⟨b4, off, none⟩) a.ops.length a.oc, .slice a.ta a.at'.length a.tc, .slice a.ea a.evs.length a.ec]] w1 → Ok (fun _ => False) w [row b3 26 (cCD a)] w1 := fun w1 h => by rw [← e] at h; exact h
  by_cases ht : z.v.tgt ≥ 0
  · have hmt : z.v.kind ≠ 5 → y.v.tgt = z.v.tgt + d := fun hk => by
      rw [← hsim.2 (by rw [mv_kind]; exact hk), mv_tgt_p ht]
    by_cases hk : z.v.kind = 5
    · ((repeat (first | ((refine (?_ : MX _ _ _ _ _ _ _ _ _ _ _)); first | refine mx_end ?_ | (refine mx_mv _ rfl rfl (by conv => {lhs; whnf}) ?_) | (refine mx_as _ rfl rfl (by conv => {lhs; whnf}) ?_) | ( refine mx_fa E rfl rfl rfl rfl ?_) | (refine g_load rfl ?_; refine mx_old1 E rfl rfl rfl rfl rfl (by assumption) (by assumption) rfl ?_ ) | (refine g_bin rfl ?_; first | (first | (refine mx_cmpl .lss rfl rfl rfl rfl rfl (by exact cmp_lt_t (by omega) ) ?_) | (refine mx_cmpl .geq rfl rfl rfl rfl rfl (by exact cmp_ge_t (by omega) ) ?_)) | ( refine mx_ar rfl rfl rfl rfl rfl rfl (IntWalk.i64_in _ (by omega)) rfl ?_ ) ) | (refine g_ix rfl ?_; refine mx_ixsn E rfl rfl rfl rfl rfl rfl (by omega) rfl ?_ ) | (refine g_bi .len rfl ?_; refine mx_len E rfl rfl rfl rfl ?_) ) | refine cw_seq ?_ | refine cw_line rfl ?_ | refine cw_block ?_ | refine cw_cond_t rfl ?_ | refine cw_skip ?_ | refine pw_then ?_ ))); refine cw_drawm [0, 1, 2, 3, 4, 5, 6, 7, 8, 9, 10, 11, 12, 13, 14, 15, 16, 17, 18, 19, 20, 21, 22, 23, 24, 25, 26, 27, 28, 29, 30, 31, 32] (fun i => Nat.beq i 11) [row b3 26 [.int .i64 a.prog, .slice (some ⟨b4, off, none⟩) a.ops.length a.oc, .slice a.ta a.at'.length a.tc, .slice a.ea a.evs.length a.ec]] mixed (by kernel_rfl) (fun w h => h) ?_; ((repeat (((refine (?_ : MX _ _ _ _ _ _ _ _ _ _ _)); first | (refine mx_mv _ rfl rfl (by conv => {lhs; whnf}) ?_) | ( refine mx_fa E rfl rfl rfl rfl ?_) | (refine g_load rfl ?_; first | refine mx_get E rfl rfl rfl rfl rfl (by rfl) rfl ?_ | refine mx_oldn E rfl rfl rfl rfl rfl (by assumption) (by assumption) (rfl) rfl ?_ ) | (refine g_bin rfl ?_; (refine mx_ar rfl rfl rfl rfl rfl rfl ((IntWalk.i64_in _ (by omega)).trans (by with_reducible assumption)) rfl ?_ ) ) | (refine g_ix rfl ?_; refine mx_ixsn E rfl rfl rfl rfl rfl rfl (by omega) rfl ?_ ) ) ))); refine g_cf 12 rfl ?_; refine a_callv rfl rfl rfl rfl Try.func12 rfl rfl rfl (.bool true) (fun w' hw => alike12 y z hsk (hh y hym).1 (hh y hym).2 w' ((ras y hym).1.keep hw fun _ _ _ h => h) ((ras y hym).2.keep hw fun _ _ _ h => h) ((rls z hzm).1.keep hw fun _ _ _ h => h) ((rls z hzm).2.keep hw fun _ _ _ h => h)) rfl ?_; ((repeat (first | ((refine (?_ : MX _ _ _ _ _ _ _ _ _ _ _)); first | refine mx_end ?_ | (refine mx_mv _ rfl rfl (by conv => {lhs; whnf}) ?_) | (refine mx_as _ rfl rfl (by conv => {lhs; whnf}) ?_) | (refine mx_fa0 E rfl rfl rfl rfl ?_ ) | (refine g_load rfl ?_; refine mx_old1 E rfl rfl rfl rfl rfl (by assumption) (by assumption) rfl ?_ ) | (refine g_bin rfl ?_; first | ( (refine mx_cmpl .neq rfl rfl rfl rfl rfl (by exact cmp_ne_f (by omega) ) ?_) ) | ( refine mx_ar rfl rfl rfl rfl rfl rfl (IntWalk.i64_in _ (by omega)) rfl ?_ ) ) | (refine g_ix rfl ?_; refine mx_ixsn E rfl rfl rfl rfl rfl rfl (by omega) rfl ?_ ) | (refine mx_not rfl rfl rfl ?_) | (refine mx_skip rfl rfl rfl ?_) | (refine g_pick rfl ?_; first | refine mx_andf rfl rfl rfl rfl rfl ?_ | refine mx_or rfl rfl rfl rfl rfl rfl ?_ ) ) | refine cw_line rfl ?_ | refine cw_cond_f rfl ?_ | refine cw_skip ?_ | refine pw_then ?_ | refine pw_block ?_ ))); exact pw_round (i + 1) (by omega) (by omega) ⟨rfl, rfl, rfl, rfl, trivial⟩ back
    · have hmt := hmt hk
      ((repeat (first | ((refine (?_ : MX _ _ _ _ _ _ _ _ _ _ _)); first | refine mx_end ?_ | (refine mx_mv _ rfl rfl (by conv => {lhs; whnf}) ?_) | (refine mx_as _ rfl rfl (by conv => {lhs; whnf}) ?_) | ( refine mx_fa E rfl rfl rfl rfl ?_) | (refine g_load rfl ?_; refine mx_old1 E rfl rfl rfl rfl rfl (by assumption) (by assumption) rfl ?_ ) | (refine g_bin rfl ?_; first | (first | (refine mx_cmpl .lss rfl rfl rfl rfl rfl (by exact cmp_lt_t (by omega) ) ?_) | (refine mx_cmpl .geq rfl rfl rfl rfl rfl (by exact cmp_ge_t (by omega) ) ?_)) | ( refine mx_ar rfl rfl rfl rfl rfl rfl (IntWalk.i64_in _ (by omega)) rfl ?_ ) ) | (refine g_ix rfl ?_; refine mx_ixsn E rfl rfl rfl rfl rfl rfl (by omega) rfl ?_ ) | (refine g_bi .len rfl ?_; refine mx_len E rfl rfl rfl rfl ?_) ) | refine cw_seq ?_ | refine cw_line rfl ?_ | refine cw_block ?_ | refine cw_cond_t rfl ?_ | refine cw_skip ?_ | refine pw_then ?_ ))); refine cw_drawm [0, 1, 2, 3, 4, 5, 6, 7, 8, 9, 10, 11, 12, 13, 14, 15, 16, 17, 18, 19, 20, 21, 22, 23, 24, 25, 26, 27, 28, 29, 30, 31, 32] (fun i => Nat.beq i 11) [row b3 26 [.int .i64 a.prog, .slice (some ⟨b4, off, none⟩) a.ops.length a.oc, .slice a.ta a.at'.length a.tc, .slice a.ea a.evs.length a.ec]] mixed (by kernel_rfl) (fun w h => h) ?_; ((repeat (((refine (?_ : MX _ _ _ _ _ _ _ _ _ _ _)); first | (refine mx_mv _ rfl rfl (by conv => {lhs; whnf}) ?_) | ( refine mx_fa E rfl rfl rfl rfl ?_) | (refine g_load rfl ?_; first | refine mx_get E rfl rfl rfl rfl rfl (by rfl) rfl ?_ | refine mx_oldn E rfl rfl rfl rfl rfl (by assumption) (by assumption) (rfl) rfl ?_ ) | (refine g_bin rfl ?_; (refine mx_ar rfl rfl rfl rfl rfl rfl ((IntWalk.i64_in _ (by omega)).trans (by with_reducible assumption)) rfl ?_ ) ) | (refine g_ix rfl ?_; refine mx_ixsn E rfl rfl rfl rfl rfl rfl (by omega) rfl ?_ ) ) ))); refine g_cf 12 rfl ?_; refine a_callv rfl rfl rfl rfl Try.func12 rfl rfl rfl (.bool true) (fun w' hw => alike12 y z hsk (hh y hym).1 (hh y hym).2 w' ((ras y hym).1.keep hw fun _ _ _ h => h) ((ras y hym).2.keep hw fun _ _ _ h => h) ((rls z hzm).1.keep hw fun _ _ _ h => h) ((rls z hzm).2.keep hw fun _ _ _ h => h)) rfl ?_; ((repeat (first | ((refine (?_ : MX _ _ _ _ _ _ _ _ _ _ _)); first | refine mx_end ?_ | (refine mx_mv _ rfl rfl (by conv => {lhs; whnf}) ?_) | (refine mx_as _ rfl rfl (by conv => {lhs; whnf}) ?_) | (first | refine mx_fa0 E rfl rfl rfl rfl ?_ | refine mx_fa E rfl rfl rfl rfl ?_) | (refine g_load rfl ?_; first | refine mx_get E rfl rfl rfl rfl rfl (by rfl) rfl ?_ | refine mx_old1 E rfl rfl rfl rfl rfl (by assumption) (by assumption) rfl ?_ ) | (refine g_bin rfl ?_; first | ( (refine mx_cmpl .neq rfl rfl rfl rfl rfl (by first | exact cmp_ne_t (by omega) | exact cmp_ne_f (by omega) ) ?_) ) | (first | refine mx_ar rfl rfl rfl rfl rfl rfl ((IntWalk.i64_in _ (by omega)).trans (by with_reducible assumption)) rfl ?_ | refine mx_ar rfl rfl rfl rfl rfl rfl (IntWalk.i64_in _ (by omega)) rfl ?_ ) ) | (refine g_ix rfl ?_; refine mx_ixsn E rfl rfl rfl rfl rfl rfl (by omega) rfl ?_ ) | (refine mx_not rfl rfl rfl ?_) | (refine g_pick rfl ?_; first | refine mx_and rfl rfl rfl rfl rfl rfl ?_ | refine mx_or rfl rfl rfl rfl rfl rfl ?_ ) ) | refine cw_line rfl ?_ | refine cw_cond_f rfl ?_ | refine cw_skip ?_ | refine pw_then ?_ | refine pw_block ?_ ))); exact pw_round (i + 1) (by omega) (by omega) ⟨rfl, rfl, rfl, rfl, trivial⟩ back
  · have hmt : z.v.kind ≠ 5 → y.v.tgt = z.v.tgt := fun hk => by
      rw [← hsim.2 (by rw [mv_kind]; exact hk), mv_tgt_n ht]
    by_cases hk : z.v.kind = 5
    · ((repeat (first | ((refine (?_ : MX _ _ _ _ _ _ _ _ _ _ _)); first | refine mx_end ?_ | (refine mx_mv _ rfl rfl (by conv => {lhs; whnf}) ?_) | (refine mx_as _ rfl rfl (by conv => {lhs; whnf}) ?_) | ( refine mx_fa E rfl rfl rfl rfl ?_) | (refine g_load rfl ?_; refine mx_old1 E rfl rfl rfl rfl rfl (by assumption) (by assumption) rfl ?_ ) | (refine g_bin rfl ?_; (first | (refine mx_cmpl .lss rfl rfl rfl rfl rfl (by exact cmp_lt_t (by omega) ) ?_) | (refine mx_cmpl .geq rfl rfl rfl rfl rfl (by exact cmp_ge_f (by omega) ) ?_)) ) | (refine g_ix rfl ?_; refine mx_ixsn E rfl rfl rfl rfl rfl rfl (by omega) rfl ?_ ) | (refine g_bi .len rfl ?_; refine mx_len E rfl rfl rfl rfl ?_) ) | refine cw_seq ?_ | refine cw_line rfl ?_ | refine cw_block ?_ | refine cw_cond_f rfl ?_ | refine cw_cond_t rfl ?_ | refine cw_skip ?_ | refine pw_then ?_ ))); refine cw_drawm [0, 1, 2, 3, 4, 5, 6, 7, 8, 9, 10, 11, 12, 13, 14, 15, 16, 17, 18, 19, 20, 21, 22, 23, 24, 25, 26, 27, 28, 29, 30, 31, 32] (fun i => Nat.beq i 11) [row b3 26 [.int .i64 a.prog, .slice (some ⟨b4, off, none⟩) a.ops.length a.oc, .slice a.ta a.at'.length a.tc, .slice a.ea a.evs.length a.ec]] mixed (by kernel_rfl) (fun w h => h) ?_; ((repeat (((refine (?_ : MX _ _ _ _ _ _ _ _ _ _ _)); first | (refine mx_mv _ rfl rfl (by conv => {lhs; whnf}) ?_) | ( refine mx_fa E rfl rfl rfl rfl ?_) | (refine g_load rfl ?_; first | refine mx_get E rfl rfl rfl rfl rfl (by rfl) rfl ?_ | refine mx_oldn E rfl rfl rfl rfl rfl (by assumption) (by assumption) (rfl) rfl ?_ ) | (refine g_bin rfl ?_; (refine mx_ar rfl rfl rfl rfl rfl rfl ((IntWalk.i64_in _ (by omega)).trans (by with_reducible assumption)) rfl ?_ ) ) | (refine g_ix rfl ?_; refine mx_ixsn E rfl rfl rfl rfl rfl rfl (by omega) rfl ?_ ) ) ))); refine g_cf 12 rfl ?_; refine a_callv rfl rfl rfl rfl Try.func12 rfl rfl rfl (.bool true) (fun w' hw => alike12 y z hsk (hh y hym).1 (hh y hym).2 w' ((ras y hym).1.keep hw fun _ _ _ h => h) ((ras y hym).2.keep hw fun _ _ _ h => h) ((rls z hzm).1.keep hw fun _ _ _ h => h) ((rls z hzm).2.keep hw fun _ _ _ h => h)) rfl ?_; ((repeat (first | ((refine (?_ : MX _ _ _ _ _ _ _ _ _ _ _)); first | refine mx_end ?_ | (refine mx_mv _ rfl rfl (by conv => {lhs; whnf}) ?_) | (refine mx_as _ rfl rfl (by conv => {lhs; whnf}) ?_) | (refine mx_fa0 E rfl rfl rfl rfl ?_ ) | (refine g_load rfl ?_; refine mx_old1 E rfl rfl rfl rfl rfl (by assumption) (by assumption) rfl ?_ ) | (refine g_bin rfl ?_; first | ( (refine mx_cmpl .neq rfl rfl rfl rfl rfl (by exact cmp_ne_f (by omega) ) ?_) ) | ( refine mx_ar rfl rfl rfl rfl rfl rfl (IntWalk.i64_in _ (by omega)) rfl ?_ ) ) | (refine g_ix rfl ?_; refine mx_ixsn E rfl rfl rfl rfl rfl rfl (by omega) rfl ?_ ) | (refine mx_not rfl rfl rfl ?_) | (refine mx_skip rfl rfl rfl ?_) | (refine g_pick rfl ?_; first | refine mx_andf rfl rfl rfl rfl rfl ?_ | refine mx_or rfl rfl rfl rfl rfl rfl ?_ ) ) | refine cw_line rfl ?_ | refine cw_cond_f rfl ?_ | refine cw_skip ?_ | refine pw_then ?_ | refine pw_block ?_ ))); exact pw_round (i + 1) (by omega) (by omega) ⟨rfl, rfl, rfl, rfl, trivial⟩ back
    · have hmt := hmt hk
      ((repeat (first | ((refine (?_ : MX _ _ _ _ _ _ _ _ _ _ _)); first | refine mx_end ?_ | (refine mx_mv _ rfl rfl (by conv => {lhs; whnf}) ?_) | (refine mx_as _ rfl rfl (by conv => {lhs; whnf}) ?_) | ( refine mx_fa E rfl rfl rfl rfl ?_) | (refine g_load rfl ?_; refine mx_old1 E rfl rfl rfl rfl rfl (by assumption) (by assumption) rfl ?_ ) | (refine g_bin rfl ?_; (first | (refine mx_cmpl .lss rfl rfl rfl rfl rfl (by exact cmp_lt_t (by omega) ) ?_) | (refine mx_cmpl .geq rfl rfl rfl rfl rfl (by exact cmp_ge_f (by omega) ) ?_)) ) | (refine g_ix rfl ?_; refine mx_ixsn E rfl rfl rfl rfl rfl rfl (by omega) rfl ?_ ) | (refine g_bi .len rfl ?_; refine mx_len E rfl rfl rfl rfl ?_) ) | refine cw_seq ?_ | refine cw_line rfl ?_ | refine cw_block ?_ | refine cw_cond_f rfl ?_ | refine cw_cond_t rfl ?_ | refine cw_skip ?_ | refine pw_then ?_ ))); refine cw_drawm [0, 1, 2, 3, 4, 5, 6, 7, 8, 9, 10, 11, 12, 13, 14, 15, 16, 17, 18, 19, 20, 21, 22, 23, 24, 25, 26, 27, 28, 29, 30, 31, 32] (fun i => Nat.beq i 11) [row b3 26 [.int .i64 a.prog, .slice (some ⟨b4, off, none⟩) a.ops.length a.oc, .slice a.ta a.at'.length a.tc, .slice a.ea a.evs.length a.ec]] mixed (by kernel_rfl) (fun w h => h) ?_; ((repeat (((refine (?_ : MX _ _ _ _ _ _ _ _ _ _ _)); first | (refine mx_mv _ rfl rfl (by conv => {lhs; whnf}) ?_) | ( refine mx_fa E rfl rfl rfl rfl ?_) | (refine g_load rfl ?_; first | refine mx_get E rfl rfl rfl rfl rfl (by rfl) rfl ?_ | refine mx_oldn E rfl rfl rfl rfl rfl (by assumption) (by assumption) (rfl) rfl ?_ ) | (refine g_bin rfl ?_; (refine mx_ar rfl rfl rfl rfl rfl rfl ((IntWalk.i64_in _ (by omega)).trans (by with_reducible assumption)) rfl ?_ ) ) | (refine g_ix rfl ?_; refine mx_ixsn E rfl rfl rfl rfl rfl rfl (by omega) rfl ?_ ) ) ))); refine g_cf 12 rfl ?_; refine a_callv rfl rfl rfl rfl Try.func12 rfl rfl rfl (.bool true) (fun w' hw => alike12 y z hsk (hh y hym).1 (hh y hym).2 w' ((ras y hym).1.keep hw fun _ _ _ h => h) ((ras y hym).2.keep hw fun _ _ _ h => h) ((rls z hzm).1.keep hw fun _ _ _ h => h) ((rls z hzm).2.keep hw fun _ _ _ h => h)) rfl ?_; ((repeat (first | ((refine (?_ : MX _ _ _ _ _ _ _ _ _ _ _)); first | refine mx_end ?_ | (refine mx_mv _ rfl rfl (by conv => {lhs; whnf}) ?_) | (refine mx_as _ rfl rfl (by conv => {lhs; whnf}) ?_) | (first | refine mx_fa0 E rfl rfl rfl rfl ?_ | refine mx_fa E rfl rfl rfl rfl ?_) | (refine g_load rfl ?_; first | refine mx_get E rfl rfl rfl rfl rfl (by rfl) rfl ?_ | refine mx_old1 E rfl rfl rfl rfl rfl (by assumption) (by assumption) rfl ?_ ) | (refine g_bin rfl ?_; first | ( (refine mx_cmpl .neq rfl rfl rfl rfl rfl (by first | exact cmp_ne_t (by omega) | exact cmp_ne_f (by omega) ) ?_) ) | (first | refine mx_ar rfl rfl rfl rfl rfl rfl ((IntWalk.i64_in _ (by omega)).trans (by with_reducible assumption)) rfl ?_ | refine mx_ar rfl rfl rfl rfl rfl rfl (IntWalk.i64_in _ (by omega)) rfl ?_ ) ) | (refine g_ix rfl ?_; refine mx_ixsn E rfl rfl rfl rfl rfl rfl (by omega) rfl ?_ ) | (refine mx_not rfl rfl rfl ?_) | (refine g_pick rfl ?_; first | refine mx_and rfl rfl rfl rfl rfl rfl ?_ | refine mx_or rfl rfl rfl rfl rfl rfl ?_ ) ) | refine cw_line rfl ?_ | refine cw_cond_f rfl ?_ | refine cw_skip ?_ | refine pw_then ?_ | refine pw_block ?_ ))); exact pw_round (i + 1) (by omega) (by omega) ⟨rfl, rfl, rfl, rfl, trivial⟩ back
theorem rdC_le {N M : Nat} {w : World} {c : CD} (h1 : RdC N w c) (h2 : N ≤ M) : RdC M w c := ⟨inN_le h1.o h2, fun x hx => ⟨inN_le (h1.os x hx).1 h2, inN_le (h1.os x hx).2.1 h2, (h1.os x hx).2.2⟩, inN_le h1.t h2, inN_le h1.e h2, fun x hx => ⟨inN_le (h1.es x hx).1 h2, (h1.es x hx).2⟩⟩
/-! ### What is known of an answer -/
theorem Rt.v {c : CD} (r : Rt c) : RtV c.vc := by
  obtain ⟨a, l, h1, h2, h3⟩ := r.a0
  have hl : (c.vc.ops.length : Int) = c.ops.length := by show ((c.ops.map (·.v)).length : Int) = _; rw [List.length_map]
  refine ⟨?_, fun o ho => ?_⟩
  · have e : c.vc.at'.headD 0 = a := by show c.at'.headD 0 = a; rw [h1]; rfl
    rw [e, hl]
    exact ⟨h2, h3⟩
  · obtain ⟨x, hx, rfl⟩ := List.mem_map.1 ho
    have := r.os x hx
    omega
structure JA (c : CD) (l : List CD) (a : CD) : Prop where
  l1 : c.ops.length ≤ a.ops.length
  l2 : a.ops.length ≤ 1024
  l0 : 0 < c.ops.length
  hh : ∀ o ∈ a.ops, o.v.held.length ≤ 20 ∧ o.v.need.length ≤ 20
  tg : ∀ (i : Nat) (y : OP), a.ops[i]? = some y → -1 ≤ y.v.tgt ∧ y.v.tgt < a.ops.length
  ld : ∀ (i : Nat) (y : OP), a.ops[i]? = some y → y.v.kind = 5 → 0 ≤ y.v.tgt → ∃ f ∈ c :: l, frmC c l y.v.next = some f ∧ ∃ z t, f.ops[(f.at'.headD 0).toNat]? = some z ∧ a.ops[y.v.tgt.toNat]? = some t ∧ sk t.v = sk z.v
theorem getv {l : List OP} {i : Nat} {x : VO} (h : (l.map (·.v))[i]? = some x) : ∃ y, l[i]? = some y ∧ y.v = x := by
  rw [List.getElem?_map] at h
  cases hy : l[i]? with
  | none => rw [hy] at h; cases h
  | some y => rw [hy] at h; exact ⟨y, rfl, Option.some.inj h⟩
theorem vget {l : List OP} {i : Nat} {y : OP} (h : l[i]? = some y) : (l.map (·.v))[i]? = some y.v := by rw [List.getElem?_map, h]; rfl
theorem sk_held {x y : VO} (h : sk x = sk y) : x.held = y.held ∧ x.need = y.need := ⟨by have := congrArg VO.held h; exact this, by have := congrArg VO.need h; exact this⟩
theorem ja_of {c a : CD} {l : List CD} (hc : Rt c) (hl : ∀ x ∈ l, Rt x) (kc : OkV c.vc) (kl : ∀ x ∈ l, OkV x.vc) (h : IsJ (l.map CD.vc) c.vc a.vc) : JA c l a := by
  have hlv : ∀ f ∈ l.map CD.vc, RtV f := fun f hf => by obtain ⟨x, hx, rfl⟩ := List.mem_map.1 hf; exact (hl x hx).v
  have hkv : ∀ f ∈ l.map CD.vc, OkV f := fun f hf => by obtain ⟨x, hx, rfl⟩ := List.mem_map.1 hf; exact kl x hx
  have hJ := joinF hc.v hlv kc hkv h
  have hL := leadsV hc.v hlv h
  have e1 : a.vc.ops.length = a.ops.length := List.length_map _
  have e2 : c.vc.ops.length = c.ops.length := List.length_map _
  refine ⟨by have := hJ.l1; omega, by have := hJ.l2; omega, ?_, fun o ho => ?_, fun i y hy => ?_, fun i y hy hk ht => ?_⟩
  · obtain ⟨a, l, h1, h2, h3⟩ := hc.a0
    omega
  · obtain ⟨f, hf, z, hz, e⟩ := hJ.so o.v (List.mem_map.2 ⟨o, ho, rfl⟩)
    have hf' : f ∈ (c :: l).map CD.vc := hf
    obtain ⟨g, hg, rfl⟩ := List.mem_map.1 hf'
    obtain ⟨z', hz', rfl⟩ := List.mem_map.1 hz
    rw [(sk_held e).1, (sk_held e).2]
    rcases List.mem_cons.1 hg with rfl | hg
    · exact (hc.os z' hz').2.2
    · exact ((hl g hg).os z' hz').2.2
  · have := hL i y.v (vget hy)
    omega
  · obtain ⟨f, hf, z, t, hz, _, ht2, e⟩ := (hL i y.v (vget hy)).2.2 hk ht
    obtain ⟨f', hf', rfl⟩ := frm_C hf
    obtain ⟨z', hz', rfl⟩ := getv hz
    obtain ⟨t', ht', rfl⟩ := getv ht2
    exact ⟨f', List.mem_of_find?_eq_some hf', hf', z', t', hz', ht', e⟩
end Go.Proofs.Ytdkolggmabnifaa
