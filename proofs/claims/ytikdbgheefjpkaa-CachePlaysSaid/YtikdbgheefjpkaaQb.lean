/- Operations, events, forms held against one another, where they are the same. -/
import Derived.Test.YtikdbgheefjpkaaQa
set_option maxRecDepth 100000
set_option maxHeartbeats 8000000
set_option linter.unusedSimpArgs false
set_option linter.unusedVariables false
namespace Go.Proofs.Ytikdbgheefjpkaa
open Go Go.Sx Go.RowKit
attribute [instance] fl108 fl109 fl122
theorem vr_I (a0 a1 a2 a3 a4 a5 a6 a7 a8 a9 a10 a11 a12 a13 a14 : Value) : Vr [a0, a1, a2, a3, a4, a5, a6, a7, a8, a9, a10, a11, a12, a13, a14] (0 + 5) 5 [a5, a6, a7, a8, a9] := ⟨⟨rfl⟩, rfl⟩
theorem same97 (ad ad' : Option Addr) (cap cap' : Nat) (xs : List FL) (hs : xs.length ≤ 8796093022208) (w : World) (hl : InL w ad 2 cFL xs) (hl' : InL w ad' 2 cFL xs) :
    Calls Try.prog 97 #[.slice ad xs.length cap, .slice ad' xs.length cap'] w fun e w' => e = .returned (.bool true) ∧ Grow w w' := by
  refine enter2 (S := fun _ => False) 26 Try.func97 rfl rfl rfl (Ok.start w) ?_
  (repeat (first | ((refine (?_ : MX _ _ _ _ _ _ _ _ _ _ _)); first | refine mx_end ?_ | (refine mx_mv _ rfl rfl (by conv => {lhs; whnf}) ?_) | (refine mx_as _ rfl rfl (by conv => {lhs; whnf}) ?_) | (refine g_bin rfl ?_; ( (refine mx_cmpl .neq rfl rfl rfl rfl rfl (by exact cmp_ne_f (by omega) ) ?_) ) ) | (refine g_bi .len rfl ?_; refine mx_len E rfl rfl rfl rfl ?_) ) | refine cw_seq ?_ | refine cw_line rfl ?_ | refine cw_block ?_ | refine cw_cond_f rfl ?_ | refine cw_skip ?_ | refine pw_then ?_ ))
  refine cw_loop (fun i : Nat => [(5, .int .i64 i), (0, .slice ad xs.length cap), (1, .slice ad' xs.length cap')]) (fun i => []) (fun i => i ≤ xs.length) (fun i => xs.length - i) 0 (Nat.zero_le _) ⟨rfl, rfl, rfl, trivial⟩ (fun w h => h) ?_
  intro i jk hi
  by_cases h0 : (i : Int) < xs.length
  case neg =>
    (repeat (first | ((refine (?_ : MX _ _ _ _ _ _ _ _ _ _ _)); first | refine mx_end ?_ | (refine mx_mv _ rfl rfl (by conv => {lhs; whnf}) ?_) | (refine mx_as _ rfl rfl (by conv => {lhs; whnf}) ?_) | (refine g_bin rfl ?_; ( (refine mx_cmpl .lss rfl rfl rfl rfl rfl (by exact cmp_lt_f (by omega) ) ?_) ) ) | (refine g_bi .len rfl ?_; refine mx_len E rfl rfl rfl rfl ?_) ) | refine cw_seq ?_ | refine cw_line rfl ?_ | refine cw_cond_f rfl ?_ | refine cw_exit ?_ | refine cw_ret ?_ | refine pw_then ?_ | refine pw_then_x ?_ | refine pw_block_e ?_ ))
    exact pw_ret rfl rfl rfl rfl fun w hw => ⟨rfl, hw.keep.grow⟩
  obtain ⟨x, hx⟩ := getElem_some (xs := xs) (i := i) (by omega)
  obtain ⟨b4, off, e, hcc⟩ := inl_at hl hx
  obtain ⟨b5, off5, e5, hcc5⟩ := inl_at hl' hx
  subst e e5
  have hS : ¬ (fun _ : Nat => False) b4 := id
  have hS5 : ¬ (fun _ : Nat => False) b5 := id
  have hc0 : ∀ (k : Nat) (v : Value), (cFL x)[k]? = some v → w.cell? ⟨b4, off + i * 2 + k, none⟩ = some v := hcc
  have hc5 : ∀ (k : Nat) (v : Value), (cFL x)[k]? = some v → w.cell? ⟨b5, off5 + i * 2 + k, none⟩ = some v := hcc5
  have hc0' : w.cell? ⟨b4, off + i * 2, none⟩ = some (.int .i64 x.reg) := hcc 0 _ rfl
  have hc5' : w.cell? ⟨b5, off5 + i * 2, none⟩ = some (.int .i64 x.reg) := hcc5 0 _ rfl
  (repeat (first | ((refine (?_ : MX _ _ _ _ _ _ _ _ _ _ _)); first | refine mx_end ?_ | (refine mx_mv _ rfl rfl (by conv => {lhs; whnf}) ?_) | (refine g_bin rfl ?_; ( (refine mx_cmpl .lss rfl rfl rfl rfl rfl (by exact cmp_lt_t (by omega) ) ?_) ) ) | (refine g_bi .len rfl ?_; refine mx_len E rfl rfl rfl rfl ?_) ) | refine cw_seq ?_ | refine cw_line rfl ?_ | refine cw_block ?_ | refine cw_cond_t rfl ?_ | refine cw_skip ?_ | refine pw_then ?_ ))
  refine cw_drawm [0, 1, 2, 3, 4, 5, 6, 7, 8] (fun _ => false) [] mixed (by kernel_rfl) (fun w h => h.nil) ?_
  (repeat (first | ((refine (?_ : MX _ _ _ _ _ _ _ _ _ _ _)); first | refine mx_end ?_ | (refine mx_mv _ rfl rfl (by conv => {lhs; whnf}) ?_) | (refine mx_as _ rfl rfl (by conv => {lhs; whnf}) ?_) | (refine g_load rfl ?_; refine mx_oldn E rfl rfl rfl rfl rfl (by assumption) (by assumption) (rfl) rfl ?_ ) | (refine g_bin rfl ?_; first | ( refine mx_ar rfl rfl rfl rfl rfl rfl (IntWalk.i64_in _ (by omega)) rfl ?_ ) | ( refine mx_nes rfl rfl rfl rfl rfl rfl ?_ ) ) | (refine g_ix rfl ?_; refine mx_ixsn E rfl rfl rfl rfl rfl rfl (by omega) rfl ?_ ) ) | refine cw_line rfl ?_ | refine cw_cond_f rfl ?_ | refine cw_skip ?_ | refine pw_then ?_ | refine pw_block ?_ ))
  exact pw_round (i + 1) (by omega) (by omega) ⟨rfl, rfl, rfl, trivial⟩ (fun w h => h)
theorem same76 (v : VO) (ha : Option Addr) (hc : Nat) (na : Option Addr) (nc : Nat) (ha' : Option Addr) (hc' : Nat) (na' : Option Addr) (nc' : Nat) (h1 : v.held.length ≤ 8796093022208) (h2 : v.need.length ≤ 8796093022208) (w : World) (l1 : InL w ha 2 cFL v.held) (l2 : InL w na 2 cFL v.need) (l3 : InL w ha' 2 cFL v.held) (l4 : InL w na' 2 cFL v.need) :
    Calls Try.prog 76 #[.agg (cVO v ha hc na nc).toArray, .agg (cVO v ha' hc' na' nc').toArray] w fun e w' => e = .returned (.bool true) ∧ Grow w w' := by
  refine enter2 (S := fun _ => False) 80 Try.func76 rfl rfl rfl (Ok.start w) ?_
  (repeat (first | ((refine (?_ : MX _ _ _ _ _ _ _ _ _ _ _)); first | refine mx_end ?_ | (refine mx_mv _ rfl rfl (by conv => {lhs; whnf}) ?_) | (refine mx_as _ rfl rfl (by conv => {lhs; whnf}) ?_) | (first | refine mx_fa0 E rfl rfl rfl rfl ?_ | refine mx_fa E rfl rfl rfl rfl ?_) | (refine g_load rfl ?_; first | refine mx_get E rfl rfl rfl rfl rfl (by rfl) rfl ?_ | refine mx_getn E rfl rfl rfl rfl rfl (by exact vr_I _ _ _ _ _ _ _ _ _ _ _ _ _ _ _ ) rfl ?_ ) | (refine g_bin rfl ?_; first | ((refine mx_cmpl .eql rfl rfl rfl rfl rfl (by first | exact cmp_eq_t (by omega) | rfl) ?_) ) | (refine mx_eqs rfl rfl rfl rfl rfl rfl ?_ ) ) | (refine g_pick rfl ?_; refine mx_and rfl rfl rfl rfl rfl rfl ?_ ) | (refine g_box rfl ?_; refine a_boxl rfl rfl rfl rfl rfl rfl (fun _ => ?_) ) ) | refine cw_seq ?_ | refine cw_line rfl ?_ | refine pw_then ?_ ))
  refine g_cf 97 rfl ?_; refine a_callv rfl rfl rfl rfl Try.func97 rfl rfl rfl (.bool true) (fun w' hw => same97 ha ha' hc hc' v.held (by omega) w' (l1.keep hw fun _ _ _ h => h) (l3.keep hw fun _ _ _ h => h)) rfl ?_
  (repeat (((refine (?_ : MX _ _ _ _ _ _ _ _ _ _ _)); first | (refine mx_mv _ rfl rfl (by conv => {lhs; whnf}) ?_) | ( refine mx_fa E rfl rfl rfl rfl ?_) | (refine g_load rfl ?_; refine mx_get E rfl rfl rfl rfl rfl (by rfl) rfl ?_ ) | (refine g_pick rfl ?_; refine mx_and rfl rfl rfl rfl rfl rfl ?_ ) ) ))
  refine g_cf 97 rfl ?_; refine a_callv rfl rfl rfl rfl Try.func97 rfl rfl rfl (.bool true) (fun w' hw => same97 na na' nc nc' v.need (by omega) w' (l2.keep hw fun _ _ _ h => h) (l4.keep hw fun _ _ _ h => h)) rfl ?_
  (repeat (first | ((refine (?_ : MX _ _ _ _ _ _ _ _ _ _ _)); first | refine mx_end ?_ | (refine mx_as _ rfl rfl (by conv => {lhs; whnf}) ?_) | (refine g_pick rfl ?_; refine mx_and rfl rfl rfl rfl rfl rfl ?_ ) ) | refine cw_ret ?_ | refine pw_then ?_ ))
  exact pw_ret rfl rfl rfl rfl fun w hw => ⟨rfl, hw.keep.grow⟩
/-- The same, wherever it lies. -/
theorem same76e (a b : OP) (h : a.v = b.v) (h1 : a.v.held.length ≤ 8796093022208) (h2 : a.v.need.length ≤ 8796093022208) (w : World) (l1 : InL w a.ha 2 cFL a.v.held) (l2 : InL w a.na 2 cFL a.v.need) (l3 : InL w b.ha 2 cFL b.v.held) (l4 : InL w b.na 2 cFL b.v.need) :
    Calls Try.prog 76 #[.agg (cOP a).toArray, .agg (cOP b).toArray] w fun e w' => e = .returned (.bool true) ∧ Grow w w' := by
  obtain ⟨v, ha, hc, na, nc⟩ := a
  obtain ⟨v', ha', hc', na', nc'⟩ := b
  obtain rfl : v = v' := h
  exact same76 v ha hc na nc ha' hc' na' nc' h1 h2 w l1 l2 l3 l4
/-- A form that stands somewhere. -/
structure RdD (w : World) (c : CD) : Prop where
  o : InL w c.oa 15 cOP c.ops
  os : ∀ x ∈ c.ops, InL w x.ha 2 cFL x.v.held ∧ InL w x.na 2 cFL x.v.need ∧ x.v.held.length ≤ 8796093022208 ∧ x.v.need.length ≤ 8796093022208
  t : InL w c.ta 1 cI c.at'
  e : InL w c.ea 5 cEV c.evs
  es : ∀ x ∈ c.evs, InL w x.ka 1 cU x.v.key ∧ x.v.key.length ≤ 140737488355328
theorem RdD.keep {w0 w : World} {H : List Res} {c : CD} (h : RdD w0 c) (hw : Ok (fun _ => False) w0 H w) : RdD w c := ⟨h.o.keep hw fun _ _ _ h => h, fun x hx => ⟨(h.os x hx).1.keep hw fun _ _ _ h => h, (h.os x hx).2.1.keep hw fun _ _ _ h => h, (h.os x hx).2.2⟩, h.t.keep hw fun _ _ _ h => h, h.e.keep hw fun _ _ _ h => h, fun x hx => ⟨(h.es x hx).1.keep hw fun _ _ _ h => h, (h.es x hx).2⟩⟩
theorem same45 (a b : CD) (h : a.vc = b.vc) (hl : a.ops.length ≤ 1100000 ∧ a.at'.length ≤ 1100000 ∧ a.evs.length ≤ 1100000) (w : World) (ra : RdD w a) (rb : RdD w b) :
    Calls Try.prog 45 #[.agg (cCD a).toArray, .agg (cCD b).toArray] w fun e w' => e = .returned (.bool true) ∧ Grow w w' := by
  have hp : a.prog = b.prog := congrArg VC.prog h
  have ho : a.ops.map (·.v) = b.ops.map (·.v) := congrArg VC.ops h
  have ht : a.at' = b.at' := congrArg VC.at' h
  have he : a.evs.map (·.v) = b.evs.map (·.v) := congrArg VC.evs h
  have hlo : a.ops.length = b.ops.length := by have := congrArg List.length ho; simpa using this
  refine enter2 (S := fun _ => False) 55 Try.func45 rfl rfl rfl (Ok.start w) ?_
  (repeat (first | ((refine (?_ : MX _ _ _ _ _ _ _ _ _ _ _)); first | refine mx_end ?_ | (refine mx_mv _ rfl rfl (by conv => {lhs; whnf}) ?_) | (refine mx_as _ rfl rfl (by conv => {lhs; whnf}) ?_) | (first | refine mx_fa0 E rfl rfl rfl rfl ?_ | refine mx_fa E rfl rfl rfl rfl ?_) | (refine g_load rfl ?_; refine mx_get E rfl rfl rfl rfl rfl (by rfl) rfl ?_ ) | (refine g_bin rfl ?_; ( (refine mx_cmpl .neq rfl rfl rfl rfl rfl (by exact cmp_ne_f (by omega) ) ?_) ) ) | (refine g_bi .len rfl ?_; refine mx_len E rfl rfl rfl rfl ?_) | (refine g_pick rfl ?_; refine mx_or rfl rfl rfl rfl rfl rfl ?_ ) | (refine g_box rfl ?_; refine a_boxl rfl rfl rfl rfl rfl rfl (fun _ => ?_) ) ) | refine cw_seq ?_ | refine cw_line rfl ?_ | refine pw_then ?_ ))
  rename_i b2 b3
  refine g_cf 21 rfl ?_
  refine a_callv rfl rfl rfl rfl Try.func21 rfl rfl rfl (.bool true) (fun w' hw => by
    have h13 := same21 a.ta b.ta a.tc b.tc a.at' (by omega) w' (ra.t.keep hw fun _ _ _ h => h) (by rw [ht]; exact rb.t.keep hw fun _ _ _ h => h)
    conv at h13 => rw [ht]
    rw [ht]
    exact h13) rfl ?_
  (repeat (((refine (?_ : MX _ _ _ _ _ _ _ _ _ _ _)); first | (refine mx_mv _ rfl rfl (by conv => {lhs; whnf}) ?_) | ( refine mx_fa E rfl rfl rfl rfl ?_) | (refine g_load rfl ?_; refine mx_get E rfl rfl rfl rfl rfl (by rfl) rfl ?_ ) | (refine mx_not rfl rfl rfl ?_) | (refine g_pick rfl ?_; refine mx_or rfl rfl rfl rfl rfl rfl ?_ ) ) ))
  refine g_cf 24 rfl ?_
  refine a_callv rfl rfl rfl rfl Try.func24 rfl rfl rfl (.bool true) (fun w' hw => same24 a.ea b.ea a.ec b.ec a.evs b.evs he (by omega) (fun x hx => by have := (ra.es x hx).2; omega) w' (ra.e.keep hw fun _ _ _ h => h) (rb.e.keep hw fun _ _ _ h => h) (fun x hx => (ra.es x hx).1.keep hw fun _ _ _ h => h) (fun x hx => (rb.es x hx).1.keep hw fun _ _ _ h => h)) rfl ?_
  (repeat (first | ((refine (?_ : MX _ _ _ _ _ _ _ _ _ _ _)); first | refine mx_end ?_ | (refine mx_as _ rfl rfl (by conv => {lhs; whnf}) ?_) | (refine mx_not rfl rfl rfl ?_) | (refine g_pick rfl ?_; refine mx_or rfl rfl rfl rfl rfl rfl ?_ ) ) | refine cw_seq ?_ | refine cw_line rfl ?_ | refine cw_block ?_ | refine cw_cond_f rfl ?_ | refine cw_skip ?_ | refine pw_then ?_ ))
  refine cw_loop (fun i : Nat => [(5, .int .i64 i), (2, .pointer (some ⟨b2, 0, none⟩)), (3, .pointer (some ⟨b3, 0, none⟩))]) (fun i => [row b3 59 (cCD b), row b2 59 (cCD a)]) (fun i => i ≤ a.ops.length) (fun i => a.ops.length - i) 0 (Nat.zero_le _) ⟨rfl, rfl, rfl, trivial⟩ (fun w h => h) ?_
  intro i jk hi
  by_cases h0 : (i : Int) < a.ops.length
  case neg =>
    (repeat (first | ((refine (?_ : MX _ _ _ _ _ _ _ _ _ _ _)); first | refine mx_end ?_ | (refine mx_mv _ rfl rfl (by conv => {lhs; whnf}) ?_) | (refine mx_as _ rfl rfl (by conv => {lhs; whnf}) ?_) | ( refine mx_fa E rfl rfl rfl rfl ?_) | (refine g_load rfl ?_; refine mx_get E rfl rfl rfl rfl rfl (by rfl) rfl ?_ ) | (refine g_bin rfl ?_; ( (refine mx_cmpl .lss rfl rfl rfl rfl rfl (by exact cmp_lt_f (by omega) ) ?_) ) ) | (refine g_bi .len rfl ?_; refine mx_len E rfl rfl rfl rfl ?_) ) | refine cw_seq ?_ | refine cw_line rfl ?_ | refine cw_cond_f rfl ?_ | refine cw_exit ?_ | refine cw_ret ?_ | refine pw_then ?_ | refine pw_then_x ?_ | refine pw_block_e ?_ ))
    exact pw_ret rfl rfl rfl rfl fun w hw => ⟨rfl, hw.keep.grow⟩
  obtain ⟨x, hx⟩ := getElem_some (xs := a.ops) (i := i) (by omega)
  obtain ⟨y, hy⟩ := getElem_some (xs := b.ops) (i := i) (by omega)
  have hv : x.v = y.v := by
    have := congrArg (fun l : List VO => l[i]?) ho
    simpa [hx, hy] using this
  obtain ⟨b4, off, e, hcc⟩ := inl_at ra.o hx
  obtain ⟨b5, off5, e5, hcc5⟩ := inl_at rb.o hy
  have hS : ¬ (fun _ : Nat => False) b4 := id
  have hS5 : ¬ (fun _ : Nat => False) b5 := id
  have hc0 : ∀ (k : Nat) (v : Value), (cOP x)[k]? = some v → w.cell? ⟨b4, off + i * 15 + k, none⟩ = some v := hcc
  have hc5 : ∀ (k : Nat) (v : Value), (cOP y)[k]? = some v → w.cell? ⟨b5, off5 + i * 15 + k, none⟩ = some v := hcc5
  refine cw_weak (H' := [row b3 59 [.int .i64 b.prog, .slice (some ⟨b5, off5, none⟩) b.ops.length b.oc, .slice b.ta b.at'.length b.tc, .slice b.ea b.evs.length b.ec], row b2 59 [.int .i64 a.prog, .slice (some ⟨b4, off, none⟩) a.ops.length a.oc, .slice a.ta a.at'.length a.tc, .slice a.ea a.evs.length a.ec]]) (fun w1 h => by rw [← e, ← e5]; exact h) ?_
  have hxo := ra.os x (List.mem_of_getElem? hx)
  have hyo := rb.os y (List.mem_of_getElem? hy)
  (repeat (first | ((refine (?_ : MX _ _ _ _ _ _ _ _ _ _ _)); first | refine mx_end ?_ | (refine mx_mv _ rfl rfl (by conv => {lhs; whnf}) ?_) | ( refine mx_fa E rfl rfl rfl rfl ?_) | (refine g_load rfl ?_; refine mx_get E rfl rfl rfl rfl rfl (by rfl) rfl ?_ ) | (refine g_bin rfl ?_; ( (refine mx_cmpl .lss rfl rfl rfl rfl rfl (by exact cmp_lt_t (by omega) ) ?_) ) ) | (refine g_bi .len rfl ?_; refine mx_len E rfl rfl rfl rfl ?_) ) | refine cw_seq ?_ | refine cw_line rfl ?_ | refine cw_block ?_ | refine cw_cond_t rfl ?_ | refine cw_skip ?_ | refine pw_then ?_ ))
  refine cw_drawm [0, 1, 2, 3, 4, 5, 6, 7, 8, 9, 10, 11] (fun i => Nat.beq i 10) [row b3 59 [.int .i64 b.prog, .slice (some ⟨b5, off5, none⟩) b.ops.length b.oc, .slice b.ta b.at'.length b.tc, .slice b.ea b.evs.length b.ec], row b2 59 [.int .i64 a.prog, .slice (some ⟨b4, off, none⟩) a.ops.length a.oc, .slice a.ta a.at'.length a.tc, .slice a.ea a.evs.length a.ec]] mixed (by kernel_rfl) (fun w h => h) ?_
  (repeat (((refine (?_ : MX _ _ _ _ _ _ _ _ _ _ _)); first | (refine mx_mv _ rfl rfl (by conv => {lhs; whnf}) ?_) | ( refine mx_fa E rfl rfl rfl rfl ?_) | (refine g_load rfl ?_; first | refine mx_get E rfl rfl rfl rfl rfl (by rfl) rfl ?_ | refine mx_oldn E rfl rfl rfl rfl rfl (by assumption) (by assumption) (rfl) rfl ?_ ) | (refine g_ix rfl ?_; refine mx_ixsn E rfl rfl rfl rfl rfl rfl (by omega) rfl ?_ ) ) ))
  refine g_cf 76 rfl ?_
  refine a_callv rfl rfl rfl rfl Try.func76 rfl rfl rfl (.bool true) (fun w' hw => same76e x y hv (by omega) (by omega) w' (hxo.1.keep hw fun _ _ _ h => h) (hxo.2.1.keep hw fun _ _ _ h => h) (hyo.1.keep hw fun _ _ _ h => h) (hyo.2.1.keep hw fun _ _ _ h => h)) rfl ?_
  (repeat (first | ((refine (?_ : MX _ _ _ _ _ _ _ _ _ _ _)); first | refine mx_end ?_ | (refine mx_mv _ rfl rfl (by conv => {lhs; whnf}) ?_) | (refine mx_as _ rfl rfl (by conv => {lhs; whnf}) ?_) | (refine g_bin rfl ?_; ( refine mx_ar rfl rfl rfl rfl rfl rfl (IntWalk.i64_in _ (by omega)) rfl ?_ ) ) | (refine mx_not rfl rfl rfl ?_) ) | refine cw_line rfl ?_ | refine cw_cond_f rfl ?_ | refine cw_skip ?_ | refine pw_then ?_ | refine pw_block ?_ ))
  exact pw_round (i + 1) (by omega) (by omega) ⟨rfl, rfl, rfl, trivial⟩ (fun w1 h => by have h2 := h; rw [← e, ← e5] at h2; exact h2)
end Go.Proofs.Ytikdbgheefjpkaa
