/- The walk of the law InlineLeads. -/
import Derived.Test.YtdkolggmabnifaaIp
set_option maxRecDepth 100000
set_option maxHeartbeats 8000000
set_option linter.unusedSimpArgs false
set_option linter.unusedVariables false
namespace Go.Proofs.Ytdkolggmabnifaa
open Go Go.Sx Go.RowKit
theorem lawInlineLeads (c : CD) (xa : Option Addr) (xc : Nat) (l : List CD) (hcap : l.length ≤ xc ∧ xc ≤ maxLen) (w : World) (hc : CdP w c) (hl : InL w xa 4 cCD l) (hp : ∀ x ∈ l, CdP w x) : Calls Try.prog 3 #[.agg (cCD c).toArray, .slice xa l.length xc] w fun e w' => e = .returned (.bool true) ∧ Grow w w' := by
  refine enter2 (S := fun _ => False) 95 Try.func3 rfl rfl rfl (Ok.start w) ?_
  have hS0 : ∀ b, (fun _ : Nat => False) b → w.heap.size ≤ b := fun b hb => hb.elim
  (repeat (first | ((refine (?_ : MX _ _ _ _ _ _ _ _ _ _ _)); first | refine mx_end ?_ | (refine mx_as _ rfl rfl (by conv => {lhs; whnf}) ?_) | (refine g_load rfl ?_; refine mx_getn E rfl rfl rfl rfl rfl (by exact Vr.all rfl ) rfl ?_ ) | (refine g_box rfl ?_; refine a_boxl rfl rfl rfl rfl rfl rfl (fun _ => ?_) ) ) | refine cw_seq ?_ | refine cw_line rfl ?_ | refine pw_then ?_ ))
  rename_i b1
  refine g_cf 7 rfl ?_
  refine a_callL rfl rfl rfl rfl Try.func7 rfl rfl rfl [] _ rfl (fun b : {B : Bool // B = true → Rt c} => .bool b.1) (fun _ => []) (fun w' hw _ => (right7 c hc.sz w' (hc.o.keep hw fun _ _ _ h => h) (hc.t.keep hw fun _ _ _ h => h) (hc.e.keep hw fun _ _ _ h => h)).mono fun e w'' ⟨b, h1, h2⟩ => ⟨b, h1, (Ok.start w').grow h2⟩) (fun _ => rfl) (fun _ _ _ => trivial) (fun b => ?_)
  obtain ⟨b, hb⟩ := b
  dsimp only [List.nil_append]
  cases b with
  | false =>
    ((repeat (first | ((refine (?_ : MX _ _ _ _ _ _ _ _ _ _ _)); first | refine mx_end ?_ | (refine mx_mv _ rfl rfl (by conv => {lhs; whnf}) ?_) | (refine mx_not rfl rfl rfl ?_) | (refine mx_skip rfl rfl rfl ?_) | (refine g_pick rfl ?_; refine mx_ort rfl rfl rfl rfl rfl ?_ ) ) | refine cw_seq ?_ | refine cw_line rfl ?_ | refine cw_cond_t rfl ?_ | refine pw_then ?_ ))); refine g_cf 9 rfl ?_; refine a_callv rfl rfl rfl rfl Try.func9 rfl rfl rfl (.bool true) (fun w' hw => works9 w') rfl ?_; ((repeat (first | ((refine (?_ : MX _ _ _ _ _ _ _ _ _ _ _)); first | refine mx_end ?_ | (refine mx_as _ rfl rfl (by conv => {lhs; whnf}) ?_) ) | refine cw_ret ?_ | refine pw_then ?_ | refine pw_then_r ?_ ))); exact pw_ret rfl rfl rfl rfl fun w hw => ⟨rfl, hw.keep.grow⟩
  | true =>
  have hr := hb rfl
  (repeat (((refine (?_ : MX _ _ _ _ _ _ _ _ _ _ _)); first | (refine mx_mv _ rfl rfl (by conv => {lhs; whnf}) ?_) | (refine mx_not rfl rfl rfl ?_) ) ))
  refine g_cf 8 rfl ?_
  refine a_callL rfl rfl rfl rfl Try.func8 rfl rfl rfl [] _ rfl (fun b : {B : Bool // B = true → l.length ≤ 12 ∧ ∀ x ∈ l, Rt x} => .bool b.1) (fun _ => []) (fun w' hw _ => (all8 xa xc l (by omega) w' (hl.keep hw fun _ _ _ h => h) (fun x hx => (hp x hx).sz) (fun x hx => ⟨(hp x hx).o.keep hw fun _ _ _ h => h, (hp x hx).t.keep hw fun _ _ _ h => h, (hp x hx).e.keep hw fun _ _ _ h => h⟩)).mono fun e w'' ⟨b, h1, h2⟩ => ⟨b, h1, (Ok.start w').grow h2⟩) (fun _ => rfl) (fun _ _ _ => trivial) (fun b => ?_)
  obtain ⟨b, hb⟩ := b
  dsimp only [List.nil_append]
  cases b with
  | false =>
    ((repeat (first | ((refine (?_ : MX _ _ _ _ _ _ _ _ _ _ _)); first | refine mx_end ?_ | (refine mx_not rfl rfl rfl ?_) | (refine g_pick rfl ?_; refine mx_or rfl rfl rfl rfl rfl rfl ?_ ) ) | refine cw_seq ?_ | refine cw_line rfl ?_ | refine cw_cond_t rfl ?_ | refine pw_then ?_ ))); refine g_cf 9 rfl ?_; refine a_callv rfl rfl rfl rfl Try.func9 rfl rfl rfl (.bool true) (fun w' hw => works9 w') rfl ?_; ((repeat (first | ((refine (?_ : MX _ _ _ _ _ _ _ _ _ _ _)); first | refine mx_end ?_ | (refine mx_as _ rfl rfl (by conv => {lhs; whnf}) ?_) ) | refine cw_ret ?_ | refine pw_then ?_ | refine pw_then_r ?_ ))); exact pw_ret rfl rfl rfl rfl fun w hw => ⟨rfl, hw.keep.grow⟩
  | true =>
  have hrl := hb rfl
  have hl12 := hrl.1
  have hral := hrl.2
  obtain ⟨a0, al, hat, ha0, ha1⟩ := hr.a0
  have hcl := hr.ol
  have htl := hr.tl
  (repeat (first | ((refine (?_ : MX _ _ _ _ _ _ _ _ _ _ _)); first | refine mx_end ?_ | (refine mx_mv _ rfl rfl (by conv => {lhs; whnf}) ?_) | (refine g_load rfl ?_; refine mx_getn E rfl rfl rfl rfl rfl (by exact Vr.all rfl ) rfl ?_ ) | (refine mx_not rfl rfl rfl ?_) | (refine g_pick rfl ?_; refine mx_or rfl rfl rfl rfl rfl rfl ?_ ) ) | refine cw_seq ?_ | refine cw_line rfl ?_ | refine cw_cond_f rfl ?_ | refine cw_skip ?_ | refine pw_then ?_ ))
  refine g_cf 10 rfl ?_
  refine a_callL rfl rfl rfl rfl Try.func10 rfl rfl rfl [] _ rfl (fun a : {a : CD // IsJ (l.map CD.vc) c.vc a.vc} => .agg (cCD a.1).toArray) (fun a => OCd a.1) (fun w' hw _ => join10 xa xc l c (by omega) (by omega) w' (rdC_le ((hc.rd hr).keep hw hS0) hw.keep.size) hr.ok (hr.okv hc) (inN_le ((inN_of len_CD (by omega) hl).keep hw hS0) hw.keep.size) (fun o ho => ⟨rdC_le (((hp o ho).rd (hral o ho)).keep hw hS0) hw.keep.size, (hral o ho).ok⟩) (fun o ho => by
    obtain ⟨x, hx, rfl⟩ := List.mem_map.1 ho
    exact (hral x hx).okv (hp x hx))) (fun _ => rfl) (fun _ _ _ => trivial) (fun q => ?_)
  obtain ⟨a, haJ⟩ := q
  have hA := ja_of hr hral (hr.okv hc) (fun x hx => (hral x hx).okv (hp x hx)) haJ
  have hl1 := hA.l1
  have hl2 := hA.l2
  have hl0 := hA.l0
  refine mx_weak (H' := [ownd a.oa a.oc 36 15 a.ops.length (a.ops.flatMap cOP), allF a.ops, row b1 26 (cCD c)]) (fun w1 h => h.pick [0, 1, 5] (by simp) rfl) (fun _ _ => trivial) ?_
  (repeat (first | ((refine (?_ : MX _ _ _ _ _ _ _ _ _ _ _)); first | refine mx_end ?_ | (refine g_store rfl ?_; refine s_l E rfl rfl rfl rfl rfl rfl rfl (by exact Sp.all rfl ) rfl ?_ ) | (refine a_new rfl rfl rfl rfl rfl (fun _ => ?_)) ) | refine pw_then ?_))
  rename_i b3
  refine cw_know (p := ∃ b, a.oa = some ⟨b, 0, none⟩) (fun w hw => by obtain ⟨b, e, _⟩ := (own_at (hw.holds 1 _ rfl)).2.1 (by omega); exact ⟨b, e⟩) (fun hb5 => ?_)
  obtain ⟨b5, hb5⟩ := hb5
  obtain ⟨prog, oa, oc, ops, ta, tc, at', ea, ec, evs⟩ := a
  dsimp only at hb5 hl1 hl2
  subst hb5
  have htg := hA.tg
  have hld := hA.ld
  have hhh := hA.hh
  dsimp only at htg hld hhh
  refine cw_ex (fun rest => [row b3 26 [.int .i64 prog, .slice (some ⟨b5, 0, none⟩) ops.length oc, .slice ta at'.length tc, .slice ea evs.length ec], row b5 36 (ops.flatMap cOP ++ rest), allF ops, row b1 26 (cCD c)]) _ (fun w hw => (ok_open 1 rfl hw).imp fun rest h => ⟨h.1, h.2⟩) (fun rest he => ?_)
  (repeat (first | ((refine (?_ : MX _ _ _ _ _ _ _ _ _ _ _)); first | refine mx_end ?_ | (refine mx_mv _ rfl rfl (by conv => {lhs; whnf}) ?_) | (refine mx_as _ rfl rfl (by conv => {lhs; whnf}) ?_) | ( refine mx_fa E rfl rfl rfl rfl ?_) | (refine g_load rfl ?_; refine mx_get E rfl rfl rfl rfl rfl (by rfl) rfl ?_ ) | (refine g_bin rfl ?_; (first | (refine mx_cmpl .lss rfl rfl rfl rfl rfl (by first | exact cmp_lt_t (by omega) | exact cmp_lt_f (by omega) ) ?_) | (refine mx_cmpl .gtr rfl rfl rfl rfl rfl (by exact cmp_gt_f (by omega) ) ?_) ) ) | (refine g_bi .len rfl ?_; refine mx_len E rfl rfl rfl rfl ?_) | (refine g_pick rfl ?_; refine mx_or rfl rfl rfl rfl rfl rfl ?_ ) ) | refine cw_seq ?_ | refine cw_line rfl ?_ | refine cw_block ?_ | refine cw_cond_f rfl ?_ | refine cw_skip ?_ | refine pw_then ?_ ))
  refine cw_loop (ι := Nat) (fun i => [(6, .int .i64 i), (5, .pointer (some ⟨b3, 0, none⟩)), (2, .pointer (some ⟨b1, 0, none⟩)), (1, .slice xa l.length xc)]) (fun i => [row b3 26 [.int .i64 prog, .slice (some ⟨b5, 0, none⟩) ops.length oc, .slice ta at'.length tc, .slice ea evs.length ec], row b5 36 (ops.flatMap cOP ++ rest), allF ops, row b1 26 (cCD c)]) (fun i => i ≤ ops.length) (fun i => ops.length - i) 0 (Nat.zero_le _) ⟨rfl, rfl, rfl, rfl, trivial⟩ (fun w h => h) ?_
  intro i jk hi
  by_cases h0 : (i : Int) < ops.length
  case neg =>
    ((repeat (first | ((refine (?_ : MX _ _ _ _ _ _ _ _ _ _ _)); first | refine mx_end ?_ | (refine mx_mv _ rfl rfl (by conv => {lhs; whnf}) ?_) | ( refine mx_fa E rfl rfl rfl rfl ?_) | (refine g_load rfl ?_; refine mx_get E rfl rfl rfl rfl rfl (by rfl) rfl ?_ ) | (refine g_bin rfl ?_; ( (refine mx_cmpl .lss rfl rfl rfl rfl rfl (by exact cmp_lt_f (by omega) ) ?_) ) ) | (refine g_bi .len rfl ?_; refine mx_len E rfl rfl rfl rfl ?_) ) | refine cw_seq ?_ | refine cw_line rfl ?_ | refine cw_cond_f rfl ?_ | refine cw_exit ?_ | refine pw_then ?_ | refine pw_then_x ?_ | refine pw_block_e ?_ ))); refine g_cf 9 rfl ?_; refine a_callv rfl rfl rfl rfl Try.func9 rfl rfl rfl (.bool true) (fun w' hw => works9 w') rfl ?_; ((repeat (first | ((refine (?_ : MX _ _ _ _ _ _ _ _ _ _ _)); first | refine mx_end ?_ | (refine mx_as _ rfl rfl (by conv => {lhs; whnf}) ?_) ) | refine cw_ret ?_ | refine pw_then ?_ ))); exact pw_ret rfl rfl rfl rfl fun w hw => ⟨rfl, hw.keep.grow⟩
  obtain ⟨y, hy⟩ := getElem_some (xs := ops) (i := i) (by omega)
  have hvy : Vr (ops.flatMap cOP ++ rest) (0 + i * 15) 15 (cOP y) := vr_all len_OP hy rest (by omega)
  obtain ⟨ht1, ht2⟩ := htg i y hy
  by_cases hk : y.v.kind = 5
  case neg =>
    (repeat (first | ((refine (?_ : MX _ _ _ _ _ _ _ _ _ _ _)); first | refine mx_end ?_ | (refine mx_mv _ rfl rfl (by conv => {lhs; whnf}) ?_) | (refine mx_as _ rfl rfl (by conv => {lhs; whnf}) ?_) | (first | refine mx_fa0 E rfl rfl rfl rfl ?_ | refine mx_fa E rfl rfl rfl rfl ?_) | (refine g_load rfl ?_; first | refine mx_get E rfl rfl rfl rfl rfl (by rfl) rfl ?_ | refine mx_getn E rfl rfl rfl rfl rfl (by assumption ) rfl ?_ ) | (refine g_bin rfl ?_; first | (first | (refine mx_cmpl .neq rfl rfl rfl rfl rfl (by exact cmp_ne_t (by omega) ) ?_) | (refine mx_cmpl .lss rfl rfl rfl rfl rfl (by first | exact cmp_lt_t (by omega) | exact cmp_lt_f (by omega) ) ?_) | (refine mx_cmpl .geq rfl rfl rfl rfl rfl (by first | exact cmp_ge_t (by omega) | exact cmp_ge_f (by omega) ) ?_)) | ( refine mx_ar rfl rfl rfl rfl rfl rfl (IntWalk.i64_in _ (by omega)) rfl ?_ ) ) | (refine g_ix rfl ?_; refine mx_ixsn E rfl rfl rfl rfl rfl rfl (by omega) rfl ?_ ) | (refine g_bi .len rfl ?_; refine mx_len E rfl rfl rfl rfl ?_) | (refine mx_skip rfl rfl rfl ?_) | (refine g_pick rfl ?_; first | refine mx_ort rfl rfl rfl rfl rfl ?_ | refine mx_or rfl rfl rfl rfl rfl rfl ?_ ) | (refine g_store rfl ?_; refine s_l E rfl rfl rfl rfl rfl rfl rfl (by exact Sp.all rfl ) rfl ?_ ) | (refine a_new rfl rfl rfl rfl rfl (fun _ => ?_)) ) | refine cw_seq ?_ | refine cw_line rfl ?_ | refine cw_block ?_ | refine cw_cond_f rfl ?_ | refine cw_cond_t rfl ?_ | refine cw_skip ?_ | refine cw_exit ?_ | refine pw_then ?_ | refine pw_then_x ?_ | refine pw_block_e ?_ ))
    exact pw_round (i + 1) (by omega) (by omega) ⟨rfl, rfl, rfl, rfl, trivial⟩ (fun w h => h.pick [1, 2, 3, 4] (by simp) rfl)
  by_cases ht0 : y.v.tgt < 0
  · (repeat (first | ((refine (?_ : MX _ _ _ _ _ _ _ _ _ _ _)); first | refine mx_end ?_ | (refine mx_mv _ rfl rfl (by conv => {lhs; whnf}) ?_) | (refine mx_as _ rfl rfl (by conv => {lhs; whnf}) ?_) | (first | refine mx_fa0 E rfl rfl rfl rfl ?_ | refine mx_fa E rfl rfl rfl rfl ?_) | (refine g_load rfl ?_; first | refine mx_get E rfl rfl rfl rfl rfl (by rfl) rfl ?_ | refine mx_getn E rfl rfl rfl rfl rfl (by assumption ) rfl ?_ ) | (refine g_bin rfl ?_; first | (first | (refine mx_cmpl .neq rfl rfl rfl rfl rfl (by exact cmp_ne_f (by omega) ) ?_) | (refine mx_cmpl .lss rfl rfl rfl rfl rfl (by first | exact cmp_lt_t (by omega) | exact cmp_lt_f (by omega) ) ?_) | (refine mx_cmpl .geq rfl rfl rfl rfl rfl (by first | exact cmp_ge_t (by omega) | exact cmp_ge_f (by omega) ) ?_)) | ( refine mx_ar rfl rfl rfl rfl rfl rfl (IntWalk.i64_in _ (by omega)) rfl ?_ ) ) | (refine g_ix rfl ?_; refine mx_ixsn E rfl rfl rfl rfl rfl rfl (by omega) rfl ?_ ) | (refine g_bi .len rfl ?_; refine mx_len E rfl rfl rfl rfl ?_) | (refine g_pick rfl ?_; refine mx_or rfl rfl rfl rfl rfl rfl ?_ ) | (refine g_store rfl ?_; refine s_l E rfl rfl rfl rfl rfl rfl rfl (by exact Sp.all rfl ) rfl ?_ ) | (refine a_new rfl rfl rfl rfl rfl (fun _ => ?_)) ) | refine cw_seq ?_ | refine cw_line rfl ?_ | refine cw_block ?_ | refine cw_cond_f rfl ?_ | refine cw_cond_t rfl ?_ | refine cw_skip ?_ | refine cw_exit ?_ | refine pw_then ?_ | refine pw_then_x ?_ | refine pw_block_e ?_ ))
    exact pw_round (i + 1) (by omega) (by omega) ⟨rfl, rfl, rfl, rfl, trivial⟩ (fun w h => h.pick [1, 2, 3, 4] (by simp) rfl)
  obtain ⟨f, hfm, hff, z, t, hz, ht, hzt⟩ := hld i y hy hk (by omega)
  have hfP : CdP w f := by
    rcases List.mem_cons.1 hfm with rfl | h
    · exact hc
    · exact hp f h
  have hfR : Rt f := by
    rcases List.mem_cons.1 hfm with rfl | h
    · exact hr
    · exact hral f h
  obtain ⟨f0, fl, hfat, hf0, hf1⟩ := hfR.a0
  have hfh : f.at'.headD 0 = f0 := by rw [hfat]; rfl
  rw [hfh] at hz
  have htm := List.mem_of_getElem? ht
  have hzm := List.mem_of_getElem? hz
  obtain ⟨b4, off, hoa, hcc⟩ := inl_at hfP.o hz
  have hS : ¬ (fun _ : Nat => False) b4 := id
  have hc0 : ∀ (k : Nat) (v : Value), (cOP z)[k]? = some v → w.cell? ⟨b4, off + f0.toNat * 15 + k, none⟩ = some v := hcc
  obtain ⟨bt, offt, hta, htc⟩ := inl_at hfP.t (i := 0) (x := f0) (by rw [hfat]; rfl)
  have hSt : ¬ (fun _ : Nat => False) bt := id
  have hct : w.cell? ⟨bt, offt + 0 * 1, none⟩ = some (.int .i64 f0) := htc 0 _ rfl
  have hatl2 : (0 : Int) < (f.at'.length : Int) := by rw [hfat]; simp
  have hvt : Vr (ops.flatMap cOP ++ rest) (0 + y.v.tgt.toNat * 15) 15 (cOP t) := vr_all len_OP ht rest (by omega)
  have hzo := hfP.os z hzm
  (repeat (first | ((refine (?_ : MX _ _ _ _ _ _ _ _ _ _ _)); first | refine mx_end ?_ | (refine mx_mv _ rfl rfl (by conv => {lhs; whnf}) ?_) | (first | refine mx_fa0 E rfl rfl rfl rfl ?_ | refine mx_fa E rfl rfl rfl rfl ?_) | (refine g_load rfl ?_; first | refine mx_get E rfl rfl rfl rfl rfl (by rfl) rfl ?_ | refine mx_getn E rfl rfl rfl rfl rfl (by first | assumption | exact Vr.all rfl ) rfl ?_ ) | (refine g_bin rfl ?_; (first | (refine mx_cmpl .neq rfl rfl rfl rfl rfl (by exact cmp_ne_f (by omega) ) ?_) | (refine mx_cmpl .lss rfl rfl rfl rfl rfl (by first | exact cmp_lt_t (by omega) | exact cmp_lt_f (by omega) ) ?_) | (refine mx_cmpl .geq rfl rfl rfl rfl rfl (by exact cmp_ge_f (by omega) ) ?_)) ) | (refine g_ix rfl ?_; refine mx_ixsn E rfl rfl rfl rfl rfl rfl (by omega) rfl ?_ ) | (refine g_bi .len rfl ?_; refine mx_len E rfl rfl rfl rfl ?_) | (refine g_pick rfl ?_; refine mx_or rfl rfl rfl rfl rfl rfl ?_ ) | (refine g_store rfl ?_; refine s_l E rfl rfl rfl rfl rfl rfl rfl (by exact Sp.all rfl ) rfl ?_ ) | (refine a_new rfl rfl rfl rfl rfl (fun _ => ?_)) ) | refine cw_seq ?_ | refine cw_line rfl ?_ | refine cw_block ?_ | refine cw_cond_f rfl ?_ | refine cw_cond_t rfl ?_ | refine cw_skip ?_ | refine pw_then ?_ ))
  refine g_cf 11 rfl ?_
  refine a_callv rfl rfl rfl rfl Try.func11 rfl rfl rfl (.tuple #[.agg (cCD f).toArray, .bool true]) (fun w' hw => of11 c xa l xc y.v.next f hff (by omega) w' (hl.keep hw fun _ _ _ h => h)) rfl ?_
  (repeat (first | ((refine (?_ : MX _ _ _ _ _ _ _ _ _ _ _)); first | refine mx_end ?_ | (refine mx_mv _ rfl rfl (by conv => {lhs; whnf}) ?_) | (refine mx_as _ rfl rfl (by conv => {lhs; whnf}) ?_) | (refine mx_ex _ rfl rfl rfl (by conv => {lhs; whnf}) ?_) | (refine g_store rfl ?_; refine s_l E rfl rfl rfl rfl rfl rfl rfl (by exact Sp.all rfl ) rfl ?_ ) | (refine a_new rfl rfl rfl rfl rfl (fun _ => ?_)) ) | refine cw_seq ?_ | refine pw_then ?_ ))
  rename_i b7 b8
  refine cw_weak (H' := [row b8 26 [.int .i64 f.prog, .slice (some ⟨b4, off, none⟩) f.ops.length f.oc, .slice (some ⟨bt, offt, none⟩) f.at'.length f.tc, .slice f.ea f.evs.length f.ec], row b7 36 (cOP y), row b3 26 [.int .i64 prog, .slice (some ⟨b5, 0, none⟩) ops.length oc, .slice ta at'.length tc, .slice ea evs.length ec], row b5 36 (ops.flatMap cOP ++ rest), allF ops, row b1 26 (cCD c)]) (fun w1 h => by rw [← hoa, ← hta]; exact h) ?_
  refine cw_drawm [0, 1, 2, 3, 4, 5, 6, 7, 8, 9, 10, 11, 12, 13, 14, 15, 16, 17, 18, 19] (fun i => Nat.beq i 17) [row b8 26 [.int .i64 f.prog, .slice (some ⟨b4, off, none⟩) f.ops.length f.oc, .slice (some ⟨bt, offt, none⟩) f.at'.length f.tc, .slice f.ea f.evs.length f.ec], row b7 36 (cOP y), row b3 26 [.int .i64 prog, .slice (some ⟨b5, 0, none⟩) ops.length oc, .slice ta at'.length tc, .slice ea evs.length ec], row b5 36 (ops.flatMap cOP ++ rest)] mixed (by kernel_rfl) (fun w h => h.pick [0, 1, 2, 3] (by simp) rfl) ?_
  (repeat (((refine (?_ : MX _ _ _ _ _ _ _ _ _ _ _)); first | (refine mx_mv _ rfl rfl (by conv => {lhs; whnf}) ?_) | ( refine mx_fa E rfl rfl rfl rfl ?_) | (refine g_load rfl ?_; first | refine mx_get E rfl rfl rfl rfl rfl (by rfl) rfl ?_ | refine mx_getn E rfl rfl rfl rfl rfl (by assumption ) rfl ?_ | refine mx_oldn E rfl rfl rfl rfl rfl (by assumption) (by assumption) (rfl) rfl ?_ | refine mx_old1 E rfl rfl rfl rfl rfl (by assumption) (by assumption) rfl ?_ ) | (refine g_ix rfl ?_; refine mx_ixsi E rfl rfl rfl rfl rfl rfl (by omega) (by omega) rfl ?_ ) | (refine mx_not rfl rfl rfl ?_) ) ))
  refine g_cf 12 rfl ?_
  refine a_callv rfl rfl rfl rfl Try.func12 rfl rfl rfl (.bool true) (fun w' hw => alike12 t z hzt (by have := (hhh t htm).1; omega) (by have := (hhh t htm).2; omega) w' (in_allF (hw.holds 4 _ rfl) htm).1 (in_allF (hw.holds 4 _ rfl) htm).2 (hzo.1.keep hw fun _ _ _ h => h) (hzo.2.2.1.keep hw fun _ _ _ h => h)) rfl ?_
  (repeat (first | ((refine (?_ : MX _ _ _ _ _ _ _ _ _ _ _)); first | refine mx_end ?_ | (refine mx_mv _ rfl rfl (by conv => {lhs; whnf}) ?_) | (refine mx_as _ rfl rfl (by conv => {lhs; whnf}) ?_) | (refine g_bin rfl ?_; ( refine mx_ar rfl rfl rfl rfl rfl rfl (IntWalk.i64_in _ (by omega)) rfl ?_ ) ) | (refine mx_not rfl rfl rfl ?_) | (refine g_pick rfl ?_; refine mx_or rfl rfl rfl rfl rfl rfl ?_ ) ) | refine cw_line rfl ?_ | refine cw_cond_f rfl ?_ | refine cw_skip ?_ | refine pw_then ?_ | refine pw_block ?_ ))
  exact pw_round (i + 1) (by omega) (by omega) ⟨rfl, rfl, rfl, rfl, trivial⟩ (fun w h => h.pick [2, 3, 4, 5] (by simp) rfl)
end Go.Proofs.Ytdkolggmabnifaa
