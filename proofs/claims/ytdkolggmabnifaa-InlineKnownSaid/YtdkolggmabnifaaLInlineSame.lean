/- The walk of the law InlineSame. -/
import Derived.Test.YtdkolggmabnifaaIr
set_option maxRecDepth 100000
set_option maxHeartbeats 8000000
set_option linter.unusedSimpArgs false
set_option linter.unusedVariables false
namespace Go.Proofs.Ytdkolggmabnifaa
open Go Go.Sx Go.RowKit
theorem lawInlineSame (c : CD) (xa : Option Addr) (xc : Nat) (l : List CD) (hcap : l.length ≤ xc ∧ xc ≤ maxLen) (w : World) (hc : CdP w c) (hl : InL w xa 4 cCD l) (hp : ∀ x ∈ l, CdP w x) : Calls Try.prog 4 #[.agg (cCD c).toArray, .slice xa l.length xc] w fun e w' => e = .returned (.bool true) ∧ Grow w w' := by
  refine enter2 (S := fun _ => False) 180 Try.func4 rfl rfl rfl (Ok.start w) ?_
  have hS0 : ∀ b, (fun _ : Nat => False) b → w.heap.size ≤ b := fun b hb => hb.elim
  (repeat (first | ((refine (?_ : MX _ _ _ _ _ _ _ _ _ _ _)); first | refine mx_end ?_ | (refine mx_as _ rfl rfl (by conv => {lhs; whnf}) ?_) | (refine g_load rfl ?_; refine mx_getn E rfl rfl rfl rfl rfl (by exact Vr.all rfl ) rfl ?_ ) | (refine g_box rfl ?_; refine a_boxl rfl rfl rfl rfl rfl rfl (fun _ => ?_) ) ) | refine cw_seq ?_ | refine cw_line rfl ?_ | refine pw_then ?_ ))
  rename_i b1
  refine g_cf 7 rfl ?_
  refine a_callL rfl rfl rfl rfl Try.func7 rfl rfl rfl [] _ rfl (fun b : {B : Bool // B = true → Rt c} => .bool b.1) (fun _ => []) (fun w' hw _ => (right7 c hc.sz w' (hc.o.keep hw fun _ _ _ h => h) (hc.t.keep hw fun _ _ _ h => h) (hc.e.keep hw fun _ _ _ h => h)).mono fun e w'' ⟨b, h1, h2⟩ => ⟨b, h1, (Ok.start w').grow h2⟩) (fun _ => rfl) (fun _ _ _ => trivial) (fun b => ?_)
  obtain ⟨b, hb⟩ := b
  dsimp only [List.nil_append]
  cases b with
  | false =>
    ((repeat (first | ((refine (?_ : MX _ _ _ _ _ _ _ _ _ _ _)); first | refine mx_end ?_ | (refine mx_mv _ rfl rfl (by conv => {lhs; whnf}) ?_) | (refine mx_not rfl rfl rfl ?_) | (refine mx_skip rfl rfl rfl ?_) | (refine g_pick rfl ?_; refine mx_ort rfl rfl rfl rfl rfl ?_ ) ) | refine cw_seq ?_ | refine cw_line rfl ?_ | refine cw_cond_t rfl ?_ | refine pw_then ?_ ))); refine g_cf 9 rfl ?_; refine a_callv rfl rfl rfl rfl Try.func9 rfl rfl rfl (.bool true) (fun w' hw => works9 w') rfl ?_; ((repeat (first | ((refine (?_ : MX _ _ _ _ _ _ _ _ _ _ _)); first | refine mx_end ?_ | (refine mx_as _ rfl rfl (by conv => {lhs; whnf}) ?_) ) | refine cw_ret ?_ | refine pw_then ?_ | refine pw_then_r ?_ ))); exact pw_ret rfl rfl rfl rfl fun w hw => ⟨rfl, hw.keep.grow⟩
  | true =>
  have hr := hb rfl
  (repeat (((refine (?_ : MX _ _ _ _ _ _ _ _ _ _ _)); first | (refine mx_mv _ rfl rfl (by conv => {lhs; whnf}) ?_) | (refine mx_not rfl rfl rfl ?_) ) ))
  refine g_cf 8 rfl ?_
  refine a_callL rfl rfl rfl rfl Try.func8 rfl rfl rfl [] _ rfl (fun b : {B : Bool // B = true → l.length ≤ 12 ∧ ∀ x ∈ l, Rt x} => .bool b.1) (fun _ => []) (fun w' hw _ => (all8 xa xc l (by omega) w' (hl.keep hw fun _ _ _ h => h) (fun x hx => (hp x hx).sz) (fun x hx => ⟨(hp x hx).o.keep hw fun _ _ _ h => h, (hp x hx).t.keep hw fun _ _ _ h => h, (hp x hx).e.keep hw fun _ _ _ h => h⟩)).mono fun e w'' ⟨b, h1, h2⟩ => ⟨b, h1, (Ok.start w').grow h2⟩) (fun _ => rfl) (fun _ _ _ => trivial) (fun b => ?_)
  obtain ⟨b, hb⟩ := b
  dsimp only [List.nil_append]
  cases b with
  | false =>
    ((repeat (first | ((refine (?_ : MX _ _ _ _ _ _ _ _ _ _ _)); first | refine mx_end ?_ | (refine mx_not rfl rfl rfl ?_) | (refine g_pick rfl ?_; refine mx_or rfl rfl rfl rfl rfl rfl ?_ ) ) | refine cw_seq ?_ | refine cw_line rfl ?_ | refine cw_cond_t rfl ?_ | refine pw_then ?_ ))); refine g_cf 9 rfl ?_; refine a_callv rfl rfl rfl rfl Try.func9 rfl rfl rfl (.bool true) (fun w' hw => works9 w') rfl ?_; ((repeat (first | ((refine (?_ : MX _ _ _ _ _ _ _ _ _ _ _)); first | refine mx_end ?_ | (refine mx_as _ rfl rfl (by conv => {lhs; whnf}) ?_) ) | refine cw_ret ?_ | refine pw_then ?_ | refine pw_then_r ?_ ))); exact pw_ret rfl rfl rfl rfl fun w hw => ⟨rfl, hw.keep.grow⟩
  | true =>
  have hrl := hb rfl
  have hl12 := hrl.1
  have hral := hrl.2
  obtain ⟨a0, al, hat, ha0, ha1⟩ := hr.a0
  have hcl := hr.ol
  have htl := hr.tl
  (repeat (first | ((refine (?_ : MX _ _ _ _ _ _ _ _ _ _ _)); first | refine mx_end ?_ | (refine mx_mv _ rfl rfl (by conv => {lhs; whnf}) ?_) | (refine g_load rfl ?_; refine mx_getn E rfl rfl rfl rfl rfl (by exact Vr.all rfl ) rfl ?_ ) | (refine mx_not rfl rfl rfl ?_) | (refine g_pick rfl ?_; refine mx_or rfl rfl rfl rfl rfl rfl ?_ ) ) | refine cw_seq ?_ | refine cw_line rfl ?_ | refine cw_cond_f rfl ?_ | refine cw_skip ?_ | refine pw_then ?_ ))
  refine g_cf 10 rfl ?_
  refine a_callL rfl rfl rfl rfl Try.func10 rfl rfl rfl [] _ rfl (fun a : {a : CD // IsJ (l.map CD.vc) c.vc a.vc} => .agg (cCD a.1).toArray) (fun a => OCd a.1) (fun w' hw _ => join10 xa xc l c (by omega) (by omega) w' (rdC_le ((hc.rd hr).keep hw hS0) hw.keep.size) hr.ok (hr.okv hc) (inN_le ((inN_of len_CD (by omega) hl).keep hw hS0) hw.keep.size) (fun o ho => ⟨rdC_le (((hp o ho).rd (hral o ho)).keep hw hS0) hw.keep.size, (hral o ho).ok⟩) (fun o ho => by
    obtain ⟨x, hx, rfl⟩ := List.mem_map.1 ho
    exact (hral x hx).okv (hp x hx))) (fun _ => rfl) (fun _ _ _ => trivial) (fun q => ?_)
  obtain ⟨a, haJ⟩ := q
  have hA := ja_of hr hral (hr.okv hc) (fun x hx => (hral x hx).okv (hp x hx)) haJ
  have hl1 := hA.l1
  have hl2 := hA.l2
  have hl0 := hA.l0
  obtain ⟨bgs, ats, hSA⟩ := sameC hr hral (hr.okv hc) (fun x hx => (hral x hx).okv (hp x hx)) haJ
  have hE := je_of hr hral (hr.okv hc) (fun x hx => (hral x hx).okv (hp x hx)) haJ
  refine mx_weak (H' := [ownd a.oa a.oc 36 15 a.ops.length (a.ops.flatMap cOP), allF a.ops, ownd a.ta a.tc 3 1 a.at'.length (a.at'.flatMap cI), ownd a.ea a.ec 47 5 a.evs.length (a.evs.flatMap cEV), allK a.evs, row b1 26 (cCD c)]) (fun w1 h => h) (fun _ _ => trivial) ?_
  (repeat (first | ((refine (?_ : MX _ _ _ _ _ _ _ _ _ _ _)); first | refine mx_end ?_ | (refine g_store rfl ?_; refine s_l E rfl rfl rfl rfl rfl rfl rfl (by exact Sp.all rfl ) rfl ?_ ) | (refine a_new rfl rfl rfl rfl rfl (fun _ => ?_)) ) | refine pw_then ?_))
  rename_i b3
  refine cw_know (p := ∃ b, a.oa = some ⟨b, 0, none⟩) (fun w hw => by obtain ⟨b, e, _⟩ := (own_at (hw.holds 1 _ rfl)).2.1 (by omega); exact ⟨b, e⟩) (fun hb5 => ?_)
  obtain ⟨b5, hb5⟩ := hb5
  obtain ⟨prog, oa, oc, ops, ta, tc, at', ea, ec, evs⟩ := a
  dsimp only at hb5 hl1 hl2
  subst hb5
  obtain rfl : prog = c.prog := hE.prog
  obtain rfl : at' = c.at' := hE.at0
  have hhh := hA.hh
  have hown := hE.own
  have hnd := hE.nd
  have hks := hE.ks
  have hel := hE.el
  have hb0 := hSA.b0
  have ha0 := hSA.a0
  have hst := hSA.st
  have hfin := hSA.fin
  have hle := hSA.le
  dsimp only at hhh hown hnd hks hel hst hfin hle
  refine cw_ex (fun rest => [row b3 26 [.int .i64 c.prog, .slice (some ⟨b5, 0, none⟩) ops.length oc, .slice ta c.at'.length tc, .slice ea evs.length ec], row b5 36 (ops.flatMap cOP ++ rest), allF ops, ownd ta tc 3 1 c.at'.length (c.at'.flatMap cI), ownd ea ec 47 5 evs.length (evs.flatMap cEV), allK evs, row b1 26 (cCD c)]) _ (fun w hw => (ok_open 1 rfl hw).imp fun rest h => ⟨h.1, h.2⟩) (fun rest he => ?_)
  obtain ⟨e1, e2, e3, e4⟩ := he
  (repeat (first | ((refine (?_ : MX _ _ _ _ _ _ _ _ _ _ _)); first | (refine mx_mv _ rfl rfl (by conv => {lhs; whnf}) ?_) | (first | refine mx_fa0 E rfl rfl rfl rfl ?_ | refine mx_fa E rfl rfl rfl rfl ?_) | (refine g_load rfl ?_; refine mx_get E rfl rfl rfl rfl rfl (by rfl) rfl ?_ ) | (refine g_bin rfl ?_; (first | (refine mx_cmpl .neq rfl rfl rfl rfl rfl (by first | exact cmp_ne_f (by omega) | rfl) ?_) | (refine mx_cmpl .lss rfl rfl rfl rfl rfl (by exact cmp_lt_f (by omega) ) ?_) ) ) | (refine g_bi .len rfl ?_; refine mx_len E rfl rfl rfl rfl ?_) | (refine g_pick rfl ?_; refine mx_or rfl rfl rfl rfl rfl rfl ?_ ) ) | refine cw_seq ?_ | refine cw_line rfl ?_ ))
  refine g_cf 13 rfl ?_
  refine a_callv rfl rfl rfl rfl Try.func13 rfl rfl rfl (.bool true) (fun w' hw => same13 ta c.ta tc c.tc c.at' (by omega) w' (own_in len_I (hw.holds 3 _ rfl) (Nat.le_refl _)) (hc.t.keep hw fun _ _ _ h => h)) rfl ?_
  (repeat (first | ((refine (?_ : MX _ _ _ _ _ _ _ _ _ _ _)); first | refine mx_end ?_ | (refine mx_as _ rfl rfl (by conv => {lhs; whnf}) ?_) | ( refine mx_fa E rfl rfl rfl rfl ?_) | (refine g_load rfl ?_; refine mx_get E rfl rfl rfl rfl rfl (by rfl) rfl ?_ ) | (refine g_bi .len rfl ?_; refine mx_len E rfl rfl rfl rfl ?_) | (refine mx_not rfl rfl rfl ?_) | (refine g_pick rfl ?_; refine mx_or rfl rfl rfl rfl rfl rfl ?_ ) ) | refine cw_seq ?_ | refine cw_line rfl ?_ | refine cw_block ?_ | refine cw_cond_f rfl ?_ | refine cw_skip ?_ | refine pw_then ?_ ))
  refine cw_loop (ι := Nat) (fun i => [(7, .int .i64 i), (6, .int .i64 c.ops.length), (5, .pointer (some ⟨b3, 0, none⟩)), (2, .pointer (some ⟨b1, 0, none⟩)), (1, .slice xa l.length xc)]) (fun i => [row b3 26 [.int .i64 c.prog, .slice (some ⟨b5, 0, none⟩) ops.length oc, .slice ta c.at'.length tc, .slice ea evs.length ec], row b5 36 (ops.flatMap cOP ++ rest), allF ops, ownd ea ec 47 5 evs.length (evs.flatMap cEV), allK evs, row b1 26 (cCD c)]) (fun i => i ≤ c.ops.length) (fun i => c.ops.length - i) 0 (Nat.zero_le _) ⟨rfl, rfl, rfl, rfl, rfl, trivial⟩ (fun w h => h.pick [0, 1, 2, 4, 5, 6] (by simp) rfl) ?_
  intro i jk hi
  by_cases h0 : (i : Int) < c.ops.length
  case pos =>
    obtain ⟨z, hz⟩ := getElem_some (xs := c.ops) (i := i) (by omega)
    obtain ⟨y, hy, hsim⟩ := hown i z hz
    have hzm := List.mem_of_getElem? hz
    have hym := List.mem_of_getElem? hy
    have hyl := (List.getElem?_eq_some_iff.1 hy).1
    have hvy : Vr (ops.flatMap cOP ++ rest) (0 + i * 15) 15 (cOP y) := vr_all len_OP hy rest (by omega)
    have hry : (ops.flatMap cOP ++ rest)[0 + i * 15 + 10]? = some (.int .i64 y.v.tgt) := rd_at len_OP hy (show 10 < 15 by omega) rfl rest (by omega)
    obtain ⟨b4, off, hoa, hcc⟩ := inl_at hc.o hz
    have hS : ¬ (fun _ : Nat => False) b4 := id
    have hc0 : ∀ (k : Nat) (v : Value), (cOP z)[k]? = some v → w.cell? ⟨b4, off + i * 15 + k, none⟩ = some v := hcc
    have hc50 : w.cell? ⟨b4, off + i * 15, none⟩ = some (.int .i64 z.v.kind) := hcc 0 _ rfl
    have hc51 : w.cell? ⟨b4, off + i * 15 + 10, none⟩ = some (.int .i64 z.v.tgt) := hcc 10 _ rfl
    have hzo := hc.os z hzm
    refine cw_weak (H' := [row b3 26 [.int .i64 c.prog, .slice (some ⟨b5, 0, none⟩) ops.length oc, .slice ta c.at'.length tc, .slice ea evs.length ec], row b5 36 (ops.flatMap cOP ++ rest), allF ops, ownd ea ec 47 5 evs.length (evs.flatMap cEV), allK evs, row b1 26 [.int .i64 c.prog, .slice (some ⟨b4, off, none⟩) c.ops.length c.oc, .slice c.ta c.at'.length c.tc, .slice c.ea c.evs.length c.ec]]) (fun w1 h => by rw [← hoa]; exact h) ?_
    have back : ∀ w1 : World, Ok (fun _ => False) w [row b3 26 [.int .i64 c.prog, .slice (some ⟨b5, 0, none⟩) ops.length oc, .slice ta c.at'.length tc, .slice ea evs.length ec], row b5 36 (ops.flatMap cOP ++ rest), allF ops, ownd ea ec 47 5 evs.length (evs.flatMap cEV), allK evs, row b1 26 [.int .i64 c.prog, .slice (some ⟨b4, off, none⟩) c.ops.length c.oc, .slice c.ta c.at'.length c.tc, .slice c.ea c.evs.length c.ec]] w1 → Ok (fun _ => False) w [row b3 26 [.int .i64 c.prog, .slice (some ⟨b5, 0, none⟩) ops.length oc, .slice ta c.at'.length tc, .slice ea evs.length ec], row b5 36 (ops.flatMap cOP ++ rest), allF ops, ownd ea ec 47 5 evs.length (evs.flatMap cEV), allK evs, row b1 26 (cCD c)] w1 := fun w1 h => by rw [← hoa] at h; exact h
    by_cases hk : z.v.kind = 5
    · ((repeat (first | ((refine (?_ : MX _ _ _ _ _ _ _ _ _ _ _)); first | refine mx_end ?_ | (refine mx_mv _ rfl rfl (by conv => {lhs; whnf}) ?_) | (refine g_bin rfl ?_; ( (refine mx_cmpl .lss rfl rfl rfl rfl rfl (by exact cmp_lt_t (by omega) ) ?_) ) ) ) | refine cw_seq ?_ | refine cw_line rfl ?_ | refine cw_block ?_ | refine cw_cond_t rfl ?_ | refine cw_skip ?_ | refine pw_then ?_ ))); refine cw_drawm [0, 1, 2, 3, 4, 5, 6, 7, 8, 9, 10, 11, 12, 13, 14, 15, 16, 17, 18, 19, 20, 21, 22, 23, 24, 25, 26, 27, 28, 29, 30, 31, 32, 33, 34, 35] (fun i => Nat.beq i 10) [row b3 26 [.int .i64 c.prog, .slice (some ⟨b5, 0, none⟩) ops.length oc, .slice ta c.at'.length tc, .slice ea evs.length ec], row b5 36 (ops.flatMap cOP ++ rest), row b1 26 [.int .i64 c.prog, .slice (some ⟨b4, off, none⟩) c.ops.length c.oc, .slice c.ta c.at'.length c.tc, .slice c.ea c.evs.length c.ec]] mixed (by kernel_rfl) (fun w h => h.pick [0, 1, 5] (by simp) rfl) ?_; ((repeat (((refine (?_ : MX _ _ _ _ _ _ _ _ _ _ _)); first | (refine mx_mv _ rfl rfl (by conv => {lhs; whnf}) ?_) | ( refine mx_fa E rfl rfl rfl rfl ?_) | (refine g_load rfl ?_; first | refine mx_get E rfl rfl rfl rfl rfl (by rfl) rfl ?_ | refine mx_getn E rfl rfl rfl rfl rfl (by assumption ) rfl ?_ | refine mx_oldn E rfl rfl rfl rfl rfl (by assumption) (by assumption) (rfl) rfl ?_ ) | (refine g_ix rfl ?_; refine mx_ixsn E rfl rfl rfl rfl rfl rfl (by omega) rfl ?_ ) ) ))); refine g_cf 12 rfl ?_; refine a_callv rfl rfl rfl rfl Try.func12 rfl rfl rfl (.bool true) (fun w' hw => alike12 y z hsim.1.symm (by have := (hhh y hym).1; omega) (by have := (hhh y hym).2; omega) w' (in_allF (hw.holds 2 _ rfl) hym).1 (in_allF (hw.holds 2 _ rfl) hym).2 (hzo.1.keep hw fun _ _ _ h => h) (hzo.2.2.1.keep hw fun _ _ _ h => h)) rfl ?_; ((repeat (first | ((refine (?_ : MX _ _ _ _ _ _ _ _ _ _ _)); first | refine mx_end ?_ | (refine mx_mv _ rfl rfl (by conv => {lhs; whnf}) ?_) | (refine mx_as _ rfl rfl (by conv => {lhs; whnf}) ?_) | (first | refine mx_fa0 E rfl rfl rfl rfl ?_ | refine mx_fa E rfl rfl rfl rfl ?_) | (refine g_load rfl ?_; first | refine mx_get E rfl rfl rfl rfl rfl (by first | assumption | rfl) rfl ?_ | refine mx_old1 E rfl rfl rfl rfl rfl (by assumption) (by assumption) rfl ?_ ) | (refine g_bin rfl ?_; first | ( (refine mx_cmpl .neq rfl rfl rfl rfl rfl (by exact cmp_ne_f (by omega) ) ?_) ) | ( refine mx_ar rfl rfl rfl rfl rfl rfl (IntWalk.i64_in _ (by omega)) rfl ?_ ) ) | (refine g_ix rfl ?_; refine mx_ixsn E rfl rfl rfl rfl rfl rfl (by omega) rfl ?_ ) | (refine mx_not rfl rfl rfl ?_) | (refine mx_skip rfl rfl rfl ?_) | (refine g_pick rfl ?_; first | refine mx_andf rfl rfl rfl rfl rfl ?_ | refine mx_or rfl rfl rfl rfl rfl rfl ?_ ) ) | refine cw_line rfl ?_ | refine cw_cond_f rfl ?_ | refine cw_skip ?_ | refine pw_then ?_ | refine pw_block ?_ ))); exact pw_round (i + 1) (by omega) (by omega) ⟨rfl, rfl, rfl, rfl, rfl, trivial⟩ back
    · have hmt : y.v.tgt = z.v.tgt := (hsim.2 hk).symm
      ((repeat (first | ((refine (?_ : MX _ _ _ _ _ _ _ _ _ _ _)); first | refine mx_end ?_ | (refine mx_mv _ rfl rfl (by conv => {lhs; whnf}) ?_) | (refine g_bin rfl ?_; ( (refine mx_cmpl .lss rfl rfl rfl rfl rfl (by exact cmp_lt_t (by omega) ) ?_) ) ) ) | refine cw_seq ?_ | refine cw_line rfl ?_ | refine cw_block ?_ | refine cw_cond_t rfl ?_ | refine cw_skip ?_ | refine pw_then ?_ ))); refine cw_drawm [0, 1, 2, 3, 4, 5, 6, 7, 8, 9, 10, 11, 12, 13, 14, 15, 16, 17, 18, 19, 20, 21, 22, 23, 24, 25, 26, 27, 28, 29, 30, 31, 32, 33, 34, 35] (fun i => Nat.beq i 10) [row b3 26 [.int .i64 c.prog, .slice (some ⟨b5, 0, none⟩) ops.length oc, .slice ta c.at'.length tc, .slice ea evs.length ec], row b5 36 (ops.flatMap cOP ++ rest), row b1 26 [.int .i64 c.prog, .slice (some ⟨b4, off, none⟩) c.ops.length c.oc, .slice c.ta c.at'.length c.tc, .slice c.ea c.evs.length c.ec]] mixed (by kernel_rfl) (fun w h => h.pick [0, 1, 5] (by simp) rfl) ?_; ((repeat (((refine (?_ : MX _ _ _ _ _ _ _ _ _ _ _)); first | (refine mx_mv _ rfl rfl (by conv => {lhs; whnf}) ?_) | ( refine mx_fa E rfl rfl rfl rfl ?_) | (refine g_load rfl ?_; first | refine mx_get E rfl rfl rfl rfl rfl (by rfl) rfl ?_ | refine mx_getn E rfl rfl rfl rfl rfl (by assumption ) rfl ?_ | refine mx_oldn E rfl rfl rfl rfl rfl (by assumption) (by assumption) (rfl) rfl ?_ ) | (refine g_ix rfl ?_; refine mx_ixsn E rfl rfl rfl rfl rfl rfl (by omega) rfl ?_ ) ) ))); refine g_cf 12 rfl ?_; refine a_callv rfl rfl rfl rfl Try.func12 rfl rfl rfl (.bool true) (fun w' hw => alike12 y z hsim.1.symm (by have := (hhh y hym).1; omega) (by have := (hhh y hym).2; omega) w' (in_allF (hw.holds 2 _ rfl) hym).1 (in_allF (hw.holds 2 _ rfl) hym).2 (hzo.1.keep hw fun _ _ _ h => h) (hzo.2.2.1.keep hw fun _ _ _ h => h)) rfl ?_; ((repeat (first | ((refine (?_ : MX _ _ _ _ _ _ _ _ _ _ _)); first | refine mx_end ?_ | (refine mx_mv _ rfl rfl (by conv => {lhs; whnf}) ?_) | (refine mx_as _ rfl rfl (by conv => {lhs; whnf}) ?_) | (first | refine mx_fa0 E rfl rfl rfl rfl ?_ | refine mx_fa E rfl rfl rfl rfl ?_) | (refine g_load rfl ?_; first | refine mx_get E rfl rfl rfl rfl rfl (by first | assumption | rfl) rfl ?_ | refine mx_old1 E rfl rfl rfl rfl rfl (by assumption) (by assumption) rfl ?_ ) | (refine g_bin rfl ?_; first | ( (refine mx_cmpl .neq rfl rfl rfl rfl rfl (by first | exact cmp_ne_t (by omega) | exact cmp_ne_f (by omega) ) ?_) ) | ( refine mx_ar rfl rfl rfl rfl rfl rfl (IntWalk.i64_in _ (by omega)) rfl ?_ ) ) | (refine g_ix rfl ?_; refine mx_ixsn E rfl rfl rfl rfl rfl rfl (by omega) rfl ?_ ) | (refine mx_not rfl rfl rfl ?_) | (refine g_pick rfl ?_; first | refine mx_and rfl rfl rfl rfl rfl rfl ?_ | refine mx_or rfl rfl rfl rfl rfl rfl ?_ ) ) | refine cw_line rfl ?_ | refine cw_cond_f rfl ?_ | refine cw_skip ?_ | refine pw_then ?_ | refine pw_block ?_ ))); exact pw_round (i + 1) (by omega) (by omega) ⟨rfl, rfl, rfl, rfl, rfl, trivial⟩ back
  (repeat (first | ((refine (?_ : MX _ _ _ _ _ _ _ _ _ _ _)); first | refine mx_end ?_ | (refine mx_mv _ rfl rfl (by conv => {lhs; whnf}) ?_) | (refine mx_as _ rfl rfl (by conv => {lhs; whnf}) ?_) | (refine mx_fa0 E rfl rfl rfl rfl ?_ ) | (refine g_load rfl ?_; refine mx_get E rfl rfl rfl rfl rfl (by rfl) rfl ?_ ) | (refine g_bin rfl ?_; ( (refine mx_cmpl .lss rfl rfl rfl rfl rfl (by exact cmp_lt_f (by omega) ) ?_) ) ) | (refine g_bs rfl ?_; refine a_bsi E rfl rfl rfl rfl rfl (by (repeat (first | exact EvI.nil | (apply EvI.cons; rfl)))) (by rfl) (by rfl) (by rfl) rfl (fun _ => ?_)) ) | refine cw_seq ?_ | refine cw_line rfl ?_ | refine cw_block ?_ | refine cw_cond_f rfl ?_ | refine cw_exit ?_ | refine pw_then ?_ | refine pw_then_x ?_ | refine pw_block_e ?_ ))
  rename_i b8
  refine cw_weak (H' := [row b3 26 [.int .i64 c.prog, .slice (some ⟨b5, 0, none⟩) ops.length oc, .slice ta c.at'.length tc, .slice ea evs.length ec], row b5 36 (ops.flatMap cOP ++ rest), allF ops, ownd (some ⟨b8, 0, none⟩) 1 3 1 1 ([c.prog].flatMap cI), ownd ea ec 47 5 evs.length (evs.flatMap cEV), allK evs, row b1 26 (cCD c)]) (fun w1 h => (ok_close (xs := [.int .i64 c.prog]) (rest := []) (len := 1) (z := 1) (cap := 1) 0 rfl rfl rfl (by omega) (by decide) h).pick [1, 2, 3, 0, 4, 5, 6] (by simp) rfl) ?_
  have hmx : maxLen = 9223372036854775807 := rfl
  refine cw_loop (ι := Nat × (Option Addr × Nat) × List Int × Nat) (fun q => [(9, .int .i64 q.1), (8, .slice q.2.1.1 q.2.2.1.length q.2.1.2), (6, .int .i64 (q.2.2.2 : Nat)), (5, .pointer (some ⟨b3, 0, none⟩)), (2, .pointer (some ⟨b1, 0, none⟩)), (1, .slice xa l.length xc)]) (fun q => [row b3 26 [.int .i64 c.prog, .slice (some ⟨b5, 0, none⟩) ops.length oc, .slice ta c.at'.length tc, .slice ea evs.length ec], row b5 36 (ops.flatMap cOP ++ rest), allF ops, ownd q.2.1.1 q.2.1.2 3 1 q.2.2.1.length (q.2.2.1.flatMap cI), ownd ea ec 47 5 evs.length (evs.flatMap cEV), allK evs, row b1 26 (cCD c)]) (fun q => q.1 ≤ ops.length ∧ q.2.2.1 = bgs q.1 ∧ q.2.2.2 = ats q.1) (fun q => ops.length - q.1) (0, (some ⟨b8, 0, none⟩, 1), [c.prog], c.ops.length) ⟨Nat.zero_le _, hb0.symm, ha0.symm⟩ ⟨rfl, rfl, rfl, rfl, rfl, rfl, trivial⟩ (fun w h => h) ?_
  rintro ⟨i, ⟨la, lc⟩, L, d⟩ jk2 ⟨hi, hL, hd⟩
  dsimp only at hi hL hd ⊢
  have hLd := hle i hi
  rw [← hL, ← hd] at hLd
  obtain ⟨hL4, hdl⟩ := hLd
  by_cases h0 : (i : Int) < ops.length
  case neg =>
    have hin : i = ops.length := by omega
    have hdf : d = ops.length := by rw [hd, hin, hfin]
    (repeat (first | ((refine (?_ : MX _ _ _ _ _ _ _ _ _ _ _)); first | refine mx_end ?_ | (refine mx_mv _ rfl rfl (by conv => {lhs; whnf}) ?_) | (refine mx_as _ rfl rfl (by conv => {lhs; whnf}) ?_) | ( refine mx_fa E rfl rfl rfl rfl ?_) | (refine g_load rfl ?_; refine mx_get E rfl rfl rfl rfl rfl (by rfl) rfl ?_ ) | (refine g_bin rfl ?_; (first | (refine mx_cmpl .neq rfl rfl rfl rfl rfl (by first | exact cmp_ne_f (by omega) | rfl) ?_) | (refine mx_cmpl .lss rfl rfl rfl rfl rfl (by first | exact cmp_lt_t (by omega) | exact cmp_lt_f (by omega) ) ?_) | (refine mx_cmpl .gtr rfl rfl rfl rfl rfl (by exact cmp_gt_f (by omega) ) ?_) ) ) | (refine g_bi .len rfl ?_; refine mx_len E rfl rfl rfl rfl ?_) | (refine g_pick rfl ?_; refine mx_or rfl rfl rfl rfl rfl rfl ?_ ) ) | refine cw_seq ?_ | refine cw_line rfl ?_ | refine cw_block ?_ | refine cw_cond_f rfl ?_ | refine cw_skip ?_ | refine cw_exit ?_ | refine pw_then ?_ | refine pw_then_x ?_ | refine pw_block_e ?_ ))
    by_cases hev0 : evs.length = 0
    · refine cw_loop (ι := Nat) (fun i => [(13, .int .i64 i), (5, .pointer (some ⟨b3, 0, none⟩))]) (fun i => [row b3 26 [.int .i64 c.prog, .slice (some ⟨b5, 0, none⟩) ops.length oc, .slice ta c.at'.length tc, .slice ea evs.length ec]]) (fun i => i ≤ 1000) (fun i => 0) 0 (Nat.zero_le _) ⟨rfl, rfl, trivial⟩ (fun w h => h.pick [0] (by simp) rfl) ?_
      intro i jk3 hi3
      have hne : ¬ ((i : Int) < evs.length) := by omega
      ((repeat (first | ((refine (?_ : MX _ _ _ _ _ _ _ _ _ _ _)); first | refine mx_end ?_ | (refine mx_mv _ rfl rfl (by conv => {lhs; whnf}) ?_) | ( refine mx_fa E rfl rfl rfl rfl ?_) | (refine g_load rfl ?_; refine mx_get E rfl rfl rfl rfl rfl (by rfl) rfl ?_ ) | (refine g_bin rfl ?_; ( (refine mx_cmpl .lss rfl rfl rfl rfl rfl (by exact cmp_lt_f (by omega) ) ?_) ) ) | (refine g_bi .len rfl ?_; refine mx_len E rfl rfl rfl rfl ?_) ) | refine cw_seq ?_ | refine cw_line rfl ?_ | refine cw_cond_f rfl ?_ | refine cw_exit ?_ | refine pw_then ?_ | refine pw_then_x ?_ | refine pw_block_e ?_ ))); refine g_cf 9 rfl ?_; refine a_callv rfl rfl rfl rfl Try.func9 rfl rfl rfl (.bool true) (fun w' hw => works9 w') rfl ?_; ((repeat (first | ((refine (?_ : MX _ _ _ _ _ _ _ _ _ _ _)); first | refine mx_end ?_ | (refine mx_as _ rfl rfl (by conv => {lhs; whnf}) ?_) ) | refine cw_ret ?_ | refine pw_then ?_ ))); exact pw_ret rfl rfl rfl rfl fun w hw => ⟨rfl, hw.keep.grow⟩
    refine cw_know (p := ∃ b, ea = some ⟨b, 0, none⟩) (fun w hw => by obtain ⟨b, e, _⟩ := (own_at (hw.holds 4 _ rfl)).2.1 (by omega); exact ⟨b, e⟩) (fun hb6 => ?_)
    obtain ⟨b6, rfl⟩ := hb6
    refine cw_ex (fun reste => [row b3 26 [.int .i64 c.prog, .slice (some ⟨b5, 0, none⟩) ops.length oc, .slice ta c.at'.length tc, .slice (some ⟨b6, 0, none⟩) evs.length ec], row b5 36 (ops.flatMap cOP ++ rest), allF ops, ownd la lc 3 1 L.length (L.flatMap cI), row b6 47 (evs.flatMap cEV ++ reste), allK evs, row b1 26 (cCD c)]) _ (fun w hw => (ok_open 4 rfl hw).imp fun rest h => ⟨h.1, h.2⟩) (fun reste he => ?_)
    refine cw_loop (ι := Nat) (fun i => [(13, .int .i64 i), (5, .pointer (some ⟨b3, 0, none⟩))]) (fun i => [row b3 26 [.int .i64 c.prog, .slice (some ⟨b5, 0, none⟩) ops.length oc, .slice ta c.at'.length tc, .slice (some ⟨b6, 0, none⟩) evs.length ec], row b6 47 (evs.flatMap cEV ++ reste), allK evs]) (fun i => i ≤ evs.length) (fun i => evs.length - i) 0 (Nat.zero_le _) ⟨rfl, rfl, trivial⟩ (fun w h => h.pick [0, 4, 5] (by simp) rfl) ?_
    intro i jk3 hi3
    by_cases h3 : (i : Int) < evs.length
    case neg =>
      ((repeat (first | ((refine (?_ : MX _ _ _ _ _ _ _ _ _ _ _)); first | refine mx_end ?_ | (refine mx_mv _ rfl rfl (by conv => {lhs; whnf}) ?_) | ( refine mx_fa E rfl rfl rfl rfl ?_) | (refine g_load rfl ?_; refine mx_get E rfl rfl rfl rfl rfl (by rfl) rfl ?_ ) | (refine g_bin rfl ?_; ( (refine mx_cmpl .lss rfl rfl rfl rfl rfl (by exact cmp_lt_f (by omega) ) ?_) ) ) | (refine g_bi .len rfl ?_; refine mx_len E rfl rfl rfl rfl ?_) ) | refine cw_seq ?_ | refine cw_line rfl ?_ | refine cw_cond_f rfl ?_ | refine cw_exit ?_ | refine pw_then ?_ | refine pw_then_x ?_ | refine pw_block_e ?_ ))); refine g_cf 9 rfl ?_; refine a_callv rfl rfl rfl rfl Try.func9 rfl rfl rfl (.bool true) (fun w' hw => works9 w') rfl ?_; ((repeat (first | ((refine (?_ : MX _ _ _ _ _ _ _ _ _ _ _)); first | refine mx_end ?_ | (refine mx_as _ rfl rfl (by conv => {lhs; whnf}) ?_) ) | refine cw_ret ?_ | refine pw_then ?_ ))); exact pw_ret rfl rfl rfl rfl fun w hw => ⟨rfl, hw.keep.grow⟩
    (repeat (first | ((refine (?_ : MX _ _ _ _ _ _ _ _ _ _ _)); first | refine mx_end ?_ | (refine mx_mv _ rfl rfl (by conv => {lhs; whnf}) ?_) | (refine mx_as _ rfl rfl (by conv => {lhs; whnf}) ?_) | ( refine mx_fa E rfl rfl rfl rfl ?_) | (refine g_load rfl ?_; refine mx_get E rfl rfl rfl rfl rfl (by rfl) rfl ?_ ) | (refine g_bin rfl ?_; ( (refine mx_cmpl .lss rfl rfl rfl rfl rfl (by exact cmp_lt_t (by omega) ) ?_) ) ) | (refine g_bi .len rfl ?_; refine mx_len E rfl rfl rfl rfl ?_) ) | refine cw_seq ?_ | refine cw_line rfl ?_ | refine cw_block ?_ | refine cw_cond_t rfl ?_ | refine cw_skip ?_ | refine pw_then ?_ ))
    refine cw_loop (ι := Nat) (fun k => [(14, .int .i64 k), (13, .int .i64 i), (5, .pointer (some ⟨b3, 0, none⟩))]) (fun k => [row b3 26 [.int .i64 c.prog, .slice (some ⟨b5, 0, none⟩) ops.length oc, .slice ta c.at'.length tc, .slice (some ⟨b6, 0, none⟩) evs.length ec], row b6 47 (evs.flatMap cEV ++ reste), allK evs]) (fun k => k ≤ i) (fun k => i - k) 0 (Nat.zero_le _) ⟨rfl, rfl, rfl, trivial⟩ (fun w h => h) ?_
    intro k jk4 hk4
    by_cases h4 : (k : Int) < i
    case neg =>
      (repeat (first | ((refine (?_ : MX _ _ _ _ _ _ _ _ _ _ _)); first | refine mx_end ?_ | (refine mx_mv _ rfl rfl (by conv => {lhs; whnf}) ?_) | (refine mx_as _ rfl rfl (by conv => {lhs; whnf}) ?_) | (refine g_bin rfl ?_; first | ( (refine mx_cmpl .lss rfl rfl rfl rfl rfl (by first | exact cmp_lt_t (by omega) | exact cmp_lt_f (by omega) ) ?_) ) | ( refine mx_ar rfl rfl rfl rfl rfl rfl (IntWalk.i64_in _ (by omega)) rfl ?_ ) ) ) | refine cw_seq ?_ | refine cw_line rfl ?_ | refine cw_cond_f rfl ?_ | refine cw_exit ?_ | refine pw_then ?_ | refine pw_then_x ?_ | refine pw_block ?_ | refine pw_block_e ?_ ))
      exact pw_round (i + 1) (by omega) (by omega) ⟨rfl, rfl, trivial⟩ (fun w h => h)
    obtain ⟨x, hx⟩ := getElem_some (xs := evs) (i := i) (by omega)
    obtain ⟨y, hy⟩ := getElem_some (xs := evs) (i := k) (by omega)
    have hvx : Vr (evs.flatMap cEV ++ reste) (0 + i * 5) 5 (cEV x) := vr_all len_EV hx reste (by omega)
    have hvy : Vr (evs.flatMap cEV ++ reste) (0 + k * 5) 5 (cEV y) := vr_all len_EV hy reste (by omega)
    have hkl : (k : Int) < evs.length := by omega
    have hxy : decide (x.v = y.v) = false := decide_eq_false fun e => by
      have g1 : (evs.map (·.v))[i]? = some x.v := by rw [List.getElem?_map, hx]; rfl
      have g2 : (evs.map (·.v))[k]? = some y.v := by rw [List.getElem?_map, hy]; rfl
      obtain ⟨p1, q1⟩ := List.getElem?_eq_some_iff.1 g1
      obtain ⟨p2, q2⟩ := List.getElem?_eq_some_iff.1 g2
      exact List.pairwise_iff_getElem.1 hnd k i p2 p1 (by omega) (by rw [q1, q2, e])
    (repeat (first | ((refine (?_ : MX _ _ _ _ _ _ _ _ _ _ _)); first | refine mx_end ?_ | (refine mx_mv _ rfl rfl (by conv => {lhs; whnf}) ?_) | (refine g_bin rfl ?_; ( (refine mx_cmpl .lss rfl rfl rfl rfl rfl (by exact cmp_lt_t (by omega) ) ?_) ) ) ) | refine cw_seq ?_ | refine cw_line rfl ?_ | refine cw_block ?_ | refine cw_cond_t rfl ?_ | refine cw_skip ?_ | refine pw_then ?_ ))
    refine cw_drawm [0, 1, 2, 3, 4, 5, 6, 7, 8, 9, 10] (fun i => Nat.beq i 10) [row b3 26 [.int .i64 c.prog, .slice (some ⟨b5, 0, none⟩) ops.length oc, .slice ta c.at'.length tc, .slice (some ⟨b6, 0, none⟩) evs.length ec], row b6 47 (evs.flatMap cEV ++ reste)] mixed (by kernel_rfl) (fun w h => h.pick [0, 1] (by simp) rfl) ?_
    (repeat (((refine (?_ : MX _ _ _ _ _ _ _ _ _ _ _)); first | (refine mx_mv _ rfl rfl (by conv => {lhs; whnf}) ?_) | ( refine mx_fa E rfl rfl rfl rfl ?_) | (refine g_load rfl ?_; first | refine mx_get E rfl rfl rfl rfl rfl (by rfl) rfl ?_ | refine mx_getn E rfl rfl rfl rfl rfl (by assumption ) rfl ?_ ) | (refine g_ix rfl ?_; refine mx_ixsn E rfl rfl rfl rfl rfl rfl (by omega) rfl ?_ ) ) ))
    refine g_cf 16 rfl ?_
    refine a_callv rfl rfl rfl rfl Try.func16 rfl rfl rfl (.bool false) (fun w' hw => by
      have h16 := same16 x y (by have := (hks x (List.mem_of_getElem? hx)).2; omega) w' (inK (hw.holds 2 _ rfl) (List.mem_of_getElem? hx)) (inK (hw.holds 2 _ rfl) (List.mem_of_getElem? hy))
      rwa [hxy] at h16) rfl ?_
    (repeat (first | ((refine (?_ : MX _ _ _ _ _ _ _ _ _ _ _)); first | refine mx_end ?_ | (refine mx_mv _ rfl rfl (by conv => {lhs; whnf}) ?_) | (refine mx_as _ rfl rfl (by conv => {lhs; whnf}) ?_) | (refine g_bin rfl ?_; ( refine mx_ar rfl rfl rfl rfl rfl rfl (IntWalk.i64_in _ (by omega)) rfl ?_ ) ) ) | refine cw_line rfl ?_ | refine cw_cond_f rfl ?_ | refine cw_skip ?_ | refine pw_then ?_ | refine pw_block ?_ ))
    exact pw_round (k + 1) (by omega) (by omega) ⟨rfl, rfl, rfl, trivial⟩ (fun w h => h)
  obtain ⟨y, hy⟩ := getElem_some (xs := ops) (i := i) (by omega)
  have hvy : Vr (ops.flatMap cOP ++ rest) (0 + i * 15) 15 (cOP y) := vr_all len_OP hy rest (by omega)
  have skip : ∀ {st : Slots} {Hb : List Res}, (bgs (i + 1) = bgs i ∧ ats (i + 1) = ats i) → i + 1 ≤ ops.length ∧ L = bgs (i + 1) ∧ d = ats (i + 1) := fun h => ⟨by omega, by rw [h.1]; exact hL, by rw [h.2]; exact hd⟩
  rcases hst i y hy with ⟨hA1, hA2⟩ | ⟨hk, ht0, hnl, f, hfm, hff, hbn, han, hsl⟩
  · by_cases hk : y.v.kind = 5
    case neg =>
      (repeat (first | ((refine (?_ : MX _ _ _ _ _ _ _ _ _ _ _)); first | refine mx_end ?_ | (refine mx_mv _ rfl rfl (by conv => {lhs; whnf}) ?_) | (refine mx_as _ rfl rfl (by conv => {lhs; whnf}) ?_) | (first | refine mx_fa0 E rfl rfl rfl rfl ?_ | refine mx_fa E rfl rfl rfl rfl ?_) | (refine g_load rfl ?_; first | refine mx_get E rfl rfl rfl rfl rfl (by rfl) rfl ?_ | refine mx_getn E rfl rfl rfl rfl rfl (by assumption ) rfl ?_ ) | (refine g_bin rfl ?_; first | (first | (refine mx_cmpl .neq rfl rfl rfl rfl rfl (by exact cmp_ne_t (by omega) ) ?_) | (refine mx_cmpl .lss rfl rfl rfl rfl rfl (by first | exact cmp_lt_t (by omega) | exact cmp_lt_f (by omega) ) ?_) ) | ( refine mx_ar rfl rfl rfl rfl rfl rfl (IntWalk.i64_in _ (by omega)) rfl ?_ ) ) | (refine g_ix rfl ?_; refine mx_ixsn E rfl rfl rfl rfl rfl rfl (by omega) rfl ?_ ) | (refine g_bi .len rfl ?_; refine mx_len E rfl rfl rfl rfl ?_) | (refine mx_skip rfl rfl rfl ?_) | (refine g_pick rfl ?_; refine mx_ort rfl rfl rfl rfl rfl ?_ ) | (refine g_store rfl ?_; refine s_l E rfl rfl rfl rfl rfl rfl rfl (by exact Sp.all rfl ) rfl ?_ ) | (refine a_new rfl rfl rfl rfl rfl (fun _ => ?_)) ) | refine cw_seq ?_ | refine cw_line rfl ?_ | refine cw_block ?_ | refine cw_cond_t rfl ?_ | refine cw_skip ?_ | refine cw_exit ?_ | refine pw_then ?_ | refine pw_then_x ?_ | refine pw_block_e ?_ ))
      exact pw_round (i + 1, (la, lc), L, d) (skip (st := []) (Hb := []) hA2) (by show ops.length - (i + 1) < ops.length - i; omega) ⟨rfl, rfl, rfl, rfl, rfl, rfl, trivial⟩ (fun w h => h.pick [1, 2, 3, 4, 5, 6, 7] (by simp) rfl)
    by_cases ht0 : y.v.tgt < 0
    · (repeat (first | ((refine (?_ : MX _ _ _ _ _ _ _ _ _ _ _)); first | refine mx_end ?_ | (refine mx_mv _ rfl rfl (by conv => {lhs; whnf}) ?_) | (refine mx_as _ rfl rfl (by conv => {lhs; whnf}) ?_) | (first | refine mx_fa0 E rfl rfl rfl rfl ?_ | refine mx_fa E rfl rfl rfl rfl ?_) | (refine g_load rfl ?_; first | refine mx_get E rfl rfl rfl rfl rfl (by rfl) rfl ?_ | refine mx_getn E rfl rfl rfl rfl rfl (by assumption ) rfl ?_ ) | (refine g_bin rfl ?_; first | (first | (refine mx_cmpl .neq rfl rfl rfl rfl rfl (by exact cmp_ne_f (by omega) ) ?_) | (refine mx_cmpl .lss rfl rfl rfl rfl rfl (by exact cmp_lt_t (by omega) ) ?_) ) | ( refine mx_ar rfl rfl rfl rfl rfl rfl (IntWalk.i64_in _ (by omega)) rfl ?_ ) ) | (refine g_ix rfl ?_; refine mx_ixsn E rfl rfl rfl rfl rfl rfl (by omega) rfl ?_ ) | (refine g_bi .len rfl ?_; refine mx_len E rfl rfl rfl rfl ?_) | (refine mx_skip rfl rfl rfl ?_) | (refine g_pick rfl ?_; first | refine mx_ort rfl rfl rfl rfl rfl ?_ | refine mx_or rfl rfl rfl rfl rfl rfl ?_ ) | (refine g_store rfl ?_; refine s_l E rfl rfl rfl rfl rfl rfl rfl (by exact Sp.all rfl ) rfl ?_ ) | (refine a_new rfl rfl rfl rfl rfl (fun _ => ?_)) ) | refine cw_seq ?_ | refine cw_line rfl ?_ | refine cw_block ?_ | refine cw_cond_t rfl ?_ | refine cw_skip ?_ | refine cw_exit ?_ | refine pw_then ?_ | refine pw_then_x ?_ | refine pw_block_e ?_ ))
      exact pw_round (i + 1, (la, lc), L, d) (skip (st := []) (Hb := []) hA2) (by show ops.length - (i + 1) < ops.length - i; omega) ⟨rfl, rfl, rfl, rfl, rfl, rfl, trivial⟩ (fun w h => h.pick [1, 2, 3, 4, 5, 6, 7] (by simp) rfl)
    have hin : y.v.next ∈ L := by
      rcases hA1 with h | h | h
      · exact absurd hk h
      · exact absurd h ht0
      · rw [hL]; exact h
    (repeat (first | ((refine (?_ : MX _ _ _ _ _ _ _ _ _ _ _)); first | refine mx_end ?_ | (refine mx_mv _ rfl rfl (by conv => {lhs; whnf}) ?_) | (first | refine mx_fa0 E rfl rfl rfl rfl ?_ | refine mx_fa E rfl rfl rfl rfl ?_) | (refine g_load rfl ?_; first | refine mx_get E rfl rfl rfl rfl rfl (by rfl) rfl ?_ | refine mx_getn E rfl rfl rfl rfl rfl (by assumption ) rfl ?_ ) | (refine g_bin rfl ?_; (first | (refine mx_cmpl .neq rfl rfl rfl rfl rfl (by exact cmp_ne_f (by omega) ) ?_) | (refine mx_cmpl .lss rfl rfl rfl rfl rfl (by first | exact cmp_lt_t (by omega) | exact cmp_lt_f (by omega) ) ?_) ) ) | (refine g_ix rfl ?_; refine mx_ixsn E rfl rfl rfl rfl rfl rfl (by omega) rfl ?_ ) | (refine g_bi .len rfl ?_; refine mx_len E rfl rfl rfl rfl ?_) | (refine g_pick rfl ?_; refine mx_or rfl rfl rfl rfl rfl rfl ?_ ) | (refine g_store rfl ?_; refine s_l E rfl rfl rfl rfl rfl rfl rfl (by exact Sp.all rfl ) rfl ?_ ) | (refine a_new rfl rfl rfl rfl rfl (fun _ => ?_)) ) | refine cw_seq ?_ | refine cw_line rfl ?_ | refine cw_block ?_ | refine cw_cond_t rfl ?_ | refine cw_skip ?_ | refine pw_then ?_ ))
    refine g_cf 14 rfl ?_
    refine a_callv rfl rfl rfl rfl Try.func14 rfl rfl rfl (.bool true) (fun w' hw => by
      have h14 := has14 la lc L y.v.next (by omega) w' (own_in len_I (hw.holds 4 _ rfl) (Nat.le_refl _))
      rwa [decide_eq_true hin] at h14) rfl ?_
    (repeat (first | ((refine (?_ : MX _ _ _ _ _ _ _ _ _ _ _)); first | refine mx_end ?_ | (refine mx_mv _ rfl rfl (by conv => {lhs; whnf}) ?_) | (refine mx_as _ rfl rfl (by conv => {lhs; whnf}) ?_) | (refine g_bin rfl ?_; ( refine mx_ar rfl rfl rfl rfl rfl rfl (IntWalk.i64_in _ (by omega)) rfl ?_ ) ) | (refine g_pick rfl ?_; refine mx_or rfl rfl rfl rfl rfl rfl ?_ ) ) | refine cw_line rfl ?_ | refine cw_cond_t rfl ?_ | refine cw_exit ?_ | refine pw_then ?_ | refine pw_then_x ?_ | refine pw_block_e ?_ ))
    exact pw_round (i + 1, (la, lc), L, d) (skip (st := []) (Hb := []) hA2) (by show ops.length - (i + 1) < ops.length - i; omega) ⟨rfl, rfl, rfl, rfl, rfl, rfl, trivial⟩ (fun w h => h.pick [1, 2, 3, 4, 5, 6, 7] (by simp) rfl)
  have ht1 : ¬ y.v.tgt < 0 := by omega
  have hnin : y.v.next ∉ L := by rw [hL]; exact hnl
  rw [← hd] at hsl han
  have hfP := hp f hfm
  have hfR := hral f hfm
  have hdn : d + f.ops.length ≤ ops.length := by
    have := (hle (i + 1) (by omega)).2
    omega
  have hadd : ((d : Nat) : Int) + (f.ops.length : Int) = ((d + f.ops.length : Nat) : Int) := by omega
  (repeat (first | ((refine (?_ : MX _ _ _ _ _ _ _ _ _ _ _)); first | refine mx_end ?_ | (refine mx_mv _ rfl rfl (by conv => {lhs; whnf}) ?_) | (first | refine mx_fa0 E rfl rfl rfl rfl ?_ | refine mx_fa E rfl rfl rfl rfl ?_) | (refine g_load rfl ?_; first | refine mx_get E rfl rfl rfl rfl rfl (by rfl) rfl ?_ | refine mx_getn E rfl rfl rfl rfl rfl (by assumption ) rfl ?_ ) | (refine g_bin rfl ?_; (first | (refine mx_cmpl .neq rfl rfl rfl rfl rfl (by exact cmp_ne_f (by omega) ) ?_) | (refine mx_cmpl .lss rfl rfl rfl rfl rfl (by first | exact cmp_lt_t (by omega) | exact cmp_lt_f (by omega) ) ?_) ) ) | (refine g_ix rfl ?_; refine mx_ixsn E rfl rfl rfl rfl rfl rfl (by omega) rfl ?_ ) | (refine g_bi .len rfl ?_; refine mx_len E rfl rfl rfl rfl ?_) | (refine g_pick rfl ?_; refine mx_or rfl rfl rfl rfl rfl rfl ?_ ) | (refine g_store rfl ?_; refine s_l E rfl rfl rfl rfl rfl rfl rfl (by exact Sp.all rfl ) rfl ?_ ) | (refine a_new rfl rfl rfl rfl rfl (fun _ => ?_)) ) | refine cw_seq ?_ | refine cw_line rfl ?_ | refine cw_block ?_ | refine cw_cond_t rfl ?_ | refine cw_skip ?_ | refine pw_then ?_ ))
  refine g_cf 14 rfl ?_
  refine a_callv rfl rfl rfl rfl Try.func14 rfl rfl rfl (.bool false) (fun w' hw => by
    have h14 := has14 la lc L y.v.next (by omega) w' (own_in len_I (hw.holds 4 _ rfl) (Nat.le_refl _))
    rwa [decide_eq_false hnin] at h14) rfl ?_
  (repeat (first | ((refine (?_ : MX _ _ _ _ _ _ _ _ _ _ _)); first | refine mx_end ?_ | (refine mx_mv _ rfl rfl (by conv => {lhs; whnf}) ?_) | ( refine mx_fa E rfl rfl rfl rfl ?_) | (refine g_load rfl ?_; first | refine mx_get E rfl rfl rfl rfl rfl (by rfl) rfl ?_ | refine mx_getn E rfl rfl rfl rfl rfl (by exact Vr.all rfl ) rfl ?_ ) | (refine g_pick rfl ?_; refine mx_or rfl rfl rfl rfl rfl rfl ?_ ) ) | refine cw_seq ?_ | refine cw_line rfl ?_ | refine cw_cond_f rfl ?_ | refine cw_skip ?_ | refine pw_then ?_ ))
  refine g_cf 11 rfl ?_
  refine a_callv rfl rfl rfl rfl Try.func11 rfl rfl rfl (.tuple #[.agg (cCD f).toArray, .bool true]) (fun w' hw => of11 c xa l xc y.v.next f hff (by omega) w' (hl.keep hw fun _ _ _ h => h)) rfl ?_
  (repeat (first | ((refine (?_ : MX _ _ _ _ _ _ _ _ _ _ _)); first | refine mx_end ?_ | (refine mx_mv _ rfl rfl (by conv => {lhs; whnf}) ?_) | (refine mx_as _ rfl rfl (by conv => {lhs; whnf}) ?_) | ( refine mx_fa E rfl rfl rfl rfl ?_) | (refine g_load rfl ?_; first | refine mx_get E rfl rfl rfl rfl rfl (by rfl) rfl ?_ | refine mx_getn E rfl rfl rfl rfl rfl (by exact Vr.all rfl ) rfl ?_ ) | (refine mx_ex _ rfl rfl rfl (by conv => {lhs; whnf}) ?_) | (refine g_store rfl ?_; refine s_l E rfl rfl rfl rfl rfl rfl rfl (by exact Sp.all rfl ) rfl ?_ ) | (refine a_new rfl rfl rfl rfl rfl (fun _ => ?_)) ) | refine cw_seq ?_ | refine cw_line rfl ?_ | refine pw_then ?_ ))
  rename_i b7 b9
  refine g_cf 15 rfl ?_
  refine a_callv rfl rfl rfl rfl Try.func15 rfl rfl rfl (.bool true) (fun w' hw => stands15 ⟨c.prog, some ⟨b5, 0, none⟩, oc, ops, ta, tc, c.at', ea, ec, evs⟩ d f.oa f.oc f.ops hdn hl2 hsl (fun z hz => by have := hfR.os z hz; have := hfR.ol; omega) (fun t ht => by have := hhh t ht; show t.v.held.length ≤ 1000 ∧ t.v.need.length ≤ 1000; omega) w' (own_in len_OP (own_close e1 e2 e3 e4 (hw.holds 3 _ rfl)) (Nat.le_refl _)) (fun t ht => in_allF (hw.holds 4 _ rfl) ht) (hfP.o.keep hw fun _ _ _ h => h) (fun z hz => ⟨(hfP.os z hz).1.keep hw fun _ _ _ h => h, (hfP.os z hz).2.2.1.keep hw fun _ _ _ h => h⟩)) rfl ?_
  (repeat (first | ((refine (?_ : MX _ _ _ _ _ _ _ _ _ _ _)); first | refine mx_end ?_ | (refine mx_mv _ rfl rfl (by conv => {lhs; whnf}) ?_) | ( refine mx_fa E rfl rfl rfl rfl ?_) | (refine g_load rfl ?_; refine mx_get E rfl rfl rfl rfl rfl (by rfl) rfl ?_ ) | (refine mx_not rfl rfl rfl ?_) | (refine g_bs rfl ?_; refine a_bsi E rfl rfl rfl rfl rfl (by (repeat (first | exact EvI.nil | (apply EvI.cons; rfl)))) (by rfl) (by rfl) (by rfl) rfl (fun _ => ?_)) ) | refine cw_seq ?_ | refine cw_line rfl ?_ | refine cw_cond_f rfl ?_ | refine cw_skip ?_ | refine pw_then ?_ ))
  rename_i b10
  refine g_bi .append rfl ?_
  refine a_app E rfl rfl rfl rfl rfl rfl rfl rfl [.int .i64 y.v.next] rfl (fun w hw => fun _ => ⟨b10, 0, rfl, fun j u hj => by rw [add_at, Nat.zero_add]; exact row_cell (hw.holds 0 _ rfl) hj⟩) rfl (by omega) rfl (fun _ _ _ _ => trivial) (fun a2 c2 => ?_)
  (repeat (first | ((refine (?_ : MX _ _ _ _ _ _ _ _ _ _ _)); first | refine mx_end ?_ | (refine mx_mv _ rfl rfl (by conv => {lhs; whnf}) ?_) | (refine mx_as _ rfl rfl (by conv => {lhs; whnf}) ?_) | ( refine mx_fa E rfl rfl rfl rfl ?_) | (refine g_load rfl ?_; refine mx_get E rfl rfl rfl rfl rfl (by rfl) rfl ?_ ) | (refine g_bin rfl ?_; (first | refine mx_ar rfl rfl rfl rfl rfl rfl ((IntWalk.i64_in _ (by omega)).trans (by with_reducible assumption)) rfl ?_ | refine mx_ar rfl rfl rfl rfl rfl rfl (IntWalk.i64_in _ (by omega)) rfl ?_ ) ) | (refine g_bi .len rfl ?_; refine mx_len E rfl rfl rfl rfl ?_) ) | refine cw_line rfl ?_ | refine pw_then ?_ | refine pw_block ?_ ))
  have e5 : L.flatMap cI ++ [.int .i64 y.v.next] = (L ++ [y.v.next]).flatMap cI := by rw [List.flatMap_append]; rfl
  have e6 : (L ++ [y.v.next]).length = L.length + 1 := by simp
  have hI : i + 1 ≤ ops.length ∧ L ++ [y.v.next] = bgs (i + 1) ∧ d + f.ops.length = ats (i + 1) := ⟨by omega, by rw [hL, hbn], han.symm⟩
  rw [e5, ← e6]
  exact pw_round (i + 1, (a2, c2), L ++ [y.v.next], d + f.ops.length) hI (by show ops.length - (i + 1) < ops.length - i; omega) ⟨rfl, rfl, rfl, rfl, rfl, rfl, trivial⟩ (fun w h => h.pick [3, 4, 5, 6, 7, 8, 9] (by simp) rfl)
end Go.Proofs.Ytdkolggmabnifaa
