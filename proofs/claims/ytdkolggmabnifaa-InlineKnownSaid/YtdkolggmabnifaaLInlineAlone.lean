/- The walk of the law InlineAlone. -/
import Derived.Test.YtdkolggmabnifaaIn
set_option maxRecDepth 100000
set_option maxHeartbeats 8000000
set_option linter.unusedSimpArgs false
set_option linter.unusedVariables false
namespace Go.Proofs.Ytdkolggmabnifaa
open Go Go.Sx Go.RowKit
theorem lawInlineAlone (c : CD) (w : World) (hc : CdP w c) : Calls Try.prog 5 #[.agg (cCD c).toArray] w fun e w' => e = .returned (.bool true) ∧ Grow w w' := by
  refine enter1 (S := fun _ => False) 60 Try.func5 rfl rfl rfl (Ok.start w) ?_
  have hS0 : ∀ b, (fun _ : Nat => False) b → w.heap.size ≤ b := fun b hb => hb.elim
  (repeat (first | ((refine (?_ : MX _ _ _ _ _ _ _ _ _ _ _)); first | refine mx_end ?_ | (refine mx_as _ rfl rfl (by conv => {lhs; whnf}) ?_) | (refine g_load rfl ?_; refine mx_getn E rfl rfl rfl rfl rfl (by exact Vr.all rfl ) rfl ?_ ) | (refine g_box rfl ?_; refine a_boxl rfl rfl rfl rfl rfl rfl (fun _ => ?_) ) ) | refine cw_seq ?_ | refine cw_line rfl ?_ | refine pw_then ?_ ))
  rename_i b1
  refine g_cf 7 rfl ?_
  refine a_callL rfl rfl rfl rfl Try.func7 rfl rfl rfl [] _ rfl (fun b : {B : Bool // B = true → Rt c} => .bool b.1) (fun _ => []) (fun w' hw _ => (right7 c hc.sz w' (hc.o.keep hw fun _ _ _ h => h) (hc.t.keep hw fun _ _ _ h => h) (hc.e.keep hw fun _ _ _ h => h)).mono fun e w'' ⟨b, h1, h2⟩ => ⟨b, h1, (Ok.start w').grow h2⟩) (fun _ => rfl) (fun _ _ _ => trivial) (fun b => ?_)
  obtain ⟨b, hb⟩ := b
  dsimp only [List.nil_append]
  cases b with
  | false =>
    (repeat (first | ((refine (?_ : MX _ _ _ _ _ _ _ _ _ _ _)); first | refine mx_end ?_ | (refine mx_not rfl rfl rfl ?_) ) | refine cw_seq ?_ | refine cw_line rfl ?_ | refine cw_cond_t rfl ?_ | refine pw_then ?_ ))
    refine g_cf 9 rfl ?_
    refine a_callv rfl rfl rfl rfl Try.func9 rfl rfl rfl (.bool true) (fun w' hw => works9 w') rfl ?_
    (repeat (first | ((refine (?_ : MX _ _ _ _ _ _ _ _ _ _ _)); first | refine mx_end ?_ | (refine mx_as _ rfl rfl (by conv => {lhs; whnf}) ?_) ) | refine cw_ret ?_ | refine pw_then ?_ | refine pw_then_r ?_ ))
    exact pw_ret rfl rfl rfl rfl fun w hw => ⟨rfl, hw.keep.grow⟩
  | true =>
  have hr := hb rfl
  obtain ⟨a0, al, hat, ha0, ha1⟩ := hr.a0
  have hcl := hr.ol
  have htl := hr.tl
  (repeat (first | ((refine (?_ : MX _ _ _ _ _ _ _ _ _ _ _)); first | refine mx_end ?_ | (refine g_load rfl ?_; refine mx_getn E rfl rfl rfl rfl rfl (by exact Vr.all rfl ) rfl ?_ ) | (refine mx_not rfl rfl rfl ?_) ) | refine cw_seq ?_ | refine cw_line rfl ?_ | refine cw_cond_f rfl ?_ | refine cw_skip ?_ | refine pw_then ?_ ))
  refine g_cf 10 rfl ?_
  refine a_callL rfl rfl rfl rfl Try.func10 rfl rfl rfl [] _ rfl (fun a : {a : CD // IsJ [] c.vc a.vc} => .agg (cCD a.1).toArray) (fun a => OCd a.1) (fun w' hw _ => join10 none 0 [] c (by simp) (by omega) w' (by
    have h1 := (hc.rd hr).keep hw hS0
    have h2 := hw.keep.size
    exact ⟨inN_le h1.o h2, fun x hx => ⟨inN_le (h1.os x hx).1 h2, inN_le (h1.os x hx).2.1 h2, (h1.os x hx).2.2⟩, inN_le h1.t h2, inN_le h1.e h2, fun x hx => ⟨inN_le (h1.es x hx).1 h2, (h1.es x hx).2⟩⟩) hr.ok (hr.okv hc) inN_nil (fun o ho => by cases ho) (fun o ho => by cases ho)) (fun _ => rfl) (fun _ _ _ => trivial) (fun q => ?_)
  obtain ⟨a, haJ⟩ := q
  have hav := isJ_alone haJ
  have hvo : a.ops.map (·.v) = c.ops.map fun o => entV c.prog a0 o.v := by
    have h1 := congrArg VC.ops hav
    have h2 : a.ops.map (·.v) = (c.ops.map (·.v)).map (entV c.prog (c.at'.headD 0)) := h1
    rw [h2, hat, List.map_map]
    rfl
  have hve : a.evs.map (·.v) = (c.evs.map (·.v)).foldl addE [] := congrArg VC.evs hav
  have hvt : a.at' = c.at' := congrArg VC.at' hav
  have hlen : a.ops.length = c.ops.length := by have := congrArg List.length hvo; simpa using this
  have hao : ∀ o ∈ a.ops, (o.v.tgt ≤ 100000 ∧ -100000 ≤ o.v.tgt) ∧ o.v.held.length ≤ 20 ∧ o.v.need.length ≤ 20 := fun o ho => by
    have h1 : o.v ∈ a.ops.map (·.v) := List.mem_map.2 ⟨o, ho, rfl⟩
    rw [hvo] at h1
    obtain ⟨x, hx, e⟩ := List.mem_map.1 h1
    have h2 := hr.os x hx
    rw [← e]
    unfold entV
    split
    · refine ⟨?_, h2.2.2⟩
      show ((if c.prog = x.v.next then a0 else -1) ≤ 100000 ∧ -100000 ≤ (if c.prog = x.v.next then a0 else -1))
      split <;> omega
    · exact ⟨by omega, h2.2.2⟩
  have hake : ∀ e ∈ a.evs, BytK e.v.key ∧ e.v.key.length ≤ 1000 := fun e he => by
    have h1 : e.v ∈ a.evs.map (·.v) := List.mem_map.2 ⟨e, he, rfl⟩
    rw [hve] at h1
    have h2 := keys_fold (l := c.evs.map (·.v)) (fun v hv => by
      obtain ⟨x, hx, rfl⟩ := List.mem_map.1 hv
      exact ⟨(hc.es x hx).2.2, hr.ks x hx⟩) e.v h1
    exact ⟨h2.1, by omega⟩
  have hael : a.evs.length ≤ 50 := by
    have h1 := congrArg List.length hve
    have h2 := fold_len (c.evs.map (·.v)) []
    have h3 := hr.el
    simp only [List.length_map, List.length_nil] at h1 h2
    omega
  have haok : OkC a := ⟨by omega, by omega, fun o ho => (hao o ho).1, a0, al, by rw [hvt]; exact hat, ha0, by omega⟩
  have haov : OkV a.vc := ⟨by show (a.ops.map _).length ≤ 400; rw [List.length_map]; omega, by show (a.evs.map _).length ≤ 100; rw [List.length_map]; omega, fun v hv => by
    obtain ⟨e, he, rfl⟩ := List.mem_map.1 hv
    exact (hake e he).1⟩
  have hatl : a.at'.length ≤ 400 := by rw [hvt]; exact htl
  refine mx_weak (H' := [ownd a.oa a.oc 36 15 a.ops.length (a.ops.flatMap cOP), allF a.ops, ownd a.ta a.tc 3 1 a.at'.length (a.at'.flatMap cI), ownd a.ea a.ec 47 5 a.evs.length (a.evs.flatMap cEV), allK a.evs, row b1 26 (cCD c)]) (fun w1 h => h) (fun _ _ => trivial) ?_
  (repeat (first | ((refine (?_ : MX _ _ _ _ _ _ _ _ _ _ _)); first | refine mx_end ?_ | (refine g_store rfl ?_; refine s_l E rfl rfl rfl rfl rfl rfl rfl (by exact Sp.all rfl ) rfl ?_ ) | (refine a_new rfl rfl rfl rfl rfl (fun _ => ?_)) ) | refine pw_then ?_))
  rename_i b3
  refine cw_know (p := ∃ b, a.oa = some ⟨b, 0, none⟩) (fun w hw => by obtain ⟨b, e, _⟩ := (own_at (hw.holds 1 _ rfl)).2.1 (by omega); exact ⟨b, e⟩) (fun hb5 => ?_)
  obtain ⟨b5, hb5⟩ := hb5
  have hJ2 := fun b (h : IsJ [] a.vc b) => alone_twice haJ h
  obtain ⟨prog, oa, oc, ops, ta, tc, at', ea, ec, evs⟩ := a
  dsimp only at hb5 hvo hve hvt hlen hao hake hael hatl
  subst hb5
  refine cw_ex (fun rest => [row b3 26 [.int .i64 prog, .slice (some ⟨b5, 0, none⟩) ops.length oc, .slice ta at'.length tc, .slice ea evs.length ec], row b5 36 (ops.flatMap cOP ++ rest), allF ops, ownd ta tc 3 1 at'.length (at'.flatMap cI), ownd ea ec 47 5 evs.length (evs.flatMap cEV), allK evs, row b1 26 (cCD c)]) _ (fun w hw => (ok_open 1 rfl hw).imp fun rest h => ⟨h.1, h.2⟩) (fun rest he => ?_)
  obtain ⟨e1, e2, e3, e4⟩ := he
  (repeat (first | ((refine (?_ : MX _ _ _ _ _ _ _ _ _ _ _)); first | refine mx_end ?_ | (refine mx_as _ rfl rfl (by conv => {lhs; whnf}) ?_) | ( refine mx_fa E rfl rfl rfl rfl ?_) | (refine g_load rfl ?_; refine mx_get E rfl rfl rfl rfl rfl (by rfl) rfl ?_ ) | (refine g_bin rfl ?_; ( (refine mx_cmpl .neq rfl rfl rfl rfl rfl (by exact cmp_ne_f (by omega) ) ?_) ) ) | (refine g_bi .len rfl ?_; refine mx_len E rfl rfl rfl rfl ?_) ) | refine cw_seq ?_ | refine cw_line rfl ?_ | refine cw_block ?_ | refine cw_cond_f rfl ?_ | refine cw_skip ?_ | refine pw_then ?_ ))
  refine cw_loop (ι := Nat) (fun i => [(4, .int .i64 i), (3, .pointer (some ⟨b3, 0, none⟩)), (1, .pointer (some ⟨b1, 0, none⟩))]) (fun i => [row b3 26 [.int .i64 prog, .slice (some ⟨b5, 0, none⟩) ops.length oc, .slice ta at'.length tc, .slice ea evs.length ec], row b5 36 (ops.flatMap cOP ++ rest), allF ops, ownd ta tc 3 1 at'.length (at'.flatMap cI), ownd ea ec 47 5 evs.length (evs.flatMap cEV), allK evs, row b1 26 (cCD c)]) (fun i => i ≤ ops.length) (fun i => ops.length - i) 0 (Nat.zero_le _) ⟨rfl, rfl, rfl, trivial⟩ (fun w h => h) ?_
  intro i jk hi
  by_cases h0 : (i : Int) < ops.length
  case neg =>
    (repeat (first | ((refine (?_ : MX _ _ _ _ _ _ _ _ _ _ _)); first | refine mx_end ?_ | (refine mx_mv _ rfl rfl (by conv => {lhs; whnf}) ?_) | ( refine mx_fa E rfl rfl rfl rfl ?_) | (refine g_load rfl ?_; refine mx_get E rfl rfl rfl rfl rfl (by rfl) rfl ?_ ) | (refine g_bin rfl ?_; ( (refine mx_cmpl .lss rfl rfl rfl rfl rfl (by exact cmp_lt_f (by omega) ) ?_) ) ) | (refine g_bi .len rfl ?_; refine mx_len E rfl rfl rfl rfl ?_) ) | refine cw_seq ?_ | refine cw_line rfl ?_ | refine cw_cond_f rfl ?_ | refine cw_exit ?_ | refine pw_then ?_ | refine pw_then_x ?_ | refine pw_block_e ?_ ))
    refine cw_drawm [0, 2, 1, 3, 4, 5, 6, 7] (fun i => or (Nat.beq i 1) (or (Nat.beq i 3) (Nat.beq i 5))) [row b3 26 [.int .i64 prog, .slice (some ⟨b5, 0, none⟩) ops.length oc, .slice ta at'.length tc, .slice ea evs.length ec]] mixed (by kernel_rfl) (fun w h => h.only 0 rfl) ?_
    (repeat (((refine (?_ : MX _ _ _ _ _ _ _ _ _ _ _)); (refine g_load rfl ?_; refine mx_getn E rfl rfl rfl rfl rfl (by exact Vr.all rfl ) rfl ?_ ) ) ))
    refine g_cf 10 rfl ?_
    refine a_callL rfl rfl rfl rfl Try.func10 rfl rfl rfl [] _ rfl (fun b : {b : CD // IsJ [] (CD.vc ⟨prog, some ⟨b5, 0, none⟩, oc, ops, ta, tc, at', ea, ec, evs⟩) b.vc} => .agg (cCD b.1).toArray) (fun b => OCd b.1) (fun w' hw _ => join10 none 0 [] ⟨prog, some ⟨b5, 0, none⟩, oc, ops, ta, tc, at', ea, ec, evs⟩ (by simp) (by show at'.length ≤ 1000; omega) w' (rdC_own (a := ⟨prog, some ⟨b5, 0, none⟩, oc, ops, ta, tc, at', ea, ec, evs⟩) (own_close e1 e2 e3 e4 (hw.holds 1 _ rfl)) (hw.holds 2 _ rfl) (hw.holds 3 _ rfl) (hw.holds 4 _ rfl) (hw.holds 5 _ rfl) (fun o ho => (hao o ho).2) hake) haok haov inN_nil (fun o ho => by cases ho) (fun o ho => by cases ho)) (fun _ => rfl) (fun b w h => h.only 5 rfl) (fun q => ?_)
    obtain ⟨b, hbJ⟩ := q
    have hbv : b.vc = CD.vc ⟨prog, some ⟨b5, 0, none⟩, oc, ops, ta, tc, at', ea, ec, evs⟩ := hJ2 b.vc hbJ
    have hbo : b.ops.map (·.v) = ops.map (·.v) := congrArg VC.ops hbv
    have hbe : b.evs.map (·.v) = evs.map (·.v) := congrArg VC.evs hbv
    have hbt : b.at' = at' := congrArg VC.at' hbv
    have hbl : b.ops.length = ops.length := by have := congrArg List.length hbo; simpa using this
    have hbel : b.evs.length = evs.length := by have := congrArg List.length hbe; simpa using this
    refine mx_weak (H' := [ownd b.oa b.oc 36 15 b.ops.length (b.ops.flatMap cOP), allF b.ops, ownd b.ta b.tc 3 1 b.at'.length (b.at'.flatMap cI), ownd b.ea b.ec 47 5 b.evs.length (b.evs.flatMap cEV), allK b.evs, row b3 26 [.int .i64 prog, .slice (some ⟨b5, 0, none⟩) ops.length oc, .slice ta at'.length tc, .slice ea evs.length ec], row b5 36 (ops.flatMap cOP ++ rest), allF ops, ownd ta tc 3 1 at'.length (at'.flatMap cI), ownd ea ec 47 5 evs.length (evs.flatMap cEV), allK evs, row b1 26 (cCD c)]) (fun w1 h => h) (fun w1 h => h.only 5 rfl) ?_
    (repeat (first | ((refine (?_ : MX _ _ _ _ _ _ _ _ _ _ _)); first | refine mx_end ?_ | (refine mx_mv _ rfl rfl (by conv => {lhs; whnf}) ?_) | (refine mx_as _ rfl rfl (by conv => {lhs; whnf}) ?_) | (first | refine mx_fa0 E rfl rfl rfl rfl ?_ | refine mx_fa E rfl rfl rfl rfl ?_) | (refine g_load rfl ?_; first | refine mx_get E rfl rfl rfl rfl rfl (by first | assumption | rfl) rfl ?_ | refine mx_getn E rfl rfl rfl rfl rfl (by first | assumption | exact vr_I _ _ _ _ _ _ _ _ _ _ _ _ _ _ _ | exact Vr.all rfl | exact ⟨⟨rfl⟩, rfl⟩) rfl ?_ | refine mx_oldn E rfl rfl rfl rfl rfl (by assumption) (by assumption) (rfl) rfl ?_ | refine mx_old1 E rfl rfl rfl rfl rfl (by assumption) (by assumption) rfl ?_ | refine mx_orow E rfl rfl rfl rfl rfl (by assumption) (by assumption) (by first | assumption | rfl) rfl ?_ | refine mx_orown E rfl rfl rfl rfl rfl (by assumption) (by assumption) (by first | assumption | exact vr_I _ _ _ _ _ _ _ _ _ _ _ _ _ _ _ | exact Vr.all rfl | exact ⟨⟨rfl⟩, rfl⟩) rfl ?_ | refine mx_geta E rfl rfl rfl rfl rfl rfl (by first | assumption | rfl) rfl ?_ | refine mx_getna E rfl rfl rfl rfl rfl rfl (by first | assumption | exact vr_I _ _ _ _ _ _ _ _ _ _ _ _ _ _ _ | exact Vr.all rfl | exact ⟨⟨rfl⟩, rfl⟩) rfl ?_) | (refine g_bin rfl ?_; first | (first | (refine mx_cmpl .eql rfl rfl rfl rfl rfl (by first | exact cmp_eq_t (by omega) | exact cmp_eq_f (by omega) | rfl) ?_) | (refine mx_cmpl .neq rfl rfl rfl rfl rfl (by first | exact cmp_ne_t (by omega) | exact cmp_ne_f (by omega) | rfl) ?_) | (refine mx_cmpl .lss rfl rfl rfl rfl rfl (by first | exact cmp_lt_t (by omega) | exact cmp_lt_f (by omega) | rfl) ?_) | (refine mx_cmpl .leq rfl rfl rfl rfl rfl (by first | exact cmp_le_t (by omega) | exact cmp_le_f (by omega) | rfl) ?_) | (refine mx_cmpl .gtr rfl rfl rfl rfl rfl (by first | exact cmp_gt_t (by omega) | exact cmp_gt_f (by omega) | rfl) ?_) | (refine mx_cmpl .geq rfl rfl rfl rfl rfl (by first | exact cmp_ge_t (by omega) | exact cmp_ge_f (by omega) | rfl) ?_)) | (first | refine mx_ar rfl rfl rfl rfl rfl rfl ((IntWalk.i64_in _ (by omega)).trans (by with_reducible assumption)) rfl ?_ | refine mx_ar rfl rfl rfl rfl rfl rfl (IntWalk.i64_in _ (by omega)) rfl ?_ | refine mx_ar rfl rfl rfl rfl rfl rfl (by with_reducible assumption) rfl ?_) | (first | refine mx_eqs rfl rfl rfl rfl rfl rfl ?_ | refine mx_nes rfl rfl rfl rfl rfl rfl ?_ | refine mx_eq rfl rfl rfl rfl rfl rfl ?_ | refine mx_ne rfl rfl rfl rfl rfl rfl ?_) | refine mx_bsame E rfl rfl rfl rfl rfl rfl rfl ?_ | refine mx_bnsame E rfl rfl rfl rfl rfl rfl rfl ?_ | refine mx_beq E rfl rfl rfl rfl rfl rfl rfl ?_ | refine mx_bne E rfl rfl rfl rfl rfl rfl rfl ?_ | refine mx_dv rfl rfl rfl rfl rfl (by decide) (congrArg some (by assumption)) rfl rfl ?_ | refine mx_dv rfl rfl rfl rfl rfl (by decide) rfl rfl rfl ?_ | refine mx_bit rfl rfl rfl rfl rfl (congrArg some (by assumption)) rfl rfl ?_ | refine mx_bit rfl rfl rfl rfl rfl rfl rfl rfl ?_ | refine mx_sh rfl rfl rfl rfl rfl (by omega) (congrArg some (by assumption)) rfl rfl ?_ | refine mx_sh rfl rfl rfl rfl rfl (by omega) rfl rfl rfl ?_) | (refine g_ix rfl ?_; first | refine mx_ixan E rfl rfl rfl rfl rfl rfl (by omega) rfl ?_ | refine mx_ixsn E rfl rfl rfl rfl rfl rfl (by omega) rfl ?_ | refine mx_ixsi E rfl rfl rfl rfl rfl rfl (by omega) (by omega) rfl ?_ | refine mx_ixa E rfl rfl rfl rfl rfl rfl (by omega) (by omega) rfl rfl ?_) | (refine mx_nc rfl rfl rfl ?_) | (refine g_bi .len rfl ?_; refine mx_len E rfl rfl rfl rfl ?_) | (refine mx_not rfl rfl rfl ?_) | (refine mx_ex _ rfl rfl rfl (by conv => {lhs; whnf}) ?_) | (refine mx_skip rfl rfl rfl ?_) | (refine g_pick rfl ?_; first | refine mx_andf rfl rfl rfl rfl rfl ?_ | refine mx_ort rfl rfl rfl rfl rfl ?_ | refine mx_and rfl rfl rfl rfl rfl rfl ?_ | refine mx_or rfl rfl rfl rfl rfl rfl ?_ | refine mx_pickt _ rfl rfl rfl rfl (by conv => {lhs; whnf}) rfl ?_ | refine mx_pickf _ rfl rfl rfl rfl (by conv => {lhs; whnf}) rfl ?_) | (refine g_store rfl ?_; first | refine s_l E rfl rfl rfl rfl rfl rfl rfl (by first | assumption | exact Sp.all rfl | exact Sp.lit rfl rfl) rfl ?_ | refine s_1 E rfl rfl rfl rfl rfl rfl rfl rfl (by first | assumption | exact sp0 | exact spS sp0 | exact spS (spS sp0) | exact Sp.lit rfl rfl) rfl ?_) | (refine g_build rfl ?_; first | refine mx_build rfl rfl rfl rfl b24_0 rfl ?_ | refine mx_build rfl rfl rfl rfl (b28_1 _) rfl ?_ | refine mx_build rfl rfl rfl rfl (b39_2 _ _) rfl ?_ | refine mx_build rfl rfl rfl rfl (b24_1 _) rfl ?_ | refine mx_build rfl rfl rfl rfl (b24_2 _ _) rfl ?_ | refine mx_build rfl rfl rfl rfl b28_0 rfl ?_ | refine mx_build rfl rfl rfl rfl b29_0 rfl ?_ | refine mx_build rfl rfl rfl rfl (b25_1 _ _) rfl ?_ | refine mx_build rfl rfl rfl rfl (b31_1 _ _) rfl ?_ | refine mx_build rfl rfl rfl rfl (b31_2 _ _ _) rfl ?_) | (refine a_new rfl rfl rfl rfl rfl (fun _ => ?_)) | (refine g_box rfl ?_; first | refine a_boxl rfl rfl rfl rfl rfl rfl (fun _ => ?_) | refine a_box1 rfl rfl rfl rfl rfl rfl rfl (fun _ => ?_)) | (first | refine mx_indexn E rfl rfl rfl rfl rfl rfl rfl rfl (by omega) (by first | exact vr_RR _ (by omega)) rfl ?_ | refine mx_index E rfl rfl rfl rfl rfl rfl rfl rfl (by omega) (by omega) (by first | exact vr_RR _ (by omega)) rfl ?_) | (refine g_bs rfl ?_; first | refine a_bs0 E rfl rfl rfl rfl rfl rfl (fun _ => ?_) | refine a_bsi E rfl rfl rfl rfl rfl (by (repeat (first | exact EvI.nil | (apply EvI.cons; rfl)))) (by rfl) (by rfl) (by rfl) rfl (fun _ => ?_)) | (refine g_conv rfl ?_; first | refine mx_cv E rfl rfl rfl rfl rfl rfl (by assumption) rfl ?_ | refine mx_cv E rfl rfl rfl rfl rfl rfl (IntWalk.i64_in _ (by omega)) rfl ?_ | refine mx_cv E rfl rfl rfl rfl rfl rfl (IntWalk.u64_in _ (by omega)) rfl ?_ | refine mx_cv E rfl rfl rfl rfl rfl rfl (IntWalk.u8_in _ (by omega)) rfl ?_ | refine mx_cv E rfl rfl rfl rfl rfl rfl rfl rfl ?_) | (first | (refine g_bi .max rfl ?_; refine mx_maxi rfl rfl rfl rfl rfl rfl rfl ?_) | (refine g_bi .min rfl ?_; refine mx_mini rfl rfl rfl rfl rfl rfl rfl ?_)) | (first | refine mx_streq rfl rfl rfl rfl rfl rfl ?_ | refine mx_fn rfl rfl rfl rfl rfl rfl ?_) | (fail)) | refine cw_seq ?_ | refine cw_line rfl ?_ | (fail) | refine cw_block ?_ | refine cw_cond_f rfl ?_ | refine cw_cond_t rfl ?_ | refine cw_skip ?_ | refine cw_exit ?_ | refine cw_ret ?_ | refine pw_then ?_ | refine pw_then_x ?_ | refine pw_then_r ?_ | refine pw_block ?_ | refine pw_block_e ?_ | refine pw_block_n rfl ?_ | refine pw_block_r ?_))
    refine g_cf 18 rfl ?_
    refine a_callv rfl rfl rfl rfl Try.func18 rfl rfl rfl (.bool true) (fun w' hw => same18 b ⟨prog, some ⟨b5, 0, none⟩, oc, ops, ta, tc, at', ea, ec, evs⟩ hbv ⟨by omega, by rw [hbt]; omega, by omega⟩ w' (rdC_own (a := b) (hw.holds 0 _ rfl) (hw.holds 1 _ rfl) (hw.holds 2 _ rfl) (hw.holds 3 _ rfl) (hw.holds 4 _ rfl) (fun o ho => by
      have h1 : o.v ∈ b.ops.map (·.v) := List.mem_map.2 ⟨o, ho, rfl⟩
      rw [hbo] at h1
      obtain ⟨x, hx, e⟩ := List.mem_map.1 h1
      rw [← e]
      exact (hao x hx).2) (fun e he => by
      have h1 : e.v ∈ b.evs.map (·.v) := List.mem_map.2 ⟨e, he, rfl⟩
      rw [hbe] at h1
      obtain ⟨x, hx, e⟩ := List.mem_map.1 h1
      rw [← e]
      exact hake x hx)).d (rdC_own (a := ⟨prog, some ⟨b5, 0, none⟩, oc, ops, ta, tc, at', ea, ec, evs⟩) (own_close e1 e2 e3 e4 (hw.holds 6 _ rfl)) (hw.holds 7 _ rfl) (hw.holds 8 _ rfl) (hw.holds 9 _ rfl) (hw.holds 10 _ rfl) (fun o ho => (hao o ho).2) hake).d) rfl ?_
    (repeat (((refine (?_ : MX _ _ _ _ _ _ _ _ _ _ _)); (refine mx_mv _ rfl rfl (by conv => {lhs; whnf}) ?_) ) ))
    refine g_cf 9 rfl ?_
    refine a_callv rfl rfl rfl rfl Try.func9 rfl rfl rfl (.bool true) (fun w' hw => works9 w') rfl ?_
    (repeat (first | ((refine (?_ : MX _ _ _ _ _ _ _ _ _ _ _)); first | refine mx_end ?_ | (refine mx_as _ rfl rfl (by conv => {lhs; whnf}) ?_) | (refine g_pick rfl ?_; refine mx_and rfl rfl rfl rfl rfl rfl ?_ ) ) | refine cw_ret ?_ | refine pw_then ?_ ))
    exact pw_ret rfl rfl rfl rfl fun w hw => ⟨rfl, hw.keep.grow⟩
  obtain ⟨x, hx⟩ := getElem_some (xs := c.ops) (i := i) (by omega)
  obtain ⟨y, hy⟩ := getElem_some (xs := ops) (i := i) (by omega)
  have hyx : y.v = entV c.prog a0 x.v := by
    have := congrArg (fun l : List VO => l[i]?) hvo
    simpa [hx, hy] using this
  obtain ⟨b4, off, hoa, hcc⟩ := inl_at hc.o hx
  have hS : ¬ (fun _ : Nat => False) b4 := id
  have hc0 : ∀ (k : Nat) (v : Value), (cOP x)[k]? = some v → w.cell? ⟨b4, off + i * 15 + k, none⟩ = some v := hcc
  have hxo := hc.os x (List.mem_of_getElem? hx)
  have hxl := hr.os x (List.mem_of_getElem? hx)
  have hvy : Vr (ops.flatMap cOP ++ rest) (0 + i * 15) 15 (cOP y) := vr_all len_OP hy rest (by omega)
  obtain ⟨bt, offt, hta, htc⟩ := inl_at hc.t (i := 0) (x := a0) (by rw [hat]; rfl)
  have hSt : ¬ (fun _ : Nat => False) bt := id
  have hct : w.cell? ⟨bt, offt + 0 * 1, none⟩ = some (.int .i64 a0) := htc 0 _ rfl
  have hatl2 : (0 : Int) < (c.at'.length : Int) := by rw [hat]; simp
  refine cw_weak (H' := [row b3 26 [.int .i64 prog, .slice (some ⟨b5, 0, none⟩) ops.length oc, .slice ta at'.length tc, .slice ea evs.length ec], row b5 36 (ops.flatMap cOP ++ rest), allF ops, ownd ta tc 3 1 at'.length (at'.flatMap cI), ownd ea ec 47 5 evs.length (evs.flatMap cEV), allK evs, row b1 26 [.int .i64 c.prog, .slice (some ⟨b4, off, none⟩) c.ops.length c.oc, .slice (some ⟨bt, offt, none⟩) c.at'.length c.tc, .slice c.ea c.evs.length c.ec]]) (fun w1 h => by rw [← hoa, ← hta]; exact h) ?_
  have back : ∀ {w1 : World}, Ok (fun _ => False) w (row b3 26 [.int .i64 prog, .slice (some ⟨b5, 0, none⟩) ops.length oc, .slice ta at'.length tc, .slice ea evs.length ec] :: row b5 36 (ops.flatMap cOP ++ rest) :: allF ops :: ownd ta tc 3 1 at'.length (at'.flatMap cI) :: ownd ea ec 47 5 evs.length (evs.flatMap cEV) :: allK evs :: row b1 26 [.int .i64 c.prog, .slice (some ⟨b4, off, none⟩) c.ops.length c.oc, .slice (some ⟨bt, offt, none⟩) c.at'.length c.tc, .slice c.ea c.evs.length c.ec] :: []) w1 → Ok (fun _ => False) w [row b3 26 [.int .i64 prog, .slice (some ⟨b5, 0, none⟩) ops.length oc, .slice ta at'.length tc, .slice ea evs.length ec], row b5 36 (ops.flatMap cOP ++ rest), allF ops, ownd ta tc 3 1 at'.length (at'.flatMap cI), ownd ea ec 47 5 evs.length (evs.flatMap cEV), allK evs, row b1 26 (cCD c)] w1 := fun h => by rw [← hoa, ← hta] at h; exact h
  by_cases hk : x.v.kind = 5
  case neg =>
    have hyv : y.v = x.v := by rw [hyx]; unfold entV; rw [if_neg hk]
    (repeat (first | ((refine (?_ : MX _ _ _ _ _ _ _ _ _ _ _)); first | refine mx_end ?_ | (refine mx_mv _ rfl rfl (by conv => {lhs; whnf}) ?_) | (first | refine mx_fa0 E rfl rfl rfl rfl ?_ | refine mx_fa E rfl rfl rfl rfl ?_) | (refine g_load rfl ?_; first | refine mx_get E rfl rfl rfl rfl rfl (by rfl) rfl ?_ | refine mx_oldn E rfl rfl rfl rfl rfl (by assumption) (by assumption) (rfl) rfl ?_ ) | (refine g_bin rfl ?_; (first | (refine mx_cmpl .eql rfl rfl rfl rfl rfl (by exact cmp_eq_f (by omega) ) ?_) | (refine mx_cmpl .lss rfl rfl rfl rfl rfl (by exact cmp_lt_t (by omega) ) ?_) ) ) | (refine g_ix rfl ?_; refine mx_ixsn E rfl rfl rfl rfl rfl rfl (by omega) rfl ?_ ) | (refine g_bi .len rfl ?_; refine mx_len E rfl rfl rfl rfl ?_) | (refine g_store rfl ?_; refine s_l E rfl rfl rfl rfl rfl rfl rfl (by exact Sp.all rfl ) rfl ?_ ) | (refine a_new rfl rfl rfl rfl rfl (fun _ => ?_)) ) | refine cw_seq ?_ | refine cw_line rfl ?_ | refine cw_block ?_ | refine cw_cond_f rfl ?_ | refine cw_cond_t rfl ?_ | refine cw_skip ?_ | refine pw_then ?_ ))
    rename_i bx; refine cw_drawm [0, 1, 2, 3, 4, 5, 6, 7] (fun i => Nat.beq i 6) [row bx 36 (cOP x), row b3 26 [.int .i64 prog, .slice (some ⟨b5, 0, none⟩) ops.length oc, .slice ta at'.length tc, .slice ea evs.length ec], row b5 36 (ops.flatMap cOP ++ rest)] mixed (by kernel_rfl) (fun w h => h.pick [0, 1, 2] (by simp) rfl) ?_; ((repeat (((refine (?_ : MX _ _ _ _ _ _ _ _ _ _ _)); first | (refine mx_mv _ rfl rfl (by conv => {lhs; whnf}) ?_) | ( refine mx_fa E rfl rfl rfl rfl ?_) | (refine g_load rfl ?_; first | refine mx_get E rfl rfl rfl rfl rfl (by rfl) rfl ?_ | refine mx_getn E rfl rfl rfl rfl rfl (by first | assumption | exact Vr.all rfl ) rfl ?_ ) | (refine g_ix rfl ?_; refine mx_ixsn E rfl rfl rfl rfl rfl rfl (by omega) rfl ?_ ) ) ))); refine g_cf 17 rfl ?_; refine a_callv rfl rfl rfl rfl Try.func17 rfl rfl rfl (.bool true) (fun w' hw => same17e y (x) hyv (by have := (hao y (List.mem_of_getElem? hy)).2; omega) (by have := (hao y (List.mem_of_getElem? hy)).2; omega) w' (in_allF (hw.holds 3 _ rfl) (List.mem_of_getElem? hy)).1 (in_allF (hw.holds 3 _ rfl) (List.mem_of_getElem? hy)).2 (hxo.1.keep hw fun _ _ _ h => h) (hxo.2.2.1.keep hw fun _ _ _ h => h)) rfl ?_; ((repeat (first | ((refine (?_ : MX _ _ _ _ _ _ _ _ _ _ _)); first | refine mx_end ?_ | (refine mx_mv _ rfl rfl (by conv => {lhs; whnf}) ?_) | (refine mx_as _ rfl rfl (by conv => {lhs; whnf}) ?_) | (refine g_bin rfl ?_; ( refine mx_ar rfl rfl rfl rfl rfl rfl (IntWalk.i64_in _ (by omega)) rfl ?_ ) ) | (refine mx_not rfl rfl rfl ?_) ) | refine cw_line rfl ?_ | refine cw_cond_f rfl ?_ | refine cw_skip ?_ | refine pw_then ?_ | refine pw_block ?_ ))); exact pw_round (i + 1) (by omega) (by omega) ⟨rfl, rfl, rfl, trivial⟩ (fun w1 h => back (h.pick [1, 2, 3, 4, 5, 6, 7] (by simp) rfl))
  by_cases hn : x.v.next = c.prog
  · have hyv : y.v = { x.v with tgt := a0 } := by rw [hyx]; unfold entV; rw [if_pos hk, if_pos hn.symm]
    (repeat (first | ((refine (?_ : MX _ _ _ _ _ _ _ _ _ _ _)); first | refine mx_end ?_ | (refine mx_mv _ rfl rfl (by conv => {lhs; whnf}) ?_) | (first | refine mx_fa0 E rfl rfl rfl rfl ?_ | refine mx_fa E rfl rfl rfl rfl ?_) | (refine g_load rfl ?_; first | refine mx_get E rfl rfl rfl rfl rfl (by rfl) rfl ?_ | refine mx_oldn E rfl rfl rfl rfl rfl (by assumption) (by assumption) (rfl) rfl ?_ | refine mx_old1 E rfl rfl rfl rfl rfl (by assumption) (by assumption) rfl ?_ ) | (refine g_bin rfl ?_; (first | (refine mx_cmpl .eql rfl rfl rfl rfl rfl (by exact cmp_eq_t (by omega) ) ?_) | (refine mx_cmpl .lss rfl rfl rfl rfl rfl (by exact cmp_lt_t (by omega) ) ?_) ) ) | (refine g_ix rfl ?_; first | refine mx_ixsn E rfl rfl rfl rfl rfl rfl (by omega) rfl ?_ | refine mx_ixsi E rfl rfl rfl rfl rfl rfl (by omega) (by omega) rfl ?_ ) | (refine g_bi .len rfl ?_; refine mx_len E rfl rfl rfl rfl ?_) | (refine g_store rfl ?_; first | refine s_l E rfl rfl rfl rfl rfl rfl rfl (by exact Sp.all rfl ) rfl ?_ | refine s_1 E rfl rfl rfl rfl rfl rfl rfl rfl (by exact Sp.lit rfl rfl) rfl ?_) | (refine a_new rfl rfl rfl rfl rfl (fun _ => ?_)) ) | refine cw_seq ?_ | refine cw_line rfl ?_ | refine cw_block ?_ | refine cw_cond_t rfl ?_ | refine cw_skip ?_ | refine pw_then ?_ ))
    rename_i bx; refine cw_drawm [0, 1, 2, 3, 4, 5, 6, 7] (fun i => Nat.beq i 6) [row bx 36 (cOP (⟨{ x.v with tgt := a0 }, x.ha, x.hc, x.na, x.nc⟩ : OP)), row b3 26 [.int .i64 prog, .slice (some ⟨b5, 0, none⟩) ops.length oc, .slice ta at'.length tc, .slice ea evs.length ec], row b5 36 (ops.flatMap cOP ++ rest)] mixed (by kernel_rfl) (fun w h => h.pick [0, 1, 2] (by simp) rfl) ?_; ((repeat (((refine (?_ : MX _ _ _ _ _ _ _ _ _ _ _)); first | (refine mx_mv _ rfl rfl (by conv => {lhs; whnf}) ?_) | ( refine mx_fa E rfl rfl rfl rfl ?_) | (refine g_load rfl ?_; first | refine mx_get E rfl rfl rfl rfl rfl (by rfl) rfl ?_ | refine mx_getn E rfl rfl rfl rfl rfl (by first | assumption | exact Vr.all rfl ) rfl ?_ ) | (refine g_ix rfl ?_; refine mx_ixsn E rfl rfl rfl rfl rfl rfl (by omega) rfl ?_ ) ) ))); refine g_cf 17 rfl ?_; refine a_callv rfl rfl rfl rfl Try.func17 rfl rfl rfl (.bool true) (fun w' hw => same17e y ((⟨{ x.v with tgt := a0 }, x.ha, x.hc, x.na, x.nc⟩ : OP)) hyv (by have := (hao y (List.mem_of_getElem? hy)).2; omega) (by have := (hao y (List.mem_of_getElem? hy)).2; omega) w' (in_allF (hw.holds 3 _ rfl) (List.mem_of_getElem? hy)).1 (in_allF (hw.holds 3 _ rfl) (List.mem_of_getElem? hy)).2 (hxo.1.keep hw fun _ _ _ h => h) (hxo.2.2.1.keep hw fun _ _ _ h => h)) rfl ?_; ((repeat (first | ((refine (?_ : MX _ _ _ _ _ _ _ _ _ _ _)); first | refine mx_end ?_ | (refine mx_mv _ rfl rfl (by conv => {lhs; whnf}) ?_) | (refine mx_as _ rfl rfl (by conv => {lhs; whnf}) ?_) | (refine g_bin rfl ?_; ( refine mx_ar rfl rfl rfl rfl rfl rfl (IntWalk.i64_in _ (by omega)) rfl ?_ ) ) | (refine mx_not rfl rfl rfl ?_) ) | refine cw_line rfl ?_ | refine cw_cond_f rfl ?_ | refine cw_skip ?_ | refine pw_then ?_ | refine pw_block ?_ ))); exact pw_round (i + 1) (by omega) (by omega) ⟨rfl, rfl, rfl, trivial⟩ (fun w1 h => back (h.pick [1, 2, 3, 4, 5, 6, 7] (by simp) rfl))
  · have hyv : y.v = { x.v with tgt := -1 } := by rw [hyx]; unfold entV; rw [if_pos hk, if_neg (fun e => hn e.symm)]
    (repeat (first | ((refine (?_ : MX _ _ _ _ _ _ _ _ _ _ _)); first | refine mx_end ?_ | (refine mx_mv _ rfl rfl (by conv => {lhs; whnf}) ?_) | (first | refine mx_fa0 E rfl rfl rfl rfl ?_ | refine mx_fa E rfl rfl rfl rfl ?_) | (refine g_load rfl ?_; first | refine mx_get E rfl rfl rfl rfl rfl (by rfl) rfl ?_ | refine mx_oldn E rfl rfl rfl rfl rfl (by assumption) (by assumption) (rfl) rfl ?_ ) | (refine g_bin rfl ?_; (first | (refine mx_cmpl .eql rfl rfl rfl rfl rfl (by first | exact cmp_eq_t (by omega) | exact cmp_eq_f (by omega) ) ?_) | (refine mx_cmpl .lss rfl rfl rfl rfl rfl (by exact cmp_lt_t (by omega) ) ?_) ) ) | (refine g_ix rfl ?_; refine mx_ixsn E rfl rfl rfl rfl rfl rfl (by omega) rfl ?_ ) | (refine g_bi .len rfl ?_; refine mx_len E rfl rfl rfl rfl ?_) | (refine g_store rfl ?_; first | refine s_l E rfl rfl rfl rfl rfl rfl rfl (by exact Sp.all rfl ) rfl ?_ | refine s_1 E rfl rfl rfl rfl rfl rfl rfl rfl (by exact Sp.lit rfl rfl) rfl ?_) | (refine a_new rfl rfl rfl rfl rfl (fun _ => ?_)) ) | refine cw_seq ?_ | refine cw_line rfl ?_ | refine cw_block ?_ | refine cw_cond_f rfl ?_ | refine cw_cond_t rfl ?_ | refine cw_skip ?_ | refine pw_then ?_ ))
    rename_i bx; refine cw_drawm [0, 1, 2, 3, 4, 5, 6, 7] (fun i => Nat.beq i 6) [row bx 36 (cOP (⟨{ x.v with tgt := -1 }, x.ha, x.hc, x.na, x.nc⟩ : OP)), row b3 26 [.int .i64 prog, .slice (some ⟨b5, 0, none⟩) ops.length oc, .slice ta at'.length tc, .slice ea evs.length ec], row b5 36 (ops.flatMap cOP ++ rest)] mixed (by kernel_rfl) (fun w h => h.pick [0, 1, 2] (by simp) rfl) ?_; ((repeat (((refine (?_ : MX _ _ _ _ _ _ _ _ _ _ _)); first | (refine mx_mv _ rfl rfl (by conv => {lhs; whnf}) ?_) | ( refine mx_fa E rfl rfl rfl rfl ?_) | (refine g_load rfl ?_; first | refine mx_get E rfl rfl rfl rfl rfl (by rfl) rfl ?_ | refine mx_getn E rfl rfl rfl rfl rfl (by first | assumption | exact Vr.all rfl ) rfl ?_ ) | (refine g_ix rfl ?_; refine mx_ixsn E rfl rfl rfl rfl rfl rfl (by omega) rfl ?_ ) ) ))); refine g_cf 17 rfl ?_; refine a_callv rfl rfl rfl rfl Try.func17 rfl rfl rfl (.bool true) (fun w' hw => same17e y ((⟨{ x.v with tgt := -1 }, x.ha, x.hc, x.na, x.nc⟩ : OP)) hyv (by have := (hao y (List.mem_of_getElem? hy)).2; omega) (by have := (hao y (List.mem_of_getElem? hy)).2; omega) w' (in_allF (hw.holds 3 _ rfl) (List.mem_of_getElem? hy)).1 (in_allF (hw.holds 3 _ rfl) (List.mem_of_getElem? hy)).2 (hxo.1.keep hw fun _ _ _ h => h) (hxo.2.2.1.keep hw fun _ _ _ h => h)) rfl ?_; ((repeat (first | ((refine (?_ : MX _ _ _ _ _ _ _ _ _ _ _)); first | refine mx_end ?_ | (refine mx_mv _ rfl rfl (by conv => {lhs; whnf}) ?_) | (refine mx_as _ rfl rfl (by conv => {lhs; whnf}) ?_) | (refine g_bin rfl ?_; ( refine mx_ar rfl rfl rfl rfl rfl rfl (IntWalk.i64_in _ (by omega)) rfl ?_ ) ) | (refine mx_not rfl rfl rfl ?_) ) | refine cw_line rfl ?_ | refine cw_cond_f rfl ?_ | refine cw_skip ?_ | refine pw_then ?_ | refine pw_block ?_ ))); exact pw_round (i + 1) (by omega) (by omega) ⟨rfl, rfl, rfl, trivial⟩ (fun w1 h => back (h.pick [1, 2, 3, 4, 5, 6, 7] (by simp) rfl))
end Go.Proofs.Ytdkolggmabnifaa
