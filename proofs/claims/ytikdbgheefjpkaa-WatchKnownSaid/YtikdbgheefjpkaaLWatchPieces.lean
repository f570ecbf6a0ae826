/- What is hit by two lists of events is what is hit by both in one: the walk of the law WatchPieces. -/
import Derived.Test.YtikdbgheefjpkaaKo
set_option maxRecDepth 100000
set_option maxHeartbeats 8000000
set_option linter.unusedSimpArgs false
set_option linter.unusedVariables false
namespace Go.Proofs.Ytikdbgheefjpkaa
open Go Go.Sx Go.RowKit
theorem those_mem {p : List VE → Bool} {L : List (Int × List VE)} {x : Int} : x ∈ thoseV p L ↔ ∃ q ∈ L, p q.2 = true ∧ q.1 = x := by
  unfold thoseV
  rw [srt_mem, List.mem_map]
  constructor
  · rintro ⟨q, hq, e⟩
    exact ⟨q, (List.mem_filter.1 hq).1, (List.mem_filter.1 hq).2, e⟩
  · rintro ⟨q, hq, h, e⟩
    exact ⟨q, List.mem_filter.2 ⟨hq, h⟩, e⟩
theorem brkV_app (a b m : List VE) : brkV (a ++ b) m = (brkV a m || brkV b m) := by
  unfold brkV
  exact List.any_append
/-- Pieces. -/
theorem pieces {L : List (Int × List VE)} (hn : (L.map (·.1)).Nodup) (a b : List VE) (x : Int) :
    (x ∈ hitV a L ∧ x ∉ hitV b (L.filter fun q => decide (q.1 ∉ hitV a L)) ∧ x ∈ hitV (a ++ b) L) ∨ (x ∉ hitV a L ∧ x ∈ hitV b (L.filter fun q => decide (q.1 ∉ hitV a L)) ∧ x ∈ hitV (a ++ b) L) ∨ (x ∉ hitV a L ∧ x ∉ hitV b (L.filter fun q => decide (q.1 ∉ hitV a L)) ∧ x ∉ hitV (a ++ b) L) := by
  rw [hit_left hn]
  by_cases h1 : x ∈ hitV a L
  · refine .inl ⟨h1, fun h2 => ?_, ?_⟩
    · obtain ⟨q, hq, hb, e⟩ := those_mem.1 h1
      obtain ⟨q', hq', hb', e'⟩ := those_mem.1 h2
      obtain ⟨h3, h4⟩ := List.mem_filter.1 hq'
      obtain rfl := key_inj hn hq h3 (e.trans e'.symm)
      rw [hb] at h4
      cases h4
    · obtain ⟨q, hq, hb, e⟩ := those_mem.1 h1
      exact those_mem.2 ⟨q, hq, by rw [brkV_app, hb]; rfl, e⟩
  · by_cases h2 : x ∈ hitV b (L.filter fun q => !brkV a q.2)
    · refine .inr (.inl ⟨h1, h2, ?_⟩)
      obtain ⟨q, hq, hb, e⟩ := those_mem.1 h2
      exact those_mem.2 ⟨q, (List.mem_filter.1 hq).1, by rw [brkV_app, hb, Bool.or_true], e⟩
    · refine .inr (.inr ⟨h1, h2, fun h3 => ?_⟩)
      obtain ⟨q, hq, hb, e⟩ := those_mem.1 h3
      rw [brkV_app] at hb
      cases ha : brkV a q.2 with
      | true => exact h1 (those_mem.2 ⟨q, hq, ha, e⟩)
      | false =>
        rw [ha, Bool.false_or] at hb
        exact h2 (those_mem.2 ⟨q, List.mem_filter.2 ⟨hq, by rw [ha]; rfl⟩, hb, e⟩)
theorem pieces_left {L : List (Int × List VE)} (hn : (L.map (·.1)).Nodup) (a b : List VE) : ((L.filter fun q => decide (q.1 ∉ hitV a L)).filter fun q => decide (q.1 ∉ hitV b (L.filter fun q => decide (q.1 ∉ hitV a L)))) = L.filter fun q => decide (q.1 ∉ hitV (a ++ b) L) := by
  rw [hit_left hn, hit_left hn, hit_left (hn.sublist (List.filter_sublist.map _)), List.filter_filter]
  congr 1
  funext q
  rw [brkV_app, Bool.not_or, Bool.and_comm]
theorem lawWatchPieces (ad : Option Addr) (cap : Nat) (ops : List OPW) (ad1 : Option Addr) (cap1 : Nat) (ha : List EV) (ad2 : Option Addr) (cap2 : Nat) (hb : List EV) (w : World) (hr : OpsR w ad ops) (hea : EvL w ad1 ha) (heb : EvL w ad2 hb) :
    Calls Try.prog 5 #[.slice ad ops.length cap, .slice ad1 ha.length cap1, .slice ad2 hb.length cap2] w fun e w' => e = .returned (.bool true) ∧ Grow w w' := by
  refine enter3 (S := fun _ => False) 96 Try.func5 rfl rfl rfl (Ok.start w) ?_
  (repeat (first | ((refine (?_ : MX _ _ _ _ _ _ _ _ _ _ _)); first | refine mx_end ?_ | (refine mx_mv _ rfl rfl (by conv => {lhs; whnf}) ?_) | (refine mx_as _ rfl rfl (by conv => {lhs; whnf}) ?_) ) | refine cw_seq ?_ | refine cw_line rfl ?_ | refine pw_then ?_ ))
  refine g_cf 11 rfl ?_
  refine a_callL rfl rfl rfl rfl Try.func11 rfl rfl rfl [] _ rfl (fun a : {b : Bool // b = false → Fits ops} => .bool a.1) (fun _ => []) (fun w' hw _ => long11 ad cap ops w' (hr.grow hw.keep.grow)) (fun _ => rfl) (fun _ _ _ => trivial) (fun qb => ?_)
  obtain ⟨b, hfit⟩ := qb
  cases b with
  | true =>
    (repeat (first | ((refine (?_ : MX _ _ _ _ _ _ _ _ _ _ _)); first | refine mx_end ?_ | (refine mx_mv _ rfl rfl (by conv => {lhs; whnf}) ?_) | (refine mx_skip rfl rfl rfl ?_) | (refine g_pick rfl ?_; refine mx_ort rfl rfl rfl rfl rfl ?_ ) ) | refine cw_seq ?_ | refine cw_line rfl ?_ | refine cw_cond_t rfl ?_ | refine pw_then ?_ ))
    refine g_cf 12 rfl ?_
    refine a_callv rfl rfl rfl rfl Try.func12 rfl rfl rfl (.bool true) (fun w' hw => works12 w') rfl ?_
    (repeat (first | ((refine (?_ : MX _ _ _ _ _ _ _ _ _ _ _)); first | refine mx_end ?_ | (refine mx_as _ rfl rfl (by conv => {lhs; whnf}) ?_) ) | refine cw_ret ?_ | refine pw_then ?_ | refine pw_then_r ?_ ))
    exact pw_ret rfl rfl rfl rfl fun w hw => ⟨rfl, hw.keep.grow⟩
  | false =>
  have hf := hfit rfl
  (repeat (((refine (?_ : MX _ _ _ _ _ _ _ _ _ _ _)); first | (refine mx_mv _ rfl rfl (by conv => {lhs; whnf}) ?_) | (refine g_build rfl ?_; refine mx_build rfl rfl rfl rfl (b32 _ _ _) rfl ?_ ) ) ))
  refine g_bs rfl ?_
  refine a_bslice E rfl rfl rfl rfl [.agg (cOW (opE ad1 cap1 ha)).toArray, .agg (cOW (opE ad2 cap2 hb)).toArray] rfl (us := [opE ad1 cap1 ha, opE ad2 cap2 hb].flatMap cOW) rfl rfl (by intro v hv; simp at hv; rcases hv with rfl | rfl <;> rfl) rfl rfl rfl rfl (fun b1 => ?_)
  (repeat (first | ((refine (?_ : MX _ _ _ _ _ _ _ _ _ _ _)); first | refine mx_end ?_ | (refine mx_mv _ rfl rfl (by conv => {lhs; whnf}) ?_) | (refine mx_as _ rfl rfl (by conv => {lhs; whnf}) ?_) | (first | refine mx_fa0 E rfl rfl rfl rfl ?_ | refine mx_fa E rfl rfl rfl rfl ?_) | (refine g_load rfl ?_; first | refine mx_get E rfl rfl rfl rfl rfl (by first | assumption | rfl) rfl ?_ | refine mx_getn E rfl rfl rfl rfl rfl (by first | assumption | exact Vr.all rfl | exact ⟨⟨rfl⟩, rfl⟩) rfl ?_ | refine mx_oldn E rfl rfl rfl rfl rfl (by assumption) (by assumption) (rfl) rfl ?_ | refine mx_old1 E rfl rfl rfl rfl rfl (by assumption) (by assumption) rfl ?_ | refine mx_orow E rfl rfl rfl rfl rfl (by assumption) (by assumption) (by first | assumption | rfl) rfl ?_ | refine mx_orown E rfl rfl rfl rfl rfl (by assumption) (by assumption) (by first | assumption | exact Vr.all rfl | exact ⟨⟨rfl⟩, rfl⟩) rfl ?_ | refine mx_geta E rfl rfl rfl rfl rfl rfl (by first | assumption | rfl) rfl ?_ | refine mx_getna E rfl rfl rfl rfl rfl rfl (by first | assumption | exact Vr.all rfl | exact ⟨⟨rfl⟩, rfl⟩) rfl ?_) | (refine g_bin rfl ?_; first | (first | (refine mx_cmpl .eql rfl rfl rfl rfl rfl (by first | exact cmp_eq_t (by omega) | exact cmp_eq_f (by omega) | rfl) ?_) | (refine mx_cmpl .neq rfl rfl rfl rfl rfl (by first | exact cmp_ne_t (by omega) | exact cmp_ne_f (by omega) | rfl) ?_) | (refine mx_cmpl .lss rfl rfl rfl rfl rfl (by first | exact cmp_lt_t (by omega) | exact cmp_lt_f (by omega) | rfl) ?_) | (refine mx_cmpl .leq rfl rfl rfl rfl rfl (by first | exact cmp_le_t (by omega) | exact cmp_le_f (by omega) | rfl) ?_) | (refine mx_cmpl .gtr rfl rfl rfl rfl rfl (by first | exact cmp_gt_t (by omega) | exact cmp_gt_f (by omega) | rfl) ?_) | (refine mx_cmpl .geq rfl rfl rfl rfl rfl (by first | exact cmp_ge_t (by omega) | exact cmp_ge_f (by omega) | rfl) ?_)) | (first | refine mx_ar rfl rfl rfl rfl rfl rfl ((IntWalk.i64_in _ (by omega)).trans (by with_reducible assumption)) rfl ?_ | refine mx_ar rfl rfl rfl rfl rfl rfl (IntWalk.i64_in _ (by omega)) rfl ?_ | refine mx_ar rfl rfl rfl rfl rfl rfl (by with_reducible assumption) rfl ?_) | (first | refine mx_eqs rfl rfl rfl rfl rfl rfl ?_ | refine mx_nes rfl rfl rfl rfl rfl rfl ?_ | refine mx_eq rfl rfl rfl rfl rfl rfl ?_ | refine mx_ne rfl rfl rfl rfl rfl rfl ?_) | refine mx_bsame E rfl rfl rfl rfl rfl rfl rfl ?_ | refine mx_bnsame E rfl rfl rfl rfl rfl rfl rfl ?_ | refine mx_beq E rfl rfl rfl rfl rfl rfl rfl ?_ | refine mx_bne E rfl rfl rfl rfl rfl rfl rfl ?_ | refine mx_dv rfl rfl rfl rfl rfl (by decide) (congrArg some (by assumption)) rfl rfl ?_ | refine mx_dv rfl rfl rfl rfl rfl (by decide) rfl rfl rfl ?_ | refine mx_bit rfl rfl rfl rfl rfl (congrArg some (by assumption)) rfl rfl ?_ | refine mx_bit rfl rfl rfl rfl rfl rfl rfl rfl ?_ | refine mx_sh rfl rfl rfl rfl rfl (by omega) (congrArg some (by assumption)) rfl rfl ?_ | refine mx_sh rfl rfl rfl rfl rfl (by omega) rfl rfl rfl ?_) | (refine g_ix rfl ?_; first | refine mx_ixan E rfl rfl rfl rfl rfl rfl (by omega) rfl ?_ | refine mx_ixsn E rfl rfl rfl rfl rfl rfl (by omega) rfl ?_ | refine mx_ixsi E rfl rfl rfl rfl rfl rfl (by omega) (by omega) rfl ?_ | refine mx_ixa E rfl rfl rfl rfl rfl rfl (by omega) (by omega) rfl rfl ?_) | (refine mx_nc rfl rfl rfl ?_) | (refine g_bi .len rfl ?_; refine mx_len E rfl rfl rfl rfl ?_) | (refine mx_not rfl rfl rfl ?_) | (refine mx_ex _ rfl rfl rfl (by conv => {lhs; whnf}) ?_) | (refine mx_skip rfl rfl rfl ?_) | (refine g_pick rfl ?_; first | refine mx_andf rfl rfl rfl rfl rfl ?_ | refine mx_ort rfl rfl rfl rfl rfl ?_ | refine mx_and rfl rfl rfl rfl rfl rfl ?_ | refine mx_or rfl rfl rfl rfl rfl rfl ?_ | refine mx_pickt _ rfl rfl rfl rfl (by conv => {lhs; whnf}) rfl ?_ | refine mx_pickf _ rfl rfl rfl rfl (by conv => {lhs; whnf}) rfl ?_) | (refine g_store rfl ?_; first | refine s_l E rfl rfl rfl rfl rfl rfl rfl (by first | assumption | exact Sp.all rfl | exact Sp.lit rfl rfl) rfl ?_ | refine s_1 E rfl rfl rfl rfl rfl rfl rfl rfl (by first | assumption | exact sp0 | exact spS sp0 | exact spS (spS sp0) | exact Sp.lit rfl rfl) rfl ?_) | (refine g_build rfl ?_; first | refine mx_build rfl rfl rfl rfl b83 rfl ?_ | refine mx_build rfl rfl rfl rfl (b32 _ _ _) rfl ?_ | refine mx_build rfl rfl rfl rfl (b49c _) rfl ?_ | refine mx_build rfl rfl rfl rfl (b49d _ _) rfl ?_) | (refine a_new rfl rfl rfl rfl rfl (fun _ => ?_)) | (refine g_box rfl ?_; first | refine a_boxl rfl rfl rfl rfl rfl rfl (fun _ => ?_) | refine a_box1 rfl rfl rfl rfl rfl rfl rfl (fun _ => ?_)) | (first | refine mx_indexn E rfl rfl rfl rfl rfl rfl rfl rfl (by omega) (by first | exact vr_RR _ (by omega)) rfl ?_ | refine mx_index E rfl rfl rfl rfl rfl rfl rfl rfl (by omega) (by omega) (by first | exact vr_RR _ (by omega)) rfl ?_) | (refine g_bs rfl ?_; first | refine a_bs0 E rfl rfl rfl rfl rfl rfl (fun _ => ?_) | refine a_bsi E rfl rfl rfl rfl rfl (by (repeat (first | exact EvI.nil | (apply EvI.cons; rfl)))) (by rfl) (by rfl) (by rfl) rfl (fun _ => ?_)) | (refine g_conv rfl ?_; first | refine mx_cv E rfl rfl rfl rfl rfl rfl (by assumption) rfl ?_ | refine mx_cv E rfl rfl rfl rfl rfl rfl (IntWalk.i64_in _ (by omega)) rfl ?_ | refine mx_cv E rfl rfl rfl rfl rfl rfl (IntWalk.u64_in _ (by omega)) rfl ?_ | refine mx_cv E rfl rfl rfl rfl rfl rfl (IntWalk.u8_in _ (by omega)) rfl ?_ | refine mx_cv E rfl rfl rfl rfl rfl rfl rfl rfl ?_) | (first | (refine g_bi .max rfl ?_; refine mx_maxi rfl rfl rfl rfl rfl rfl rfl ?_) | (refine g_bi .min rfl ?_; refine mx_mini rfl rfl rfl rfl rfl rfl rfl ?_)) | (first | refine mx_nilp rfl rfl false rfl (by kernel_rfl) rfl rfl rfl rfl ?_ | refine mx_streq rfl rfl rfl rfl rfl rfl ?_ | refine mx_fn rfl rfl rfl rfl rfl rfl ?_) | (fail)) | refine cw_seq ?_ | refine cw_line rfl ?_ | (fail) | refine cw_block ?_ | refine cw_cond_f rfl ?_ | refine cw_cond_t rfl ?_ | refine cw_skip ?_ | refine cw_exit ?_ | refine cw_ret ?_ | refine pw_then ?_ | refine pw_then_x ?_ | refine pw_then_r ?_ | refine pw_block ?_ | refine pw_block_e ?_ | refine pw_block_n rfl ?_ | refine pw_block_r ?_))
  refine g_cf 11 rfl ?_
  refine a_callL rfl rfl rfl rfl Try.func11 rfl rfl rfl [] _ rfl (fun a : {b : Bool // b = false → Fits [opE ad1 cap1 ha, opE ad2 cap2 hb]} => .bool a.1) (fun _ => []) (fun w' hw _ => long11 (some ⟨b1, 0, none⟩) 2 [opE ad1 cap1 ha, opE ad2 cap2 hb] w' (opsR_one (hw.holds 0 _ rfl) (fun o ho => by
    simp only [List.mem_cons, List.mem_nil_iff, or_false] at ho
    rcases ho with rfl | rfl
    · exact hea.grow hw.keep.grow
    · exact heb.grow hw.keep.grow))) (fun _ => rfl) (fun _ _ _ => trivial) (fun qb => ?_)
  obtain ⟨b, hfit2⟩ := qb
  cases b with
  | true =>
    (repeat (first | ((refine (?_ : MX _ _ _ _ _ _ _ _ _ _ _)); first | refine mx_end ?_ | (refine g_pick rfl ?_; refine mx_or rfl rfl rfl rfl rfl rfl ?_ ) ) | refine cw_seq ?_ | refine cw_line rfl ?_ | refine cw_cond_t rfl ?_ | refine pw_then ?_ ))
    refine g_cf 12 rfl ?_
    refine a_callv rfl rfl rfl rfl Try.func12 rfl rfl rfl (.bool true) (fun w' hw => works12 w') rfl ?_
    (repeat (first | ((refine (?_ : MX _ _ _ _ _ _ _ _ _ _ _)); first | refine mx_end ?_ | (refine mx_as _ rfl rfl (by conv => {lhs; whnf}) ?_) ) | refine cw_ret ?_ | refine pw_then ?_ | refine pw_then_r ?_ ))
    exact pw_ret rfl rfl rfl rfl fun w hw => ⟨rfl, hw.keep.grow⟩
  | false =>
  have hfa := (hfit2 rfl).e (opE ad1 cap1 ha) (by simp)
  have hfb := (hfit2 rfl).e (opE ad2 cap2 hb) (by simp)
  have hal : ha.length ≤ 40 := hfa.1
  have hbl : hb.length ≤ 40 := hfb.1
  have hra : EvR w ad1 ha := hea.r hfa.2
  have hrb : EvR w ad2 hb := heb.r hfb.2
  (repeat (first | ((refine (?_ : MX _ _ _ _ _ _ _ _ _ _ _)); first | refine mx_end ?_ | (refine mx_mv _ rfl rfl (by conv => {lhs; whnf}) ?_) | (refine g_pick rfl ?_; refine mx_or rfl rfl rfl rfl rfl rfl ?_ ) ) | refine cw_seq ?_ | refine cw_line rfl ?_ | refine cw_cond_f rfl ?_ | refine cw_skip ?_ | refine pw_then ?_ ))
  refine g_cf 28 rfl ?_
  refine a_callL rfl rfl rfl rfl Try.func28 rfl rfl rfl [] _ rfl (fun a : {q : (Nat × Nat × Nat) × List WE × List LE // (q.2.1.map WE.vw).Perm (begV ops) ∧ WL ops (begV ops) q.2.2 ∧ OkP (begV ops) 100} => .tuple #[.pointer (some ⟨a.1.1.1, 0, none⟩), .slice (some ⟨a.1.1.2.2, 0, none⟩) 10 10]) (fun a => [star (OW a.1.1.1 a.1.1.2.1 a.1.2.1), row a.1.1.2.2 29 (a.1.2.2.flatMap cLE), allE a.1.2.2]) (fun w' hw _ => begin28 ad cap ops hf w' (hr.grow hw.keep.grow)) (fun _ => rfl) (fun _ _ _ => trivial) (fun qb => ?_)
  obtain ⟨⟨⟨bx, mp, b⟩, l, ls⟩, hP, hW, hK⟩ := qb
  refine mx_weak (H' := [star (OW bx mp l)]) (fun w h => h.only 0 rfl) (fun _ _ => trivial) ?_
  (repeat (first | ((refine (?_ : MX _ _ _ _ _ _ _ _ _ _ _)); first | refine mx_end ?_ | (refine mx_mv _ rfl rfl (by conv => {lhs; whnf}) ?_) | (refine mx_as _ rfl rfl (by conv => {lhs; whnf}) ?_) | (refine mx_ex _ rfl rfl rfl (by conv => {lhs; whnf}) ?_) ) | refine cw_seq ?_ | refine cw_line rfl ?_ | refine pw_then ?_ ))
  refine g_cf 28 rfl ?_
  refine a_callL rfl rfl rfl rfl Try.func28 rfl rfl rfl [] _ rfl (fun a : {q : (Nat × Nat × Nat) × List WE × List LE // (q.2.1.map WE.vw).Perm (begV ops) ∧ WL ops (begV ops) q.2.2 ∧ OkP (begV ops) 100} => .tuple #[.pointer (some ⟨a.1.1.1, 0, none⟩), .slice (some ⟨a.1.1.2.2, 0, none⟩) 10 10]) (fun a => [star (OW a.1.1.1 a.1.1.2.1 a.1.2.1), row a.1.1.2.2 29 (a.1.2.2.flatMap cLE), allE a.1.2.2]) (fun w' hw _ => begin28 ad cap ops hf w' (hr.grow hw.keep.grow)) (fun _ => rfl) (fun _ _ _ => trivial) (fun qb => ?_)
  obtain ⟨⟨⟨bt, mt, b'⟩, t, ls'⟩, hPt, _, _⟩ := qb
  refine mx_weak (H' := [star (OW bt mt t), star (OW bx mp l)]) (fun w h => h.pick [0, 3] (by simp) rfl) (fun _ _ => trivial) ?_
  dsimp only at hP hPt hW
  have hkl : OkP (l.map WE.vw) 1000 := (hK.perm hP.symm).le (by decide)
  have hkt : OkP (t.map WE.vw) 1000 := (hK.perm hPt.symm).le (by decide)
  have hXe : hitV (ha.map EV.v) (l.map WE.vw) = hitV (ha.map EV.v) (begV ops) := by unfold hitV; exact those_congr hP
  have hZe : hitV (ha.map EV.v ++ hb.map EV.v) (t.map WE.vw) = hitV (ha.map EV.v ++ hb.map EV.v) (begV ops) := by unfold hitV; exact those_congr hPt
  have hXl : (hitV (ha.map EV.v) (begV ops)).length ≤ 100 := Nat.le_trans those_len hK.len
  have hYl : (hitV (hb.map EV.v) ((begV ops).filter fun q => decide (q.1 ∉ hitV (ha.map EV.v) (begV ops)))).length ≤ 100 := Nat.le_trans those_len (hK.filt _).len
  have hZl : (hitV (ha.map EV.v ++ hb.map EV.v) (begV ops)).length ≤ 100 := Nat.le_trans those_len hK.len
  have hpc := pieces hK.nd (ha.map EV.v) (hb.map EV.v)
  have hpl := pieces_left hK.nd (ha.map EV.v) (hb.map EV.v)
  have hYe : hitV (hb.map EV.v) ((l.filter fun e : WE => decide (e.k ∉ hitV (ha.map EV.v) (begV ops))).map WE.vw) = hitV (hb.map EV.v) ((begV ops).filter fun q => decide (q.1 ∉ hitV (ha.map EV.v) (begV ops))) := by
    rw [vw_filt']
    unfold hitV
    exact those_congr (hP.filter _)
  generalize hitV (hb.map EV.v) ((begV ops).filter fun q => decide (q.1 ∉ hitV (ha.map EV.v) (begV ops))) = Y at *
  generalize hitV (ha.map EV.v ++ hb.map EV.v) (begV ops) = Z at *
  generalize hitV (ha.map EV.v) (begV ops) = X at *
  (repeat (first | ((refine (?_ : MX _ _ _ _ _ _ _ _ _ _ _)); first | refine mx_end ?_ | (refine mx_mv _ rfl rfl (by conv => {lhs; whnf}) ?_) | (refine mx_as _ rfl rfl (by conv => {lhs; whnf}) ?_) | (refine mx_ex _ rfl rfl rfl (by conv => {lhs; whnf}) ?_) ) | refine cw_seq ?_ | refine cw_line rfl ?_ | refine pw_then ?_ ))
  refine g_cf 20 rfl ?_
  refine a_co1 rfl rfl rfl rfl Try.func20 rfl rfl rfl (OW bx mp l) (fun a : Option Addr × Nat => .slice a.1 X.length a.2) (fun a => ownd a.1 a.2 3 1 X.length (X.flatMap cI)) (fun _ => OW bx mp (l.filter fun e : WE => decide (e.k ∉ X))) (fun w' hw h => hitW bx mp l hkl ad1 cap1 ha.length ha rfl (by omega) X hXe w' (fun w2 hc => hra.grow (oldGrow hw 1 rfl hc)) h) (fun _ => rfl) (fun _ _ _ => trivial) (fun qh => ?_)
  obtain ⟨x1, x2⟩ := qh
  have hk1 : OkP ((l.filter fun e : WE => decide (e.k ∉ X)).map WE.vw) 1000 := by rw [vw_filt']; exact hkl.filt _
  refine mx_weak (H' := [ownd x1 x2 3 1 X.length (X.flatMap cI), star (OW bt mt t), star (OW bx mp (l.filter fun e : WE => decide (e.k ∉ X)))]) (fun w h => h) (fun _ _ => trivial) ?_
  (repeat (first | ((refine (?_ : MX _ _ _ _ _ _ _ _ _ _ _)); first | refine mx_end ?_ | (refine mx_mv _ rfl rfl (by conv => {lhs; whnf}) ?_) | (refine mx_as _ rfl rfl (by conv => {lhs; whnf}) ?_) ) | refine cw_seq ?_ | refine cw_line rfl ?_ | refine pw_then ?_ ))
  refine g_cf 20 rfl ?_
  refine a_co1 rfl rfl rfl rfl Try.func20 rfl rfl rfl (OW bx mp (l.filter fun e : WE => decide (e.k ∉ X))) (fun a : Option Addr × Nat => .slice a.1 Y.length a.2) (fun a => ownd a.1 a.2 3 1 Y.length (Y.flatMap cI)) (fun _ => OW bx mp ((l.filter fun e : WE => decide (e.k ∉ X)).filter fun e : WE => decide (e.k ∉ Y))) (fun w' hw h => hitW bx mp _ hk1 ad2 cap2 hb.length hb rfl (by omega) Y hYe w' (fun w2 hc => hrb.grow (oldGrow hw 2 rfl hc)) h) (fun _ => rfl) (fun _ _ _ => trivial) (fun qh => ?_)
  obtain ⟨y1, y2⟩ := qh
  have hk2 : OkP (((l.filter fun e : WE => decide (e.k ∉ X)).filter fun e : WE => decide (e.k ∉ Y)).map WE.vw) 1000 := by rw [vw_filt']; exact hk1.filt _
  have hp2 : (((l.filter fun e : WE => decide (e.k ∉ X)).filter fun e : WE => decide (e.k ∉ Y)).map WE.vw).Perm ((begV ops).filter fun q => decide (q.1 ∉ Z)) := by
    rw [vw_filt', vw_filt', ← hpl]
    exact (hP.filter _).filter _
  generalize ((l.filter fun e : WE => decide (e.k ∉ X)).filter fun e : WE => decide (e.k ∉ Y)) = l2 at *
  refine mx_weak (H' := [ownd y1 y2 3 1 Y.length (Y.flatMap cI), ownd x1 x2 3 1 X.length (X.flatMap cI), star (OW bt mt t), star (OW bx mp l2)]) (fun w h => h) (fun _ _ => trivial) ?_
  (repeat (first | ((refine (?_ : MX _ _ _ _ _ _ _ _ _ _ _)); first | refine mx_end ?_ | (refine mx_mv _ rfl rfl (by conv => {lhs; whnf}) ?_) | (refine mx_as _ rfl rfl (by conv => {lhs; whnf}) ?_) ) | refine cw_seq ?_ | refine cw_line rfl ?_ | refine pw_then ?_ ))
  refine g_cf 15 rfl ?_
  refine a_callL rfl rfl rfl rfl Try.func15 rfl rfl rfl [] _ rfl (fun a : (Option Addr × Nat) × {l' : List EV // l'.map EV.v = ha.map EV.v} => .slice a.1.1 ha.length a.1.2) (fun a => [ownd a.1.1 a.1.2 49 5 ha.length (a.2.1.flatMap cEV), allK a.2.1]) (fun w' hw _ => copyE15 ad1 cap1 ha (by omega) (fun x hx => by have := hfa.2 x hx; omega) w' (hra.grow hw.keep.grow).l (fun x hx => ((hra.grow hw.keep.grow).k x hx).1)) (fun _ => rfl) (fun _ _ _ => trivial) (fun qe => ?_)
  obtain ⟨⟨v1, v2⟩, ⟨va, hva⟩⟩ := qe
  have hvl : va.length = ha.length := by have := congrArg List.length hva; simpa using this
  refine mx_weak (H' := [ownd v1 v2 49 5 ha.length (va.flatMap cEV), allK va, ownd y1 y2 3 1 Y.length (Y.flatMap cI), ownd x1 x2 3 1 X.length (X.flatMap cI), star (OW bt mt t), star (OW bx mp l2)]) (fun w h => h) (fun _ _ => trivial) ?_
  (repeat (first | ((refine (?_ : MX _ _ _ _ _ _ _ _ _ _ _)); first | refine mx_end ?_ | (refine mx_as _ rfl rfl (by conv => {lhs; whnf}) ?_) ) | refine cw_seq ?_ | refine cw_line rfl ?_ | refine cw_block ?_ | refine pw_then ?_ ))
  refine cw_loop (ι := Nat × Option Addr × Nat) (fun q => [(14, .int .i64 q.1), (13, .slice q.2.1 (ha.length + q.1) q.2.2), (12, .slice y1 Y.length y2), (11, .slice x1 X.length x2), (9, .pointer (some ⟨bt, 0, none⟩)), (7, .pointer (some ⟨bx, 0, none⟩)), (2, .slice ad2 hb.length cap2)]) (fun q => [ownd q.2.1 q.2.2 49 5 (ha.length + q.1) ((va ++ hb.take q.1).flatMap cEV), allK va, ownd y1 y2 3 1 Y.length (Y.flatMap cI), ownd x1 x2 3 1 X.length (X.flatMap cI), star (OW bt mt t), star (OW bx mp l2)]) (fun q => q.1 ≤ hb.length) (fun q => hb.length - q.1) (0, v1, v2) (Nat.zero_le _) ⟨rfl, rfl, rfl, rfl, rfl, rfl, rfl, trivial⟩ (fun w h => by simpa using h) ?_
  rintro ⟨i, v1, v2⟩ jk hi
  dsimp only at hi ⊢
  by_cases h0 : (i : Int) < hb.length
  case pos =>
    obtain ⟨x, hx⟩ := getElem_some (xs := hb) (i := i) (by omega)
    obtain ⟨b4, off, e, hcc⟩ := inl_at heb.l hx
    subst e
    have hS : ¬ (fun _ : Nat => False) b4 := id
    have hc0 : ∀ (k : Nat) (v : Value), (cEV x)[k]? = some v → w.cell? ⟨b4, off + i * 5 + k, none⟩ = some v := hcc
    (repeat (first | ((refine (?_ : MX _ _ _ _ _ _ _ _ _ _ _)); first | refine mx_end ?_ | (refine mx_mv _ rfl rfl (by conv => {lhs; whnf}) ?_) | (refine g_load rfl ?_; refine mx_oldn E rfl rfl rfl rfl rfl (by assumption) (by assumption) (rfl) rfl ?_ ) | (refine g_bin rfl ?_; ( (refine mx_cmpl .lss rfl rfl rfl rfl rfl (by exact cmp_lt_t (by omega) ) ?_) ) ) | (refine g_ix rfl ?_; refine mx_ixsn E rfl rfl rfl rfl rfl rfl (by omega) rfl ?_ ) | (refine g_bi .len rfl ?_; refine mx_len E rfl rfl rfl rfl ?_) ) | refine cw_seq ?_ | refine cw_line rfl ?_ | refine cw_block ?_ | refine cw_cond_t rfl ?_ | refine cw_skip ?_ | refine pw_then ?_ ))
    refine g_bs rfl ?_
    refine a_bslice1 E rfl rfl rfl rfl (us := cEV x) rfl rfl rfl rfl rfl rfl (fun b9 => ?_)
    refine g_bi .append rfl ?_
    refine a_app E rfl rfl rfl rfl rfl rfl rfl rfl (cEV x) rfl (fun w hw => fun _ => ⟨b9, 0, rfl, fun j u hj => by rw [add_at, Nat.zero_add]; exact row_cell (hw.holds 0 _ rfl) hj⟩) rfl (by omega) rfl (fun _ _ _ _ => trivial) (fun a2 c2 => ?_)
    have e3 : (va ++ hb.take i).flatMap cEV ++ cEV x = (va ++ hb.take (i + 1)).flatMap cEV := by rw [List.take_add_one, hx]; simp [List.flatMap_append]
    rw [e3, show ha.length + i + 1 = ha.length + (i + 1) by omega]
    (repeat (first | ((refine (?_ : MX _ _ _ _ _ _ _ _ _ _ _)); first | refine mx_end ?_ | (refine mx_mv _ rfl rfl (by conv => {lhs; whnf}) ?_) | (refine mx_as _ rfl rfl (by conv => {lhs; whnf}) ?_) | (refine g_bin rfl ?_; ( refine mx_ar rfl rfl rfl rfl rfl rfl (IntWalk.i64_in _ (by omega)) rfl ?_ ) ) ) | refine cw_line rfl ?_ | refine pw_then ?_ | refine pw_block ?_ ))
    exact pw_round (i + 1, a2, c2) (by show i + 1 ≤ hb.length; omega) (by show hb.length - (i + 1) < hb.length - i; omega) ⟨rfl, rfl, rfl, rfl, rfl, rfl, rfl, trivial⟩ (fun w h => h.pick [1, 2, 3, 4, 5, 6] (by simp) rfl)
  case neg =>
    obtain rfl : i = hb.length := by omega
    rw [List.take_length]
    have hbo : (va ++ hb).length = ha.length + hb.length := by rw [List.length_append, hvl]
    have hzv : hitV ((va ++ hb).map EV.v) (t.map WE.vw) = Z := by rw [List.map_append, hva]; exact hZe
    (repeat (first | ((refine (?_ : MX _ _ _ _ _ _ _ _ _ _ _)); first | refine mx_end ?_ | (refine mx_mv _ rfl rfl (by conv => {lhs; whnf}) ?_) | (refine g_bin rfl ?_; ( (refine mx_cmpl .lss rfl rfl rfl rfl rfl (by exact cmp_lt_f (by omega) ) ?_) ) ) | (refine g_bi .len rfl ?_; refine mx_len E rfl rfl rfl rfl ?_) ) | refine cw_seq ?_ | refine cw_line rfl ?_ | refine cw_cond_f rfl ?_ | refine cw_exit ?_ | refine pw_then ?_ | refine pw_then_x ?_ | refine pw_block_e ?_ ))
    refine g_cf 20 rfl ?_
    refine a_co1 rfl rfl rfl rfl Try.func20 rfl rfl rfl (OW bt mt t) (fun a : Option Addr × Nat => .slice a.1 Z.length a.2) (fun a => ownd a.1 a.2 3 1 Z.length (Z.flatMap cI)) (fun _ => OW bt mt (t.filter fun e : WE => decide (e.k ∉ Z))) (fun w' hw h => hitW bt mt t hkt v1 v2 (ha.length + hb.length) (va ++ hb) hbo (by omega) Z hzv w' (fun w2 hc => ⟨own_in len_EV (stay' hw 0 4 rfl rfl (by decide) hc) (by omega), fun x hx => by
      rcases List.mem_append.1 hx with hx | hx
      · have h5 := inK (stay' hw 1 4 rfl rfl (by decide) hc) hx
        obtain ⟨y, hy, e⟩ := List.mem_map.1 (show x.v ∈ ha.map EV.v by rw [← hva]; exact List.mem_map.2 ⟨x, hx, rfl⟩)
        have h6 := hra.k y hy
        rw [e] at h6
        exact ⟨h5, h6.2⟩
      · exact (hrb.grow (oldGrow hw 4 rfl hc)).k x hx⟩) h) (fun _ => rfl) (fun _ _ _ => trivial) (fun qh => ?_)
    obtain ⟨z1, z2⟩ := qh
    have hk3 : OkP ((t.filter fun e : WE => decide (e.k ∉ Z)).map WE.vw) 1000 := by rw [vw_filt']; exact hkt.filt _
    have hp3 : ((t.filter fun e : WE => decide (e.k ∉ Z)).map WE.vw).Perm ((begV ops).filter fun q => decide (q.1 ∉ Z)) := by
      rw [vw_filt']
      exact hPt.filter _
    generalize (t.filter fun e : WE => decide (e.k ∉ Z)) = t2 at *
    refine mx_weak (H' := [ownd z1 z2 3 1 Z.length (Z.flatMap cI), ownd y1 y2 3 1 Y.length (Y.flatMap cI), ownd x1 x2 3 1 X.length (X.flatMap cI), star (OW bt mt t2), star (OW bx mp l2)]) (fun w h => h.pick [0, 3, 4, 5, 6] (by simp) rfl) (fun _ _ => trivial) ?_
    (repeat (first | ((refine (?_ : MX _ _ _ _ _ _ _ _ _ _ _)); first | refine mx_end ?_ | (refine mx_as _ rfl rfl (by conv => {lhs; whnf}) ?_) ) | refine cw_seq ?_ | refine cw_line rfl ?_ | refine cw_block ?_ | refine pw_then ?_ ))
    refine cw_loop (fun p : Nat => [(16, .int .i64 p), (15, .slice z1 Z.length z2), (12, .slice y1 Y.length y2), (11, .slice x1 X.length x2), (9, .pointer (some ⟨bt, 0, none⟩)), (7, .pointer (some ⟨bx, 0, none⟩))]) (fun p => [ownd z1 z2 3 1 Z.length (Z.flatMap cI), ownd y1 y2 3 1 Y.length (Y.flatMap cI), ownd x1 x2 3 1 X.length (X.flatMap cI), star (OW bt mt t2), star (OW bx mp l2)]) (fun p => p ≤ 10) (fun p => 10 - p) 0 (Nat.zero_le _) ⟨rfl, rfl, rfl, rfl, rfl, rfl, trivial⟩ (fun w h => h) ?_
    intro p jk2 hp
    by_cases h1 : (p : Int) < 10
    case pos =>
      rcases hpc (p : Int) with ⟨q1, q2, q3⟩ | ⟨q1, q2, q3⟩ | ⟨q1, q2, q3⟩
      · have d1 : decide ((p : Int) ∈ X) = true := decide_eq_true q1
        have d2 : decide ((p : Int) ∈ Y) = false := decide_eq_false q2
        have d3 : decide ((p : Int) ∈ Z) = true := decide_eq_true q3
        (repeat (first | ((refine (?_ : MX _ _ _ _ _ _ _ _ _ _ _)); first | refine mx_end ?_ | (refine mx_mv _ rfl rfl (by conv => {lhs; whnf}) ?_) | (refine g_bin rfl ?_; ( (refine mx_cmpl .lss rfl rfl rfl rfl rfl (by exact cmp_lt_t (by omega) ) ?_) ) ) ) | refine cw_seq ?_ | refine cw_line rfl ?_ | refine cw_block ?_ | refine cw_cond_t rfl ?_ | refine cw_skip ?_ | refine pw_then ?_ ))
        refine g_cf 30 rfl ?_; refine a_callv rfl rfl rfl rfl Try.func30 rfl rfl rfl (.bool true) (fun w' hw => by have h30 := has30 x1 x2 X (p : Int) (by omega) w' (own_in len_I (hw.holds 2 _ rfl) (Nat.le_refl _)); rw [d1] at h30; exact h30) rfl ?_
        (repeat (((refine (?_ : MX _ _ _ _ _ _ _ _ _ _ _)); first | (refine mx_mv _ rfl rfl (by conv => {lhs; whnf}) ?_) | (refine mx_skip rfl rfl rfl ?_) | (refine g_pick rfl ?_; refine mx_ort rfl rfl rfl rfl rfl ?_ ) ) ))
        refine g_cf 30 rfl ?_; refine a_callv rfl rfl rfl rfl Try.func30 rfl rfl rfl (.bool true) (fun w' hw => by have h30 := has30 z1 z2 Z (p : Int) (by omega) w' (own_in len_I (hw.holds 0 _ rfl) (Nat.le_refl _)); rw [d3] at h30; exact h30) rfl ?_
        (repeat (((refine (?_ : MX _ _ _ _ _ _ _ _ _ _ _)); first | (refine mx_mv _ rfl rfl (by conv => {lhs; whnf}) ?_) | (refine g_bin rfl ?_; refine mx_bnsame E rfl rfl rfl rfl rfl rfl rfl ?_ ) ) ))
        refine g_cf 30 rfl ?_; refine a_callv rfl rfl rfl rfl Try.func30 rfl rfl rfl (.bool true) (fun w' hw => by have h30 := has30 x1 x2 X (p : Int) (by omega) w' (own_in len_I (hw.holds 2 _ rfl) (Nat.le_refl _)); rw [d1] at h30; exact h30) rfl ?_
        (repeat (((refine (?_ : MX _ _ _ _ _ _ _ _ _ _ _)); (refine mx_mv _ rfl rfl (by conv => {lhs; whnf}) ?_) ) ))
        refine g_cf 30 rfl ?_; refine a_callv rfl rfl rfl rfl Try.func30 rfl rfl rfl (.bool false) (fun w' hw => by have h30 := has30 y1 y2 Y (p : Int) (by omega) w' (own_in len_I (hw.holds 1 _ rfl) (Nat.le_refl _)); rw [d2] at h30; exact h30) rfl ?_
        (repeat (first | ((refine (?_ : MX _ _ _ _ _ _ _ _ _ _ _)); first | refine mx_end ?_ | (refine mx_mv _ rfl rfl (by conv => {lhs; whnf}) ?_) | (refine mx_as _ rfl rfl (by conv => {lhs; whnf}) ?_) | (refine g_bin rfl ?_; ( refine mx_ar rfl rfl rfl rfl rfl rfl (IntWalk.i64_in _ (by omega)) rfl ?_ ) ) | (refine g_pick rfl ?_; first | refine mx_and rfl rfl rfl rfl rfl rfl ?_ | refine mx_or rfl rfl rfl rfl rfl rfl ?_ ) ) | refine cw_line rfl ?_ | refine cw_cond_f rfl ?_ | refine cw_skip ?_ | refine pw_then ?_ | refine pw_block ?_ ))
        exact pw_round (p + 1) (by omega) (by omega) ⟨rfl, rfl, rfl, rfl, rfl, rfl, trivial⟩ (fun w h => h)
      · have d1 : decide ((p : Int) ∈ X) = false := decide_eq_false q1
        have d2 : decide ((p : Int) ∈ Y) = true := decide_eq_true q2
        have d3 : decide ((p : Int) ∈ Z) = true := decide_eq_true q3
        (repeat (first | ((refine (?_ : MX _ _ _ _ _ _ _ _ _ _ _)); first | refine mx_end ?_ | (refine mx_mv _ rfl rfl (by conv => {lhs; whnf}) ?_) | (refine g_bin rfl ?_; ( (refine mx_cmpl .lss rfl rfl rfl rfl rfl (by exact cmp_lt_t (by omega) ) ?_) ) ) ) | refine cw_seq ?_ | refine cw_line rfl ?_ | refine cw_block ?_ | refine cw_cond_t rfl ?_ | refine cw_skip ?_ | refine pw_then ?_ ))
        refine g_cf 30 rfl ?_; refine a_callv rfl rfl rfl rfl Try.func30 rfl rfl rfl (.bool false) (fun w' hw => by have h30 := has30 x1 x2 X (p : Int) (by omega) w' (own_in len_I (hw.holds 2 _ rfl) (Nat.le_refl _)); rw [d1] at h30; exact h30) rfl ?_
        (repeat (((refine (?_ : MX _ _ _ _ _ _ _ _ _ _ _)); (refine mx_mv _ rfl rfl (by conv => {lhs; whnf}) ?_) ) ))
        refine g_cf 30 rfl ?_; refine a_callv rfl rfl rfl rfl Try.func30 rfl rfl rfl (.bool true) (fun w' hw => by have h30 := has30 y1 y2 Y (p : Int) (by omega) w' (own_in len_I (hw.holds 1 _ rfl) (Nat.le_refl _)); rw [d2] at h30; exact h30) rfl ?_
        (repeat (((refine (?_ : MX _ _ _ _ _ _ _ _ _ _ _)); first | (refine mx_mv _ rfl rfl (by conv => {lhs; whnf}) ?_) | (refine g_pick rfl ?_; refine mx_or rfl rfl rfl rfl rfl rfl ?_ ) ) ))
        refine g_cf 30 rfl ?_; refine a_callv rfl rfl rfl rfl Try.func30 rfl rfl rfl (.bool true) (fun w' hw => by have h30 := has30 z1 z2 Z (p : Int) (by omega) w' (own_in len_I (hw.holds 0 _ rfl) (Nat.le_refl _)); rw [d3] at h30; exact h30) rfl ?_
        (repeat (((refine (?_ : MX _ _ _ _ _ _ _ _ _ _ _)); first | (refine mx_mv _ rfl rfl (by conv => {lhs; whnf}) ?_) | (refine g_bin rfl ?_; refine mx_bnsame E rfl rfl rfl rfl rfl rfl rfl ?_ ) ) ))
        refine g_cf 30 rfl ?_; refine a_callv rfl rfl rfl rfl Try.func30 rfl rfl rfl (.bool false) (fun w' hw => by have h30 := has30 x1 x2 X (p : Int) (by omega) w' (own_in len_I (hw.holds 2 _ rfl) (Nat.le_refl _)); rw [d1] at h30; exact h30) rfl ?_
        (repeat (first | ((refine (?_ : MX _ _ _ _ _ _ _ _ _ _ _)); first | refine mx_end ?_ | (refine mx_mv _ rfl rfl (by conv => {lhs; whnf}) ?_) | (refine mx_as _ rfl rfl (by conv => {lhs; whnf}) ?_) | (refine g_bin rfl ?_; ( refine mx_ar rfl rfl rfl rfl rfl rfl (IntWalk.i64_in _ (by omega)) rfl ?_ ) ) | (refine mx_skip rfl rfl rfl ?_) | (refine g_pick rfl ?_; first | refine mx_andf rfl rfl rfl rfl rfl ?_ | refine mx_or rfl rfl rfl rfl rfl rfl ?_ ) ) | refine cw_line rfl ?_ | refine cw_cond_f rfl ?_ | refine cw_skip ?_ | refine pw_then ?_ | refine pw_block ?_ ))
        exact pw_round (p + 1) (by omega) (by omega) ⟨rfl, rfl, rfl, rfl, rfl, rfl, trivial⟩ (fun w h => h)
      · have d1 : decide ((p : Int) ∈ X) = false := decide_eq_false q1
        have d2 : decide ((p : Int) ∈ Y) = false := decide_eq_false q2
        have d3 : decide ((p : Int) ∈ Z) = false := decide_eq_false q3
        (repeat (first | ((refine (?_ : MX _ _ _ _ _ _ _ _ _ _ _)); first | refine mx_end ?_ | (refine mx_mv _ rfl rfl (by conv => {lhs; whnf}) ?_) | (refine g_bin rfl ?_; ( (refine mx_cmpl .lss rfl rfl rfl rfl rfl (by exact cmp_lt_t (by omega) ) ?_) ) ) ) | refine cw_seq ?_ | refine cw_line rfl ?_ | refine cw_block ?_ | refine cw_cond_t rfl ?_ | refine cw_skip ?_ | refine pw_then ?_ ))
        refine g_cf 30 rfl ?_; refine a_callv rfl rfl rfl rfl Try.func30 rfl rfl rfl (.bool false) (fun w' hw => by have h30 := has30 x1 x2 X (p : Int) (by omega) w' (own_in len_I (hw.holds 2 _ rfl) (Nat.le_refl _)); rw [d1] at h30; exact h30) rfl ?_
        (repeat (((refine (?_ : MX _ _ _ _ _ _ _ _ _ _ _)); (refine mx_mv _ rfl rfl (by conv => {lhs; whnf}) ?_) ) ))
        refine g_cf 30 rfl ?_; refine a_callv rfl rfl rfl rfl Try.func30 rfl rfl rfl (.bool false) (fun w' hw => by have h30 := has30 y1 y2 Y (p : Int) (by omega) w' (own_in len_I (hw.holds 1 _ rfl) (Nat.le_refl _)); rw [d2] at h30; exact h30) rfl ?_
        (repeat (((refine (?_ : MX _ _ _ _ _ _ _ _ _ _ _)); first | (refine mx_mv _ rfl rfl (by conv => {lhs; whnf}) ?_) | (refine g_pick rfl ?_; refine mx_or rfl rfl rfl rfl rfl rfl ?_ ) ) ))
        refine g_cf 30 rfl ?_; refine a_callv rfl rfl rfl rfl Try.func30 rfl rfl rfl (.bool false) (fun w' hw => by have h30 := has30 z1 z2 Z (p : Int) (by omega) w' (own_in len_I (hw.holds 0 _ rfl) (Nat.le_refl _)); rw [d3] at h30; exact h30) rfl ?_
        (repeat (((refine (?_ : MX _ _ _ _ _ _ _ _ _ _ _)); first | (refine mx_mv _ rfl rfl (by conv => {lhs; whnf}) ?_) | (refine g_bin rfl ?_; refine mx_bnsame E rfl rfl rfl rfl rfl rfl rfl ?_ ) ) ))
        refine g_cf 30 rfl ?_; refine a_callv rfl rfl rfl rfl Try.func30 rfl rfl rfl (.bool false) (fun w' hw => by have h30 := has30 x1 x2 X (p : Int) (by omega) w' (own_in len_I (hw.holds 2 _ rfl) (Nat.le_refl _)); rw [d1] at h30; exact h30) rfl ?_
        (repeat (first | ((refine (?_ : MX _ _ _ _ _ _ _ _ _ _ _)); first | refine mx_end ?_ | (refine mx_mv _ rfl rfl (by conv => {lhs; whnf}) ?_) | (refine mx_as _ rfl rfl (by conv => {lhs; whnf}) ?_) | (refine g_bin rfl ?_; ( refine mx_ar rfl rfl rfl rfl rfl rfl (IntWalk.i64_in _ (by omega)) rfl ?_ ) ) | (refine mx_skip rfl rfl rfl ?_) | (refine g_pick rfl ?_; first | refine mx_andf rfl rfl rfl rfl rfl ?_ | refine mx_or rfl rfl rfl rfl rfl rfl ?_ ) ) | refine cw_line rfl ?_ | refine cw_cond_f rfl ?_ | refine cw_skip ?_ | refine pw_then ?_ | refine pw_block ?_ ))
        exact pw_round (p + 1) (by omega) (by omega) ⟨rfl, rfl, rfl, rfl, rfl, rfl, trivial⟩ (fun w h => h)
    case neg =>
      obtain ⟨out, hout⟩ : ∃ out, progsV ((begV ops).filter fun q => decide (q.1 ∉ Z)) = out := ⟨_, rfl⟩
      have hol : out.length ≤ 100 := by rw [← hout]; exact Nat.le_trans those_len (hK.filt _).len
      have ho1 : progsV (l2.map WE.vw) = out := by rw [← hout]; exact those_congr hp2
      have ho2 : progsV (t2.map WE.vw) = out := by rw [← hout]; exact those_congr hp3
      (repeat (first | ((refine (?_ : MX _ _ _ _ _ _ _ _ _ _ _)); first | refine mx_end ?_ | (refine mx_mv _ rfl rfl (by conv => {lhs; whnf}) ?_) | (refine g_bin rfl ?_; ( (refine mx_cmpl .lss rfl rfl rfl rfl rfl (by exact cmp_lt_f (by omega) ) ?_) ) ) ) | refine cw_seq ?_ | refine cw_line rfl ?_ | refine cw_cond_f rfl ?_ | refine cw_exit ?_ | refine pw_then ?_ | refine pw_then_x ?_ | refine pw_block_e ?_ ))
      refine g_cf 26 rfl ?_
      refine a_co1 rfl rfl rfl rfl Try.func26 rfl rfl rfl (OW bx mp l2) (fun a : Option Addr × Nat => .slice a.1 out.length a.2) (fun a => ownd a.1 a.2 3 1 out.length (out.flatMap cI)) (fun _ => OW bx mp l2) (fun w' hw h => progsW bx mp l2 hk2 out ho1 w' h) (fun _ => rfl) (fun _ _ _ => trivial) (fun qp => ?_)
      obtain ⟨a4, c4⟩ := qp
      refine mx_weak (H' := [ownd a4 c4 3 1 out.length (out.flatMap cI), star (OW bt mt t2)]) (fun w h => h.pick [0, 4] (by simp) rfl) (fun _ _ => trivial) ?_
      (repeat (((refine (?_ : MX _ _ _ _ _ _ _ _ _ _ _)); (refine mx_mv _ rfl rfl (by conv => {lhs; whnf}) ?_) ) ))
      refine g_cf 26 rfl ?_
      refine a_co1 rfl rfl rfl rfl Try.func26 rfl rfl rfl (OW bt mt t2) (fun a : Option Addr × Nat => .slice a.1 out.length a.2) (fun a => ownd a.1 a.2 3 1 out.length (out.flatMap cI)) (fun _ => OW bt mt t2) (fun w' hw h => progsW bt mt t2 hk3 out ho2 w' h) (fun _ => rfl) (fun _ _ _ => trivial) (fun qp => ?_)
      obtain ⟨a5, c5⟩ := qp
      refine mx_weak (H' := [ownd a5 c5 3 1 out.length (out.flatMap cI), ownd a4 c4 3 1 out.length (out.flatMap cI)]) (fun w h => h.pick [0, 1] (by simp) rfl) (fun _ _ => trivial) ?_
      (repeat (first | ((refine (?_ : MX _ _ _ _ _ _ _ _ _ _ _)); first | refine mx_end ?_ | (refine mx_mv _ rfl rfl (by conv => {lhs; whnf}) ?_) | (refine mx_as _ rfl rfl (by conv => {lhs; whnf}) ?_) | (first | refine mx_fa0 E rfl rfl rfl rfl ?_ | refine mx_fa E rfl rfl rfl rfl ?_) | (refine g_load rfl ?_; first | refine mx_get E rfl rfl rfl rfl rfl (by first | assumption | rfl) rfl ?_ | refine mx_getn E rfl rfl rfl rfl rfl (by first | assumption | exact Vr.all rfl | exact ⟨⟨rfl⟩, rfl⟩) rfl ?_ | refine mx_oldn E rfl rfl rfl rfl rfl (by assumption) (by assumption) (rfl) rfl ?_ | refine mx_old1 E rfl rfl rfl rfl rfl (by assumption) (by assumption) rfl ?_ | refine mx_orow E rfl rfl rfl rfl rfl (by assumption) (by assumption) (by first | assumption | rfl) rfl ?_ | refine mx_orown E rfl rfl rfl rfl rfl (by assumption) (by assumption) (by first | assumption | exact Vr.all rfl | exact ⟨⟨rfl⟩, rfl⟩) rfl ?_ | refine mx_geta E rfl rfl rfl rfl rfl rfl (by first | assumption | rfl) rfl ?_ | refine mx_getna E rfl rfl rfl rfl rfl rfl (by first | assumption | exact Vr.all rfl | exact ⟨⟨rfl⟩, rfl⟩) rfl ?_) | (refine g_bin rfl ?_; first | (first | (refine mx_cmpl .eql rfl rfl rfl rfl rfl (by first | exact cmp_eq_t (by omega) | exact cmp_eq_f (by omega) | rfl) ?_) | (refine mx_cmpl .neq rfl rfl rfl rfl rfl (by first | exact cmp_ne_t (by omega) | exact cmp_ne_f (by omega) | rfl) ?_) | (refine mx_cmpl .lss rfl rfl rfl rfl rfl (by first | exact cmp_lt_t (by omega) | exact cmp_lt_f (by omega) | rfl) ?_) | (refine mx_cmpl .leq rfl rfl rfl rfl rfl (by first | exact cmp_le_t (by omega) | exact cmp_le_f (by omega) | rfl) ?_) | (refine mx_cmpl .gtr rfl rfl rfl rfl rfl (by first | exact cmp_gt_t (by omega) | exact cmp_gt_f (by omega) | rfl) ?_) | (refine mx_cmpl .geq rfl rfl rfl rfl rfl (by first | exact cmp_ge_t (by omega) | exact cmp_ge_f (by omega) | rfl) ?_)) | (first | refine mx_ar rfl rfl rfl rfl rfl rfl ((IntWalk.i64_in _ (by omega)).trans (by with_reducible assumption)) rfl ?_ | refine mx_ar rfl rfl rfl rfl rfl rfl (IntWalk.i64_in _ (by omega)) rfl ?_ | refine mx_ar rfl rfl rfl rfl rfl rfl (by with_reducible assumption) rfl ?_) | (first | refine mx_eqs rfl rfl rfl rfl rfl rfl ?_ | refine mx_nes rfl rfl rfl rfl rfl rfl ?_ | refine mx_eq rfl rfl rfl rfl rfl rfl ?_ | refine mx_ne rfl rfl rfl rfl rfl rfl ?_) | refine mx_bsame E rfl rfl rfl rfl rfl rfl rfl ?_ | refine mx_bnsame E rfl rfl rfl rfl rfl rfl rfl ?_ | refine mx_beq E rfl rfl rfl rfl rfl rfl rfl ?_ | refine mx_bne E rfl rfl rfl rfl rfl rfl rfl ?_ | refine mx_dv rfl rfl rfl rfl rfl (by decide) (congrArg some (by assumption)) rfl rfl ?_ | refine mx_dv rfl rfl rfl rfl rfl (by decide) rfl rfl rfl ?_ | refine mx_bit rfl rfl rfl rfl rfl (congrArg some (by assumption)) rfl rfl ?_ | refine mx_bit rfl rfl rfl rfl rfl rfl rfl rfl ?_ | refine mx_sh rfl rfl rfl rfl rfl (by omega) (congrArg some (by assumption)) rfl rfl ?_ | refine mx_sh rfl rfl rfl rfl rfl (by omega) rfl rfl rfl ?_) | (refine g_ix rfl ?_; first | refine mx_ixan E rfl rfl rfl rfl rfl rfl (by omega) rfl ?_ | refine mx_ixsn E rfl rfl rfl rfl rfl rfl (by omega) rfl ?_ | refine mx_ixsi E rfl rfl rfl rfl rfl rfl (by omega) (by omega) rfl ?_ | refine mx_ixa E rfl rfl rfl rfl rfl rfl (by omega) (by omega) rfl rfl ?_) | (refine mx_nc rfl rfl rfl ?_) | (refine g_bi .len rfl ?_; refine mx_len E rfl rfl rfl rfl ?_) | (refine mx_not rfl rfl rfl ?_) | (refine mx_ex _ rfl rfl rfl (by conv => {lhs; whnf}) ?_) | (refine mx_skip rfl rfl rfl ?_) | (refine g_pick rfl ?_; first | refine mx_andf rfl rfl rfl rfl rfl ?_ | refine mx_ort rfl rfl rfl rfl rfl ?_ | refine mx_and rfl rfl rfl rfl rfl rfl ?_ | refine mx_or rfl rfl rfl rfl rfl rfl ?_ | refine mx_pickt _ rfl rfl rfl rfl (by conv => {lhs; whnf}) rfl ?_ | refine mx_pickf _ rfl rfl rfl rfl (by conv => {lhs; whnf}) rfl ?_) | (refine g_store rfl ?_; first | refine s_l E rfl rfl rfl rfl rfl rfl rfl (by first | assumption | exact Sp.all rfl | exact Sp.lit rfl rfl) rfl ?_ | refine s_1 E rfl rfl rfl rfl rfl rfl rfl rfl (by first | assumption | exact sp0 | exact spS sp0 | exact spS (spS sp0) | exact Sp.lit rfl rfl) rfl ?_) | (refine g_build rfl ?_; first | refine mx_build rfl rfl rfl rfl b83 rfl ?_ | refine mx_build rfl rfl rfl rfl (b32 _ _ _) rfl ?_ | refine mx_build rfl rfl rfl rfl (b49c _) rfl ?_ | refine mx_build rfl rfl rfl rfl (b49d _ _) rfl ?_) | (refine a_new rfl rfl rfl rfl rfl (fun _ => ?_)) | (refine g_box rfl ?_; first | refine a_boxl rfl rfl rfl rfl rfl rfl (fun _ => ?_) | refine a_box1 rfl rfl rfl rfl rfl rfl rfl (fun _ => ?_)) | (first | refine mx_indexn E rfl rfl rfl rfl rfl rfl rfl rfl (by omega) (by first | exact vr_RR _ (by omega)) rfl ?_ | refine mx_index E rfl rfl rfl rfl rfl rfl rfl rfl (by omega) (by omega) (by first | exact vr_RR _ (by omega)) rfl ?_) | (refine g_bs rfl ?_; first | refine a_bs0 E rfl rfl rfl rfl rfl rfl (fun _ => ?_) | refine a_bsi E rfl rfl rfl rfl rfl (by (repeat (first | exact EvI.nil | (apply EvI.cons; rfl)))) (by rfl) (by rfl) (by rfl) rfl (fun _ => ?_)) | (refine g_conv rfl ?_; first | refine mx_cv E rfl rfl rfl rfl rfl rfl (by assumption) rfl ?_ | refine mx_cv E rfl rfl rfl rfl rfl rfl (IntWalk.i64_in _ (by omega)) rfl ?_ | refine mx_cv E rfl rfl rfl rfl rfl rfl (IntWalk.u64_in _ (by omega)) rfl ?_ | refine mx_cv E rfl rfl rfl rfl rfl rfl (IntWalk.u8_in _ (by omega)) rfl ?_ | refine mx_cv E rfl rfl rfl rfl rfl rfl rfl rfl ?_) | (first | (refine g_bi .max rfl ?_; refine mx_maxi rfl rfl rfl rfl rfl rfl rfl ?_) | (refine g_bi .min rfl ?_; refine mx_mini rfl rfl rfl rfl rfl rfl rfl ?_)) | (first | refine mx_nilp rfl rfl false rfl (by kernel_rfl) rfl rfl rfl rfl ?_ | refine mx_streq rfl rfl rfl rfl rfl rfl ?_ | refine mx_fn rfl rfl rfl rfl rfl rfl ?_) | (fail)) | refine cw_seq ?_ | refine cw_line rfl ?_ | (fail) | refine cw_block ?_ | refine cw_cond_f rfl ?_ | refine cw_cond_t rfl ?_ | refine cw_skip ?_ | refine cw_exit ?_ | refine cw_ret ?_ | refine pw_then ?_ | refine pw_then_x ?_ | refine pw_then_r ?_ | refine pw_block ?_ | refine pw_block_e ?_ | refine pw_block_n rfl ?_ | refine pw_block_r ?_))
      refine g_cf 21 rfl ?_
      refine a_callv rfl rfl rfl rfl Try.func21 rfl rfl rfl (.bool true) (fun w' hw => same21 a4 a5 c4 c5 out (by omega) w' (own_in len_I (hw.holds 1 _ rfl) (Nat.le_refl _)) (own_in len_I (hw.holds 0 _ rfl) (Nat.le_refl _))) rfl ?_
      (repeat (((refine (?_ : MX _ _ _ _ _ _ _ _ _ _ _)); (refine mx_mv _ rfl rfl (by conv => {lhs; whnf}) ?_) ) ))
      refine g_cf 12 rfl ?_
      refine a_callv rfl rfl rfl rfl Try.func12 rfl rfl rfl (.bool true) (fun w' hw => works12 w') rfl ?_
      (repeat (first | ((refine (?_ : MX _ _ _ _ _ _ _ _ _ _ _)); first | refine mx_end ?_ | (refine mx_as _ rfl rfl (by conv => {lhs; whnf}) ?_) | (refine g_pick rfl ?_; refine mx_and rfl rfl rfl rfl rfl rfl ?_ ) ) | refine cw_ret ?_ | refine pw_then ?_ ))
      exact pw_ret rfl rfl rfl rfl fun w hw => ⟨rfl, hw.keep.grow⟩
end Go.Proofs.Ytikdbgheefjpkaa
