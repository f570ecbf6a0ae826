/- The document's answer: where a program begins, a form laid behind others. -/
import Derived.Test.YtdkolggmabnifaaIt
set_option maxRecDepth 100000
set_option maxHeartbeats 8000000
set_option linter.unusedSimpArgs false
set_option linter.unusedVariables false
namespace Go.Proofs.Ytdkolggmabnifaa
open Go Go.Sx Go.RowKit
@[reducible] def cL (p : Int × Int) : List Value := [.int .i64 p.1, .int .i64 p.2]
theorem len_L (x : Int × Int) : (cL x).length = 2 := rfl
theorem bgL_cons (k : Int) (p : Int × Int) (l : List (Int × Int)) : bgL k (p :: l) = if p.1 = k then some p.2 else bgL k l := by
  unfold bgL
  rw [List.find?_cons]
  by_cases h : p.1 = k
  · rw [decide_eq_true h, if_pos h]; rfl
  · rw [decide_eq_false h, if_neg h]
theorem at38 (ad : Option Addr) (cap : Nat) (l : List (Int × Int)) (p : Int) (hs : l.length ≤ 1000) (w : World) (hl : InL w ad 2 cL l) :
    Calls Try.prog 38 #[.slice ad l.length cap, .int .i64 p] w fun e w' => e = .returned (.tuple #[.int .i64 ((bgL p l).getD 0), .bool (bgL p l).isSome]) ∧ Grow w w' := by
  refine enter2 (S := fun _ => False) 25 Try.func38 rfl rfl rfl (Ok.start w) ?_
  (repeat (first | ((refine (?_ : MX _ _ _ _ _ _ _ _ _ _ _)); first | refine mx_end ?_ | (refine mx_as _ rfl rfl (by conv => {lhs; whnf}) ?_) ) | refine cw_seq ?_ | refine cw_line rfl ?_ | refine cw_block ?_ | refine pw_then ?_ ))
  refine cw_loop (fun i : Nat => [(6, .int .i64 i), (0, .slice ad l.length cap), (1, .int .i64 p)]) (fun i => []) (fun i => i ≤ l.length ∧ bgL p l = bgL p (l.drop i)) (fun i => l.length - i) 0 ⟨Nat.zero_le _, rfl⟩ ⟨rfl, rfl, rfl, trivial⟩ (fun w h => h) ?_
  intro i jk ⟨hi, hb⟩
  by_cases h0 : (i : Int) < l.length
  case neg =>
    have hin : i = l.length := by omega
    rw [hin, List.drop_length] at hb
    rw [hb]
    (repeat (first | ((refine (?_ : MX _ _ _ _ _ _ _ _ _ _ _)); first | refine mx_end ?_ | (refine mx_mv _ rfl rfl (by conv => {lhs; whnf}) ?_) | (refine mx_as _ rfl rfl (by conv => {lhs; whnf}) ?_) | (refine g_bin rfl ?_; ( (refine mx_cmpl .lss rfl rfl rfl rfl rfl (by exact cmp_lt_f (by omega) ) ?_) ) ) | (refine g_bi .len rfl ?_; refine mx_len E rfl rfl rfl rfl ?_) ) | refine cw_seq ?_ | refine cw_line rfl ?_ | refine cw_cond_f rfl ?_ | refine cw_exit ?_ | refine cw_ret ?_ | refine pw_then ?_ | refine pw_then_x ?_ | refine pw_block_e ?_ ))
    exact pw_rets rfl [_, _] ⟨rfl, rfl, trivial⟩ rfl fun w hw => ⟨rfl, hw.keep.grow⟩
  obtain ⟨x, hx⟩ := getElem_some (xs := l) (i := i) (by omega)
  obtain ⟨b4, off, e, hcc⟩ := inl_at hl hx
  subst e
  have hS : ¬ (fun _ : Nat => False) b4 := id
  have hc1 : w.cell? ⟨b4, off + i * 2, none⟩ = some (.int .i64 x.1) := hcc 0 _ rfl
  have hc2 : w.cell? ⟨b4, off + i * 2 + 1, none⟩ = some (.int .i64 x.2) := hcc 1 _ rfl
  have hdr : l.drop i = x :: l.drop (i + 1) := by
    rw [List.drop_eq_getElem_cons (by omega)]
    congr 1
    exact (List.getElem?_eq_some_iff.1 hx).2
  rw [hdr, bgL_cons] at hb
  by_cases hq : x.1 = p
  · rw [if_pos hq] at hb
    rw [hb]
    (repeat (first | ((refine (?_ : MX _ _ _ _ _ _ _ _ _ _ _)); first | refine mx_end ?_ | (refine mx_mv _ rfl rfl (by conv => {lhs; whnf}) ?_) | (refine mx_as _ rfl rfl (by conv => {lhs; whnf}) ?_) | (first | refine mx_fa0 E rfl rfl rfl rfl ?_ | refine mx_fa E rfl rfl rfl rfl ?_) | (refine g_load rfl ?_; refine mx_old1 E rfl rfl rfl rfl rfl (by assumption) (by assumption) rfl ?_ ) | (refine g_bin rfl ?_; (first | (refine mx_cmpl .eql rfl rfl rfl rfl rfl (by exact cmp_eq_t (by omega) ) ?_) | (refine mx_cmpl .lss rfl rfl rfl rfl rfl (by exact cmp_lt_t (by omega) ) ?_) ) ) | (refine g_ix rfl ?_; refine mx_ixsn E rfl rfl rfl rfl rfl rfl (by omega) rfl ?_ ) | (refine g_bi .len rfl ?_; refine mx_len E rfl rfl rfl rfl ?_) ) | refine cw_seq ?_ | refine cw_line rfl ?_ | refine cw_block ?_ | refine cw_cond_t rfl ?_ | refine cw_skip ?_ | refine cw_ret ?_ | refine pw_then ?_ | refine pw_then_r ?_ | refine pw_block_r ?_))
    exact pw_rets rfl [_, _] ⟨rfl, rfl, trivial⟩ rfl fun w hw => ⟨rfl, hw.keep.grow⟩
  · rw [if_neg hq] at hb
    (repeat (first | ((refine (?_ : MX _ _ _ _ _ _ _ _ _ _ _)); first | refine mx_end ?_ | (refine mx_mv _ rfl rfl (by conv => {lhs; whnf}) ?_) | (refine mx_as _ rfl rfl (by conv => {lhs; whnf}) ?_) | (refine mx_fa0 E rfl rfl rfl rfl ?_ ) | (refine g_load rfl ?_; refine mx_old1 E rfl rfl rfl rfl rfl (by assumption) (by assumption) rfl ?_ ) | (refine g_bin rfl ?_; first | (first | (refine mx_cmpl .eql rfl rfl rfl rfl rfl (by exact cmp_eq_f (by omega) ) ?_) | (refine mx_cmpl .lss rfl rfl rfl rfl rfl (by exact cmp_lt_t (by omega) ) ?_) ) | ( refine mx_ar rfl rfl rfl rfl rfl rfl (IntWalk.i64_in _ (by omega)) rfl ?_ ) ) | (refine g_ix rfl ?_; refine mx_ixsn E rfl rfl rfl rfl rfl rfl (by omega) rfl ?_ ) | (refine g_bi .len rfl ?_; refine mx_len E rfl rfl rfl rfl ?_) ) | refine cw_seq ?_ | refine cw_line rfl ?_ | refine cw_block ?_ | refine cw_cond_f rfl ?_ | refine cw_cond_t rfl ?_ | refine cw_skip ?_ | refine pw_then ?_ | refine pw_block ?_ ))
    exact pw_round (i + 1) ⟨by omega, hb⟩ (by omega) ⟨rfl, rfl, rfl, trivial⟩ (fun w h => h)
/-- What the document's form has of memory. -/
def OL (s : CD) : List Res := [ownd s.oa s.oc 36 15 s.ops.length (s.ops.flatMap cOP), allF s.ops, ownd s.ea s.ec 47 5 s.evs.length (s.evs.flatMap cEV), allK s.evs]
theorem fm_congr {α β : Type} {f g : α → List β} : ∀ {l : List α}, (∀ x ∈ l, f x = g x) → l.flatMap f = l.flatMap g
  | [], _ => rfl
  | x :: l, h => by rw [List.flatMap_cons, List.flatMap_cons, h x (by simp), fm_congr fun y hy => h y (List.mem_cons_of_mem _ hy)]
theorem allF_mv (d : Int) (l : List OP) : allF (l.map (OP.mv · d)) = allF l := by
  unfold allF
  rw [List.flatMap_map]
  congr 1
  exact fm_congr fun o _ => by
    have hh : (o.v.mv d).held = o.v.held ∧ (o.v.mv d).need = o.v.need := by unfold VO.mv; split <;> exact ⟨rfl, rfl⟩
    show [ownd o.ha o.hc 51 2 (o.v.mv d).held.length ((o.v.mv d).held.flatMap cFL), ownd o.na o.nc 51 2 (o.v.mv d).need.length ((o.v.mv d).need.flatMap cFL)] = _
    rw [hh.1, hh.2]
    rfl
structure Laid (out c s : CD) : Prop where
  p : s.prog = out.prog
  t : s.ta = out.ta ∧ s.tc = out.tc ∧ s.at' = out.at'
  o : s.ops.map (·.v) = out.ops.map (·.v) ++ (c.ops.map (·.v)).map (VO.mv out.ops.length)
  e : s.evs.map (·.v) = (c.evs.map (·.v)).foldl addE (out.evs.map (·.v))
theorem lay37 (out c : CD) (N : Nat) (hol : out.ops.length ≤ 2000) (hel : out.evs.length ≤ 1000) (hok : ∀ v ∈ out.evs, v.v.key.length ≤ 100000) (hc0 : 0 < c.ops.length) (hcs : c.ops.length ≤ 2000 ∧ c.at'.length ≤ 1000 ∧ c.evs.length ≤ 1000) (htg : ∀ o ∈ c.ops, o.v.tgt ≤ 100000 ∧ -100000 ≤ o.v.tgt) (w : World) (h0 : Ok (domL (OL out)) w (OL out) w) (hN : ∀ b, domL (OL out) b → N ≤ b) (hr : RdC N w c) :
    Calls Try.prog 37 #[.agg (cCD out).toArray, .agg (cCD c).toArray] w fun r w' => ∃ s : {s : CD // Laid out c s}, r = .returned (.agg (cCD s.1).toArray) ∧ Ok (domL (OL out)) w (OL s.1) w' := by
  obtain ⟨hcs1, hcs2, hcs3⟩ := hcs
  refine enter2 (S := domL (OL out)) (H := [ownd out.oa out.oc 36 15 out.ops.length (out.ops.flatMap cOP), allF out.ops, ownd out.ea out.ec 47 5 out.evs.length (out.evs.flatMap cEV), allK out.evs]) 83 Try.func37 rfl rfl rfl h0 ?_
  (repeat (first | ((refine (?_ : MX _ _ _ _ _ _ _ _ _ _ _)); first | refine mx_end ?_ | (refine mx_as _ rfl rfl (by conv => {lhs; whnf}) ?_) | ( refine mx_fa E rfl rfl rfl rfl ?_) | (refine g_load rfl ?_; first | refine mx_get E rfl rfl rfl rfl rfl (by rfl) rfl ?_ | refine mx_getn E rfl rfl rfl rfl rfl (by exact Vr.all rfl ) rfl ?_ ) | (refine g_bi .len rfl ?_; refine mx_len E rfl rfl rfl rfl ?_) | (refine a_new rfl rfl rfl rfl rfl (fun _ => ?_)) | (refine g_box rfl ?_; refine a_boxl rfl rfl rfl rfl rfl rfl (fun _ => ?_) ) ) | refine cw_seq ?_ | refine cw_line rfl ?_ | refine pw_then ?_ ))
  rename_i b2 b3 b4
  refine g_cf 30 rfl ?_
  refine a_callL rfl rfl rfl rfl Try.func30 rfl rfl rfl [] _ rfl (fun a : {a : CD // a.vc = c.vc} => .agg (cCD a.1).toArray) (fun a => OCd a.1) (fun w' hw _ => copyC30 c (by omega) w' (hr.keep hw hN).d) (fun _ => rfl) (fun _ _ _ => trivial) (fun q => ?_)
  obtain ⟨⟨dp, doa, doc, dops, dta, dtc, dat, dea, dec, devs⟩, hd⟩ := q
  have hdo : dops.map (·.v) = c.ops.map (·.v) := congrArg VC.ops hd
  have hde : devs.map (·.v) = c.evs.map (·.v) := congrArg VC.evs hd
  have hdol : dops.length = c.ops.length := by have := congrArg List.length hdo; simpa using this
  have hdel : devs.length = c.evs.length := by have := congrArg List.length hde; simpa using this
  have hdtg : ∀ o ∈ dops, o.v.tgt ≤ 100000 ∧ -100000 ≤ o.v.tgt := fun o ho => by
    have h1 : o.v ∈ c.ops.map (·.v) := by rw [← hdo]; exact List.mem_map.2 ⟨o, ho, rfl⟩
    obtain ⟨x, hx, e⟩ := List.mem_map.1 h1
    rw [← e]
    exact htg x hx
  have hdk : ∀ e ∈ devs, e.v.key.length ≤ 1000 := fun e he => by
    have h1 : e.v ∈ c.evs.map (·.v) := by rw [← hde]; exact List.mem_map.2 ⟨e, he, rfl⟩
    obtain ⟨x, hx, ex⟩ := List.mem_map.1 h1
    rw [← ex]
    exact (hr.es x hx).2.2
  refine mx_weak (H' := [ownd doa doc 36 15 dops.length (dops.flatMap cOP), allF dops, ownd dea dec 47 5 devs.length (devs.flatMap cEV), allK devs, row b4 26 z26, row b3 26 (cCD c), row b2 26 (cCD out), ownd out.oa out.oc 36 15 out.ops.length (out.ops.flatMap cOP), allF out.ops, ownd out.ea out.ec 47 5 out.evs.length (out.evs.flatMap cEV), allK out.evs]) (fun w1 h => h.pick [0, 1, 3, 4, 5, 6, 7, 8, 9, 10, 11] (by simp) rfl) (fun _ _ => trivial) ?_
  (repeat (first | ((refine (?_ : MX _ _ _ _ _ _ _ _ _ _ _)); first | refine mx_end ?_ | (refine mx_as _ rfl rfl (by conv => {lhs; whnf}) ?_) | (refine g_store rfl ?_; refine s_l E rfl rfl rfl rfl rfl rfl rfl (by exact Sp.all rfl ) rfl ?_ ) ) | refine cw_seq ?_ | refine cw_line rfl ?_ | refine cw_block ?_ | refine pw_then ?_ ))
  refine cw_know (p := ∃ b, doa = some ⟨b, 0, none⟩) (fun w hw => by obtain ⟨b, e, _⟩ := (own_at (hw.holds 0 _ rfl)).2.1 (by omega); exact ⟨b, e⟩) (fun hb => ?_)
  obtain ⟨bd, rfl⟩ := hb
  refine cw_ex (fun rest => [row bd 36 (dops.flatMap cOP ++ rest), allF dops, ownd dea dec 47 5 devs.length (devs.flatMap cEV), allK devs, row b4 26 z26, row b3 26 [.int .i64 dp, .slice (some ⟨bd, 0, none⟩) dops.length doc, .slice dta dat.length dtc, .slice dea devs.length dec], row b2 26 (cCD out), ownd out.oa out.oc 36 15 out.ops.length (out.ops.flatMap cOP), allF out.ops, ownd out.ea out.ec 47 5 out.evs.length (out.evs.flatMap cEV), allK out.evs]) _ (fun w hw => (ok_open 0 rfl hw).imp fun rest h => ⟨h.1, h.2⟩) (fun rest he => ?_)
  refine cw_loop (ι := Nat × Option Addr × Nat) (fun q => [(6, .int .i64 q.1), (5, .int .i64 out.ops.length), (2, .pointer (some ⟨b2, 0, none⟩)), (3, .pointer (some ⟨b3, 0, none⟩)), (4, .pointer (some ⟨b4, 0, none⟩))]) (fun q => [row b2 26 [.int .i64 out.prog, .slice q.2.1 (out.ops.length + q.1) q.2.2, .slice out.ta out.at'.length out.tc, .slice out.ea out.evs.length out.ec], ownd q.2.1 q.2.2 36 15 (out.ops.length + q.1) ((out.ops ++ (dops.take q.1).map (OP.mv · (out.ops.length : Int))).flatMap cOP), row b3 26 [.int .i64 dp, .slice (some ⟨bd, 0, none⟩) dops.length doc, .slice dta dat.length dtc, .slice dea devs.length dec], row bd 36 (dops.flatMap cOP ++ rest), allF dops, ownd dea dec 47 5 devs.length (devs.flatMap cEV), allK devs, row b4 26 z26, allF out.ops, ownd out.ea out.ec 47 5 out.evs.length (out.evs.flatMap cEV), allK out.evs]) (fun q => q.1 ≤ dops.length) (fun q => dops.length - q.1) (0, out.oa, out.oc) (Nat.zero_le _) ⟨rfl, rfl, rfl, rfl, rfl, trivial⟩ (fun w h => by
    show Ok _ _ [row b2 26 [.int .i64 out.prog, .slice out.oa (out.ops.length + 0) out.oc, .slice out.ta out.at'.length out.tc, .slice out.ea out.evs.length out.ec], ownd out.oa out.oc 36 15 (out.ops.length + 0) ((out.ops ++ []).flatMap cOP), row b3 26 [.int .i64 dp, .slice (some ⟨bd, 0, none⟩) dops.length doc, .slice dta dat.length dtc, .slice dea devs.length dec], row bd 36 (dops.flatMap cOP ++ rest), allF dops, ownd dea dec 47 5 devs.length (devs.flatMap cEV), allK devs, row b4 26 z26, allF out.ops, ownd out.ea out.ec 47 5 out.evs.length (out.evs.flatMap cEV), allK out.evs] w
    rw [List.append_nil]
    exact h.pick [6, 7, 5, 0, 1, 2, 3, 4, 8, 9, 10] (by simp) rfl) ?_
  rintro ⟨i, ⟨oa', oc'⟩⟩ jk hi
  dsimp only at hi ⊢
  by_cases hil : (i : Int) < dops.length
  case pos =>
    obtain ⟨x, hx⟩ := getElem_some (xs := dops) (i := i) (by omega)
    have hxt := hdtg x (List.mem_of_getElem? hx)
    have hvx : Vr (dops.flatMap cOP ++ rest) (0 + i * 15) 15 (cOP x) := vr_all len_OP hx rest (by omega)
    have e3 : (out.ops ++ (dops.take i).map (OP.mv · (out.ops.length : Int))).flatMap cOP ++ cOP (x.mv (out.ops.length : Int)) = (out.ops ++ (dops.take (i + 1)).map (OP.mv · (out.ops.length : Int))).flatMap cOP := by
      rw [List.take_add_one, hx, List.map_append, List.flatMap_append, List.flatMap_append, List.flatMap_append]
      simp
    by_cases htt : x.v.tgt ≥ 0
    · have hmv : cOP ⟨{ x.v with tgt := x.v.tgt + (out.ops.length : Int) }, x.ha, x.hc, x.na, x.nc⟩ = cOP (x.mv (out.ops.length : Int)) := by
        have : (x.mv (out.ops.length : Int)) = ⟨{ x.v with tgt := x.v.tgt + (out.ops.length : Int) }, x.ha, x.hc, x.na, x.nc⟩ := by
          show ({ x with v := x.v.mv _ } : OP) = _
          unfold VO.mv
          rw [if_pos htt]
        rw [this]
      (repeat (first | ((refine (?_ : MX _ _ _ _ _ _ _ _ _ _ _)); first | refine mx_end ?_ | (refine mx_mv _ rfl rfl (by conv => {lhs; whnf}) ?_) | ( refine mx_fa E rfl rfl rfl rfl ?_) | (refine g_load rfl ?_; first | refine mx_get E rfl rfl rfl rfl rfl (by rfl) rfl ?_ | refine mx_getn E rfl rfl rfl rfl rfl (by first | assumption | exact Vr.all rfl ) rfl ?_ ) | (refine g_bin rfl ?_; first | (first | (refine mx_cmpl .lss rfl rfl rfl rfl rfl (by exact cmp_lt_t (by omega) ) ?_) | (refine mx_cmpl .geq rfl rfl rfl rfl rfl (by exact cmp_ge_t (by omega) ) ?_)) | ( refine mx_ar rfl rfl rfl rfl rfl rfl (IntWalk.i64_in _ (by omega)) rfl ?_ ) ) | (refine g_ix rfl ?_; refine mx_ixsn E rfl rfl rfl rfl rfl rfl (by omega) rfl ?_ ) | (refine g_bi .len rfl ?_; refine mx_len E rfl rfl rfl rfl ?_) | (refine g_store rfl ?_; first | refine s_l E rfl rfl rfl rfl rfl rfl rfl (by exact Sp.all rfl ) rfl ?_ | refine s_1 E rfl rfl rfl rfl rfl rfl rfl rfl (by exact Sp.lit rfl rfl) rfl ?_) | (refine a_new rfl rfl rfl rfl rfl (fun _ => ?_)) ) | refine cw_seq ?_ | refine cw_line rfl ?_ | refine cw_block ?_ | refine cw_cond_t rfl ?_ | refine cw_skip ?_ | refine pw_then ?_ ))
      refine g_bs rfl ?_
      refine a_bslice1 E rfl rfl rfl rfl (us := cOP ⟨{ x.v with tgt := x.v.tgt + (out.ops.length : Int) }, x.ha, x.hc, x.na, x.nc⟩) rfl rfl rfl rfl rfl rfl (fun b9 => ?_)
      refine g_bi .append rfl ?_
      refine a_app E rfl rfl rfl rfl rfl rfl rfl rfl (cOP ⟨{ x.v with tgt := x.v.tgt + (out.ops.length : Int) }, x.ha, x.hc, x.na, x.nc⟩) rfl (fun w hw => fun _ => ⟨b9, 0, rfl, fun j u hj => by rw [add_at, Nat.zero_add]; exact row_cell (hw.holds 0 _ rfl) hj⟩) (by rfl) (by omega) rfl (fun _ _ _ _ => trivial) (fun a2 c2 => ?_)
      rw [hmv, e3]
      (repeat (first | ((refine (?_ : MX _ _ _ _ _ _ _ _ _ _ _)); first | refine mx_end ?_ | (refine mx_mv _ rfl rfl (by conv => {lhs; whnf}) ?_) | (refine mx_as _ rfl rfl (by conv => {lhs; whnf}) ?_) | ( refine mx_fa E rfl rfl rfl rfl ?_) | (refine g_bin rfl ?_; ( refine mx_ar rfl rfl rfl rfl rfl rfl (IntWalk.i64_in _ (by omega)) rfl ?_ ) ) | (refine g_store rfl ?_; refine s_1 E rfl rfl rfl rfl rfl rfl rfl rfl (by exact spS sp0 ) rfl ?_) ) | refine cw_line rfl ?_ | refine pw_then ?_ | refine pw_block ?_ ))
      exact pw_round (i + 1, a2, c2) (by show i + 1 ≤ dops.length; omega) (by show dops.length - (i + 1) < dops.length - i; omega) ⟨rfl, rfl, rfl, rfl, rfl, trivial⟩ (fun w h => h.pick [2, 3, 4, 5, 6, 7, 8, 9, 10, 11, 12] (by simp) rfl)
    · have hmv : cOP x = cOP (x.mv (out.ops.length : Int)) := by
        have : (x.mv (out.ops.length : Int)) = x := by
          show ({ x with v := x.v.mv _ } : OP) = _
          unfold VO.mv
          rw [if_neg htt]
        rw [this]
      (repeat (first | ((refine (?_ : MX _ _ _ _ _ _ _ _ _ _ _)); first | refine mx_end ?_ | (refine mx_mv _ rfl rfl (by conv => {lhs; whnf}) ?_) | ( refine mx_fa E rfl rfl rfl rfl ?_) | (refine g_load rfl ?_; first | refine mx_get E rfl rfl rfl rfl rfl (by rfl) rfl ?_ | refine mx_getn E rfl rfl rfl rfl rfl (by first | assumption | exact Vr.all rfl ) rfl ?_ ) | (refine g_bin rfl ?_; (first | (refine mx_cmpl .lss rfl rfl rfl rfl rfl (by exact cmp_lt_t (by omega) ) ?_) | (refine mx_cmpl .geq rfl rfl rfl rfl rfl (by exact cmp_ge_f (by omega) ) ?_)) ) | (refine g_ix rfl ?_; refine mx_ixsn E rfl rfl rfl rfl rfl rfl (by omega) rfl ?_ ) | (refine g_bi .len rfl ?_; refine mx_len E rfl rfl rfl rfl ?_) | (refine g_store rfl ?_; refine s_l E rfl rfl rfl rfl rfl rfl rfl (by exact Sp.all rfl ) rfl ?_ ) | (refine a_new rfl rfl rfl rfl rfl (fun _ => ?_)) ) | refine cw_seq ?_ | refine cw_line rfl ?_ | refine cw_block ?_ | refine cw_cond_f rfl ?_ | refine cw_cond_t rfl ?_ | refine cw_skip ?_ | refine pw_then ?_ ))
      refine g_bs rfl ?_
      refine a_bslice1 E rfl rfl rfl rfl (us := cOP x) rfl rfl rfl rfl rfl rfl (fun b9 => ?_)
      refine g_bi .append rfl ?_
      refine a_app E rfl rfl rfl rfl rfl rfl rfl rfl (cOP x) rfl (fun w hw => fun _ => ⟨b9, 0, rfl, fun j u hj => by rw [add_at, Nat.zero_add]; exact row_cell (hw.holds 0 _ rfl) hj⟩) (by rfl) (by omega) rfl (fun _ _ _ _ => trivial) (fun a2 c2 => ?_)
      rw [hmv, e3]
      (repeat (first | ((refine (?_ : MX _ _ _ _ _ _ _ _ _ _ _)); first | refine mx_end ?_ | (refine mx_mv _ rfl rfl (by conv => {lhs; whnf}) ?_) | (refine mx_as _ rfl rfl (by conv => {lhs; whnf}) ?_) | ( refine mx_fa E rfl rfl rfl rfl ?_) | (refine g_bin rfl ?_; ( refine mx_ar rfl rfl rfl rfl rfl rfl (IntWalk.i64_in _ (by omega)) rfl ?_ ) ) | (refine g_store rfl ?_; refine s_1 E rfl rfl rfl rfl rfl rfl rfl rfl (by exact spS sp0 ) rfl ?_) ) | refine cw_line rfl ?_ | refine pw_then ?_ | refine pw_block ?_ ))
      exact pw_round (i + 1, a2, c2) (by show i + 1 ≤ dops.length; omega) (by show dops.length - (i + 1) < dops.length - i; omega) ⟨rfl, rfl, rfl, rfl, rfl, trivial⟩ (fun w h => h.pick [2, 3, 4, 5, 6, 7, 8, 9, 10, 11, 12] (by simp) rfl)
  obtain rfl : i = dops.length := by omega
  rw [List.take_length]
  (repeat (first | ((refine (?_ : MX _ _ _ _ _ _ _ _ _ _ _)); first | refine mx_end ?_ | (refine mx_mv _ rfl rfl (by conv => {lhs; whnf}) ?_) | (refine mx_as _ rfl rfl (by conv => {lhs; whnf}) ?_) | ( refine mx_fa E rfl rfl rfl rfl ?_) | (refine g_load rfl ?_; refine mx_get E rfl rfl rfl rfl rfl (by rfl) rfl ?_ ) | (refine g_bin rfl ?_; ( (refine mx_cmpl .lss rfl rfl rfl rfl rfl (by exact cmp_lt_f (by omega) ) ?_) ) ) | (refine g_bi .len rfl ?_; refine mx_len E rfl rfl rfl rfl ?_) ) | refine cw_seq ?_ | refine cw_line rfl ?_ | refine cw_block ?_ | refine cw_cond_f rfl ?_ | refine cw_exit ?_ | refine pw_then ?_ | refine pw_then_x ?_ | refine pw_block_e ?_ ))
  refine cw_loop (ι := Nat × (Option Addr × Nat) × List EV) (fun q => [(8, .int .i64 q.1), (2, .pointer (some ⟨b2, 0, none⟩)), (3, .pointer (some ⟨b3, 0, none⟩)), (4, .pointer (some ⟨b4, 0, none⟩))]) (fun q => [row b2 26 [.int .i64 out.prog, .slice oa' (out.ops.length + dops.length) oc', .slice out.ta out.at'.length out.tc, .slice q.2.1.1 q.2.2.length q.2.1.2], ownd oa' oc' 36 15 (out.ops.length + dops.length) ((out.ops ++ dops.map (OP.mv · (out.ops.length : Int))).flatMap cOP), row b3 26 [.int .i64 dp, .slice (some ⟨bd, 0, none⟩) dops.length doc, .slice dta dat.length dtc, .slice dea devs.length dec], ownd dea dec 47 5 devs.length (devs.flatMap cEV), allK (devs.drop q.1), row b4 26 z26, allF dops, allF out.ops, ownd q.2.1.1 q.2.1.2 47 5 q.2.2.length (q.2.2.flatMap cEV), allK q.2.2]) (fun q => q.1 ≤ devs.length ∧ q.2.2.map (·.v) = ((devs.take q.1).map (·.v)).foldl addE (out.evs.map (·.v)) ∧ q.2.2.length ≤ 1000 + q.1 ∧ ∀ v ∈ q.2.2, v.v.key.length ≤ 100000) (fun q => devs.length - q.1) (0, (out.ea, out.ec), out.evs) ⟨Nat.zero_le _, rfl, by omega, hok⟩ ⟨rfl, rfl, rfl, rfl, trivial⟩ (fun w h => h.pick [0, 1, 2, 5, 6, 7, 4, 8, 9, 10] (by simp) rfl) ?_
  rintro ⟨i, ⟨a1, c1⟩, evs'⟩ jk2 ⟨hi2, hev, hevl, hevk⟩
  dsimp only at hi2 hev hevl hevk ⊢
  by_cases hil2 : (i : Int) < devs.length
  case neg =>
    obtain rfl : i = devs.length := by omega
    rw [List.take_length] at hev
    (repeat (first | ((refine (?_ : MX _ _ _ _ _ _ _ _ _ _ _)); first | refine mx_end ?_ | (refine mx_mv _ rfl rfl (by conv => {lhs; whnf}) ?_) | ( refine mx_fa E rfl rfl rfl rfl ?_) | (refine g_load rfl ?_; first | refine mx_get E rfl rfl rfl rfl rfl (by rfl) rfl ?_ | refine mx_getn E rfl rfl rfl rfl rfl (by exact Vr.all rfl ) rfl ?_ ) | (refine g_bin rfl ?_; ( (refine mx_cmpl .lss rfl rfl rfl rfl rfl (by exact cmp_lt_f (by omega) ) ?_) ) ) | (refine g_bi .len rfl ?_; refine mx_len E rfl rfl rfl rfl ?_) | (refine g_store rfl ?_; refine s_l E rfl rfl rfl rfl rfl rfl rfl (by exact Sp.all rfl ) rfl ?_ ) ) | refine cw_seq ?_ | refine cw_line rfl ?_ | refine cw_cond_f rfl ?_ | refine cw_exit ?_ | refine cw_ret ?_ | refine pw_then ?_ | refine pw_then_x ?_ | refine pw_block_e ?_ ))
    have hlo : (out.ops ++ dops.map (OP.mv · (out.ops.length : Int))).length = (out.ops.length + dops.length) := by simp
    exact pw_retc E (j := 5) rfl rfl rfl rfl rfl rfl fun w' hw => ⟨⟨⟨out.prog, oa', oc', (out.ops ++ dops.map (OP.mv · (out.ops.length : Int))), out.ta, out.tc, out.at', a1, c1, evs'⟩, ⟨rfl, ⟨rfl, rfl, rfl⟩, by
      show (out.ops ++ dops.map (OP.mv · (out.ops.length : Int))).map (·.v) = _
      rw [List.map_append, ← hdo, List.map_map, List.map_map]
      rfl, by rw [← hde]; exact hev⟩⟩, by show _ = Ending.returned (.agg (cCD ⟨out.prog, oa', oc', (out.ops ++ dops.map (OP.mv · (out.ops.length : Int))), out.ta, out.tc, out.at', a1, c1, evs'⟩).toArray); unfold cCD; dsimp only; rw [hlo], by
      show Ok _ w (OL ⟨out.prog, oa', oc', (out.ops ++ dops.map (OP.mv · (out.ops.length : Int))), out.ta, out.tc, out.at', a1, c1, evs'⟩) w'
      unfold OL
      dsimp only
      rw [hlo]
      have h1 := allF_app (l1 := out.ops) (l2 := dops.map (OP.mv · (out.ops.length : Int))) (H := [ownd oa' oc' 36 15 (out.ops.length + dops.length) ((out.ops ++ dops.map (OP.mv · (out.ops.length : Int))).flatMap cOP), ownd a1 c1 47 5 evs'.length (evs'.flatMap cEV), allK evs']) (by rw [allF_mv]; exact hw.pick [7, 6, 1, 8, 9] (by simp) rfl)
      exact h1.pick [1, 0, 2, 3] (by simp) rfl⟩
  obtain ⟨x, hx⟩ := getElem_some (xs := devs) (i := i) (by omega)
  have hxk := hdk x (List.mem_of_getElem? hx)
  have hdr : devs.drop i = x :: devs.drop (i + 1) := by
    rw [List.drop_eq_getElem_cons (by omega)]
    congr 1
    exact (List.getElem?_eq_some_iff.1 hx).2
  have hst : ((devs.take (i + 1)).map (·.v)).foldl addE (out.evs.map (·.v)) = addE (evs'.map (·.v)) x.v := by
    rw [List.take_add_one, hx, List.map_append, List.foldl_append, ← hev]
    rfl
  have hanv := any_v evs' x.v
  rw [hdr]
  generalize htl : devs.drop (i + 1) = tl
  refine cw_know (p := ∃ b, dea = some ⟨b, 0, none⟩) (fun w hw => by obtain ⟨b, e, _⟩ := (own_at (hw.holds 3 _ rfl)).2.1 (by omega); exact ⟨b, e⟩) (fun hb => ?_)
  obtain ⟨be, rfl⟩ := hb
  refine cw_ex (fun reste => [row b2 26 [.int .i64 out.prog, .slice oa' (out.ops.length + dops.length) oc', .slice out.ta out.at'.length out.tc, .slice a1 evs'.length c1], ownd oa' oc' 36 15 (out.ops.length + dops.length) ((out.ops ++ dops.map (OP.mv · (out.ops.length : Int))).flatMap cOP), row b3 26 [.int .i64 dp, .slice (some ⟨bd, 0, none⟩) dops.length doc, .slice dta dat.length dtc, .slice (some ⟨be, 0, none⟩) devs.length dec], row be 47 (devs.flatMap cEV ++ reste), ownd x.ka x.kc 5 1 x.v.key.length (x.v.key.flatMap cU), allK tl, row b4 26 z26, allF dops, allF out.ops, ownd a1 c1 47 5 evs'.length (evs'.flatMap cEV), allK evs']) _ (fun w hw => (ok_open 3 rfl hw).imp fun reste h => ⟨h.1, (allK_cons (h.2.pick (H' := [allK (x :: tl), row b2 26 [.int .i64 out.prog, .slice oa' (out.ops.length + dops.length) oc', .slice out.ta out.at'.length out.tc, .slice a1 evs'.length c1], ownd oa' oc' 36 15 (out.ops.length + dops.length) ((out.ops ++ dops.map (OP.mv · (out.ops.length : Int))).flatMap cOP), row b3 26 [.int .i64 dp, .slice (some ⟨bd, 0, none⟩) dops.length doc, .slice dta dat.length dtc, .slice (some ⟨be, 0, none⟩) devs.length dec], row be 47 (devs.flatMap cEV ++ reste), row b4 26 z26, allF dops, allF out.ops, ownd a1 c1 47 5 evs'.length (evs'.flatMap cEV), allK evs']) [4, 0, 1, 2, 3, 5, 6, 7, 8, 9] (by simp) rfl)).pick [2, 3, 4, 5, 0, 1, 6, 7, 8, 9, 10] (by simp) rfl⟩) (fun reste he2 => ?_)
  obtain ⟨f1, f2, f3, f4⟩ := he2
  have hvx : Vr (devs.flatMap cEV ++ reste) (0 + i * 5) 5 (cEV x) := vr_all len_EV hx reste (by omega)
  (repeat (first | ((refine (?_ : MX _ _ _ _ _ _ _ _ _ _ _)); first | refine mx_end ?_ | (refine mx_mv _ rfl rfl (by conv => {lhs; whnf}) ?_) | (refine mx_as _ rfl rfl (by conv => {lhs; whnf}) ?_) | ( refine mx_fa E rfl rfl rfl rfl ?_) | (refine g_load rfl ?_; refine mx_get E rfl rfl rfl rfl rfl (by rfl) rfl ?_ ) | (refine g_bin rfl ?_; ( (refine mx_cmpl .lss rfl rfl rfl rfl rfl (by exact cmp_lt_t (by omega) ) ?_) ) ) | (refine g_bi .len rfl ?_; refine mx_len E rfl rfl rfl rfl ?_) ) | refine cw_seq ?_ | refine cw_line rfl ?_ | refine cw_block ?_ | refine cw_cond_t rfl ?_ | refine cw_skip ?_ | refine pw_then ?_ ))
  refine cw_loop (ι := Nat × Bool) (fun q => [(10, .int .i64 q.1), (9, .bool q.2), (8, .int .i64 i), (2, .pointer (some ⟨b2, 0, none⟩)), (3, .pointer (some ⟨b3, 0, none⟩)), (4, .pointer (some ⟨b4, 0, none⟩))]) (fun q => [row b2 26 [.int .i64 out.prog, .slice oa' (out.ops.length + dops.length) oc', .slice out.ta out.at'.length out.tc, .slice a1 evs'.length c1], ownd oa' oc' 36 15 (out.ops.length + dops.length) ((out.ops ++ dops.map (OP.mv · (out.ops.length : Int))).flatMap cOP), row b3 26 [.int .i64 dp, .slice (some ⟨bd, 0, none⟩) dops.length doc, .slice dta dat.length dtc, .slice (some ⟨be, 0, none⟩) devs.length dec], row be 47 (devs.flatMap cEV ++ reste), ownd x.ka x.kc 5 1 x.v.key.length (x.v.key.flatMap cU), allK tl, row b4 26 z26, allF dops, allF out.ops, ownd a1 c1 47 5 evs'.length (evs'.flatMap cEV), allK evs']) (fun q => q.1 ≤ evs'.length ∧ q.2 = (evs'.take q.1).any fun y => decide (y.v = x.v)) (fun q => evs'.length - q.1) (0, false) ⟨Nat.zero_le _, rfl⟩ ⟨rfl, rfl, rfl, rfl, rfl, rfl, trivial⟩ (fun w h => h) ?_
  rintro ⟨k, B⟩ jk3 ⟨hk, hB⟩
  dsimp only at hk hB ⊢
  by_cases hkl : (k : Int) < evs'.length
  case pos =>
    obtain ⟨y, hy⟩ := getElem_some (xs := evs') (i := k) (by omega)
    have hym := List.mem_of_getElem? hy
    have hyk := hevk y hym
    have hB1 : ((evs'.take (k + 1)).any fun y => decide (y.v = x.v)) = (B || decide (y.v = x.v)) := by
      rw [List.take_add_one, hy, List.any_append, ← hB]
      simp
    refine cw_know (p := ∃ b, a1 = some ⟨b, 0, none⟩) (fun w hw => by obtain ⟨b, e, _⟩ := (own_at (hw.holds 9 _ rfl)).2.1 (by omega); exact ⟨b, e⟩) (fun hb => ?_)
    obtain ⟨b6, rfl⟩ := hb
    refine cw_ex (fun rest6 => [row b2 26 [.int .i64 out.prog, .slice oa' (out.ops.length + dops.length) oc', .slice out.ta out.at'.length out.tc, .slice (some ⟨b6, 0, none⟩) evs'.length c1], ownd oa' oc' 36 15 (out.ops.length + dops.length) ((out.ops ++ dops.map (OP.mv · (out.ops.length : Int))).flatMap cOP), row b3 26 [.int .i64 dp, .slice (some ⟨bd, 0, none⟩) dops.length doc, .slice dta dat.length dtc, .slice (some ⟨be, 0, none⟩) devs.length dec], row be 47 (devs.flatMap cEV ++ reste), ownd x.ka x.kc 5 1 x.v.key.length (x.v.key.flatMap cU), allK tl, row b4 26 z26, allF dops, allF out.ops, row b6 47 (evs'.flatMap cEV ++ rest6), allK evs']) _ (fun w hw => (ok_open 9 rfl hw).imp fun rest h => ⟨h.1, h.2⟩) (fun rest6 he6 => ?_)
    obtain ⟨g1, g2, g3, g4⟩ := he6
    have hvy : Vr (evs'.flatMap cEV ++ rest6) (0 + k * 5) 5 (cEV y) := vr_all len_EV hy rest6 (by omega)
    cases B with
    | true =>
      (repeat (first | ((refine (?_ : MX _ _ _ _ _ _ _ _ _ _ _)); first | refine mx_end ?_ | (refine mx_mv _ rfl rfl (by conv => {lhs; whnf}) ?_) | ( refine mx_fa E rfl rfl rfl rfl ?_) | (refine g_load rfl ?_; refine mx_get E rfl rfl rfl rfl rfl (by rfl) rfl ?_ ) | (refine g_bin rfl ?_; ( (refine mx_cmpl .lss rfl rfl rfl rfl rfl (by exact cmp_lt_t (by omega) ) ?_) ) ) | (refine g_bi .len rfl ?_; refine mx_len E rfl rfl rfl rfl ?_) ) | refine cw_seq ?_ | refine cw_line rfl ?_ | refine cw_block ?_ | refine cw_cond_t rfl ?_ | refine cw_skip ?_ | refine pw_then ?_ ))
      refine cw_drawm [0, 1, 2, 3, 4, 5, 6, 7, 8, 9, 10, 11, 12, 13, 14] (fun i => Nat.beq i 12) [row b2 26 [.int .i64 out.prog, .slice oa' (out.ops.length + dops.length) oc', .slice out.ta out.at'.length out.tc, .slice (some ⟨b6, 0, none⟩) evs'.length c1], row b3 26 [.int .i64 dp, .slice (some ⟨bd, 0, none⟩) dops.length doc, .slice dta dat.length dtc, .slice (some ⟨be, 0, none⟩) devs.length dec], row be 47 (devs.flatMap cEV ++ reste), row b6 47 (evs'.flatMap cEV ++ rest6)] mixed (by kernel_rfl) (fun w h => h.pick [0, 2, 3, 9] (by simp) rfl) ?_
      (repeat (first | ((refine (?_ : MX _ _ _ _ _ _ _ _ _ _ _)); first | refine mx_end ?_ | (refine mx_mv _ rfl rfl (by conv => {lhs; whnf}) ?_) | (refine mx_as _ rfl rfl (by conv => {lhs; whnf}) ?_) | (refine g_bin rfl ?_; ( refine mx_ar rfl rfl rfl rfl rfl rfl (IntWalk.i64_in _ (by omega)) rfl ?_ ) ) | (refine mx_skip rfl rfl rfl ?_) | (refine g_pick rfl ?_; refine mx_ort rfl rfl rfl rfl rfl ?_ ) ) | refine cw_line rfl ?_ | refine pw_then ?_ | refine pw_block ?_ ))
      exact pw_round (k + 1, true) ⟨by show k + 1 ≤ evs'.length; omega, by show true = _; rw [hB1]; rfl⟩ (by show evs'.length - (k + 1) < evs'.length - k; omega) ⟨rfl, rfl, rfl, rfl, rfl, rfl, trivial⟩ (fun w h => ok_close 9 rfl g1 g2 g3 g4 h)
    | false =>
      (repeat (first | ((refine (?_ : MX _ _ _ _ _ _ _ _ _ _ _)); first | refine mx_end ?_ | (refine mx_mv _ rfl rfl (by conv => {lhs; whnf}) ?_) | ( refine mx_fa E rfl rfl rfl rfl ?_) | (refine g_load rfl ?_; refine mx_get E rfl rfl rfl rfl rfl (by rfl) rfl ?_ ) | (refine g_bin rfl ?_; ( (refine mx_cmpl .lss rfl rfl rfl rfl rfl (by exact cmp_lt_t (by omega) ) ?_) ) ) | (refine g_bi .len rfl ?_; refine mx_len E rfl rfl rfl rfl ?_) ) | refine cw_seq ?_ | refine cw_line rfl ?_ | refine cw_block ?_ | refine cw_cond_t rfl ?_ | refine cw_skip ?_ | refine pw_then ?_ ))
      refine cw_drawm [0, 1, 2, 3, 4, 5, 6, 7, 8, 9, 10, 11, 12, 13, 14] (fun i => Nat.beq i 12) [row b2 26 [.int .i64 out.prog, .slice oa' (out.ops.length + dops.length) oc', .slice out.ta out.at'.length out.tc, .slice (some ⟨b6, 0, none⟩) evs'.length c1], row b3 26 [.int .i64 dp, .slice (some ⟨bd, 0, none⟩) dops.length doc, .slice dta dat.length dtc, .slice (some ⟨be, 0, none⟩) devs.length dec], row be 47 (devs.flatMap cEV ++ reste), row b6 47 (evs'.flatMap cEV ++ rest6)] mixed (by kernel_rfl) (fun w h => h.pick [0, 2, 3, 9] (by simp) rfl) ?_
      (repeat (((refine (?_ : MX _ _ _ _ _ _ _ _ _ _ _)); first | (refine mx_mv _ rfl rfl (by conv => {lhs; whnf}) ?_) | ( refine mx_fa E rfl rfl rfl rfl ?_) | (refine g_load rfl ?_; first | refine mx_get E rfl rfl rfl rfl rfl (by rfl) rfl ?_ | refine mx_getn E rfl rfl rfl rfl rfl (by assumption ) rfl ?_ ) | (refine g_ix rfl ?_; refine mx_ixsn E rfl rfl rfl rfl rfl rfl (by omega) rfl ?_ ) ) ))
      refine g_cf 16 rfl ?_
      refine a_callv rfl rfl rfl rfl Try.func16 rfl rfl rfl (.bool (decide (y.v = x.v))) (fun w' hw => same16 y x (by omega) w' (inK (hw.holds 10 _ rfl) hym) (own_in len_U (hw.holds 4 _ rfl) (Nat.le_refl _))) rfl ?_
      (repeat (first | ((refine (?_ : MX _ _ _ _ _ _ _ _ _ _ _)); first | refine mx_end ?_ | (refine mx_mv _ rfl rfl (by conv => {lhs; whnf}) ?_) | (refine mx_as _ rfl rfl (by conv => {lhs; whnf}) ?_) | (refine g_bin rfl ?_; ( refine mx_ar rfl rfl rfl rfl rfl rfl (IntWalk.i64_in _ (by omega)) rfl ?_ ) ) | (refine g_pick rfl ?_; refine mx_or rfl rfl rfl rfl rfl rfl ?_ ) ) | refine cw_line rfl ?_ | refine pw_then ?_ | refine pw_block ?_ ))
      exact pw_round (k + 1, decide (y.v = x.v)) ⟨by show k + 1 ≤ evs'.length; omega, by show decide (y.v = x.v) = _; rw [hB1]; simp⟩ (by show evs'.length - (k + 1) < evs'.length - k; omega) ⟨rfl, rfl, rfl, rfl, rfl, rfl, trivial⟩ (fun w h => ok_close 9 rfl g1 g2 g3 g4 h)
  obtain rfl : k = evs'.length := by omega
  rw [List.take_length] at hB
  cases B with
  | true =>
    have hst2 : addE (evs'.map (·.v)) x.v = evs'.map (·.v) := by unfold addE; rw [← hanv, ← hB]; rfl
    (repeat (first | ((refine (?_ : MX _ _ _ _ _ _ _ _ _ _ _)); first | refine mx_end ?_ | (refine mx_mv _ rfl rfl (by conv => {lhs; whnf}) ?_) | (refine mx_as _ rfl rfl (by conv => {lhs; whnf}) ?_) | ( refine mx_fa E rfl rfl rfl rfl ?_) | (refine g_load rfl ?_; refine mx_get E rfl rfl rfl rfl rfl (by rfl) rfl ?_ ) | (refine g_bin rfl ?_; first | ( (refine mx_cmpl .lss rfl rfl rfl rfl rfl (by first | exact cmp_lt_t (by omega) | exact cmp_lt_f (by omega) ) ?_) ) | ( refine mx_ar rfl rfl rfl rfl rfl rfl (IntWalk.i64_in _ (by omega)) rfl ?_ ) ) | (refine g_bi .len rfl ?_; refine mx_len E rfl rfl rfl rfl ?_) | (refine mx_not rfl rfl rfl ?_) ) | refine cw_seq ?_ | refine cw_line rfl ?_ | refine cw_cond_f rfl ?_ | refine cw_skip ?_ | refine cw_exit ?_ | refine pw_then ?_ | refine pw_then_x ?_ | refine pw_block ?_ | refine pw_block_e ?_ ))
    exact pw_round (i + 1, (a1, c1), evs') ⟨by show i + 1 ≤ devs.length; omega, by rw [hst, hst2], by show evs'.length ≤ 1000 + (i + 1); omega, hevk⟩ (by show devs.length - (i + 1) < devs.length - i; omega) ⟨rfl, rfl, rfl, rfl, trivial⟩ (fun w h => by
      show Ok _ _ ([row b2 26 [.int .i64 out.prog, .slice oa' (out.ops.length + dops.length) oc', .slice out.ta out.at'.length out.tc, .slice (i + 1, (a1, c1), evs').2.1.1 (i + 1, (a1, c1), evs').2.2.length (i + 1, (a1, c1), evs').2.1.2], ownd oa' oc' 36 15 (out.ops.length + dops.length) ((out.ops ++ dops.map (OP.mv · (out.ops.length : Int))).flatMap cOP), row b3 26 [.int .i64 dp, .slice (some ⟨bd, 0, none⟩) dops.length doc, .slice dta dat.length dtc, .slice (some ⟨be, 0, none⟩) devs.length dec], ownd (some ⟨be, 0, none⟩) dec 47 5 devs.length (devs.flatMap cEV), allK (devs.drop (i + 1, (a1, c1), evs').1), row b4 26 z26, allF dops, allF out.ops, ownd (i + 1, (a1, c1), evs').2.1.1 (i + 1, (a1, c1), evs').2.1.2 47 5 (i + 1, (a1, c1), evs').2.2.length ((i + 1, (a1, c1), evs').2.2.flatMap cEV), allK (i + 1, (a1, c1), evs').2.2]) _
      dsimp only
      rw [htl]
      exact (ok_close 3 rfl f1 f2 f3 f4 h).pick [0, 1, 2, 3, 5, 6, 7, 8, 9, 10] (by simp) rfl)
  | false =>
    have hst2 : addE (evs'.map (·.v)) x.v = evs'.map (·.v) ++ [x.v] := by unfold addE; rw [← hanv, ← hB]; rfl
    (repeat (first | ((refine (?_ : MX _ _ _ _ _ _ _ _ _ _ _)); first | refine mx_end ?_ | (refine mx_mv _ rfl rfl (by conv => {lhs; whnf}) ?_) | ( refine mx_fa E rfl rfl rfl rfl ?_) | (refine g_load rfl ?_; refine mx_get E rfl rfl rfl rfl rfl (by rfl) rfl ?_ ) | (refine g_bin rfl ?_; ( (refine mx_cmpl .lss rfl rfl rfl rfl rfl (by exact cmp_lt_f (by omega) ) ?_) ) ) | (refine g_bi .len rfl ?_; refine mx_len E rfl rfl rfl rfl ?_) | (refine mx_not rfl rfl rfl ?_) ) | refine cw_seq ?_ | refine cw_line rfl ?_ | refine cw_cond_f rfl ?_ | refine cw_cond_t rfl ?_ | refine cw_exit ?_ | refine pw_then ?_ | refine pw_then_x ?_ | refine pw_block_e ?_ ))
    refine cw_bar [0, 1, 2, 3, 4, 5, 6, 7, 8, 9] 10 [] (fun i => or (Nat.beq i 7) (or (Nat.beq i 8) (Nat.beq i 10))) [row b2 26 [.int .i64 out.prog, .slice oa' (out.ops.length + dops.length) oc', .slice out.ta out.at'.length out.tc, .slice a1 evs'.length c1], row b3 26 [.int .i64 dp, .slice (some ⟨bd, 0, none⟩) dops.length doc, .slice dta dat.length dtc, .slice (some ⟨be, 0, none⟩) devs.length dec], row be 47 (devs.flatMap cEV ++ reste)] (fun _ => True) mixed (by kernel_rfl) (fun w h => h.pick [0, 2, 3] (by simp) rfl) ?_
    (repeat (((refine (?_ : MX _ _ _ _ _ _ _ _ _ _ _)); first | (refine mx_mv _ rfl rfl (by conv => {lhs; whnf}) ?_) | ( refine mx_fa E rfl rfl rfl rfl ?_) | (refine g_load rfl ?_; first | refine mx_get E rfl rfl rfl rfl rfl (by rfl) rfl ?_ | refine mx_getn E rfl rfl rfl rfl rfl (by assumption ) rfl ?_ ) | (refine g_ix rfl ?_; refine mx_ixsn E rfl rfl rfl rfl rfl rfl (by omega) rfl ?_ ) ) ))
    refine g_bs rfl ?_
    refine a_bslice1 E rfl rfl rfl rfl (us := cEV x) rfl rfl rfl rfl rfl rfl (fun b9 => ?_)
    refine g_bi .append rfl ?_
    refine a_app E rfl rfl rfl rfl rfl rfl rfl rfl (cEV x) rfl (fun w hw => fun _ => ⟨b9, 0, rfl, fun j u hj => by rw [add_at, Nat.zero_add]; exact row_cell (hw.holds 0 _ rfl) hj⟩) (by rfl) (by omega) rfl (fun _ _ w h => h.pick [1, 3, 4] (by simp) rfl) (fun a2 c2 => ?_)
    (repeat (((refine (?_ : MX _ _ _ _ _ _ _ _ _ _ _)); ( refine mx_fa E rfl rfl rfl rfl ?_) ) ))
    refine mx_bar (fun _ _ => trivial) ?_
    (repeat (first | ((refine (?_ : MX _ _ _ _ _ _ _ _ _ _ _)); first | refine mx_end ?_ | (refine mx_mv _ rfl rfl (by conv => {lhs; whnf}) ?_) | (refine mx_as _ rfl rfl (by conv => {lhs; whnf}) ?_) | (refine g_bin rfl ?_; ( refine mx_ar rfl rfl rfl rfl rfl rfl (IntWalk.i64_in _ (by omega)) rfl ?_ ) ) | (refine g_store rfl ?_; refine s_1 E rfl rfl rfl rfl rfl rfl rfl rfl (by exact spS (spS (spS sp0)) ) rfl ?_) ) | refine cw_line rfl ?_ | refine pw_then ?_ | refine pw_block ?_ ))
    have e3 : evs'.flatMap cEV ++ cEV x = (evs' ++ [x]).flatMap cEV := by rw [List.flatMap_append]; simp
    have e4 : (evs' ++ [x]).length = evs'.length + 1 := by simp
    have hI : i + 1 ≤ devs.length ∧ (evs' ++ [x]).map (·.v) = ((devs.take (i + 1)).map (·.v)).foldl addE (out.evs.map (·.v)) ∧ (evs' ++ [x]).length ≤ 1000 + (i + 1) ∧ ∀ v ∈ evs' ++ [x], v.v.key.length ≤ 100000 := by
      refine ⟨by omega, by rw [hst, hst2, List.map_append]; rfl, by omega, fun v hv => ?_⟩
      rcases List.mem_append.1 hv with h | h
      · exact hevk v h
      · obtain rfl := List.mem_singleton.1 h
        omega
    rw [e3, ← e4]
    exact pw_round (i + 1, (a2, c2), (evs' ++ [x])) hI (by show devs.length - (i + 1) < devs.length - i; omega) ⟨rfl, rfl, rfl, rfl, trivial⟩ (fun w h => by
      show Ok _ _ ([row b2 26 [.int .i64 out.prog, .slice oa' (out.ops.length + dops.length) oc', .slice out.ta out.at'.length out.tc, .slice a2 (evs' ++ [x]).length c2], ownd oa' oc' 36 15 (out.ops.length + dops.length) ((out.ops ++ dops.map (OP.mv · (out.ops.length : Int))).flatMap cOP), row b3 26 [.int .i64 dp, .slice (some ⟨bd, 0, none⟩) dops.length doc, .slice dta dat.length dtc, .slice (some ⟨be, 0, none⟩) devs.length dec], ownd (some ⟨be, 0, none⟩) dec 47 5 devs.length (devs.flatMap cEV), allK (devs.drop (i + 1)), row b4 26 z26, allF dops, allF out.ops, ownd a2 c2 47 5 (evs' ++ [x]).length ((evs' ++ [x]).flatMap cEV), allK (evs' ++ [x])]) _
      rw [htl]
      have h1 := allK_snoc (o := x) (h.pick (H' := [ownd x.ka x.kc 5 1 x.v.key.length (x.v.key.flatMap cU), allK evs', row b2 26 [.int .i64 out.prog, .slice oa' (out.ops.length + dops.length) oc', .slice out.ta out.at'.length out.tc, .slice a2 (evs' ++ [x]).length c2], ownd oa' oc' 36 15 (out.ops.length + dops.length) ((out.ops ++ dops.map (OP.mv · (out.ops.length : Int))).flatMap cOP), row b3 26 [.int .i64 dp, .slice (some ⟨bd, 0, none⟩) dops.length doc, .slice dta dat.length dtc, .slice (some ⟨be, 0, none⟩) devs.length dec], row be 47 (devs.flatMap cEV ++ reste), allK tl, row b4 26 z26, allF dops, allF out.ops, ownd a2 c2 47 5 (evs' ++ [x]).length ((evs' ++ [x]).flatMap cEV)]) [5, 11, 1, 2, 3, 4, 6, 7, 8, 9, 10] (by simp) rfl)
      exact (ok_close 4 rfl f1 f2 f3 f4 h1).pick [1, 2, 3, 4, 5, 6, 7, 8, 9, 0] (by simp) rfl)
end Go.Proofs.Ytdkolggmabnifaa
