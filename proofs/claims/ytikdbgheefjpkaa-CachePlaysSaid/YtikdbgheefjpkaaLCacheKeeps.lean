/- A form is told as it was put last: the walk of the law CacheKeeps. -/
import Derived.Test.YtikdbgheefjpkaaQm
import Derived.Test.YtikdbgheefjpkaaPk
set_option maxRecDepth 100000
set_option maxHeartbeats 8000000
set_option linter.unusedSimpArgs false
set_option linter.unusedVariables false
namespace Go.Proofs.Ytikdbgheefjpkaa
open Go Go.Sx Go.RowKit
theorem oldGr {w0 w1 w' : World} {H : List Res} (hw : Ok (fun _ => False) w0 H w1) (j : Nat) {L : List Res} (hj : H[j]? = some (star L)) (hc : Chg (domL L) w1 w') : Grow w0 w' :=
  (⟨hc.os.trans hw.keep.os, hc.tape.trans hw.keep.tape, hc.output.trans hw.keep.output, Nat.le_trans hw.keep.size hc.size, fun k hk _ => (hc.old k (Nat.lt_of_lt_of_le hk hw.keep.size) (fun hd => (hw.own j _ hj k hd).2 hk)).trans (hw.keep.old k hk id)⟩ : Chg (fun _ => False) w0 w').grow
theorem runs_gone (p : Int) : ∀ rs : List (Int × Int), runs p (rs.filter fun e => decide (e.1 ≠ p)) = 0
  | [] => rfl
  | e :: rs => by
    by_cases h : e.1 = p
    · rw [List.filter_cons_of_neg (by simp [h])]
      exact runs_gone p rs
    · rw [List.filter_cons_of_pos (by simp [h])]
      unfold runs
      rw [if_neg h]
      exact runs_gone p rs
theorem small40 (c : CD) (w : World) : Calls Try.prog 40 #[.agg (cCD c).toArray] w fun e w' => e = .returned (.bool (decide (c.ops.length ≤ 20 ∧ c.at'.length ≤ 100 ∧ c.evs.length ≤ 20))) ∧ Grow w w' := by
  refine enter1 (S := fun _ => False) 19 Try.func40 rfl rfl rfl (Ok.start w) ?_
  by_cases h1 : (c.ops.length : Int) ≤ 20
  · by_cases h2 : (c.at'.length : Int) ≤ 100
    · by_cases h3 : (c.evs.length : Int) ≤ 20
      · rw [decide_eq_true (by omega)]
        (repeat (first | ((refine (?_ : MX _ _ _ _ _ _ _ _ _ _ _)); first | refine mx_end ?_ | (refine mx_mv _ rfl rfl (by conv => {lhs; whnf}) ?_) | (refine mx_as _ rfl rfl (by conv => {lhs; whnf}) ?_) | ( refine mx_fa E rfl rfl rfl rfl ?_) | (refine g_load rfl ?_; refine mx_get E rfl rfl rfl rfl rfl (by rfl) rfl ?_ ) | (refine g_bin rfl ?_; ( (refine mx_cmpl .leq rfl rfl rfl rfl rfl (by exact cmp_le_t (by omega) ) ?_) ) ) | (refine g_bi .len rfl ?_; refine mx_len E rfl rfl rfl rfl ?_) | (refine g_pick rfl ?_; refine mx_and rfl rfl rfl rfl rfl rfl ?_ ) | (refine g_box rfl ?_; refine a_boxl rfl rfl rfl rfl rfl rfl (fun _ => ?_) ) ) | refine cw_seq ?_ | refine cw_line rfl ?_ | refine cw_ret ?_ | refine pw_then ?_ ))
        exact pw_ret rfl rfl rfl rfl fun w hw => ⟨rfl, hw.keep.grow⟩
      · rw [decide_eq_false (by omega)]
        (repeat (first | ((refine (?_ : MX _ _ _ _ _ _ _ _ _ _ _)); first | refine mx_end ?_ | (refine mx_mv _ rfl rfl (by conv => {lhs; whnf}) ?_) | (refine mx_as _ rfl rfl (by conv => {lhs; whnf}) ?_) | ( refine mx_fa E rfl rfl rfl rfl ?_) | (refine g_load rfl ?_; refine mx_get E rfl rfl rfl rfl rfl (by rfl) rfl ?_ ) | (refine g_bin rfl ?_; ( (refine mx_cmpl .leq rfl rfl rfl rfl rfl (by first | exact cmp_le_t (by omega) | exact cmp_le_f (by omega) ) ?_) ) ) | (refine g_bi .len rfl ?_; refine mx_len E rfl rfl rfl rfl ?_) | (refine g_pick rfl ?_; refine mx_and rfl rfl rfl rfl rfl rfl ?_ ) | (refine g_box rfl ?_; refine a_boxl rfl rfl rfl rfl rfl rfl (fun _ => ?_) ) ) | refine cw_seq ?_ | refine cw_line rfl ?_ | refine cw_ret ?_ | refine pw_then ?_ ))
        exact pw_ret rfl rfl rfl rfl fun w hw => ⟨rfl, hw.keep.grow⟩
    · rw [decide_eq_false (by omega)]
      (repeat (first | ((refine (?_ : MX _ _ _ _ _ _ _ _ _ _ _)); first | refine mx_end ?_ | (refine mx_mv _ rfl rfl (by conv => {lhs; whnf}) ?_) | (refine mx_as _ rfl rfl (by conv => {lhs; whnf}) ?_) | ( refine mx_fa E rfl rfl rfl rfl ?_) | (refine g_load rfl ?_; refine mx_get E rfl rfl rfl rfl rfl (by rfl) rfl ?_ ) | (refine g_bin rfl ?_; ( (refine mx_cmpl .leq rfl rfl rfl rfl rfl (by first | exact cmp_le_t (by omega) | exact cmp_le_f (by omega) ) ?_) ) ) | (refine g_bi .len rfl ?_; refine mx_len E rfl rfl rfl rfl ?_) | (refine mx_skip rfl rfl rfl ?_) | (refine g_pick rfl ?_; first | refine mx_andf rfl rfl rfl rfl rfl ?_ | refine mx_and rfl rfl rfl rfl rfl rfl ?_ ) | (refine g_box rfl ?_; refine a_boxl rfl rfl rfl rfl rfl rfl (fun _ => ?_) ) ) | refine cw_seq ?_ | refine cw_line rfl ?_ | refine cw_ret ?_ | refine pw_then ?_ ))
      exact pw_ret rfl rfl rfl rfl fun w hw => ⟨rfl, hw.keep.grow⟩
  · rw [decide_eq_false (by omega)]
    (repeat (first | ((refine (?_ : MX _ _ _ _ _ _ _ _ _ _ _)); first | refine mx_end ?_ | (refine mx_mv _ rfl rfl (by conv => {lhs; whnf}) ?_) | (refine mx_as _ rfl rfl (by conv => {lhs; whnf}) ?_) | ( refine mx_fa E rfl rfl rfl rfl ?_) | (refine g_load rfl ?_; refine mx_get E rfl rfl rfl rfl rfl (by rfl) rfl ?_ ) | (refine g_bin rfl ?_; ( (refine mx_cmpl .leq rfl rfl rfl rfl rfl (by first | exact cmp_le_f (by omega) | rfl) ?_) ) ) | (refine g_bi .len rfl ?_; refine mx_len E rfl rfl rfl rfl ?_) | (refine mx_skip rfl rfl rfl ?_) | (refine g_pick rfl ?_; refine mx_andf rfl rfl rfl rfl rfl ?_ ) | (refine g_box rfl ?_; refine a_boxl rfl rfl rfl rfl rfl rfl (fun _ => ?_) ) ) | refine cw_seq ?_ | refine cw_line rfl ?_ | refine cw_ret ?_ | refine pw_then ?_ ))
    exact pw_ret rfl rfl rfl rfl fun w hw => ⟨rfl, hw.keep.grow⟩
theorem RdD.grow {w0 w : World} {c : CD} (h : RdD w0 c) (hw : Grow w0 w) : RdD w c := ⟨h.o.grow hw, fun x hx => ⟨(h.os x hx).1.grow hw, (h.os x hx).2.1.grow hw, (h.os x hx).2.2⟩, h.t.grow hw, h.e.grow hw, fun x hx => ⟨(h.es x hx).1.grow hw, (h.es x hx).2⟩⟩
theorem okF_of {w : World} {c : CD} (h : RdD w c) (hs : c.ops.length ≤ 20 ∧ c.at'.length ≤ 100 ∧ c.evs.length ≤ 20) : OkF c.vc := ⟨by show (c.ops.map _).length ≤ 1000; rw [List.length_map]; omega, by show c.at'.length ≤ 1000; omega, by show (c.evs.map _).length ≤ 1000; rw [List.length_map]; omega, fun o ho => by
  obtain ⟨x, hx, rfl⟩ := List.mem_map.1 ho
  exact (h.os x hx).2.2, fun o ho => by
  obtain ⟨x, hx, rfl⟩ := List.mem_map.1 ho
  exact (h.es x hx).2⟩
theorem get43v (bx fm rm : Nat) (most : Int) (fs : List CD) (rs : List (Int × Int)) (hk : OkC (fs.map CD.vc) 1000) (p : Int) (v : VC) (b : Bool) (hv : getV p (fs.map CD.vc) = v ∧ hasV p (fs.map CD.vc) = b) (w : World) (h0 : Ok (domL (OCc bx fm rm most fs rs)) w (OCc bx fm rm most fs rs) w) :
    Calls Try.prog 43 #[.pointer (some ⟨bx, 0, none⟩), .int .i64 p] w fun e w' => ∃ a : {a : CD // a.vc = v}, e = .returned (.tuple #[.agg (cCD a.1).toArray, .bool b]) ∧ Ok (domL (OCc bx fm rm most fs rs)) w (OCd a.1 ++ OCc bx fm rm most fs rs) w' := by
  obtain ⟨rfl, rfl⟩ := hv
  exact get43 bx fm rm most fs rs hk p w h0
theorem drop48v (bx fm rm : Nat) (most : Int) (fs fs' : List CD) (rs : List (Int × Int)) (hn : (fs.map CD.prog).Nodup) (p : Int) (b : Bool) (hb : hasV p (fs.map CD.vc) = b) (hf : (fs.filter fun c => decide (c.prog ≠ p)) = fs') (w : World) (h0 : Ok (domL (OCc bx fm rm most fs rs)) w (OCc bx fm rm most fs rs) w) :
    Calls Try.prog 48 #[.pointer (some ⟨bx, 0, none⟩), .int .i64 p] w fun e w' => ∃ u : Unit, e = .returned (.bool b) ∧ Ok (domL (OCc bx fm rm most fs rs)) w (OCc bx fm rm most fs' rs) w' := by
  subst hb hf
  exact drop48 bx fm rm most fs rs hn p w h0
theorem forget49v (bx fm rm : Nat) (most : Int) (fs fs' : List CD) (rs rs' : List (Int × Int)) (hn : (fs.map CD.prog).Nodup) (hr : (rs.map Prod.fst).Nodup) (p : Int) (hf : (fs.filter fun c => decide (c.prog ≠ p)) = fs') (hr' : (rs.filter fun e => decide (e.1 ≠ p)) = rs') (w : World) (h0 : Ok (domL (OCc bx fm rm most fs rs)) w (OCc bx fm rm most fs rs) w) :
    Calls Try.prog 49 #[.pointer (some ⟨bx, 0, none⟩), .int .i64 p] w fun e w' => ∃ u : Unit, e = .returned (.tuple #[]) ∧ Ok (domL (OCc bx fm rm most fs rs)) w (OCc bx fm rm most fs' rs') w' := by
  subst hf hr'
  exact forget49 bx fm rm most fs rs hn hr p w h0
theorem put_one {m : Int} (hm : 1 ≤ m) (r : Int → Int) (x : VC) : putC m r x [] = ([], [x]) := by
  unfold putC
  rw [if_neg (by omega), if_pos (by show ((1 : Nat) : Int) ≤ m; omega)]
  rfl
theorem put_same {m : Int} (hm : 1 ≤ m) (r : Int → Int) (x y : VC) (h : y.prog = x.prog) : putC m r x [y] = ([], [x]) := by
  have e : putV x [y] = [x] := by
    unfold putV
    rw [if_pos (hasV_iff.2 (by simp [h]))]
    simp [h]
  unfold putC
  rw [if_neg (by omega), e, if_pos (by show ((1 : Nat) : Int) ≤ m; omega)]
theorem okC_one {x : VC} (hx : OkF x) (hw : wfI x.prog) {n : Nat} (hn : 1 ≤ n) : OkC [x] n := ⟨hn, by simp, by simpa using hw, by simpa using hx⟩
@[reducible] def wp (b : CD) (p : Int) : CD := ⟨p, b.oa, b.oc, b.ops, b.ta, b.tc, b.at', b.ea, b.ec, b.evs⟩
theorem lawCacheKeeps (a b : CD) (n : Int) (hwa : wfI a.prog) (w : World) (ra : RdD w a) (rb : RdD w b) :
    Calls Try.prog 10 #[.agg (cCD a).toArray, .agg (cCD b).toArray, .int .i64 n] w fun e w' => e = .returned (.bool true) ∧ Grow w w' := by
  refine enter3 (S := fun _ => False) 125 Try.func10 rfl rfl rfl (Ok.start w) ?_
  (repeat (first | ((refine (?_ : MX _ _ _ _ _ _ _ _ _ _ _)); first | refine mx_end ?_ | (refine mx_as _ rfl rfl (by conv => {lhs; whnf}) ?_) | (refine g_load rfl ?_; refine mx_getn E rfl rfl rfl rfl rfl (by exact Vr.all rfl ) rfl ?_ ) | (refine g_box rfl ?_; refine a_boxl rfl rfl rfl rfl rfl rfl (fun _ => ?_) ) ) | refine cw_seq ?_ | refine cw_line rfl ?_ | refine pw_then ?_ ))
  refine g_cf 40 rfl ?_
  refine a_callv rfl rfl rfl rfl Try.func40 rfl rfl rfl (.bool (decide (a.ops.length ≤ 20 ∧ a.at'.length ≤ 100 ∧ a.evs.length ≤ 20))) (fun w' hw => small40 a w') rfl ?_
  by_cases sa : a.ops.length ≤ 20 ∧ a.at'.length ≤ 100 ∧ a.evs.length ≤ 20
  case neg =>
    rw [decide_eq_false sa]
    (repeat (first | ((refine (?_ : MX _ _ _ _ _ _ _ _ _ _ _)); first | refine mx_end ?_ | (refine mx_mv _ rfl rfl (by conv => {lhs; whnf}) ?_) | (refine mx_not rfl rfl rfl ?_) | (refine mx_skip rfl rfl rfl ?_) | (refine g_pick rfl ?_; refine mx_ort rfl rfl rfl rfl rfl ?_ ) ) | refine cw_seq ?_ | refine cw_line rfl ?_ | refine cw_cond_t rfl ?_ | refine pw_then ?_ ))
    refine g_cf 38 rfl ?_
    refine a_callv rfl rfl rfl rfl Try.func38 rfl rfl rfl (.bool true) (fun w' hw => known38 w') rfl ?_
    (repeat (first | ((refine (?_ : MX _ _ _ _ _ _ _ _ _ _ _)); first | refine mx_end ?_ | (refine mx_as _ rfl rfl (by conv => {lhs; whnf}) ?_) ) | refine cw_ret ?_ | refine pw_then ?_ | refine pw_then_r ?_ ))
    exact pw_ret rfl rfl rfl rfl fun w hw => ⟨rfl, hw.keep.grow⟩
  rw [decide_eq_true sa]
  (repeat (((refine (?_ : MX _ _ _ _ _ _ _ _ _ _ _)); first | (refine mx_mv _ rfl rfl (by conv => {lhs; whnf}) ?_) | (refine g_load rfl ?_; refine mx_getn E rfl rfl rfl rfl rfl (by exact Vr.all rfl ) rfl ?_ ) | (refine mx_not rfl rfl rfl ?_) ) ))
  refine g_cf 40 rfl ?_
  refine a_callv rfl rfl rfl rfl Try.func40 rfl rfl rfl (.bool (decide (b.ops.length ≤ 20 ∧ b.at'.length ≤ 100 ∧ b.evs.length ≤ 20))) (fun w' hw => small40 b w') rfl ?_
  by_cases sb : b.ops.length ≤ 20 ∧ b.at'.length ≤ 100 ∧ b.evs.length ≤ 20
  case neg =>
    rw [decide_eq_false sb]
    (repeat (first | ((refine (?_ : MX _ _ _ _ _ _ _ _ _ _ _)); first | refine mx_end ?_ | (refine mx_not rfl rfl rfl ?_) | (refine g_pick rfl ?_; refine mx_or rfl rfl rfl rfl rfl rfl ?_ ) ) | refine cw_seq ?_ | refine cw_line rfl ?_ | refine cw_cond_t rfl ?_ | refine pw_then ?_ ))
    refine g_cf 38 rfl ?_
    refine a_callv rfl rfl rfl rfl Try.func38 rfl rfl rfl (.bool true) (fun w' hw => known38 w') rfl ?_
    (repeat (first | ((refine (?_ : MX _ _ _ _ _ _ _ _ _ _ _)); first | refine mx_end ?_ | (refine mx_as _ rfl rfl (by conv => {lhs; whnf}) ?_) ) | refine cw_ret ?_ | refine pw_then ?_ | refine pw_then_r ?_ ))
    exact pw_ret rfl rfl rfl rfl fun w hw => ⟨rfl, hw.keep.grow⟩
  rw [decide_eq_true sb]
  (repeat (first | ((refine (?_ : MX _ _ _ _ _ _ _ _ _ _ _)); first | refine mx_end ?_ | (refine mx_not rfl rfl rfl ?_) | (refine g_pick rfl ?_; refine mx_or rfl rfl rfl rfl rfl rfl ?_ ) ) | refine cw_seq ?_ | refine cw_line rfl ?_ | refine cw_cond_f rfl ?_ | refine cw_skip ?_ | refine pw_then ?_ ))
  have oa := okF_of ra sa
  have rb' : RdD w (wp b a.prog) := ⟨rb.o, rb.os, rb.t, rb.e, rb.es⟩
  have ob : OkF (wp b a.prog).vc := by have := okF_of rb sb; exact ⟨this.o, this.t, this.e, this.os, this.es⟩
  have pb : (wp b a.prog).vc.prog = a.vc.prog := rfl
  have hwb : wfI (wp b a.prog).vc.prog := hwa
  have hz : ∀ q, 0 ≤ runs q [] ∧ runs q [] ≤ 1000000 := fun q => ⟨Int.le_refl _, by show (0 : Int) ≤ 1000000; decide⟩
  rename_i b3 b4
  refine g_cf 32 rfl ?_
  refine a_callL rfl rfl rfl rfl Try.func32 rfl rfl rfl [] _ rfl (fun a : Nat × Nat × Nat => .pointer (some ⟨a.1, 0, none⟩)) (fun a => OCc a.1 a.2.1 a.2.2 9 [] []) (fun w' hw _ => new32 9 9 rfl w') (fun _ => rfl) (fun _ _ _ => trivial) (fun qn => ?_)
  obtain ⟨bx, fm, rm⟩ := qn
  refine mx_weak (H' := [star (OCc bx fm rm 9 [] []), row b4 59 (cCD b), row b3 59 (cCD a)]) (fun w h => Ok.star (H := [row b4 59 (cCD b), row b3 59 (cCD a)]) h) (fun _ _ => trivial) ?_
  (repeat (first | ((refine (?_ : MX _ _ _ _ _ _ _ _ _ _ _)); first | refine mx_end ?_ | (refine mx_mv _ rfl rfl (by conv => {lhs; whnf}) ?_) | (refine mx_as _ rfl rfl (by conv => {lhs; whnf}) ?_) | (refine mx_fa0 E rfl rfl rfl rfl ?_ ) | (refine g_load rfl ?_; first | refine mx_get E rfl rfl rfl rfl rfl (by rfl) rfl ?_ | refine mx_getn E rfl rfl rfl rfl rfl (by exact Vr.all rfl ) rfl ?_ ) | (refine g_store rfl ?_; refine s_1 E rfl rfl rfl rfl rfl rfl rfl rfl (by exact sp0 ) rfl ?_) ) | refine cw_seq ?_ | refine cw_line rfl ?_ | refine pw_then ?_ ))
  dsimp only
  refine mx_weak (H' := [star (OCc bx fm rm 9 [] []), row b4 59 (cCD (wp b a.prog)), row b3 59 (cCD a)]) (fun w h => h) (fun _ _ => trivial) ?_
  have o0 : ∀ n, OkC (([] : List CD).map CD.vc) n := fun n => OkC.nil.le (Nat.zero_le n)
  refine g_cf 34 rfl ?_; refine a_co1 rfl rfl rfl rfl Try.func34 rfl rfl rfl (OCc bx fm rm 9 [] []) (fun a : (Option Addr × Nat) × {fs' : List CD // fs'.map CD.vc = [(wp b a.prog).vc]} => .slice a.1.1 0 a.1.2) (fun a => ownd a.1.1 a.1.2 3 1 0 []) (fun a => OCc bx fm rm 9 a.2.1 []) (fun w' hw h => put34 bx fm rm 9 (by decide) [] [] (o0 998) hz (wp b a.prog) ob hwb [] [(wp b a.prog).vc] (put_one (by decide) _ _) w' (fun w2 hc => rb'.grow (oldGr hw 0 rfl hc)) h) (fun _ => rfl) (fun _ _ _ => trivial) (fun qp => ?_)
  obtain ⟨⟨a1, c1⟩, ⟨f1, g1⟩⟩ := qp
  refine mx_weak (H' := [star (OCc bx fm rm 9 f1 []), row b4 59 (cCD (wp b a.prog)), row b3 59 (cCD a)]) (fun w h => h.pick [1, 2, 3] (by simp) rfl) (fun _ _ => trivial) ?_
  (repeat (first | ((refine (?_ : MX _ _ _ _ _ _ _ _ _ _ _)); first | refine mx_end ?_ | (refine mx_mv _ rfl rfl (by conv => {lhs; whnf}) ?_) | (refine g_load rfl ?_; refine mx_getn E rfl rfl rfl rfl rfl (by exact Vr.all rfl ) rfl ?_ ) ) | refine cw_seq ?_ | refine cw_line rfl ?_ | refine pw_then ?_ ))
  have k1 : ∀ n, 1 ≤ n → OkC (f1.map CD.vc) n := fun n hn => by rw [g1]; exact okC_one ob hwb hn
  refine g_cf 34 rfl ?_; refine a_co1 rfl rfl rfl rfl Try.func34 rfl rfl rfl (OCc bx fm rm 9 f1 []) (fun a : (Option Addr × Nat) × {fs' : List CD // fs'.map CD.vc = [a.vc]} => .slice a.1.1 0 a.1.2) (fun a => ownd a.1.1 a.1.2 3 1 0 []) (fun a => OCc bx fm rm 9 a.2.1 []) (fun w' hw h => put34 bx fm rm 9 (by decide) f1 [] (k1 998 (by decide)) hz a oa hwa [] [a.vc] (by rw [g1]; exact put_same (by decide) _ _ _ pb) w' (fun w2 hc => ra.grow (oldGr hw 0 rfl hc)) h) (fun _ => rfl) (fun _ _ _ => trivial) (fun qp => ?_)
  obtain ⟨⟨a2, c2⟩, ⟨f2, g2⟩⟩ := qp
  obtain ⟨c0, rfl, hc0⟩ : ∃ c0, f2 = [c0] ∧ c0.vc = a.vc := by
    match f2, g2 with
    | [], h => simp at h
    | [c0], h => exact ⟨c0, rfl, by simpa using h⟩
    | x :: y :: l, h => simp at h
  have hpr : c0.prog = a.prog := congrArg VC.prog hc0
  refine mx_weak (H' := [star (OCc bx fm rm 9 [c0] []), row b3 59 (cCD a)]) (fun w h => h.pick [1, 3] (by simp) rfl) (fun _ _ => trivial) ?_
  (repeat (first | ((refine (?_ : MX _ _ _ _ _ _ _ _ _ _ _)); first | refine mx_end ?_ | (refine mx_mv _ rfl rfl (by conv => {lhs; whnf}) ?_) ) | refine cw_seq ?_ | refine cw_line rfl ?_ | refine pw_then ?_ ))
  obtain ⟨k, hk, hk9⟩ : ∃ k : Nat, n % 9 = (k : Int) ∧ k < 9 := by
    have h0 := Int.emod_nonneg n (show (9 : Int) ≠ 0 by decide)
    have h1 := Int.emod_lt_of_pos n (show (0 : Int) < 9 by decide)
    exact ⟨(n % 9).toNat, by omega, by omega⟩
  refine g_cf 46 rfl ?_
  refine a_callv rfl rfl rfl rfl Try.func46 rfl rfl rfl (.int .i64 k) (fun w' hw => pickE n 9 k (by decide) (by decide) hk w') rfl ?_
  (repeat (first | ((refine (?_ : MX _ _ _ _ _ _ _ _ _ _ _)); first | refine mx_end ?_ | (refine mx_as _ rfl rfl (by conv => {lhs; whnf}) ?_) ) | refine cw_seq ?_ | refine cw_line rfl ?_ | refine cw_block ?_ | refine pw_then ?_ ))
  have kc : ∀ n, 1 ≤ n → OkC ([c0].map CD.vc) n := fun n hn => by rw [List.map_cons, List.map_nil, hc0]; exact okC_one oa hwa hn
  have hget : getV a.prog ([c0].map CD.vc) = a.vc ∧ hasV a.prog ([c0].map CD.vc) = true := by
    rw [List.map_cons, List.map_nil, hc0]
    exact ⟨by simp [getV, show a.vc.prog = a.prog from rfl], by simp [hasV, show a.vc.prog = a.prog from rfl]⟩
  refine cw_loop (ι := Nat × List (Int × Int)) (fun q => [(8, .int .i64 q.1), (7, .pointer (some ⟨bx, 0, none⟩)), (2, .int .i64 k), (3, .pointer (some ⟨b3, 0, none⟩))]) (fun q => [star (OCc bx fm rm 9 [c0] q.2), row b3 59 (cCD a)]) (fun q => q.1 ≤ k ∧ (q.2.map Prod.fst).Nodup ∧ runs a.prog q.2 = q.1 ∧ ∀ p, 0 ≤ runs p q.2 ∧ runs p q.2 ≤ q.1) (fun q => k - q.1) (0, []) ⟨Nat.zero_le _, by simp, rfl, fun p => ⟨Int.le_refl _, Int.le_refl _⟩⟩ ⟨rfl, rfl, rfl, rfl, trivial⟩ (fun w h => h) ?_
  rintro ⟨i, rs⟩ jk ⟨hi, hn, hr, hb⟩
  dsimp only at hi hn hr hb ⊢
  obtain ⟨v1, hv1⟩ : ∃ v1 : Int, (i : Int) + 1 = v1 := ⟨_, rfl⟩
  have hb2 := hb a.prog
  by_cases h0 : (i : Int) < k
  case pos =>
    (repeat (first | ((refine (?_ : MX _ _ _ _ _ _ _ _ _ _ _)); first | refine mx_end ?_ | (refine mx_mv _ rfl rfl (by conv => {lhs; whnf}) ?_) | (refine mx_fa0 E rfl rfl rfl rfl ?_ ) | (refine g_load rfl ?_; refine mx_get E rfl rfl rfl rfl rfl (by rfl) rfl ?_ ) | (refine g_bin rfl ?_; ( (refine mx_cmpl .lss rfl rfl rfl rfl rfl (by exact cmp_lt_t (by omega) ) ?_) ) ) ) | refine cw_seq ?_ | refine cw_line rfl ?_ | refine cw_block ?_ | refine cw_cond_t rfl ?_ | refine cw_skip ?_ | refine pw_then ?_ ))
    refine g_cf 33 rfl ?_; refine a_co0 rfl rfl rfl rfl Try.func33 rfl rfl rfl (OCc bx fm rm 9 [c0] rs) (fun a : {rs' : List (Int × Int) // (rs'.map Prod.fst).Nodup ∧ ∀ q, runs q rs' = if q = a.prog then runs a.prog rs + 1 else runs q rs} => .int .i64 v1) (fun a => OCc bx fm rm 9 [c0] a.1) (fun w' hw h => run33 bx fm rm 9 [c0] rs hn a.prog (by omega) v1 (by rw [hr]; exact hv1) w' h) (fun _ => rfl) (fun _ _ _ => trivial) (fun qr => ?_)
    obtain ⟨r1, n1, h1⟩ := qr
    dsimp only
    refine mx_weak (H' := [star (OCc bx fm rm 9 [c0] r1), row b3 59 (cCD a)]) (fun w h => h) (fun _ _ => trivial) ?_
    (repeat (first | ((refine (?_ : MX _ _ _ _ _ _ _ _ _ _ _)); first | refine mx_end ?_ | (refine mx_mv _ rfl rfl (by conv => {lhs; whnf}) ?_) | (refine mx_fa0 E rfl rfl rfl rfl ?_ ) | (refine g_load rfl ?_; refine mx_get E rfl rfl rfl rfl rfl (by rfl) rfl ?_ ) ) | refine cw_seq ?_ | refine cw_line rfl ?_ | refine pw_then ?_ ))
    refine g_cf 43 rfl ?_; refine a_callo rfl rfl rfl rfl Try.func43 rfl rfl rfl 0 rfl (fun gg : {gg : CD // gg.vc = a.vc} => .tuple #[.agg (cCD gg.1).toArray, .bool true]) (fun gg => OCd gg.1) (fun _ => OCc bx fm rm 9 [c0] r1) (fun w' hw h => get43v bx fm rm 9 [c0] r1 (kc 1000 (by decide)) a.prog a.vc true hget w' h) (fun _ => rfl) (fun _ _ _ => trivial) (fun qg => ?_)
    obtain ⟨g, hg⟩ := qg
    refine mx_weak (H' := [star (OCd g), star (OCc bx fm rm 9 [c0] r1), row b3 59 (cCD a)]) (fun w h => Ok.star (L := OCd g) (H := [star (OCc bx fm rm 9 [c0] r1), row b3 59 (cCD a)]) h) (fun _ _ => trivial) ?_
    (repeat (first | ((refine (?_ : MX _ _ _ _ _ _ _ _ _ _ _)); first | refine mx_end ?_ | (refine mx_mv _ rfl rfl (by conv => {lhs; whnf}) ?_) | (refine mx_as _ rfl rfl (by conv => {lhs; whnf}) ?_) | (refine g_load rfl ?_; refine mx_getn E rfl rfl rfl rfl rfl (by exact Vr.all rfl ) rfl ?_ ) | (refine mx_not rfl rfl rfl ?_) | (refine mx_ex _ rfl rfl rfl (by conv => {lhs; whnf}) ?_) | (refine g_store rfl ?_; refine s_l E rfl rfl rfl rfl rfl rfl rfl (by exact Sp.all rfl ) rfl ?_ ) | (refine a_new rfl rfl rfl rfl rfl (fun _ => ?_)) ) | refine cw_seq ?_ | refine cw_line rfl ?_ | refine pw_then ?_ ))
    have og : OkF g.vc := by rw [hg]; exact oa
    have lg : g.ops.length ≤ 1000 := by have := og.o; rwa [show g.vc.ops = g.ops.map _ from rfl, List.length_map] at this
    have lt : g.at'.length ≤ 1000 := og.t
    have le : g.evs.length ≤ 1000 := by have := og.e; rwa [show g.vc.evs = g.evs.map _ from rfl, List.length_map] at this
    refine g_cf 45 rfl ?_
    refine a_callv rfl rfl rfl rfl Try.func45 rfl rfl rfl (.bool true) (fun w' hw => same45 g a hg (by omega) w' (rd_own (hw.holds 1 _ rfl) (fun r hr => hr) og) (ra.keep hw)) rfl ?_
    (repeat (first | ((refine (?_ : MX _ _ _ _ _ _ _ _ _ _ _)); first | refine mx_end ?_ | (refine g_load rfl ?_; refine mx_getn E rfl rfl rfl rfl rfl (by exact Vr.all rfl ) rfl ?_ ) | (refine mx_not rfl rfl rfl ?_) | (refine g_pick rfl ?_; refine mx_or rfl rfl rfl rfl rfl rfl ?_ ) ) | refine cw_line rfl ?_ | refine cw_cond_f rfl ?_ | refine cw_skip ?_ | refine pw_then ?_ ))
    refine g_cf 47 rfl ?_
    refine a_co0 rfl rfl rfl rfl Try.func47 rfl rfl rfl (OCd g) (fun _ : Unit => .tuple #[]) (fun _ => []) (fun w' hw h => spoilC47 g (by omega) (fun o ho => og.os o.v (List.mem_map.2 ⟨o, ho, rfl⟩)) (fun x hx => og.es x.v (List.mem_map.2 ⟨x, hx, rfl⟩)) w' h) (fun _ => rfl) (fun _ _ _ => trivial) (fun _ => ?_)
    (repeat (first | ((refine (?_ : MX _ _ _ _ _ _ _ _ _ _ _)); first | refine mx_end ?_ | (refine mx_mv _ rfl rfl (by conv => {lhs; whnf}) ?_) | (refine mx_as _ rfl rfl (by conv => {lhs; whnf}) ?_) | (refine g_bin rfl ?_; (refine mx_ar rfl rfl rfl rfl rfl rfl ((IntWalk.i64_in _ (by omega)).trans (by with_reducible assumption)) rfl ?_ ) ) ) | refine cw_line rfl ?_ | refine pw_then ?_ | refine pw_block ?_ ))
    subst hv1
    exact pw_round ⟨i + 1, r1⟩ ⟨by show i + 1 ≤ k; omega, n1, by rw [h1, if_pos rfl, hr]; rfl, fun p => by
      have := hb p
      have h2 := h1 p
      by_cases e : p = a.prog
      · rw [if_pos e] at h2
        show 0 ≤ runs p r1 ∧ runs p r1 ≤ ((i + 1 : Nat) : Int)
        omega
      · rw [if_neg e] at h2
        show 0 ≤ runs p r1 ∧ runs p r1 ≤ ((i + 1 : Nat) : Int)
        omega⟩ (by show k - (i + 1) < k - i; omega) ⟨rfl, rfl, rfl, rfl, trivial⟩ (fun w h => h.pick [2, 3] (by simp) rfl)
  obtain rfl : i = k := by omega
  have hfil : ([c0].filter fun c => decide (c.prog ≠ a.prog)) = [] := by simp [hpr]
  have hnd : ([c0].map CD.prog).Nodup := by simp
  (repeat (first | ((refine (?_ : MX _ _ _ _ _ _ _ _ _ _ _)); first | refine mx_end ?_ | (refine mx_mv _ rfl rfl (by conv => {lhs; whnf}) ?_) | (refine mx_fa0 E rfl rfl rfl rfl ?_ ) | (refine g_load rfl ?_; refine mx_get E rfl rfl rfl rfl rfl (by rfl) rfl ?_ ) | (refine g_bin rfl ?_; ( (refine mx_cmpl .lss rfl rfl rfl rfl rfl (by exact cmp_lt_f (by omega) ) ?_) ) ) ) | refine cw_seq ?_ | refine cw_line rfl ?_ | refine cw_cond_f rfl ?_ | refine cw_exit ?_ | refine pw_then ?_ | refine pw_then_x ?_ | refine pw_block_e ?_ ))
  refine g_cf 48 rfl ?_
  refine a_co0 rfl rfl rfl rfl Try.func48 rfl rfl rfl (OCc bx fm rm 9 [c0] rs) (fun _ : Unit => .bool true) (fun _ => OCc bx fm rm 9 [] rs) (fun w' hw h => drop48v bx fm rm 9 [c0] [] rs hnd a.prog true hget.2 hfil w' h) (fun _ => rfl) (fun _ _ _ => trivial) (fun _ => ?_)
  refine mx_weak (H' := [star (OCc bx fm rm 9 [] rs), row b3 59 (cCD a)]) (fun w h => h) (fun _ _ => trivial) ?_
  (repeat (((refine (?_ : MX _ _ _ _ _ _ _ _ _ _ _)); first | (refine mx_mv _ rfl rfl (by conv => {lhs; whnf}) ?_) | (refine mx_fa0 E rfl rfl rfl rfl ?_ ) | (refine g_load rfl ?_; refine mx_get E rfl rfl rfl rfl rfl (by rfl) rfl ?_ ) | (refine mx_not rfl rfl rfl ?_) ) ))
  refine g_cf 48 rfl ?_
  refine a_co0 rfl rfl rfl rfl Try.func48 rfl rfl rfl (OCc bx fm rm 9 [] rs) (fun _ : Unit => .bool false) (fun _ => OCc bx fm rm 9 [] rs) (fun w' hw h => drop48v bx fm rm 9 [] [] rs (by simp) a.prog false rfl rfl w' h) (fun _ => rfl) (fun _ _ _ => trivial) (fun _ => ?_)
  refine mx_weak (H' := [star (OCc bx fm rm 9 [] rs), row b3 59 (cCD a)]) (fun w h => h) (fun _ _ => trivial) ?_
  (repeat (((refine (?_ : MX _ _ _ _ _ _ _ _ _ _ _)); first | (refine mx_mv _ rfl rfl (by conv => {lhs; whnf}) ?_) | (refine mx_fa0 E rfl rfl rfl rfl ?_ ) | (refine g_load rfl ?_; refine mx_get E rfl rfl rfl rfl rfl (by rfl) rfl ?_ ) | (refine g_pick rfl ?_; refine mx_or rfl rfl rfl rfl rfl rfl ?_ ) ) ))
  refine g_cf 33 rfl ?_; refine a_co0 rfl rfl rfl rfl Try.func33 rfl rfl rfl (OCc bx fm rm 9 ([] : List CD) rs) (fun a : {rs' : List (Int × Int) // (rs'.map Prod.fst).Nodup ∧ ∀ q, runs q rs' = if q = a.prog then runs a.prog rs + 1 else runs q rs} => .int .i64 v1) (fun a => OCc bx fm rm 9 ([] : List CD) a.1) (fun w' hw h => run33 bx fm rm 9 ([] : List CD) rs hn a.prog (by omega) v1 (by rw [hr]; exact hv1) w' h) (fun _ => rfl) (fun _ _ _ => trivial) (fun qr => ?_)
  obtain ⟨r1, n1, h1⟩ := qr
  dsimp only
  refine mx_weak (H' := [star (OCc bx fm rm 9 [] r1), row b3 59 (cCD a)]) (fun w h => h) (fun _ _ => trivial) ?_
  have hb1 : ∀ q, 0 ≤ runs q r1 ∧ runs q r1 ≤ 1000000 := fun q => by
    rw [h1 q]
    have := hb q
    split <;> omega
  (repeat (first | ((refine (?_ : MX _ _ _ _ _ _ _ _ _ _ _)); first | refine mx_end ?_ | (refine mx_mv _ rfl rfl (by conv => {lhs; whnf}) ?_) | (refine mx_fa0 E rfl rfl rfl rfl ?_ ) | (refine g_load rfl ?_; refine mx_get E rfl rfl rfl rfl rfl (by rfl) rfl ?_ ) | (refine g_bin rfl ?_; first | ( (refine mx_cmpl .neq rfl rfl rfl rfl rfl (by exact cmp_ne_f (by omega) ) ?_) ) | (refine mx_ar rfl rfl rfl rfl rfl rfl ((IntWalk.i64_in _ (by omega)).trans (by with_reducible assumption)) rfl ?_ ) ) | (refine g_pick rfl ?_; refine mx_or rfl rfl rfl rfl rfl rfl ?_ ) ) | refine cw_seq ?_ | refine cw_line rfl ?_ | refine cw_cond_f rfl ?_ | refine cw_skip ?_ | refine pw_then ?_ ))
  refine g_cf 43 rfl ?_; refine a_callo rfl rfl rfl rfl Try.func43 rfl rfl rfl 0 rfl (fun gg : {gg : CD // gg.vc = zeroV} => .tuple #[.agg (cCD gg.1).toArray, .bool false]) (fun gg => OCd gg.1) (fun _ => OCc bx fm rm 9 ([] : List CD) r1) (fun w' hw h => get43v bx fm rm 9 ([] : List CD) r1 (o0 1000) a.prog zeroV false ⟨rfl, rfl⟩ w' h) (fun _ => rfl) (fun _ _ _ => trivial) (fun qg => ?_)
  obtain ⟨g, hg⟩ := qg
  refine mx_weak (H' := [star (OCc bx fm rm 9 [] r1), row b3 59 (cCD a)]) (fun w h => (Ok.star (L := OCd g) (H := [star (OCc bx fm rm 9 [] r1), row b3 59 (cCD a)]) h).pick [1, 2] (by simp) rfl) (fun _ _ => trivial) ?_
  (repeat (first | ((refine (?_ : MX _ _ _ _ _ _ _ _ _ _ _)); first | refine mx_end ?_ | (refine mx_mv _ rfl rfl (by conv => {lhs; whnf}) ?_) | (refine mx_as _ rfl rfl (by conv => {lhs; whnf}) ?_) | (refine g_load rfl ?_; refine mx_getn E rfl rfl rfl rfl rfl (by exact Vr.all rfl ) rfl ?_ ) | (refine mx_ex _ rfl rfl rfl (by conv => {lhs; whnf}) ?_) | (refine g_store rfl ?_; refine s_l E rfl rfl rfl rfl rfl rfl rfl (by exact Sp.all rfl ) rfl ?_ ) | (refine a_new rfl rfl rfl rfl rfl (fun _ => ?_)) ) | refine cw_seq ?_ | refine cw_line rfl ?_ | refine pw_then ?_ ))
  refine mx_weak (H' := [star (OCc bx fm rm 9 [] r1), row b3 59 (cCD a)]) (fun w h => h.pick [1, 2] (by simp) rfl) (fun _ _ => trivial) ?_
  refine g_cf 34 rfl ?_; refine a_co1 rfl rfl rfl rfl Try.func34 rfl rfl rfl (OCc bx fm rm 9 ([] : List CD) r1) (fun a : (Option Addr × Nat) × {fs' : List CD // fs'.map CD.vc = [a.vc]} => .slice a.1.1 0 a.1.2) (fun a => ownd a.1.1 a.1.2 3 1 0 []) (fun a => OCc bx fm rm 9 a.2.1 r1) (fun w' hw h => put34 bx fm rm 9 (by decide) ([] : List CD) r1 (o0 998) hb1 a oa hwa [] [a.vc] (put_one (by decide) _ _) w' (fun w2 hc => ra.grow (oldGr hw 0 rfl hc)) h) (fun _ => rfl) (fun _ _ _ => trivial) (fun qp => ?_)
  obtain ⟨⟨a3, d3⟩, ⟨f3, g3⟩⟩ := qp
  obtain ⟨c3, rfl, hc3⟩ : ∃ c0, f3 = [c0] ∧ c0.vc = a.vc := by
    match f3, g3 with
    | [], h => simp at h
    | [c0], h => exact ⟨c0, rfl, by simpa using h⟩
    | x :: y :: l, h => simp at h
  have hpr3 : c3.prog = a.prog := congrArg VC.prog hc3
  refine mx_weak (H' := [star (OCc bx fm rm 9 [c3] r1), row b3 59 (cCD a)]) (fun w h => h.pick [1, 2] (by simp) rfl) (fun _ _ => trivial) ?_
  have hfil3 : ([c3].filter fun c => decide (c.prog ≠ a.prog)) = [] := by simp [hpr3]
  obtain ⟨r2, hr2⟩ : ∃ r2, (r1.filter fun e => decide (e.1 ≠ a.prog)) = r2 := ⟨_, rfl⟩
  have hz2 : runs a.prog r2 = 0 := by rw [← hr2]; exact runs_gone _ _
  have n2 : (r2.map Prod.fst).Nodup := by rw [← hr2]; exact n1.sublist (List.filter_sublist.map _)
  (repeat (first | ((refine (?_ : MX _ _ _ _ _ _ _ _ _ _ _)); first | refine mx_end ?_ | (refine mx_mv _ rfl rfl (by conv => {lhs; whnf}) ?_) | (refine mx_fa0 E rfl rfl rfl rfl ?_ ) | (refine g_load rfl ?_; refine mx_get E rfl rfl rfl rfl rfl (by rfl) rfl ?_ ) ) | refine cw_seq ?_ | refine cw_line rfl ?_ | refine pw_then ?_ ))
  refine g_cf 49 rfl ?_
  refine a_co0 rfl rfl rfl rfl Try.func49 rfl rfl rfl (OCc bx fm rm 9 [c3] r1) (fun _ : Unit => .tuple #[]) (fun _ => OCc bx fm rm 9 [] r2) (fun w' hw h => forget49v bx fm rm 9 [c3] [] r1 r2 (by simp) n1 a.prog hfil3 hr2 w' h) (fun _ => rfl) (fun _ _ _ => trivial) (fun _ => ?_)
  refine mx_weak (H' := [star (OCc bx fm rm 9 [] r2), row b3 59 (cCD a)]) (fun w h => h) (fun _ _ => trivial) ?_
  (repeat (first | ((refine (?_ : MX _ _ _ _ _ _ _ _ _ _ _)); first | refine mx_end ?_ | (refine mx_mv _ rfl rfl (by conv => {lhs; whnf}) ?_) | (refine mx_fa0 E rfl rfl rfl rfl ?_ ) | (refine g_load rfl ?_; refine mx_get E rfl rfl rfl rfl rfl (by rfl) rfl ?_ ) ) | refine cw_seq ?_ | refine cw_line rfl ?_ | refine pw_then ?_ ))
  refine g_cf 43 rfl ?_; refine a_callo rfl rfl rfl rfl Try.func43 rfl rfl rfl 0 rfl (fun gg : {gg : CD // gg.vc = zeroV} => .tuple #[.agg (cCD gg.1).toArray, .bool false]) (fun gg => OCd gg.1) (fun _ => OCc bx fm rm 9 ([] : List CD) r2) (fun w' hw h => get43v bx fm rm 9 ([] : List CD) r2 (o0 1000) a.prog zeroV false ⟨rfl, rfl⟩ w' h) (fun _ => rfl) (fun _ _ _ => trivial) (fun qg => ?_)
  obtain ⟨g4, hg4⟩ := qg
  refine mx_weak (H' := [star (OCc bx fm rm 9 [] r2), row b3 59 (cCD a)]) (fun w h => (Ok.star (L := OCd g4) (H := [star (OCc bx fm rm 9 [] r2), row b3 59 (cCD a)]) h).pick [1, 2] (by simp) rfl) (fun _ _ => trivial) ?_
  (repeat (first | ((refine (?_ : MX _ _ _ _ _ _ _ _ _ _ _)); first | refine mx_end ?_ | (refine mx_mv _ rfl rfl (by conv => {lhs; whnf}) ?_) | (refine mx_as _ rfl rfl (by conv => {lhs; whnf}) ?_) | (refine mx_fa0 E rfl rfl rfl rfl ?_ ) | (refine g_load rfl ?_; refine mx_get E rfl rfl rfl rfl rfl (by rfl) rfl ?_ ) | (refine mx_not rfl rfl rfl ?_) | (refine mx_ex _ rfl rfl rfl (by conv => {lhs; whnf}) ?_) | (refine g_pick rfl ?_; refine mx_and rfl rfl rfl rfl rfl rfl ?_ ) | (refine g_store rfl ?_; refine s_l E rfl rfl rfl rfl rfl rfl rfl (by exact Sp.all rfl ) rfl ?_ ) | (refine a_new rfl rfl rfl rfl rfl (fun _ => ?_)) ) | refine cw_seq ?_ | refine cw_line rfl ?_ | refine pw_then ?_ ))
  refine mx_weak (H' := [star (OCc bx fm rm 9 [] r2), row b3 59 (cCD a)]) (fun w h => h.pick [1, 2] (by simp) rfl) (fun _ _ => trivial) ?_
  refine g_cf 33 rfl ?_; refine a_co0 rfl rfl rfl rfl Try.func33 rfl rfl rfl (OCc bx fm rm 9 ([] : List CD) r2) (fun a : {rs' : List (Int × Int) // (rs'.map Prod.fst).Nodup ∧ ∀ q, runs q rs' = if q = a.prog then runs a.prog r2 + 1 else runs q r2} => .int .i64 1) (fun a => OCc bx fm rm 9 ([] : List CD) a.1) (fun w' hw h => run33 bx fm rm 9 ([] : List CD) r2 n2 a.prog (by omega) 1 (by rw [hz2]; rfl) w' h) (fun _ => rfl) (fun _ _ _ => trivial) (fun qr => ?_)
  obtain ⟨r4, n4, h4⟩ := qr
  dsimp only
  refine mx_weak (H' := [star (OCc bx fm rm 9 [] r4), row b3 59 (cCD a)]) (fun w h => h) (fun _ _ => trivial) ?_
  have hp0 : progsL (([] : List CD).map CD.vc) = [] := by simp [progsL, srt]
  (repeat (((refine (?_ : MX _ _ _ _ _ _ _ _ _ _ _)); first | (refine mx_mv _ rfl rfl (by conv => {lhs; whnf}) ?_) | (refine g_bin rfl ?_; ((refine mx_cmpl .eql rfl rfl rfl rfl rfl (by exact cmp_eq_t (by omega) ) ?_) ) ) | (refine g_pick rfl ?_; refine mx_and rfl rfl rfl rfl rfl rfl ?_ ) ) ))
  refine g_cf 35 rfl ?_; refine a_co1 rfl rfl rfl rfl Try.func35 rfl rfl rfl (OCc bx fm rm 9 ([] : List CD) r4) (fun a : Option Addr × Nat => .slice a.1 (([] : List Int) : List Int).length a.2) (fun a => ownd a.1 a.2 3 1 (([] : List Int) : List Int).length ((([] : List Int) : List Int).flatMap cI)) (fun _ => OCc bx fm rm 9 ([] : List CD) r4) (fun w' hw h => progs35 bx fm rm 9 ([] : List CD) r4 (o0 1000) ([] : List Int) (hp0) w' h) (fun _ => rfl) (fun _ _ _ => trivial) (fun qp => ?_)
  (repeat (((refine (?_ : MX _ _ _ _ _ _ _ _ _ _ _)); first | (refine mx_mv _ rfl rfl (by conv => {lhs; whnf}) ?_) | (refine g_bin rfl ?_; ((refine mx_cmpl .eql rfl rfl rfl rfl rfl (by rfl) ?_) ) ) | (refine g_bi .len rfl ?_; refine mx_len E rfl rfl rfl rfl ?_) | (refine g_pick rfl ?_; refine mx_and rfl rfl rfl rfl rfl rfl ?_ ) ) ))
  refine g_cf 38 rfl ?_
  refine a_callv rfl rfl rfl rfl Try.func38 rfl rfl rfl (.bool true) (fun w' hw => known38 w') rfl ?_
  (repeat (first | ((refine (?_ : MX _ _ _ _ _ _ _ _ _ _ _)); first | refine mx_end ?_ | (refine mx_as _ rfl rfl (by conv => {lhs; whnf}) ?_) | (refine g_pick rfl ?_; refine mx_and rfl rfl rfl rfl rfl rfl ?_ ) ) | refine cw_ret ?_ | refine pw_then ?_ ))
  exact pw_ret rfl rfl rfl rfl fun w hw => ⟨rfl, hw.keep.grow⟩
end Go.Proofs.Ytikdbgheefjpkaa
