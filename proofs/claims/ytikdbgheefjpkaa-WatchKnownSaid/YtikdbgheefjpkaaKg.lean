/- The program's watch: Hit, Progs. -/
import Derived.Test.YtikdbgheefjpkaaKf
set_option maxRecDepth 100000
set_option maxHeartbeats 8000000
set_option linter.unusedSimpArgs false
set_option linter.unusedVariables false
namespace Go.Proofs.Ytikdbgheefjpkaa
open Go Go.Sx Go.RowKit
/-- Which programs are watched, rising. -/
def progsV (L : List (Int × List VE)) : List Int := thoseV (fun _ => true) L
/-- Which are hit. -/
def hitV (h : List VE) (L : List (Int × List VE)) : List Int := thoseV (fun m => brkV h m) L
theorem clo59 (v : Value) (w : World) : Calls Try.prog 59 #[v] w fun r w' => r = .returned (.bool true) ∧ Grow w w' := by
  refine enter1 (S := fun _ => False) 3 Try.func59 rfl rfl rfl (Ok.start w) ?_
  (repeat (first | ((refine (?_ : MX _ _ _ _ _ _ _ _ _ _ _)); first | refine mx_end ?_ | (refine mx_as _ rfl rfl (by conv => {lhs; whnf}) ?_) ) | refine cw_seq ?_ | refine cw_line rfl ?_ | refine cw_ret ?_ | refine pw_then ?_ ))
  exact pw_ret rfl rfl rfl rfl fun w hw => ⟨rfl, hw.keep.grow⟩
theorem progs26 (bx mp : Nat) (l : List WE) (hk : OkP (l.map WE.vw) 1000) (w : World) (h0 : Ok (domL (OW bx mp l)) w (OW bx mp l) w) :
    Calls Try.prog 26 #[.pointer (some ⟨bx, 0, none⟩)] w fun e w' => ∃ a : Option Addr × Nat, e = .returned (.slice a.1 (progsV (l.map WE.vw)).length a.2) ∧ Ok (domL (OW bx mp l)) w ([ownd a.1 a.2 3 1 (progsV (l.map WE.vw)).length ((progsV (l.map WE.vw)).flatMap cI)] ++ OW bx mp l) w' := by
  refine enter1 (S := domL (OW bx mp l)) (H := OW bx mp l) 5 Try.func26 rfl rfl rfl h0 ?_
  (repeat (first | ((refine (?_ : MX _ _ _ _ _ _ _ _ _ _ _)); first | refine mx_end ?_ | (refine mx_mv _ rfl rfl (by conv => {lhs; whnf}) ?_) | (refine mx_as _ rfl rfl (by conv => {lhs; whnf}) ?_) ) | refine cw_seq ?_ | refine cw_line rfl ?_ | refine pw_then ?_ ))
  refine g_cf 53 rfl ?_
  refine a_callL rfl rfl rfl rfl Try.func53 rfl rfl rfl (OW bx mp l) [] (by rw [List.append_nil]) (fun a : Option Addr × Nat => .slice a.1 (progsV (l.map WE.vw)).length a.2) (fun a => [ownd a.1 a.2 3 1 (progsV (l.map WE.vw)).length ((progsV (l.map WE.vw)).flatMap cI)] ++ OW bx mp l) (fun w' _ h => those53 59 _ Try.func59 rfl rfl [] (fun _ => true) bx mp l hk w' h (fun e _ w'' _ _ => clo59 _ w'')) (fun _ => rfl) (fun _ _ _ => trivial) (fun a => ?_)
  (repeat (first | ((refine (?_ : MX _ _ _ _ _ _ _ _ _ _ _)); first | refine mx_end ?_ | (refine mx_as _ rfl rfl (by conv => {lhs; whnf}) ?_) ) | refine cw_ret ?_ | refine pw_then ?_ ))
  exact pw_ret rfl rfl rfl rfl fun w' hw => ⟨a, rfl, by rw [List.append_nil] at hw; exact hw⟩
theorem clo54 (e : WE) (hz : e.evs.length ≤ 1000) (ad : Option Addr) (cap : Nat) (hap : List EV) (hs : hap.length ≤ 1000) (be : Nat) (w : World) (hb : (row be 29 [.slice ad hap.length cap]).holds w) (he : EvR w e.ad e.evs) (hh : EvR w ad hap) :
    Calls Try.prog 54 #[.slice e.ad e.evs.length e.cap, .pointer (some ⟨be, 0, none⟩)] w fun r w' => r = .returned (.bool (brkV (hap.map EV.v) e.vs)) ∧ Grow w w' := by
  refine enter2 (S := fun _ => False) 7 Try.func54 rfl rfl rfl (Ok.start w) ?_
  have hS : ¬ (fun _ : Nat => False) be := id
  (repeat (first | ((refine (?_ : MX _ _ _ _ _ _ _ _ _ _ _)); first | refine mx_end ?_ | (refine mx_mv _ rfl rfl (by conv => {lhs; whnf}) ?_) | (refine mx_as _ rfl rfl (by conv => {lhs; whnf}) ?_) | (refine g_load rfl ?_; refine mx_orow E rfl rfl rfl rfl rfl (by assumption) (by assumption) (by rfl) rfl ?_ ) ) | refine cw_seq ?_ | refine cw_line rfl ?_ | refine pw_then ?_ ))
  refine g_cf 29 rfl ?_
  refine a_callv rfl rfl rfl rfl Try.func29 rfl rfl rfl (.bool (brkV (hap.map EV.v) e.vs)) (fun w' hw => breaks29 ad e.ad cap e.cap hap e.evs (by omega) (by omega) w' (hh.keep hw) (he.keep hw)) rfl ?_
  (repeat (first | ((refine (?_ : MX _ _ _ _ _ _ _ _ _ _ _)); first | refine mx_end ?_ | (refine mx_as _ rfl rfl (by conv => {lhs; whnf}) ?_) ) | refine cw_ret ?_ | refine pw_then ?_ ))
  exact pw_ret rfl rfl rfl rfl fun w hw => ⟨rfl, hw.keep.grow⟩
theorem filt_take {l : List WE} {out : List Int} {i : Nat} {x : Int} (hx : out[i]? = some x) : (l.filter fun e => decide (e.k ∉ out.take i)).filter (fun e => decide (e.k ≠ x)) = l.filter fun e => decide (e.k ∉ out.take (i + 1)) := by
  rw [List.filter_filter]
  congr 1
  funext e
  rw [List.take_add_one, hx]
  simp only [Option.toList_some, List.mem_append, List.mem_singleton, not_or]
  by_cases h1 : e.k ∈ out.take i <;> by_cases h2 : e.k = x <;> simp [h1, h2]
theorem hit20 (bx mp : Nat) (l : List WE) (hk : OkP (l.map WE.vw) 1000) (ad : Option Addr) (cap : Nat) (hap : List EV) (hs : hap.length ≤ 1000) (w : World) (hd : ∀ w', Chg (domL (OW bx mp l)) w w' → EvR w' ad hap) (h0 : Ok (domL (OW bx mp l)) w (OW bx mp l) w) :
    Calls Try.prog 20 #[.pointer (some ⟨bx, 0, none⟩), .slice ad hap.length cap] w fun e w' => ∃ a : Option Addr × Nat, e = .returned (.slice a.1 (hitV (hap.map EV.v) (l.map WE.vw)).length a.2) ∧ Ok (domL (OW bx mp l)) w ([ownd a.1 a.2 3 1 (hitV (hap.map EV.v) (l.map WE.vw)).length ((hitV (hap.map EV.v) (l.map WE.vw)).flatMap cI)] ++ OW bx mp (l.filter fun e => decide (e.k ∉ hitV (hap.map EV.v) (l.map WE.vw)))) w' := by
  refine enter2 (S := domL (OW bx mp l)) (H := OW bx mp l) 22 Try.func20 rfl rfl rfl h0 ?_
  (repeat (first | ((refine (?_ : MX _ _ _ _ _ _ _ _ _ _ _)); first | refine mx_end ?_ | (refine mx_mv _ rfl rfl (by conv => {lhs; whnf}) ?_) | (refine mx_as _ rfl rfl (by conv => {lhs; whnf}) ?_) | (refine g_box rfl ?_; refine a_box1 rfl rfl rfl rfl rfl rfl rfl (fun _ => ?_)) | ( refine mx_fn rfl rfl rfl rfl rfl rfl ?_) ) | refine cw_seq ?_ | refine cw_line rfl ?_ | refine pw_then ?_ ))
  rename_i be
  refine g_cf 53 rfl ?_
  refine a_calls rfl rfl rfl rfl Try.func53 rfl rfl rfl (OW bx mp l) [row be 29 [.slice ad hap.length cap]] (fun w1 h => h.perm (List.perm_append_comm (l₁ := [row be 29 [.slice ad hap.length cap]]) (l₂ := OW bx mp l))) (fun a : Option Addr × Nat => .slice a.1 (hitV (hap.map EV.v) (l.map WE.vw)).length a.2) (fun a => [ownd a.1 a.2 3 1 (hitV (hap.map EV.v) (l.map WE.vw)).length ((hitV (hap.map EV.v) (l.map WE.vw)).flatMap cI)] ++ OW bx mp l) (fun w' hw h => those53 54 _ Try.func54 rfl rfl [.pointer (some ⟨be, 0, none⟩)] (fun m => brkV (hap.map EV.v) m) bx mp l hk w' h (fun e he w'' hg hev => clo54 e (evR_of hk (h.holds 2 _ rfl) he).2 ad cap hap hs be w'' (by
      have h1 : (row be 29 [.slice ad hap.length cap]).holds w' := hw.holds 3 _ rfl
      refine (row be 29 [.slice ad hap.length cap]).loc w' w'' (fun b hb => ?_) h1
      obtain rfl : b = be := hb
      refine hg.old b (row_lt h1 b rfl) (fun hd => ?_)
      obtain ⟨j, r, hj, hr⟩ := hd
      have hj3 : j < 3 := (List.getElem?_eq_some_iff.1 hj).1
      exact hw.sep 3 j _ r rfl (by rw [List.getElem?_append_left (show j < (OW bx mp l).length from hj3)]; exact hj) (by omega) b rfl hr) hev (hd w'' (hw.keep.trans hg)))) (fun _ => rfl) (fun _ _ _ => trivial) (fun a => ?_)
  obtain ⟨a1, c1⟩ := a
  generalize hout : hitV (hap.map EV.v) (l.map WE.vw) = out
  have hol : out.length ≤ 1000 := by
    rw [← hout]
    unfold hitV thoseV
    rw [srt_len, List.length_map]
    exact Nat.le_trans (List.length_filter_le ..) hk.len
  (repeat (first | ((refine (?_ : MX _ _ _ _ _ _ _ _ _ _ _)); first | refine mx_end ?_ | (refine mx_mv _ rfl rfl (by conv => {lhs; whnf}) ?_) | (refine mx_as _ rfl rfl (by conv => {lhs; whnf}) ?_) | (refine g_bi .len rfl ?_; refine mx_len E rfl rfl rfl rfl ?_) ) | refine cw_seq ?_ | refine cw_line rfl ?_ | refine cw_block ?_ | refine pw_then ?_ ))
  refine cw_loop (fun i : Nat => [(13, .int .i64 i), (12, .int .i64 out.length), (11, .slice a1 out.length c1), (5, .slice a1 out.length c1), (0, .pointer (some ⟨bx, 0, none⟩))]) (fun i => ownd a1 c1 3 1 out.length (out.flatMap cI) :: OW bx mp (l.filter fun e => decide (e.k ∉ out.take i))) (fun i => i ≤ out.length) (fun i => out.length - i) 0 (Nat.zero_le _) ⟨rfl, rfl, rfl, rfl, rfl, trivial⟩ (fun w h => ?_) ?_
  · have e0 : (l.filter fun e => decide (e.k ∉ out.take 0)) = l := List.filter_eq_self.2 fun e _ => by simp
    rw [e0]
    exact h.sub (by simp)
  intro i jk hi
  by_cases h1 : (i : Int) < out.length
  case neg =>
    obtain rfl : i = out.length := by omega
    rw [List.take_length]
    (repeat (first | ((refine (?_ : MX _ _ _ _ _ _ _ _ _ _ _)); first | refine mx_end ?_ | (refine mx_mv _ rfl rfl (by conv => {lhs; whnf}) ?_) | (refine mx_as _ rfl rfl (by conv => {lhs; whnf}) ?_) | (refine g_bin rfl ?_; ( (refine mx_cmpl .lss rfl rfl rfl rfl rfl (by exact cmp_lt_f (by omega) ) ?_) ) ) ) | refine cw_seq ?_ | refine cw_line rfl ?_ | refine cw_cond_f rfl ?_ | refine cw_exit ?_ | refine cw_ret ?_ | refine pw_then ?_ | refine pw_then_x ?_ | refine pw_block_e ?_ ))
    exact pw_ret rfl rfl rfl rfl fun w' hw => ⟨(a1, c1), rfl, hw⟩
  refine cw_know (p := ∃ b, a1 = some ⟨b, 0, none⟩) (fun w hw => by obtain ⟨b, e, _⟩ := (own_at (hw.holds 0 _ rfl)).2.1 (by omega); exact ⟨b, e⟩) (fun hb => ?_)
  obtain ⟨b, rfl⟩ := hb
  obtain ⟨x, hx⟩ := getElem_some (xs := out) (i := i) (by omega)
  refine cw_ex (fun rest => row b 3 (out.flatMap cI ++ rest) :: OW bx mp (l.filter fun e => decide (e.k ∉ out.take i))) _ (fun w hw => (ok_open 0 rfl hw).imp fun rest h => ⟨h.1, h.2⟩) (fun rest he => ?_)
  have hrk : (out.flatMap cI ++ rest)[0 + i * 1]? = some (.int .i64 x) := rd_at len_I hx (show 0 < 1 by omega) rfl rest (by omega)
  (repeat (first | ((refine (?_ : MX _ _ _ _ _ _ _ _ _ _ _)); first | refine mx_end ?_ | (refine mx_mv _ rfl rfl (by conv => {lhs; whnf}) ?_) | (refine mx_as _ rfl rfl (by conv => {lhs; whnf}) ?_) | (refine g_load rfl ?_; refine mx_get E rfl rfl rfl rfl rfl (by assumption ) rfl ?_ ) | (refine g_bin rfl ?_; ( (refine mx_cmpl .lss rfl rfl rfl rfl rfl (by exact cmp_lt_t (by omega) ) ?_) ) ) | (refine g_ix rfl ?_; refine mx_ixsn E rfl rfl rfl rfl rfl rfl (by omega) rfl ?_ ) ) | refine cw_seq ?_ | refine cw_line rfl ?_ | refine cw_block ?_ | refine cw_cond_t rfl ?_ | refine cw_skip ?_ | refine pw_then ?_ ))
  refine g_cf 18 rfl ?_
  refine a_calls rfl rfl rfl rfl Try.func18 rfl rfl rfl (OW bx mp (l.filter fun e => decide (e.k ∉ out.take i))) [row b 3 (out.flatMap cI ++ rest)] (fun w1 h => h.perm (List.perm_append_comm (l₁ := [row b 3 (out.flatMap cI ++ rest)]))) (fun _ : Unit => .tuple #[]) (fun _ => OW bx mp (l.filter fun e => decide (e.k ∉ out.take (i + 1)))) (fun w' hw h => by
    rw [← filt_take hx]
    exact drop18 bx mp _ x ((nd_k hk).sublist (List.filter_sublist.map _)) w' h) (fun _ => rfl) (fun _ _ _ => trivial) (fun _ => ?_)
  (repeat (first | ((refine (?_ : MX _ _ _ _ _ _ _ _ _ _ _)); first | refine mx_end ?_ | (refine mx_mv _ rfl rfl (by conv => {lhs; whnf}) ?_) | (refine g_bin rfl ?_; ( refine mx_ar rfl rfl rfl rfl rfl rfl (IntWalk.i64_in _ (by omega)) rfl ?_ ) ) ) | refine cw_line rfl ?_ | refine pw_then ?_ | refine pw_block ?_ ))
  refine pw_round (i + 1) (by omega) (by omega) ⟨rfl, rfl, rfl, rfl, rfl, trivial⟩ (fun w h => ?_)
  have h2 := ok_close (cap := c1) (z := 1) (len := out.length) 0 rfl he.1 he.2.1 he.2.2.1 he.2.2.2 (h.perm (List.perm_append_comm (l₂ := [row b 3 (out.flatMap cI ++ rest)])))
  exact h2
end Go.Proofs.Ytikdbgheefjpkaa
