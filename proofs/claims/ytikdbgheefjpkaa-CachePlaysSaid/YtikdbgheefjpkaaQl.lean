/- The chapter's cache: the walk of known. -/
import Derived.Test.YtikdbgheefjpkaaQk
set_option maxRecDepth 100000
set_option maxHeartbeats 8000000
set_option linter.unusedSimpArgs false
set_option linter.unusedVariables false
namespace Go.Proofs.Ytikdbgheefjpkaa
open Go Go.Sx Go.RowKit
theorem b59p (p : Int) : Blt Try.prog 59 [(0, .int .i64 p)] [.int .i64 p, .slice none 0 0, .slice none 0 0, .slice none 0 0] := ⟨by kernel_rfl⟩
@[reducible] def pv (p : Int) : VC := ⟨p, [], [], []⟩
@[reducible] def pC (p : Int) : CD := ⟨p, none, 0, [], none, 0, [], none, 0, []⟩
theorem rd_pC (p : Int) (w : World) : RdD w (pC p) := ⟨fun h => absurd rfl h, fun x hx => (by cases hx), fun h => absurd rfl h, fun h => absurd rfl h, fun x hx => (by cases hx)⟩
theorem okF_pv (p : Int) : OkF (pv p) := ⟨by simp, by simp, by simp, fun o ho => (by cases ho), fun e he => (by cases he)⟩
theorem wfI_of {p : Int} (h0 : 0 ≤ p) (h1 : p ≤ 1000000) : wfI p := by
  unfold wfI
  have h2 : IntKind.i64.min = -9223372036854775808 := by decide
  have h3 : IntKind.i64.max = 9223372036854775807 := by decide
  simp only [Lit.wf, h2, h3, Bool.and_eq_true, decide_eq_true_eq]
  omega
theorem srt_idq {l : List Int} (h : l.Pairwise (· < ·)) : srt l = l := (srt_perm l).eq_of_pairwise (fun a b _ _ h1 h2 => by omega) (srt_le l) (h.imp fun h => by omega)
theorem progs_sorted {L : List VC} (h : (L.map VC.prog).Pairwise (· < ·)) : progsL L = L.map VC.prog := srt_idq h
theorem known38 (w : World) : Calls Try.prog 38 #[] w fun e w' => e = .returned (.bool true) ∧ Grow w w' := by
  refine enter0 (S := fun _ => False) 57 Try.func38 rfl rfl rfl (Ok.start w) ?_
  (repeat (first | ((refine (?_ : MX _ _ _ _ _ _ _ _ _ _ _)); first | refine mx_end ?_ | (refine mx_as _ rfl rfl (by conv => {lhs; whnf}) ?_) ) | refine cw_seq ?_ | refine cw_line rfl ?_ | refine pw_then ?_ ))
  refine g_cf 32 rfl ?_
  refine a_callL rfl rfl rfl rfl Try.func32 rfl rfl rfl [] _ rfl (fun a : Nat × Nat × Nat => .pointer (some ⟨a.1, 0, none⟩)) (fun a => OCc a.1 a.2.1 a.2.2 2 [] []) (fun w' hw _ => new32 2 2 rfl w') (fun _ => rfl) (fun _ _ _ => trivial) (fun qn => ?_)
  obtain ⟨bx, fm, rm⟩ := qn
  refine mx_weak (H' := [star (OCc bx fm rm 2 [] [])]) (fun w h => Ok.star (H := []) h) (fun _ _ => trivial) ?_
  (repeat (first | ((refine (?_ : MX _ _ _ _ _ _ _ _ _ _ _)); first | refine mx_end ?_ | (refine mx_mv _ rfl rfl (by conv => {lhs; whnf}) ?_) | (refine mx_as _ rfl rfl (by conv => {lhs; whnf}) ?_) | (refine mx_nilp rfl rfl false rfl (by kernel_rfl) rfl rfl rfl rfl ?_ ) ) | refine cw_seq ?_ | refine cw_line rfl ?_ | refine pw_then ?_ ))
  refine g_cf 33 rfl ?_; refine a_co0 rfl rfl rfl rfl Try.func33 rfl rfl rfl (OCc bx fm rm 2 [] []) (fun a : {rs' : List (Int × Int) // (rs'.map Prod.fst).Nodup ∧ ∀ q, runs q rs' = if q = 1 then runs 1 [] + 1 else runs q []} => .int .i64 1) (fun a => OCc bx fm rm 2 [] a.1) (fun w' hw h => run33 bx fm rm 2 [] [] (by simp) 1 (by decide) 1 (rfl) w' h) (fun _ => rfl) (fun _ _ _ => trivial) (fun qr => ?_)
  obtain ⟨r1, n1, h1⟩ := qr
  have e1 : ∀ q, runs q r1 = if q = 1 then 1 else 0 := fun q => by rw [h1 q]; rfl
  dsimp only
  (repeat (((refine (?_ : MX _ _ _ _ _ _ _ _ _ _ _)); first | (refine mx_mv _ rfl rfl (by conv => {lhs; whnf}) ?_) | (refine g_bin rfl ?_; ( (refine mx_cmpl .neq rfl rfl rfl rfl rfl (by exact cmp_ne_f (by omega) ) ?_) ) ) | (refine g_pick rfl ?_; refine mx_or rfl rfl rfl rfl rfl rfl ?_ ) ) ))
  refine g_cf 33 rfl ?_; refine a_co0 rfl rfl rfl rfl Try.func33 rfl rfl rfl (OCc bx fm rm 2 [] r1) (fun a : {rs' : List (Int × Int) // (rs'.map Prod.fst).Nodup ∧ ∀ q, runs q rs' = if q = 1 then runs 1 r1 + 1 else runs q r1} => .int .i64 2) (fun a => OCc bx fm rm 2 [] a.1) (fun w' hw h => run33 bx fm rm 2 [] r1 n1 1 (by rw [e1]; decide) 2 (by rw [e1]; rfl) w' h) (fun _ => rfl) (fun _ _ _ => trivial) (fun qr => ?_)
  obtain ⟨r2, n2, h2⟩ := qr
  have e2 : ∀ q, runs q r2 = if q = 1 then 2 else 0 := fun q => by rw [h2 q, e1, e1]; split <;> simp
  dsimp only
  (repeat (((refine (?_ : MX _ _ _ _ _ _ _ _ _ _ _)); first | (refine mx_mv _ rfl rfl (by conv => {lhs; whnf}) ?_) | (refine g_bin rfl ?_; ( (refine mx_cmpl .neq rfl rfl rfl rfl rfl (by exact cmp_ne_f (by omega) ) ?_) ) ) | (refine g_pick rfl ?_; refine mx_or rfl rfl rfl rfl rfl rfl ?_ ) ) ))
  refine g_cf 33 rfl ?_; refine a_co0 rfl rfl rfl rfl Try.func33 rfl rfl rfl (OCc bx fm rm 2 [] r2) (fun a : {rs' : List (Int × Int) // (rs'.map Prod.fst).Nodup ∧ ∀ q, runs q rs' = if q = 2 then runs 2 r2 + 1 else runs q r2} => .int .i64 1) (fun a => OCc bx fm rm 2 [] a.1) (fun w' hw h => run33 bx fm rm 2 [] r2 n2 2 (by rw [e2]; decide) 1 (by rw [e2]; rfl) w' h) (fun _ => rfl) (fun _ _ _ => trivial) (fun qr => ?_)
  obtain ⟨r3, n3, h3⟩ := qr
  have e3 : ∀ q, runs q r3 = if q = 2 then 1 else if q = 1 then 2 else 0 := fun q => by rw [h3 q, e2, e2]; rfl
  have b3 : ∀ q, 0 ≤ runs q r3 ∧ runs q r3 ≤ 1000000 := fun q => by rw [e3]; split; decide; split <;> decide
  dsimp only
  (repeat (((refine (?_ : MX _ _ _ _ _ _ _ _ _ _ _)); first | (refine mx_mv _ rfl rfl (by conv => {lhs; whnf}) ?_) | (refine g_bin rfl ?_; ( (refine mx_cmpl .neq rfl rfl rfl rfl rfl (by exact cmp_ne_f (by omega) ) ?_) ) ) | (refine g_pick rfl ?_; refine mx_or rfl rfl rfl rfl rfl rfl ?_ ) | (refine g_build rfl ?_; refine mx_build rfl rfl rfl rfl (b59p _) rfl ?_ ) ) ))
  refine g_cf 34 rfl ?_; refine a_co1 rfl rfl rfl rfl Try.func34 rfl rfl rfl (OCc bx fm rm 2 [] r3) (fun a : (Option Addr × Nat) × {fs' : List CD // fs'.map CD.vc = [pv 1]} => .slice a.1.1 ([] : List Int).length a.1.2) (fun a => ownd a.1.1 a.1.2 3 1 ([] : List Int).length (([] : List Int).flatMap cI)) (fun a => OCc bx fm rm 2 a.2.1 r3) (fun w' hw h => put34 bx fm rm 2 (by decide) [] r3 (OkC.nil.le (by decide)) b3 (pC 1) (okF_pv 1) (wfI_of (by decide) (by decide)) [] [pv 1] (rfl) w' (fun w2 _ => rd_pC 1 w2) h) (fun _ => rfl) (fun _ _ _ => trivial) (fun qp => ?_)
  obtain ⟨⟨a1, c1⟩, ⟨f1, g1⟩⟩ := qp
  have k1 : OkC [pv 1] 998 := OkC.le (OkC.nil.put (okF_pv 1) (wfI_of (by decide) (by decide))) (by decide)
  refine mx_weak (H' := [star (OCc bx fm rm 2 f1 r3)]) (fun w h => h.only 1 rfl) (fun _ _ => trivial) ?_
  (repeat (((refine (?_ : MX _ _ _ _ _ _ _ _ _ _ _)); first | (refine mx_mv _ rfl rfl (by conv => {lhs; whnf}) ?_) | (refine g_bin rfl ?_; ( (refine mx_cmpl .neq rfl rfl rfl rfl rfl (by rfl) ?_) ) ) | (refine g_bi .len rfl ?_; refine mx_len E rfl rfl rfl rfl ?_) | (refine g_pick rfl ?_; refine mx_or rfl rfl rfl rfl rfl rfl ?_ ) | (refine g_build rfl ?_; refine mx_build rfl rfl rfl rfl (b59p _) rfl ?_ ) ) ))
  have q2 : putC 2 (fun q => runs q r3) (pC 2).vc (f1.map CD.vc) = ([], [pv 1, pv 2]) := by rw [g1]; rfl
  have k1' : OkC (f1.map CD.vc) 998 := by rw [g1]; exact k1
  refine g_cf 34 rfl ?_; refine a_co1 rfl rfl rfl rfl Try.func34 rfl rfl rfl (OCc bx fm rm 2 f1 r3) (fun a : (Option Addr × Nat) × {fs' : List CD // fs'.map CD.vc = [pv 1, pv 2]} => .slice a.1.1 ([] : List Int).length a.1.2) (fun a => ownd a.1.1 a.1.2 3 1 ([] : List Int).length (([] : List Int).flatMap cI)) (fun a => OCc bx fm rm 2 a.2.1 r3) (fun w' hw h => put34 bx fm rm 2 (by decide) f1 r3 k1' b3 (pC 2) (okF_pv 2) (wfI_of (by decide) (by decide)) [] [pv 1, pv 2] (q2) w' (fun w2 _ => rd_pC 2 w2) h) (fun _ => rfl) (fun _ _ _ => trivial) (fun qp => ?_)
  obtain ⟨⟨a2, c2⟩, ⟨f2, g2⟩⟩ := qp
  have k2 : OkC [pv 1, pv 2] 998 := ⟨by simp, by decide, fun v hv => by simp at hv; rcases hv with rfl | rfl <;> exact wfI_of (by decide) (by decide), fun v hv => by simp at hv; rcases hv with rfl | rfl <;> exact okF_pv _⟩
  refine mx_weak (H' := [star (OCc bx fm rm 2 f2 r3)]) (fun w h => h.only 1 rfl) (fun _ _ => trivial) ?_
  (repeat (first | ((refine (?_ : MX _ _ _ _ _ _ _ _ _ _ _)); first | refine mx_end ?_ | (refine mx_mv _ rfl rfl (by conv => {lhs; whnf}) ?_) | (refine g_bin rfl ?_; ( (refine mx_cmpl .neq rfl rfl rfl rfl rfl (by rfl) ?_) ) ) | (refine g_bi .len rfl ?_; refine mx_len E rfl rfl rfl rfl ?_) | (refine g_pick rfl ?_; refine mx_or rfl rfl rfl rfl rfl rfl ?_ ) | (refine g_build rfl ?_; refine mx_build rfl rfl rfl rfl (b59p _) rfl ?_ ) ) | refine cw_seq ?_ | refine cw_line rfl ?_ | refine cw_cond_f rfl ?_ | refine cw_skip ?_ | refine pw_then ?_ ))
  have q3 : putC 2 (fun q => runs q r3) (pC 3).vc (f2.map CD.vc) = ([2], [pv 1, pv 3]) := by
    rw [g2]
    have hp : progsL (putV (pv 3) [pv 1, pv 2]) = [1, 2, 3] := progs_sorted (by decide)
    unfold putC
    rw [if_neg (by decide), if_neg (by decide)]
    rw [show (pC 3).vc = pv 3 from rfl, hp]
    have he : evV (fun q => runs q r3) ([1, 2, 3].filter fun q => decide (q ≠ (pv 3).prog)) = 2 := by
      show minV (fun q => runs q r3) [2] 1 = 2
      unfold minV
      rw [e3, e3]
      rfl
    rw [he]
    rfl
  have k2' : OkC (f2.map CD.vc) 998 := by rw [g2]; exact k2
  refine g_cf 34 rfl ?_; refine a_co1 rfl rfl rfl rfl Try.func34 rfl rfl rfl (OCc bx fm rm 2 f2 r3) (fun a : (Option Addr × Nat) × {fs' : List CD // fs'.map CD.vc = [pv 1, pv 3]} => .slice a.1.1 ([2] : List Int).length a.1.2) (fun a => ownd a.1.1 a.1.2 3 1 ([2] : List Int).length (([2] : List Int).flatMap cI)) (fun a => OCc bx fm rm 2 a.2.1 r3) (fun w' hw h => put34 bx fm rm 2 (by decide) f2 r3 k2' b3 (pC 3) (okF_pv 3) (wfI_of (by decide) (by decide)) [2] [pv 1, pv 3] (q3) w' (fun w2 _ => rd_pC 3 w2) h) (fun _ => rfl) (fun _ _ _ => trivial) (fun qp => ?_)
  obtain ⟨⟨a3, c3⟩, ⟨f3, g3⟩⟩ := qp
  have k3 : OkC (f3.map CD.vc) 1000 := by rw [g3]; exact ⟨by simp, by decide, fun v hv => by simp at hv; rcases hv with rfl | rfl <;> exact wfI_of (by decide) (by decide), fun v hv => by simp at hv; rcases hv with rfl | rfl <;> exact okF_pv _⟩
  refine mx_weak (H' := [ownd a3 c3 3 1 1 (([2] : List Int).flatMap cI), star (OCc bx fm rm 2 f3 r3)]) (fun w h => h.pick [0, 1] (by simp) rfl) (fun _ _ => trivial) ?_
  (repeat (((refine (?_ : MX _ _ _ _ _ _ _ _ _ _ _)); (refine g_bs rfl ?_; refine a_bsi E rfl rfl rfl rfl rfl (by (repeat (first | exact EvI.nil | (apply EvI.cons; rfl)))) (by rfl) (by rfl) (by rfl) rfl (fun _ => ?_)) ) ))
  refine g_cf 21 rfl ?_
  refine a_callv rfl rfl rfl rfl Try.func21 rfl rfl rfl (.bool true) (fun w' hw => same21 a3 _ c3 _ [2] (by decide) w' (own_in len_I (hw.holds 1 _ rfl) (by decide)) (row_in (c := cI) (xs := [2]) len_I (hw.holds 0 _ rfl))) rfl ?_
  (repeat (((refine (?_ : MX _ _ _ _ _ _ _ _ _ _ _)); (refine mx_mv _ rfl rfl (by conv => {lhs; whnf}) ?_) ) ))
  have hp3 : progsL (f3.map CD.vc) = [1, 3] := by rw [g3]; exact progs_sorted (by decide)
  refine g_cf 35 rfl ?_; refine a_co1 rfl rfl rfl rfl Try.func35 rfl rfl rfl (OCc bx fm rm 2 f3 r3) (fun a : Option Addr × Nat => .slice a.1 ([1, 3] : List Int).length a.2) (fun a => ownd a.1 a.2 3 1 ([1, 3] : List Int).length (([1, 3] : List Int).flatMap cI)) (fun _ => OCc bx fm rm 2 f3 r3) (fun w' hw h => progs35 bx fm rm 2 f3 r3 k3 [1, 3] (hp3) w' h) (fun _ => rfl) (fun _ _ _ => trivial) (fun qp => ?_)
  obtain ⟨a4, c4⟩ := qp
  refine mx_weak (H' := [ownd a4 c4 3 1 2 (([1, 3] : List Int).flatMap cI), star (OCc bx fm rm 2 f3 r3)]) (fun w h => h.pick [0, 3] (by simp) rfl) (fun _ _ => trivial) ?_
  (repeat (((refine (?_ : MX _ _ _ _ _ _ _ _ _ _ _)); (refine g_bs rfl ?_; refine a_bsi E rfl rfl rfl rfl rfl (by (repeat (first | exact EvI.nil | (apply EvI.cons; rfl)))) (by rfl) (by rfl) (by rfl) rfl (fun _ => ?_)) ) ))
  refine g_cf 21 rfl ?_
  refine a_callv rfl rfl rfl rfl Try.func21 rfl rfl rfl (.bool true) (fun w' hw => same21 a4 _ c4 _ [1, 3] (by decide) w' (own_in len_I (hw.holds 1 _ rfl) (by decide)) (row_in (c := cI) (xs := [1, 3]) len_I (hw.holds 0 _ rfl))) rfl ?_
  (repeat (((refine (?_ : MX _ _ _ _ _ _ _ _ _ _ _)); first | (refine mx_mv _ rfl rfl (by conv => {lhs; whnf}) ?_) | (refine g_pick rfl ?_; refine mx_and rfl rfl rfl rfl rfl rfl ?_ ) ) ))
  have hf3 : f3.length = 2 := by have := congrArg List.length g3; simpa using this
  have q4 : resV (fun q => runs q r3) 0 f3.length (f3.map CD.vc) = ([3, 1], []) := by
    rw [g3, hf3]
    have hpa : progsL [pv 1, pv 3] = [1, 3] := progs_sorted (by decide)
    have hpb : progsL [pv 1] = [1] := progs_sorted (by decide)
    have he : evV (fun q => runs q r3) [1, 3] = 3 := by
      show minV (fun q => runs q r3) [3] 1 = 3
      unfold minV
      rw [e3, e3]
      rfl
    unfold resV
    rw [if_pos (by decide), hpa, he]
    have hd : delV 3 [pv 1, pv 3] = [pv 1] := rfl
    rw [hd]
    have h1 : resV (fun q => runs q r3) 0 1 [pv 1] = ([1], []) := by
      unfold resV
      rw [if_pos (by decide), hpb]
      rfl
    rw [h1]
  refine g_cf 37 rfl ?_; refine a_co1 rfl rfl rfl rfl Try.func37 rfl rfl rfl (OCc bx fm rm 2 f3 r3) (fun a : (Option Addr × Nat) × {fs' : List CD // fs'.map CD.vc = []} => .slice a.1.1 ([3, 1] : List Int).length a.1.2) (fun a => ownd a.1.1 a.1.2 3 1 ([3, 1] : List Int).length (([3, 1] : List Int).flatMap cI)) (fun a => OCc bx fm rm 0 a.2.1 r3) (fun w' hw h => resize37 bx fm rm 2 f3 r3 k3 b3 0 0 (by rfl ) [3, 1] [] (q4) w' h) (fun _ => rfl) (fun _ _ _ => trivial) (fun qp => ?_)
  obtain ⟨⟨a5, c5⟩, ⟨f4, g4⟩⟩ := qp
  have hf4 : f4 = [] := by cases f4 with | nil => rfl | cons x l => simp at g4
  subst hf4
  refine mx_weak (H' := [ownd a5 c5 3 1 2 (([3, 1] : List Int).flatMap cI), star (OCc bx fm rm 0 [] r3)]) (fun w h => h.pick [0, 3] (by simp) rfl) (fun _ _ => trivial) ?_
  (repeat (((refine (?_ : MX _ _ _ _ _ _ _ _ _ _ _)); (refine g_bs rfl ?_; refine a_bsi E rfl rfl rfl rfl rfl (by (repeat (first | exact EvI.nil | (apply EvI.cons; rfl)))) (by rfl) (by rfl) (by rfl) rfl (fun _ => ?_)) ) ))
  refine g_cf 21 rfl ?_
  refine a_callv rfl rfl rfl rfl Try.func21 rfl rfl rfl (.bool true) (fun w' hw => same21 a5 _ c5 _ [3, 1] (by decide) w' (own_in len_I (hw.holds 1 _ rfl) (by decide)) (row_in (c := cI) (xs := [3, 1]) len_I (hw.holds 0 _ rfl))) rfl ?_
  (repeat (((refine (?_ : MX _ _ _ _ _ _ _ _ _ _ _)); first | (refine mx_mv _ rfl rfl (by conv => {lhs; whnf}) ?_) | (refine g_pick rfl ?_; refine mx_and rfl rfl rfl rfl rfl rfl ?_ ) ) ))
  have hp0 : progsL (([] : List CD).map CD.vc) = [] := by simp [progsL, srt]
  refine g_cf 35 rfl ?_; refine a_co1 rfl rfl rfl rfl Try.func35 rfl rfl rfl (OCc bx fm rm 0 [] r3) (fun a : Option Addr × Nat => .slice a.1 ([] : List Int).length a.2) (fun a => ownd a.1 a.2 3 1 ([] : List Int).length (([] : List Int).flatMap cI)) (fun _ => OCc bx fm rm 0 [] r3) (fun w' hw h => progs35 bx fm rm 0 [] r3 (OkC.nil.le (by decide)) [] (hp0) w' h) (fun _ => rfl) (fun _ _ _ => trivial) (fun qp => ?_)
  (repeat (first | ((refine (?_ : MX _ _ _ _ _ _ _ _ _ _ _)); first | refine mx_end ?_ | (refine mx_as _ rfl rfl (by conv => {lhs; whnf}) ?_) | (refine g_bin rfl ?_; ((refine mx_cmpl .eql rfl rfl rfl rfl rfl (by rfl) ?_) ) ) | (refine g_bi .len rfl ?_; refine mx_len E rfl rfl rfl rfl ?_) | (refine g_pick rfl ?_; refine mx_and rfl rfl rfl rfl rfl rfl ?_ ) ) | refine cw_ret ?_ | refine pw_then ?_ ))
  exact pw_ret rfl rfl rfl rfl fun w hw => ⟨rfl, hw.keep.grow⟩
end Go.Proofs.Ytikdbgheefjpkaa
