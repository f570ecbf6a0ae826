/- The document's watch, as a whole; both watches alike. -/
import Derived.Test.YtikdbgheefjpkaaKj
set_option maxRecDepth 100000
set_option maxHeartbeats 8000000
set_option linter.unusedSimpArgs false
set_option linter.unusedVariables false
namespace Go.Proofs.Ytikdbgheefjpkaa
open Go Go.Sx Go.RowKit
theorem domX {bx : Nat} {la : Option Addr} {lc : Nat} {rows : List WE} {b : Nat} (h : domL [row bx 83 [.slice la rows.length lc]] b) : domL (RX bx la lc rows) b := by
  obtain ⟨j, r, hj, hr⟩ := h
  have hj0 : j = 0 := by have := (List.getElem?_eq_some_iff.1 hj).1; simpa using this
  subst hj0
  exact ⟨0, r, hj, hr⟩
/-- What is not written stands. -/
theorem stay {S : Nat → Prop} {w0 w w' : World} {H : List Res} (h : Ok S w0 H w) {D : Nat → Prop} (hc : Chg D w w') (j : Nat) {r : Res} (hj : H[j]? = some r) (hd : ∀ b, r.dom b → ¬ D b) : r.holds w' :=
  r.loc w w' (fun b hb => hc.old b (h.own j r hj b hb).1 (hd b hb)) (h.holds j r hj)
theorem addX (bx : Nat) (la : Option Addr) (lc : Nat) (rows : List WE) (hs : rows.length ≤ 1000) (hn : (rows.map WE.k).Pairwise (· < ·)) (k : Int) (ad : Option Addr) (cap : Nat) (evs : List EV) (hes : evs.length ≤ 1000) (w : World) (hd : ∀ w', Chg (domL (RX bx la lc rows)) w w' → EvR w' ad evs) (h0 : Ok (domL (RX bx la lc rows)) w (RX bx la lc rows) w) :
    Calls Try.prog 17 #[.pointer (some ⟨bx, 0, none⟩), .int .i64 k, .slice ad evs.length cap] w fun e w' => ∃ a : (Option Addr × Nat) × {l' : List WE // (l'.map WE.vw).Perm (addV k (evs.map EV.v) (rows.map WE.vw)) ∧ (l'.map WE.k).Pairwise (· < ·)}, e = .returned (.tuple #[]) ∧ Ok (domL (RX bx la lc rows)) w (RX bx a.1.1 a.1.2 a.2.1) w' :=
  (add17 bx la lc rows hs k ad cap evs hes w (inX h0) (sepX h0) (fun w' h => hd w' (h.mono fun b _ hb => domX hb)) (Ok.enterL (L := [row bx 83 [.slice la rows.length lc]]) (H := [ownd la lc 86 2 rows.length (rows.flatMap cRW), allW rows]) h0)).mono fun e w' ⟨⟨⟨a1, c1⟩, ⟨⟨x, out⟩, hx, hlaid⟩⟩, h1, h2⟩ => by
    have hxk : x.k = k := congrArg Prod.fst hx
    have hxv : x.vs = evs.map EV.v := congrArg Prod.snd hx
    have hp1 : ((rows.filter fun e => decide (e.k ≠ k)) ++ [x]).Perm out := hlaid.perm
    refine ⟨((a1, c1), ⟨out, ?_, ?_⟩), h1, ?_⟩
    · refine (hp1.map _).symm.trans ?_
      unfold addV
      rw [vw_filter, List.map_append]
      show List.Perm (_ ++ [x.vw]) _
      rw [show x.vw = (k, evs.map EV.v) from hx]
    · refine hlaid.rise (hn.sublist (List.filter_sublist.map _)) (fun y hy => ?_)
      have := (List.mem_filter.1 hy).2
      rw [hxk]
      simpa using this
    · have h3 := Ok.backL (L := [row bx 83 [.slice la rows.length lc]]) (H := [ownd la lc 86 2 rows.length (rows.flatMap cRW), allW rows]) h0 h2
      have h4 := h3.pick (H' := [ownd x.ad x.cap 49 5 x.evs.length (x.evs.flatMap cEV), allK x.evs, allW rows, row bx 83 [.slice a1 out.length c1], ownd a1 c1 86 2 out.length (out.flatMap cRW)]) [2, 3, 5, 0, 1] (by simp) rfl
      exact (ok_put (l := rows) (l' := out) List.filter_sublist hp1 h4).pick [1, 2, 0] (by simp) rfl
theorem hitX (bx : Nat) (la : Option Addr) (lc : Nat) (rows : List WE) (hk : OkP (rows.map WE.vw) 1000) (ad : Option Addr) (cap : Nat) (hap : List EV) (hh : hap.length ≤ 1000) (w : World) (hd : ∀ w', Chg (domL (RX bx la lc rows)) w w' → EvR w' ad hap) (h0 : Ok (domL (RX bx la lc rows)) w (RX bx la lc rows) w) :
    Calls Try.prog 22 #[.pointer (some ⟨bx, 0, none⟩), .slice ad hap.length cap] w fun e w' => ∃ a : (Option Addr × Nat) × (Option Addr × Nat), e = .returned (.slice a.1.1 (rows.filter (brk (hap.map EV.v))).length a.1.2) ∧ Ok (domL (RX bx la lc rows)) w ([ownd a.1.1 a.1.2 3 1 (rows.filter (brk (hap.map EV.v))).length (((rows.filter (brk (hap.map EV.v))).map WE.k).flatMap cI)] ++ RX bx a.2.1 a.2.2 (rows.filter fun e => !brk (hap.map EV.v) e)) w' :=
  (hit22 bx la lc rows (by have := hk.len; simp at this; omega) ad cap hap hh w (inX h0) (sepX h0) (fun w' h => hd w' (h.mono fun b _ hb => domX hb)) (fun e he => ⟨(evR_of hk (h0.holds 2 _ rfl) he).2, fun w' hg => (evR_of hk (stay h0 hg 2 rfl fun b hb hD => by
      obtain ⟨j, r, hj, hr⟩ := hD
      have hj0 : j = 0 := by have := (List.getElem?_eq_some_iff.1 hj).1; simpa using this
      subst hj0
      obtain rfl : row bx 83 [.slice la rows.length lc] = r := by simpa using hj
      exact h0.sep 0 2 _ _ rfl rfl (by omega) b hr hb) he).1⟩) (Ok.enterL (L := [row bx 83 [.slice la rows.length lc]]) (H := [ownd la lc 86 2 rows.length (rows.flatMap cRW), allW rows]) h0)).mono fun e w' ⟨⟨⟨a1, c1⟩, ⟨a2, c2⟩⟩, h1, h2⟩ => ⟨((a1, c1), (a2, c2)), h1, by
    have h3 := Ok.backL (L := [row bx 83 [.slice la rows.length lc]]) (H := [ownd la lc 86 2 rows.length (rows.flatMap cRW), allW rows]) h0 h2
    have h4 := h3.pick (H' := [allW rows, ownd a1 c1 3 1 (rows.filter (brk (hap.map EV.v))).length (((rows.filter (brk (hap.map EV.v))).map WE.k).flatMap cI), row bx 83 [.slice a2 (rows.filter fun e => !brk (hap.map EV.v) e).length c2], ownd a2 c2 86 2 (rows.filter fun e => !brk (hap.map EV.v) e).length ((rows.filter fun e => !brk (hap.map EV.v) e).flatMap cRW)]) [4, 2, 0, 1] (by simp) rfl
    exact (allW_sub (l' := rows.filter fun e => !brk (hap.map EV.v) e) List.filter_sublist h4).pick [1, 2, 3, 0] (by simp) rfl⟩
theorem progsX (bx : Nat) (la : Option Addr) (lc : Nat) (rows : List WE) (hs : rows.length ≤ 100000) (w : World) (h0 : Ok (domL (RX bx la lc rows)) w (RX bx la lc rows) w) :
    Calls Try.prog 27 #[.pointer (some ⟨bx, 0, none⟩)] w fun e w' => ∃ a : Option Addr × Nat, e = .returned (.slice a.1 rows.length a.2) ∧ Ok (domL (RX bx la lc rows)) w ([ownd a.1 a.2 3 1 rows.length ((rows.map WE.k).flatMap cI)] ++ RX bx la lc rows) w' :=
  (dprogs27 bx la lc rows hs w (h0.holds 0 _ rfl) (inX h0)).mono fun e w' ⟨a, h1, h2⟩ => ⟨a, h1, Ok.backL (L := []) (H := RX bx la lc rows) h0 h2⟩
/-! ### Both alike -/
theorem OkP.nil : OkP [] 0 := ⟨by simp, by simp, by simp⟩
theorem OkP.filt {L : List (Int × List VE)} {n : Nat} (h : OkP L n) (p : Int × List VE → Bool) : OkP (L.filter p) n := ⟨Nat.le_trans (List.length_filter_le ..) h.len, h.nd.sublist (List.filter_sublist.map _), fun q hq => h.ok q (List.mem_filter.1 hq).1⟩
theorem OkP.perm {L M : List (Int × List VE)} {n : Nat} (h : OkP L n) (hp : L.Perm M) : OkP M n := ⟨by rw [← hp.length_eq]; exact h.len, ((hp.map (·.1)).nodup_iff).1 h.nd, fun q hq => h.ok q (hp.mem_iff.2 hq)⟩
theorem OkP.le {L : List (Int × List VE)} {n m : Nat} (h : OkP L n) (hm : n ≤ m) : OkP L m := ⟨Nat.le_trans h.len hm, h.nd, h.ok⟩
def OkM (m : List VE) : Prop := m.length ≤ 1000 ∧ ∀ v ∈ m, BytK v.key ∧ v.key.length ≤ 1000
theorem OkP.add {L : List (Int × List VE)} {n : Nat} (h : OkP L n) (k : Int) {m : List VE} (hm : OkM m) : OkP (addV k m L) (n + 1) := by
  unfold addV
  have h1 := h.filt fun p => decide (p.1 ≠ k)
  refine ⟨by rw [List.length_append]; have := h1.len; simp at this ⊢; omega, ?_, fun q hq => ?_⟩
  · rw [List.map_append]
    refine List.nodup_append.2 ⟨h1.nd, by simp, fun a ha b hb e => ?_⟩
    obtain rfl : b = k := by simpa using hb
    obtain ⟨q, hq, rfl⟩ := List.mem_map.1 ha
    have := (List.mem_filter.1 hq).2
    simp at this
    exact this e
  · rcases List.mem_append.1 hq with hq | hq
    · exact h1.ok q hq
    · obtain rfl := List.mem_singleton.1 hq
      exact hm
theorem addV_perm {L M : List (Int × List VE)} (h : L.Perm M) (k : Int) (m : List VE) : (addV k m L).Perm (addV k m M) := (h.filter _).append_right _
theorem srt_id {l : List Int} (h : l.Pairwise (· < ·)) : srt l = l := (srt_perm l).eq_of_pairwise (fun a b _ _ h1 h2 => by omega) (srt_le l) (h.imp fun h => by omega)
/-- The watches know the same. -/
structure Alk (l rows : List WE) (n : Nat) : Prop where
  p : (l.map WE.vw).Perm (rows.map WE.vw)
  r : (rows.map WE.k).Pairwise (· < ·)
  k : OkP (l.map WE.vw) n
theorem Alk.nil : Alk [] [] 0 := ⟨.refl _, by simp, .nil⟩
theorem Alk.k' {l rows : List WE} {n : Nat} (h : Alk l rows n) : OkP (rows.map WE.vw) n := h.k.perm h.p
theorem Alk.len {l rows : List WE} {n : Nat} (h : Alk l rows n) : rows.length ≤ n := by have := h.k'.len; simpa using this
theorem Alk.le {l rows : List WE} {n m : Nat} (h : Alk l rows n) (hm : n ≤ m) : Alk l rows m := ⟨h.p, h.r, h.k.le hm⟩
theorem those_rows {rows : List WE} (h : (rows.map WE.k).Pairwise (· < ·)) (p : List VE → Bool) : thoseV p (rows.map WE.vw) = (rows.filter fun e => p e.vs).map WE.k := by
  unfold thoseV
  rw [← keysW_v]
  exact srt_id (h.sublist (List.filter_sublist.map _))
theorem Alk.progs {l rows : List WE} {n : Nat} (h : Alk l rows n) : progsV (l.map WE.vw) = rows.map WE.k := by
  unfold progsV
  rw [those_congr h.p, those_rows h.r]
  congr 1
  exact List.filter_eq_self.2 fun _ _ => rfl
theorem Alk.hit {l rows : List WE} {n : Nat} (h : Alk l rows n) (hap : List VE) : hitV hap (l.map WE.vw) = (rows.filter (brk hap)).map WE.k := by
  unfold hitV
  rw [those_congr h.p, those_rows h.r]
  rfl
theorem key_inj {α β : Type} {f : α → β} : ∀ {L : List α}, (L.map f).Nodup → ∀ {q p : α}, q ∈ L → p ∈ L → f q = f p → q = p
  | [], _, _, _, h, _, _ => by simp at h
  | x :: L, hn, q, p, hq, hp, e => by
    have h := List.nodup_cons.1 hn
    rcases List.mem_cons.1 hq with rfl | hq'
    · rcases List.mem_cons.1 hp with rfl | hp'
      · rfl
      · exact absurd (List.mem_map.2 ⟨p, hp', e.symm⟩) h.1
    · rcases List.mem_cons.1 hp with rfl | hp'
      · exact absurd (List.mem_map.2 ⟨q, hq', e⟩) h.1
      · exact key_inj h.2 hq' hp' e
theorem hit_mem {L : List (Int × List VE)} (hn : (L.map (·.1)).Nodup) (hap : List VE) {p : Int × List VE} (hp : p ∈ L) : p.1 ∈ hitV hap L ↔ brkV hap p.2 = true := by
  unfold hitV thoseV
  rw [srt_mem, List.mem_map]
  constructor
  · rintro ⟨q, hq, e⟩
    obtain ⟨h1, h2⟩ := List.mem_filter.1 hq
    have : q = p := key_inj hn h1 hp e
    subst this
    exact h2
  · intro h
    exact ⟨p, List.mem_filter.2 ⟨hp, h⟩, rfl⟩
theorem vw_filt' (l : List WE) (s : List Int) : (l.filter fun e => decide (e.k ∉ s)).map WE.vw = (l.map WE.vw).filter fun p => decide (p.1 ∉ s) := by
  rw [List.filter_map]
  rfl
theorem vw_filt2 (l : List WE) (hap : List VE) : (l.filter fun e => !brk hap e).map WE.vw = (l.map WE.vw).filter fun p => !brkV hap p.2 := by
  rw [List.filter_map]
  rfl
theorem hit_left {L : List (Int × List VE)} (hn : (L.map (·.1)).Nodup) (hap : List VE) : (L.filter fun p => decide (p.1 ∉ hitV hap L)) = L.filter fun p => !brkV hap p.2 :=
  List.filter_congr fun p hp => by
    have := hit_mem hn hap hp
    cases hb : brkV hap p.2 with
    | true => simp [this.2 hb]
    | false =>
      have h1 : ¬ p.1 ∈ hitV hap L := fun h => by rw [this.1 h] at hb; cases hb
      simp [h1]
theorem Alk.hitL {l rows : List WE} {n : Nat} (h : Alk l rows n) (hap : List VE) : Alk (l.filter fun e => decide (e.k ∉ hitV hap (l.map WE.vw))) (rows.filter fun e => !brk hap e) n := by
  refine ⟨?_, h.r.sublist (List.filter_sublist.map _), ?_⟩
  · rw [vw_filt', vw_filt2, hit_left h.k.nd]
    exact h.p.filter _
  · rw [vw_filt']
    exact h.k.filt _
theorem Alk.drop {l rows : List WE} {n : Nat} (h : Alk l rows n) (k : Int) : Alk (l.filter fun e => decide (e.k ≠ k)) (rows.filter fun e => decide (e.k ≠ k)) n := by
  refine ⟨?_, h.r.sublist (List.filter_sublist.map _), ?_⟩
  · rw [← vw_filter, ← vw_filter]
    exact h.p.filter _
  · rw [← vw_filter]
    exact h.k.filt _
theorem Alk.add {l rows l' rows' : List WE} {n : Nat} (h : Alk l rows n) (k : Int) {m : List VE} (hm : OkM m) (h1 : (l'.map WE.vw).Perm (addV k m (l.map WE.vw))) (h2 : (rows'.map WE.vw).Perm (addV k m (rows.map WE.vw))) (h3 : (rows'.map WE.k).Pairwise (· < ·)) : Alk l' rows' (n + 1) :=
  ⟨h1.trans ((addV_perm h.p k m).trans h2.symm), h3, (h.k.add k hm).perm h1.symm⟩
end Go.Proofs.Ytikdbgheefjpkaa
