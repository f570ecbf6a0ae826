/- The document's cells, each call told by the program's; what both tell of a cell. -/
import Derived.Test.YtfekmflnfhjebaaXf
import Derived.Test.YtfekmflnfhjebaaOb2
set_option maxRecDepth 100000
set_option maxHeartbeats 8000000
set_option linter.unusedSimpArgs false
set_option linter.unusedVariables false
namespace Go.Proofs.Ytfekmflnfhjebaa
open Go Go.Sx Go.RowKit
theorem Rl8.ml {cs : List PC} {ms : List MC} {L n : Nat} (h : Rl8 cs ms L n) (hn : n ≤ 900) : ms.length ≤ 100000 ∧ L ≤ 900 ∧ (∀ m ∈ ms, m.ts.length ≤ 900 ∧ m.wr ≤ 900 ∧ m.bs.length ≤ 64) := by
  have h1 := h.len
  have h2 := h.wf.le
  exact ⟨by omega, by omega, fun m hm => by have := h.ok m hm; omega⟩
theorem std_eq {k now : Int} {cs : List PC} {c : PC} {m : MC} (hc : lc k cs = some c) (hp : Pair c m) : stdOf k now cs = (wrs m.ts).std now ∧ verOf k cs = m.wr ∧ bsOf k cs = m.bs := by
  unfold stdOf verOf bsOf
  rw [hc, hp.bt.symm]
  exact ⟨rfl, congrArg Nat.cast hp.wr, hp.bs⟩
theorem std_no {k now : Int} {cs : List PC} (hc : lc k cs = none) : stdOf k now cs = false ∧ verOf k cs = 0 ∧ bsOf k cs = [] := by
  unfold stdOf verOf bsOf
  rw [hc]
  exact ⟨rfl, rfl, rfl⟩
section
variable {cs : List PC} {ms : List MC} {L n : Nat} (h : Rl8 cs ms L n) (hn : n ≤ 900) (mx : Nat) (ma : Option Addr) (mc : Nat) (k : Int) (w : World)
section
variable (h1 : (row mx 78 [.slice ma ms.length mc]).holds w) (h2 : (ownd ma mc 89 5 ms.length (ms.flatMap cMC)).holds w) (h3 : (allM ms).holds w)
include h hn h1 h2
theorem size38u : Calls Try.prog 38 #[.pointer (some ⟨mx, 0, none⟩), .int .i64 k] w fun e w' => e = .returned (.int .i64 (bsOf k cs).length) ∧ Grow w w' := by
  rcases h.find k with ⟨hc, hN⟩ | ⟨j, m, c, ⟨hj, hk, hsw⟩, hc, hp, _⟩
  · rw [(std_no (now := 0) hc).2.2]
    exact size38N mx ma mc ms k hN (h.ml hn).1 w h1 h2
  · rw [(std_eq (now := 0) hc hp).2.2]
    exact size38y mx ma mc ms k j m hj hk hsw (h.ml hn).1 w h1 h2
theorem version75u : Calls Try.prog 75 #[.pointer (some ⟨mx, 0, none⟩), .int .i64 k] w fun e w' => e = .returned (.int .i64 (verOf k cs)) ∧ Grow w w' := by
  rcases h.find k with ⟨hc, hN⟩ | ⟨j, m, c, ht, hc, hp, _⟩
  · rw [(std_no (now := 0) hc).2.1]
    exact version75N mx ma mc ms k hN (h.ml hn).1 w h1 h2
  · rw [(std_eq (now := 0) hc hp).2.1]
    exact version75y mx ma mc ms k j m ht (h.ml hn).1 w h1 h2
theorem live34u : Calls Try.prog 34 #[.pointer (some ⟨mx, 0, none⟩)] w fun e w' => e = .returned (.int .i64 (liv cs)) ∧ Grow w w' := by
  rw [h.c1]
  exact live34g mx ma mc ms (h.ml hn).1 w h1 h2
include h3
theorem steady77u (now : Int) : Calls Try.prog 77 #[.pointer (some ⟨mx, 0, none⟩), .int .i64 k, .int .i64 now] w fun e w' => e = .returned (.bool (stdOf k now cs)) ∧ Grow w w' := by
  rcases h.find k with ⟨hc, hN⟩ | ⟨j, m, c, ht, hc, hp, _⟩
  · rw [(std_no hc).1]
    exact steady77N mx ma mc ms k now hN (h.ml hn).1 w h1 h2
  · rw [(std_eq hc hp).1]
    exact steady77y mx ma mc ms k now j m ht (h.ml hn).1 (by have := (h.ml hn).2.2 m (List.mem_of_getElem? ht.1); omega) w h1 h2 h3
theorem bytes41u : Calls Try.prog 41 #[.pointer (some ⟨mx, 0, none⟩), .int .i64 k] w fun e w' => ∃ a : Option Addr × Nat, e = .returned (.slice a.1 (bsOf k cs).length a.2) ∧ Ok (domL []) w [ownd a.1 a.2 5 1 (bsOf k cs).length ((bsOf k cs).flatMap cU)] w' := by
  rcases h.find k with ⟨hc, hN⟩ | ⟨j, m, c, ⟨hj, hk, hsw⟩, hc, hp, _⟩
  · rw [(std_no (now := 0) hc).2.2]
    exact (bytes41N mx ma mc ms k hN (h.ml hn).1 w h1 h2).mono fun e w' hh => ⟨(none, 0), hh.1, ((Ok.start (S := domL []) w).grow hh.2).own_nil 5 1⟩
  · rw [(std_eq (now := 0) hc hp).2.2]
    exact bytes41y mx ma mc ms k j m hj hk hsw (h.ml hn).1 (by have := (h.ml hn).2.2 m (List.mem_of_getElem? hj); omega) w h1 h2 h3
theorem load68u (off size : Int) : Calls Try.prog 68 #[.pointer (some ⟨mx, 0, none⟩), .int .i64 k, .int .i64 off, .int .i64 size] w fun e w' => e = .returned (.tuple #[.int .u64 (ldV k off size cs), .bool (ldB k off size cs)]) ∧ Grow w w' := by
  rcases h.find k with ⟨hc, hN⟩ | ⟨j, m, c, ht, hc, hp, _⟩
  · rw [(ldV_none hc).1, (ldV_none hc).2]
    exact load68n mx ma mc ms k off size (.inl hN) (h.ml hn).1 w h1 h2
  · have hb := (h.ml hn).2.2 m (List.mem_of_getElem? ht.1)
    have hbl : c.bs.length = m.bs.length := by rw [hp.bs]
    cases hs : ldB k off size cs with
    | false =>
      rw [ldV_not hs]
      have h4 := ldB_not hs c hc
      refine load68n mx ma mc ms k off size (.inr ⟨j, m, ht, fun hf => h4 ?_, by omega⟩) (h.ml hn).1 w h1 h2
      unfold fits
      rw [hbl]
      exact hf
    | true =>
      obtain ⟨c', hc', f1, f2, f3⟩ := ldB_some hs
      rw [hc] at hc'
      obtain rfl := Option.some.inj hc'
      rw [ldV_some hc ⟨f1, f2, f3⟩, hp.bs]
      rw [hbl] at f3
      obtain ⟨ob, rfl⟩ := Int.eq_ofNat_of_zero_le f2
      obtain ⟨nb, rfl⟩ := Int.eq_ofNat_of_zero_le (show 0 ≤ size by omega)
      exact load68y mx ma mc ms k ob nb j m ht ⟨f1, f2, f3⟩ (h.ok m (List.mem_of_getElem? ht.1)).2.2.2 (h.ml hn).1 (by omega) w h1 h2 h3
end
section
variable (h0 : Ok (domL (OM mx ma mc ms)) w (OM mx ma mc ms) w)
include h hn h0
theorem make60u (o : CO) (hb : Byts o.bs) (hlb : o.bs.length ≤ 200) (a : Nat × Option Addr × Nat) (hl : InL w o.ad 1 cU o.bs) (hne : o.bs ≠ [] → ∀ b off, o.ad = some ⟨b, off, none⟩ → ¬ domL (OM mx ma mc ms) b) :
    Calls Try.prog 60 #[.pointer (some ⟨mx, 0, none⟩), .slice o.ad o.bs.length o.cap] w fun e w' => ∃ q : (Option Addr × Nat) × {ms' : List MC // Rl8 (cs ++ [newC L a o.bs]) ms' (L + 1) (n + 1)}, e = .returned (.int .i64 ((L + 1 : Nat) : Int)) ∧ Ok (domL (OM mx ma mc ms)) w (OM mx q.1.1 q.1.2 q.2.1) w' := by
  have := make60 mx ma mc ms (h.ml hn).1 o.ad o.bs.length o.cap o.bs rfl w h0 hl hne
  rw [h.len] at this
  exact this.mono fun e w' ⟨q, h4, h5⟩ => ⟨(q.1, ⟨_, h.make a q.2 hb⟩), h4, h5⟩
theorem sweep72u : Calls Try.prog 72 #[.pointer (some ⟨mx, 0, none⟩)] w fun e w' => ∃ q : {ms' : List MC // Rl8 (cs.filter fun c => !c.dr) ms' L (n + 1)}, e = .returned (.int .i64 ((goneTo cs L).length : Nat)) ∧ Ok (domL (OM mx ma mc ms)) w (OM mx ma mc q.1) w' := by
  rw [h.cnt]
  exact (sweep72 mx ma mc ms (h.ml hn).1 w h0).mono fun e w' hh => ⟨⟨_, h.sweep.mono (by omega)⟩, hh⟩
theorem drop71u : Calls Try.prog 71 #[.pointer (some ⟨mx, 0, none⟩), .int .i64 k] w fun e w' => ∃ q : {ms' : List MC // Rl8 (stpD k cs) ms' L (n + 1)}, e = .returned (.bool (okD k cs)) ∧ Ok (domL (OM mx ma mc ms)) w (OM mx ma mc q.1) w' := by
  have g1 := h0.holds 0 _ rfl
  have g2 := h0.holds 1 _ rfl
  have hno : okD k cs = false → (NoM ms k ∨ ∃ j m, ThM ms k j m ∧ m.gone = true) → Calls Try.prog 71 #[.pointer (some ⟨mx, 0, none⟩), .int .i64 k] w fun e w' => ∃ q : {ms' : List MC // Rl8 (stpD k cs) ms' L (n + 1)}, e = .returned (.bool (okD k cs)) ∧ Ok (domL (OM mx ma mc ms)) w (OM mx ma mc q.1) w' := fun hk hh => by
    have e : stpD k cs = cs := by unfold stpD; rw [if_neg (by simp [hk])]
    rw [hk, e]
    exact (drop71n mx ma mc ms k hh (h.ml hn).1 w g1 g2).mono fun e w' hh => ⟨⟨ms, h.mono (by omega)⟩, hh.1, h0.grow hh.2⟩
  rcases h.find k with ⟨hc, hN⟩ | ⟨j, m, c, ht, hc, hp, hkj⟩
  · exact hno (by unfold okD; rw [hc]) (.inl hN)
  · cases hg : m.gone with
    | true => exact hno (by unfold okD; rw [hc]; show (!c.dr) = false; rw [hp.dr, hg]; rfl) (.inr ⟨j, m, ht, hg⟩)
    | false =>
      have hdr : c.dr = false := by rw [hp.dr, hg]
      have hk : okD k cs = true := by unfold okD; rw [hc]; show (!c.dr) = true; rw [hdr]; rfl
      have e : stpD k cs = updC k PC.gon cs := by unfold stpD; rw [if_pos hk]
      rw [hk, e]
      have hm := h.ok m (List.mem_of_getElem? ht.1)
      refine (drop71y mx ma mc ms k j m ht hg (h.ml hn).1 w h0).mono fun e w' hh => ⟨⟨ms.set j m.gn, h.upd ht hc (fun c => rfl) ?_ ⟨hp.bs, hp.wr, hp.bt, rfl⟩ ht.2.2 ⟨by show m.ts.length ≤ n + 1; omega, by show m.wr ≤ n + 1; omega, hm.2.2⟩ ?_⟩, hh⟩
      · refine h.wf.upd _ _ (fun c => rfl) fun c hc => ?_
        have hm := (lc_mem hc).1
        have := h.wf.ok c hm
        exact ⟨h.wf.bs c hm, h.wf.by' c hm, this.1, by show c.bt.n ≤ n + 1; omega, by show c.wr ≤ n + 1; omega⟩
      · rw [hg]
        have := liv_gon h.wf.uni hc hdr
        show liv _ + 1 = liv cs + if (!m.gn.gone) = true then 1 else 0
        rw [this]
        rfl
theorem store69u (o : CO) (hv : 0 ≤ o.v ∧ o.v < 18446744073709551616) : Calls Try.prog 69 #[.pointer (some ⟨mx, 0, none⟩), .int .i64 o.id, .int .i64 o.off, .int .i64 o.size, .int .u64 o.v, .int .i64 o.now] w fun e w' => ∃ q : {ms' : List MC // Rl8 (stpS o cs) ms' L (n + 1)}, e = .returned (.bool (okS o cs)) ∧ Ok (domL (OM mx ma mc ms)) w (OM mx ma mc q.1) w' := by
  have g1 := h0.holds 0 _ rfl
  have g2 := h0.holds 1 _ rfl
  have hno : okS o cs = false → (NoM ms o.id ∨ ∃ j m, ThM ms o.id j m ∧ ¬ fitM m.bs.length o.off o.size ∧ m.bs.length ≤ 100000) → Calls Try.prog 69 #[.pointer (some ⟨mx, 0, none⟩), .int .i64 o.id, .int .i64 o.off, .int .i64 o.size, .int .u64 o.v, .int .i64 o.now] w fun e w' => ∃ q : {ms' : List MC // Rl8 (stpS o cs) ms' L (n + 1)}, e = .returned (.bool (okS o cs)) ∧ Ok (domL (OM mx ma mc ms)) w (OM mx ma mc q.1) w' := fun hk hh => by
    have e : stpS o cs = cs := by unfold stpS; rw [if_neg (by simp [hk])]
    rw [hk, e]
    exact (store69n mx ma mc ms o.id o.off o.size o.v o.now hh (h.ml hn).1 w g1 g2).mono fun e w' hh => ⟨⟨ms, h.mono (by omega)⟩, hh.1, h0.grow hh.2⟩
  rcases h.find o.id with ⟨hc, hN⟩ | ⟨j, m, c, ht, hc, hp, hkj⟩
  · exact hno (by unfold okS; rw [hc]) (.inl hN)
  · have hm := h.ok m (List.mem_of_getElem? ht.1)
    have hbl : c.bs.length = m.bs.length := by rw [hp.bs]
    cases hs : okS o cs with
    | false =>
      have h4 := okS_not hs c hc
      rw [← hs]
      exact hno hs (.inr ⟨j, m, ht, fun hf => h4 (by unfold fits; rw [hbl]; exact hf), by omega⟩)
    | true =>
      obtain ⟨c', hc', f1, f2, f3⟩ := okS_some hs
      rw [hc] at hc'
      obtain rfl := Option.some.inj hc'
      rw [hbl] at f3
      obtain ⟨ob, hob⟩ := Int.eq_ofNat_of_zero_le f2
      obtain ⟨nb, hnb⟩ := Int.eq_ofNat_of_zero_le (show 0 ≤ o.size by omega)
      have e : stpS o cs = updC o.id (putS o) cs := by unfold stpS; rw [if_pos hs]
      rw [e]
      have hwf := h.wf
      have hst := store69y mx ma mc ms o.id ob nb j m o.v o.now hv ht ⟨by omega, by omega, by omega⟩ (h.ml hn).1 (by omega) (by omega) (by omega) w h0
      rw [← hob, ← hnb] at hst
      have ep : putS o c = c.put (wrB c.bs ob (byts o.v nb)) o.now := by unfold putS; rw [hob, hnb]; rfl
      have hwl : (wrB m.bs ob (byts o.v nb)).length = m.bs.length := wrB_len (by rw [byts_len]; omega)
      refine hst.mono fun e w' ⟨a, h5, h6⟩ => ⟨⟨ms.set j ((m.bw (m.ba, m.cap) (wrB m.bs ob (byts o.v nb))).tw a o.now), h.upd (m' := (m.bw (m.ba, m.cap) (wrB m.bs ob (byts o.v nb))).tw a o.now) ht hc (f := putS o) (fun c => rfl) ?_ ?_ ht.2.2 ⟨?_, ?_, ?_, ?_⟩ ?_⟩, h5, h6⟩
      · have h8 := h.wf.step (⟨2, o.id, o.off, o.size, o.now, o.v, o.ad, o.cap, []⟩ : CO) (0, none, 0) (fun x hx => (by cases hx))
        have e8 : stpC (⟨2, o.id, o.off, o.size, o.now, o.v, o.ad, o.cap, []⟩ : CO) (0, none, 0) cs L = updC o.id (putS o) cs := by
          unfold stpC
          rw [if_neg (show ¬ (2 : Int) = 0 by decide), if_pos rfl]
          exact if_pos hs
        have e9 : stpL (⟨2, o.id, o.off, o.size, o.now, o.v, o.ad, o.cap, []⟩ : CO) L = L := by unfold stpL; rw [if_neg (show ¬ (2 : Int) = 0 by decide)]
        rw [e8, e9] at h8
        exact h8
      · rw [ep]
        exact ⟨by show wrB c.bs ob _ = wrB m.bs ob _; rw [hp.bs], by show c.wr + 1 = m.wr + 1; rw [hp.wr], by show c.bt.wr o.now = wrs (m.ts ++ [o.now]); rw [hp.bt]; simp [wrs], hp.dr⟩
      · show (m.ts ++ [o.now]).length ≤ n + 1
        simp
        omega
      · show m.wr + 1 ≤ n + 1
        omega
      · show (wrB m.bs ob (byts o.v nb)).length ≤ 64
        omega
      · exact hm.2.2.2.wr ob nb o.v
      · rw [liv_upd (fun c => (rfl : (putS o c).dr = c.dr))]
        rfl
theorem write70u (o : CO) (hb : Byts o.bs) (hlb : o.bs.length ≤ 200) (hl : InL w o.ad 1 cU o.bs) (hne : o.bs ≠ [] → ∀ b off, o.ad = some ⟨b, off, none⟩ → ¬ domL (OM mx ma mc ms) b) : Calls Try.prog 70 #[.pointer (some ⟨mx, 0, none⟩), .int .i64 o.id, .slice o.ad o.bs.length o.cap, .int .i64 o.now] w fun e w' => ∃ q : {ms' : List MC // Rl8 (stpW o cs) ms' L (n + 1)}, e = .returned (.bool (okW o cs)) ∧ Ok (domL (OM mx ma mc ms)) w (OM mx ma mc q.1) w' := by
  have g1 := h0.holds 0 _ rfl
  have g2 := h0.holds 1 _ rfl
  have hno : okW o cs = false → (NoM ms o.id ∨ ∃ j m, ThM ms o.id j m ∧ m.bs.length ≠ o.bs.length) → Calls Try.prog 70 #[.pointer (some ⟨mx, 0, none⟩), .int .i64 o.id, .slice o.ad o.bs.length o.cap, .int .i64 o.now] w fun e w' => ∃ q : {ms' : List MC // Rl8 (stpW o cs) ms' L (n + 1)}, e = .returned (.bool (okW o cs)) ∧ Ok (domL (OM mx ma mc ms)) w (OM mx ma mc q.1) w' := fun hk hh => by
    have e : stpW o cs = cs := by unfold stpW; rw [if_neg (by simp [hk])]
    rw [hk, e]
    exact (write70n mx ma mc ms o.id o.ad o.bs.length o.cap o.now hh (by omega) (h.ml hn).1 w g1 g2).mono fun e w' hh => ⟨⟨ms, h.mono (by omega)⟩, hh.1, h0.grow hh.2⟩
  rcases h.find o.id with ⟨hc, hN⟩ | ⟨j, m, c, ht, hc, hp, hkj⟩
  · exact hno (by unfold okW; rw [hc]) (.inl hN)
  · have hm := h.ok m (List.mem_of_getElem? ht.1)
    have hbl : c.bs.length = m.bs.length := by rw [hp.bs]
    cases hs : okW o cs with
    | false =>
      have h4 := okW_not hs c hc
      rw [← hs]
      exact hno hs (.inr ⟨j, m, ht, by rw [← hbl]; exact h4⟩)
    | true =>
      obtain ⟨c', hc', f1⟩ := okW_some hs
      rw [hc] at hc'
      obtain rfl := Option.some.inj hc'
      have e : stpW o cs = updC o.id (putW o) cs := by unfold stpW; rw [if_pos hs]
      rw [e]
      have hst := write70y mx ma mc ms o.id j m o.ad o.bs.length o.cap o.bs o.now rfl (by omega) (by omega) ht (h.ml hn).1 (by omega) (by omega) w h0 hl hne
      refine hst.mono fun e w' ⟨a, h5, h6⟩ => ⟨⟨ms.set j ((m.bw a.1 o.bs).tw a.2 o.now), h.upd (m' := (m.bw a.1 o.bs).tw a.2 o.now) ht hc (f := putW o) (fun c => rfl) ?_ ?_ ht.2.2 ⟨?_, ?_, ?_, ?_⟩ ?_⟩, h5, h6⟩
      · have h8 := h.wf.step (⟨3, o.id, o.off, o.size, o.now, o.v, o.ad, o.cap, o.bs⟩ : CO) (0, none, 0) hb
        have e8 : stpC (⟨3, o.id, o.off, o.size, o.now, o.v, o.ad, o.cap, o.bs⟩ : CO) (0, none, 0) cs L = updC o.id (putW o) cs := by
          unfold stpC
          rw [if_neg (show ¬ (3 : Int) = 0 by decide), if_neg (show ¬ (3 : Int) = 2 by decide), if_pos rfl]
          exact if_pos hs
        have e9 : stpL (⟨3, o.id, o.off, o.size, o.now, o.v, o.ad, o.cap, o.bs⟩ : CO) L = L := by unfold stpL; rw [if_neg (show ¬ (3 : Int) = 0 by decide)]
        rw [e8, e9] at h8
        exact h8
      · exact ⟨rfl, by show c.wr + 1 = m.wr + 1; rw [hp.wr], by show c.bt.wr o.now = wrs (m.ts ++ [o.now]); rw [hp.bt]; simp [wrs], hp.dr⟩
      · show (m.ts ++ [o.now]).length ≤ n + 1
        simp
        omega
      · show m.wr + 1 ≤ n + 1
        omega
      · show o.bs.length ≤ 64
        omega
      · exact hb
      · rw [liv_upd (fun c => (rfl : (putW o c).dr = c.dr))]
        rfl
end
end
end Go.Proofs.Ytfekmflnfhjebaa
