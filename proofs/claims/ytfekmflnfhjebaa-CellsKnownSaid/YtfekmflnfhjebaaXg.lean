/- The document's cells, each call told by the program's; what both tell of a cell. -/
import Derived.Test.YtfekmflnfhjebaaXe
import Derived.Test.YtfekmflnfhjebaaCu
import Derived.Test.YtfekmflnfhjebaaOb2
set_option linter.unusedVariables false
set_option linter.unusedSimpArgs false
namespace Go.Proofs.Ytfekmflnfhjebaa
open Go Go.Sx Go.RowKit
/-- A cell of the program and one of the document. -/
structure Pair (c : PC) (m : MC) : Prop where
  bs : c.bs = m.bs
  wr : c.wr = m.wr
  bt : c.bt = wrs m.ts
  dr : c.dr = m.gone
structure Rl8 (cs : List PC) (ms : List MC) (L n : Nat) : Prop where
  wf : WF cs L n
  len : ms.length = L
  at' : ∀ j m, ms[j]? = some m → (m.swept = true → lc ((j + 1 : Nat) : Int) cs = none ∧ m.gone = true) ∧ (m.swept = false → ∃ c, lc ((j + 1 : Nat) : Int) cs = some c ∧ Pair c m)
  ok : ∀ m ∈ ms, m.ts.length ≤ n ∧ m.wr ≤ n ∧ m.bs.length ≤ 64 ∧ Byts m.bs
  c1 : liv cs = ms.countP fun m => !m.gone
  c2 : cs.length = ms.countP fun m => !m.swept
theorem Rl8.nil : Rl8 [] [] 0 0 := ⟨WF.nil, rfl, fun j m h => by simp at h, fun m h => (by cases h), rfl, rfl⟩
theorem Rl8.find {cs : List PC} {ms : List MC} {L n : Nat} (h : Rl8 cs ms L n) (k : Int) : (lc k cs = none ∧ NoM ms k) ∨ ∃ j m c, ThM ms k j m ∧ lc k cs = some c ∧ Pair c m ∧ k = ((j + 1 : Nat) : Int) := by
  have hout : (k < 1 ∨ (ms.length : Int) < k) → lc k cs = none := fun hk => by
    cases hc : lc k cs with
    | none => rfl
    | some c =>
      obtain ⟨h1, h2⟩ := lc_mem hc
      have h3 := h.wf.ids c h1
      have h4 := h.len
      omega
  rcases th_or ms k with hn | ⟨j, m, ht⟩
  · refine .inl ⟨?_, hn⟩
    rcases hn with h1 | h1 | ⟨j, m, h1, h2, h3⟩
    · exact hout (.inl h1)
    · exact hout (.inr h1)
    · have := ((h.at' j m h1).1 h3).1
      rwa [show k = ((j + 1 : Nat) : Int) by omega]
  · obtain ⟨h1, h2, h3⟩ := ht
    obtain ⟨c, hc, hp⟩ := (h.at' j m h1).2 h3
    have e : k = ((j + 1 : Nat) : Int) := by omega
    exact .inr ⟨j, m, c, ⟨h1, h2, h3⟩, by rw [e]; exact hc, hp, e⟩
theorem countP_set' {α : Type} {p : α → Bool} {xs : List α} {j : Nat} {x : α} (hj : xs[j]? = some x) (y : α) : (xs.set j y).countP p + (if p x = true then 1 else 0) = xs.countP p + if p y = true then 1 else 0 := by
  obtain ⟨h1, h2⟩ := list_cut hj
  rw [h2 y]
  conv => rhs; rw [h1]
  rw [List.countP_append, List.countP_append, List.countP_cons, List.countP_cons]
  omega
theorem Rl8.mono {cs : List PC} {ms : List MC} {L n k : Nat} (h : Rl8 cs ms L n) (hk : n ≤ k) : Rl8 cs ms L k :=
  ⟨h.wf.mono hk, h.len, h.at', fun m hm => by have := h.ok m hm; exact ⟨by omega, by omega, this.2.2⟩, h.c1, h.c2⟩
theorem Rl8.make {cs : List PC} {ms : List MC} {L n : Nat} (h : Rl8 cs ms L n) (a : Nat × Option Addr × Nat) (b : Option Addr × Nat) {bs : List Int} (hb : Byts bs) : Rl8 (cs ++ [newC L a bs]) (ms ++ [nMC b (bs.take 64)]) (L + 1) (n + 1) := by
  have hl := h.len
  refine ⟨h.wf.make a hb, by simp [hl], fun j m hj => ?_, fun m hm => ?_, ?_, ?_⟩
  · rw [lc_snoc]
    by_cases hjl : j < ms.length
    · rw [List.getElem?_append_left hjl] at hj
      have h1 := h.at' j m hj
      have h2 : ¬ (newC L a bs).id = ((j + 1 : Nat) : Int) := by show ¬ ((L + 1 : Nat) : Int) = _; omega
      rw [if_neg h2]
      constructor
      · intro hs
        rw [(h1.1 hs).1]
        exact ⟨rfl, (h1.1 hs).2⟩
      · intro hs
        obtain ⟨c, hc, hp⟩ := h1.2 hs
        rw [hc]
        exact ⟨c, rfl, hp⟩
    · have hj2 : j = ms.length := by
        have := (List.getElem?_eq_some_iff.1 hj).1
        simp at this
        omega
      subst hj2
      obtain rfl : nMC b (bs.take 64) = m := by simpa using hj
      have e1 : lc ((ms.length + 1 : Nat) : Int) cs = none := by
        cases hc : lc ((ms.length + 1 : Nat) : Int) cs with
        | none => rfl
        | some c =>
          obtain ⟨h1, h2⟩ := lc_mem hc
          have h3 := h.wf.ids c h1
          omega
      rw [e1, if_pos (by show ((L + 1 : Nat) : Int) = _; omega)]
      exact ⟨fun hs => (by cases hs), fun _ => ⟨_, rfl, ⟨rfl, rfl, rfl, rfl⟩⟩⟩
  · rcases List.mem_append.1 hm with hm | hm
    · have := h.ok m hm
      exact ⟨by omega, by omega, this.2.2⟩
    · obtain rfl := List.mem_singleton.1 hm
      exact ⟨Nat.zero_le _, Nat.zero_le _, by show (bs.take 64).length ≤ 64; rw [List.length_take]; omega, take_byts hb 64⟩
  · rw [List.countP_append, ← h.c1]
    unfold liv
    rw [List.filter_append, List.length_append]
    rfl
  · rw [List.countP_append, ← h.c2, List.length_append]
    rfl
theorem Rl8.upd {cs : List PC} {ms : List MC} {L n : Nat} (h : Rl8 cs ms L n) {k : Int} {j : Nat} {m m' : MC} {c : PC} {f : PC → PC} (ht : ThM ms k j m) (hc : lc k cs = some c) (hf : ∀ c, (f c).id = c.id) (hwf : WF (updC k f cs) L (n + 1)) (hp : Pair (f c) m') (hs : m'.swept = false) (hk : m'.ts.length ≤ n + 1 ∧ m'.wr ≤ n + 1 ∧ m'.bs.length ≤ 64 ∧ Byts m'.bs) (hl : liv (updC k f cs) + (if (!m.gone) = true then 1 else 0) = liv cs + if (!m'.gone) = true then 1 else 0) : Rl8 (updC k f cs) (ms.set j m') L (n + 1) := by
  obtain ⟨hj, hkj, hsw⟩ := ht
  have hlt := (List.getElem?_eq_some_iff.1 hj).1
  refine ⟨hwf, by rw [List.length_set]; exact h.len, fun i x hi => ?_, fun x hx => ?_, ?_, ?_⟩
  · rw [lc_updC _ _ _ hf]
    by_cases e : i = j
    · subst e
      rw [List.getElem?_set_self hlt] at hi
      obtain rfl := Option.some.inj hi
      rw [show ((i + 1 : Nat) : Int) = k by omega, hc]
      exact ⟨fun h2 => (by rw [hs] at h2; cases h2), fun _ => ⟨f c, by simp, hp⟩⟩
    · rw [List.getElem?_set_ne (fun e' => e e'.symm)] at hi
      have h1 := h.at' i x hi
      have e2 : ¬ ((i + 1 : Nat) : Int) = k := by omega
      constructor
      · intro h2
        rw [(h1.1 h2).1]
        exact ⟨rfl, (h1.1 h2).2⟩
      · intro h2
        obtain ⟨d, hd, hp2⟩ := h1.2 h2
        rw [hd]
        exact ⟨d, by rw [Option.map_some, if_neg e2], hp2⟩
  · rcases List.mem_or_eq_of_mem_set hx with h1 | rfl
    · have := h.ok x h1
      exact ⟨by omega, by omega, this.2.2⟩
    · exact hk
  · have := countP_set' (p := fun m : MC => !m.gone) hj m'
    have := h.c1
    omega
  · have h1 := countP_set' (p := fun m : MC => !m.swept) hj m'
    rw [hs, hsw] at h1
    have h2 := h.c2
    have h3 : (updC k f cs).length = cs.length := by unfold updC; rw [List.length_map]
    simp at h1
    omega
theorem swp_g (m : MC) : (swp m).gone = m.gone := by unfold swp; split <;> rfl
theorem Rl8.sweep {cs : List PC} {ms : List MC} {L n : Nat} (h : Rl8 cs ms L n) : Rl8 (cs.filter fun c => !c.dr) (ms.map swp) L n := by
  refine ⟨h.wf.sweep, by rw [List.length_map]; exact h.len, fun j x hj => ?_, fun x hx => ?_, ?_, ?_⟩
  · rw [List.getElem?_map] at hj
    obtain ⟨m, hm, rfl⟩ := Option.map_eq_some_iff.1 hj
    have h1 := h.at' j m hm
    rw [lc_filter _ _ _ h.wf.uni]
    cases hs : m.swept with
    | true =>
      have h2 := h1.1 hs
      have e : swp m = m := by unfold swp; rw [hs]; simp
      rw [e, h2.1]
      exact ⟨fun _ => ⟨rfl, h2.2⟩, fun h3 => (by rw [hs] at h3; cases h3)⟩
    | false =>
      obtain ⟨c, hc, hp⟩ := h1.2 hs
      rw [hc]
      have hd := hp.dr
      cases hg : m.gone with
      | true =>
        have e : swp m = m.sw := by unfold swp; rw [hs, hg]; rfl
        rw [hg] at hd
        rw [e, Option.filter_some, hd]
        exact ⟨fun _ => ⟨rfl, hg⟩, fun h3 => (by cases h3)⟩
      | false =>
        have e : swp m = m := by unfold swp; rw [hs, hg]; rfl
        rw [hg] at hd
        rw [e, Option.filter_some, hd]
        exact ⟨fun h3 => (by rw [hs] at h3; cases h3), fun _ => ⟨c, rfl, hp⟩⟩
  · obtain ⟨m, hm, rfl⟩ := List.mem_map.1 hx
    have e : (swp m).ts = m.ts ∧ (swp m).wr = m.wr ∧ (swp m).bs = m.bs := by unfold swp; split <;> exact ⟨rfl, rfl, rfl⟩
    rw [e.1, e.2.1, e.2.2]
    exact h.ok m hm
  · rw [liv_sweep, h.c1, List.countP_map]
    exact List.countP_congr fun m _ => by simp [swp_g]
  · have e : (cs.filter fun c => !c.dr).length = liv cs := rfl
    rw [e, h.c1, List.countP_map]
    refine List.countP_congr fun m hm => ?_
    obtain ⟨j, hj⟩ := List.mem_iff_getElem?.1 hm
    have h1 := h.at' j m hj
    simp only [Function.comp, Bool.not_eq_true']
    unfold swp
    cases hs : m.swept with
    | true => rw [(h1.1 hs).2]; simp [hs]
    | false => cases hg : m.gone <;> simp [hs, MC.sw]
theorem Rl8.cnt {cs : List PC} {ms : List MC} {L n : Nat} (h : Rl8 cs ms L n) : (goneTo cs L).length = cntG ms := by
  have h1 := gone_len h.wf.uni h.wf.ids
  have h2 := h.c1
  have h3 := h.c2
  have key : ∀ l : List MC, (∀ m ∈ l, m.swept = true → m.gone = true) → cntG l + l.countP (fun m => !m.gone) = l.countP fun m => !m.swept := by
    intro l
    induction l with
    | nil => intro _; rfl
    | cons m l ih =>
      intro hl
      have ih := ih fun x hx => hl x (by simp [hx])
      have hm := hl m (by simp)
      unfold cntG at ih ⊢
      rw [List.countP_cons, List.countP_cons, List.countP_cons]
      cases hs : m.swept with
      | true => rw [hm hs]; simp; omega
      | false => cases hg : m.gone <;> simp <;> omega
  have h4 := key ms fun m hm hs => by
    obtain ⟨j, hj⟩ := List.mem_iff_getElem?.1 hm
    exact ((h.at' j m hj).1 hs).2
  omega
/-! ### What is told of a cell -/
def bsM (k : Int) (cs : List PC) : List Int := bsOf k cs
theorem Rl8.bsl {cs : List PC} {ms : List MC} {L n : Nat} (h : Rl8 cs ms L n) (k : Int) : (bsOf k cs).length ≤ 64 := by
  unfold bsOf
  cases hc : lc k cs with
  | none => exact Nat.zero_le _
  | some c => exact h.wf.bs c (lc_mem hc).1
theorem ldV_none {k off size : Int} {cs : List PC} (h : lc k cs = none) : ldV k off size cs = 0 ∧ ldB k off size cs = false := by
  unfold ldV ldB
  rw [h]
  exact ⟨rfl, rfl⟩
end Go.Proofs.Ytfekmflnfhjebaa
set_option maxRecDepth 100000
set_option maxHeartbeats 8000000
set_option linter.unusedSimpArgs false
set_option linter.unusedVariables false
namespace Go.Proofs.Ytfekmflnfhjebaa
open Go Go.Sx Go.RowKit
theorem Rl8.ml {cs : List PC} {ms : List MC} {L n : Nat} (h : Rl8 cs ms L n) (hn : n ≤ 900) : ms.length ≤ 100000 ∧ L ≤ 900 ∧ (∀ m ∈ ms, m.ts.length ≤ 900 ∧ m.wr ≤ 900 ∧ m.bs.length ≤ 64) := by
  have h1 := h.len
  have h2 := h.wf.le
  exact ⟨by omega, by omega, fun m hm => by have := h.ok m hm; omega⟩
theorem std_eq {k now : Int} {cs : List PC} {c : PC} {m : MC} (hc : lc k cs = some c) (hp : Pair c m) : stdOf k now cs = (wrs m.ts).std now ∧ verOf k cs = m.wr ∧ bsOf k cs = m.bs := by
  unfold stdOf verOf bsOf
  rw [hc, hp.bt.symm]
  exact ⟨rfl, congrArg Nat.cast hp.wr, hp.bs⟩
theorem std_no {k now : Int} {cs : List PC} (hc : lc k cs = none) : stdOf k now cs = false ∧ verOf k cs = 0 ∧ bsOf k cs = [] := by
  unfold stdOf verOf bsOf
  rw [hc]
  exact ⟨rfl, rfl, rfl⟩
section
variable {cs : List PC} {ms : List MC} {L n : Nat} (h : Rl8 cs ms L n) (hn : n ≤ 900) (mx : Nat) (ma : Option Addr) (mc : Nat) (k : Int) (w : World)
section
variable (h1 : (row mx 78 [.slice ma ms.length mc]).holds w) (h2 : (ownd ma mc 89 5 ms.length (ms.flatMap cMC)).holds w) (h3 : (allM ms).holds w)
include h hn h1 h2
theorem size38u : Calls Try.prog 38 #[.pointer (some ⟨mx, 0, none⟩), .int .i64 k] w fun e w' => e = .returned (.int .i64 (bsOf k cs).length) ∧ Grow w w' := by
  rcases h.find k with ⟨hc, hN⟩ | ⟨j, m, c, ⟨hj, hk, hsw⟩, hc, hp, _⟩
  · rw [(std_no (now := 0) hc).2.2]
    exact size38N mx ma mc ms k hN (h.ml hn).1 w h1 h2
  · rw [(std_eq (now := 0) hc hp).2.2]
    exact size38y mx ma mc ms k j m hj hk hsw (h.ml hn).1 w h1 h2
theorem version75u : Calls Try.prog 75 #[.pointer (some ⟨mx, 0, none⟩), .int .i64 k] w fun e w' => e = .returned (.int .i64 (verOf k cs)) ∧ Grow w w' := by
  rcases h.find k with ⟨hc, hN⟩ | ⟨j, m, c, ht, hc, hp, _⟩
  · rw [(std_no (now := 0) hc).2.1]
    exact version75N mx ma mc ms k hN (h.ml hn).1 w h1 h2
  · rw [(std_eq (now := 0) hc hp).2.1]
    exact version75y mx ma mc ms k j m ht (h.ml hn).1 w h1 h2
theorem live34u : Calls Try.prog 34 #[.pointer (some ⟨mx, 0, none⟩)] w fun e w' => e = .returned (.int .i64 (liv cs)) ∧ Grow w w' := by
  rw [h.c1]
  exact live34g mx ma mc ms (h.ml hn).1 w h1 h2
include h3
theorem steady77u (now : Int) : Calls Try.prog 77 #[.pointer (some ⟨mx, 0, none⟩), .int .i64 k, .int .i64 now] w fun e w' => e = .returned (.bool (stdOf k now cs)) ∧ Grow w w' := by
  rcases h.find k with ⟨hc, hN⟩ | ⟨j, m, c, ht, hc, hp, _⟩
  · rw [(std_no hc).1]
    exact steady77N mx ma mc ms k now hN (h.ml hn).1 w h1 h2
  · rw [(std_eq hc hp).1]
    exact steady77y mx ma mc ms k now j m ht (h.ml hn).1 (by have := (h.ml hn).2.2 m (List.mem_of_getElem? ht.1); omega) w h1 h2 h3
theorem bytes41u : Calls Try.prog 41 #[.pointer (some ⟨mx, 0, none⟩), .int .i64 k] w fun e w' => ∃ a : Option Addr × Nat, e = .returned (.slice a.1 (bsOf k cs).length a.2) ∧ Ok (domL []) w [ownd a.1 a.2 5 1 (bsOf k cs).length ((bsOf k cs).flatMap cU)] w' := by
  rcases h.find k with ⟨hc, hN⟩ | ⟨j, m, c, ⟨hj, hk, hsw⟩, hc, hp, _⟩
  · rw [(std_no (now := 0) hc).2.2]
    exact (bytes41N mx ma mc ms k hN (h.ml hn).1 w h1 h2).mono fun e w' hh => ⟨(none, 0), hh.1, ((Ok.start (S := domL []) w).grow hh.2).own_nil 5 1⟩
  · rw [(std_eq (now := 0) hc hp).2.2]
    exact bytes41y mx ma mc ms k j m hj hk hsw (h.ml hn).1 (by have := (h.ml hn).2.2 m (List.mem_of_getElem? hj); omega) w h1 h2 h3
theorem load68u (off size : Int) : Calls Try.prog 68 #[.pointer (some ⟨mx, 0, none⟩), .int .i64 k, .int .i64 off, .int .i64 size] w fun e w' => e = .returned (.tuple #[.int .u64 (ldV k off size cs), .bool (ldB k off size cs)]) ∧ Grow w w' := by
  rcases h.find k with ⟨hc, hN⟩ | ⟨j, m, c, ht, hc, hp, _⟩
  · rw [(ldV_none hc).1, (ldV_none hc).2]
    exact load68n mx ma mc ms k off size (.inl hN) (h.ml hn).1 w h1 h2
  · have hb := (h.ml hn).2.2 m (List.mem_of_getElem? ht.1)
    have hbl : c.bs.length = m.bs.length := by rw [hp.bs]
    cases hs : ldB k off size cs with
    | false =>
      rw [ldV_not hs]
      have h4 := ldB_not hs c hc
      refine load68n mx ma mc ms k off size (.inr ⟨j, m, ht, fun hf => h4 ?_, by omega⟩) (h.ml hn).1 w h1 h2
      unfold fits
      rw [hbl]
      exact hf
    | true =>
      obtain ⟨c', hc', f1, f2, f3⟩ := ldB_some hs
      rw [hc] at hc'
      obtain rfl := Option.some.inj hc'
      rw [ldV_some hc ⟨f1, f2, f3⟩, hp.bs]
      rw [hbl] at f3
      obtain ⟨ob, rfl⟩ := Int.eq_ofNat_of_zero_le f2
      obtain ⟨nb, rfl⟩ := Int.eq_ofNat_of_zero_le (show 0 ≤ size by omega)
      exact load68y mx ma mc ms k ob nb j m ht ⟨f1, f2, f3⟩ (h.ok m (List.mem_of_getElem? ht.1)).2.2.2 (h.ml hn).1 (by omega) w h1 h2 h3
end
section
variable (h0 : Ok (domL (OM mx ma mc ms)) w (OM mx ma mc ms) w)
include h hn h0
theorem make60u (o : CO) (hb : Byts o.bs) (hlb : o.bs.length ≤ 200) (a : Nat × Option Addr × Nat) (hl : InL w o.ad 1 cU o.bs) (hne : o.bs ≠ [] → ∀ b off, o.ad = some ⟨b, off, none⟩ → ¬ domL (OM mx ma mc ms) b) :
    Calls Try.prog 60 #[.pointer (some ⟨mx, 0, none⟩), .slice o.ad o.bs.length o.cap] w fun e w' => ∃ q : (Option Addr × Nat) × {ms' : List MC // Rl8 (cs ++ [newC L a o.bs]) ms' (L + 1) (n + 1)}, e = .returned (.int .i64 ((L + 1 : Nat) : Int)) ∧ Ok (domL (OM mx ma mc ms)) w (OM mx q.1.1 q.1.2 q.2.1) w' := by
  have := make60 mx ma mc ms (h.ml hn).1 o.ad o.bs.length o.cap o.bs rfl w h0 hl hne
  rw [h.len] at this
  exact this.mono fun e w' ⟨q, h4, h5⟩ => ⟨(q.1, ⟨_, h.make a q.2 hb⟩), h4, h5⟩
theorem sweep72u : Calls Try.prog 72 #[.pointer (some ⟨mx, 0, none⟩)] w fun e w' => ∃ q : {ms' : List MC // Rl8 (cs.filter fun c => !c.dr) ms' L (n + 1)}, e = .returned (.int .i64 ((goneTo cs L).length : Nat)) ∧ Ok (domL (OM mx ma mc ms)) w (OM mx ma mc q.1) w' := by
  rw [h.cnt]
  exact (sweep72 mx ma mc ms (h.ml hn).1 w h0).mono fun e w' hh => ⟨⟨_, h.sweep.mono (by omega)⟩, hh⟩
theorem drop71u : Calls Try.prog 71 #[.pointer (some ⟨mx, 0, none⟩), .int .i64 k] w fun e w' => ∃ q : {ms' : List MC // Rl8 (stpD k cs) ms' L (n + 1)}, e = .returned (.bool (okD k cs)) ∧ Ok (domL (OM mx ma mc ms)) w (OM mx ma mc q.1) w' := by
  have g1 := h0.holds 0 _ rfl
  have g2 := h0.holds 1 _ rfl
  have hno : okD k cs = false → (NoM ms k ∨ ∃ j m, ThM ms k j m ∧ m.gone = true) → Calls Try.prog 71 #[.pointer (some ⟨mx, 0, none⟩), .int .i64 k] w fun e w' => ∃ q : {ms' : List MC // Rl8 (stpD k cs) ms' L (n + 1)}, e = .returned (.bool (okD k cs)) ∧ Ok (domL (OM mx ma mc ms)) w (OM mx ma mc q.1) w' := fun hk hh => by
    have e : stpD k cs = cs := by unfold stpD; rw [if_neg (by simp [hk])]
    rw [hk, e]
    exact (drop71n mx ma mc ms k hh (h.ml hn).1 w g1 g2).mono fun e w' hh => ⟨⟨ms, h.mono (by omega)⟩, hh.1, h0.grow hh.2⟩
  rcases h.find k with ⟨hc, hN⟩ | ⟨j, m, c, ht, hc, hp, hkj⟩
  · exact hno (by unfold okD; rw [hc]) (.inl hN)
  · cases hg : m.gone with
    | true => exact hno (by unfold okD; rw [hc]; show (!c.dr) = false; rw [hp.dr, hg]; rfl) (.inr ⟨j, m, ht, hg⟩)
    | false =>
      have hdr : c.dr = false := by rw [hp.dr, hg]
      have hk : okD k cs = true := by unfold okD; rw [hc]; show (!c.dr) = true; rw [hdr]; rfl
      have e : stpD k cs = updC k PC.gon cs := by unfold stpD; rw [if_pos hk]
      rw [hk, e]
      have hm := h.ok m (List.mem_of_getElem? ht.1)
      refine (drop71y mx ma mc ms k j m ht hg (h.ml hn).1 w h0).mono fun e w' hh => ⟨⟨ms.set j m.gn, h.upd ht hc (fun c => rfl) ?_ ⟨hp.bs, hp.wr, hp.bt, rfl⟩ ht.2.2 ⟨by show m.ts.length ≤ n + 1; omega, by show m.wr ≤ n + 1; omega, hm.2.2⟩ ?_⟩, hh⟩
      · refine h.wf.upd _ _ (fun c => rfl) fun c hc => ?_
        have hm := (lc_mem hc).1
        have := h.wf.ok c hm
        exact ⟨h.wf.bs c hm, h.wf.by' c hm, this.1, by show c.bt.n ≤ n + 1; omega, by show c.wr ≤ n + 1; omega⟩
      · rw [hg]
        have := liv_gon h.wf.uni hc hdr
        show liv _ + 1 = liv cs + if (!m.gn.gone) = true then 1 else 0
        rw [this]
        rfl
theorem store69u (o : CO) (hv : 0 ≤ o.v ∧ o.v < 18446744073709551616) : Calls Try.prog 69 #[.pointer (some ⟨mx, 0, none⟩), .int .i64 o.id, .int .i64 o.off, .int .i64 o.size, .int .u64 o.v, .int .i64 o.now] w fun e w' => ∃ q : {ms' : List MC // Rl8 (stpS o cs) ms' L (n + 1)}, e = .returned (.bool (okS o cs)) ∧ Ok (domL (OM mx ma mc ms)) w (OM mx ma mc q.1) w' := by
  have g1 := h0.holds 0 _ rfl
  have g2 := h0.holds 1 _ rfl
  have hno : okS o cs = false → (NoM ms o.id ∨ ∃ j m, ThM ms o.id j m ∧ ¬ fitM m.bs.length o.off o.size ∧ m.bs.length ≤ 100000) → Calls Try.prog 69 #[.pointer (some ⟨mx, 0, none⟩), .int .i64 o.id, .int .i64 o.off, .int .i64 o.size, .int .u64 o.v, .int .i64 o.now] w fun e w' => ∃ q : {ms' : List MC // Rl8 (stpS o cs) ms' L (n + 1)}, e = .returned (.bool (okS o cs)) ∧ Ok (domL (OM mx ma mc ms)) w (OM mx ma mc q.1) w' := fun hk hh => by
    have e : stpS o cs = cs := by unfold stpS; rw [if_neg (by simp [hk])]
    rw [hk, e]
    exact (store69n mx ma mc ms o.id o.off o.size o.v o.now hh (h.ml hn).1 w g1 g2).mono fun e w' hh => ⟨⟨ms, h.mono (by omega)⟩, hh.1, h0.grow hh.2⟩
  rcases h.find o.id with ⟨hc, hN⟩ | ⟨j, m, c, ht, hc, hp, hkj⟩
  · exact hno (by unfold okS; rw [hc]) (.inl hN)
  · have hm := h.ok m (List.mem_of_getElem? ht.1)
    have hbl : c.bs.length = m.bs.length := by rw [hp.bs]
    cases hs : okS o cs with
    | false =>
      have h4 := okS_not hs c hc
      rw [← hs]
      exact hno hs (.inr ⟨j, m, ht, fun hf => h4 (by unfold fits; rw [hbl]; exact hf), by omega⟩)
    | true =>
      obtain ⟨c', hc', f1, f2, f3⟩ := okS_some hs
      rw [hc] at hc'
      obtain rfl := Option.some.inj hc'
      rw [hbl] at f3
      obtain ⟨ob, hob⟩ := Int.eq_ofNat_of_zero_le f2
      obtain ⟨nb, hnb⟩ := Int.eq_ofNat_of_zero_le (show 0 ≤ o.size by omega)
      have e : stpS o cs = updC o.id (putS o) cs := by unfold stpS; rw [if_pos hs]
      rw [e]
      have hwf := h.wf
      have hst := store69y mx ma mc ms o.id ob nb j m o.v o.now hv ht ⟨by omega, by omega, by omega⟩ (h.ml hn).1 (by omega) (by omega) (by omega) w h0
      rw [← hob, ← hnb] at hst
      have ep : putS o c = c.put (wrB c.bs ob (byts o.v nb)) o.now := by unfold putS; rw [hob, hnb]; rfl
      have hwl : (wrB m.bs ob (byts o.v nb)).length = m.bs.length := wrB_len (by rw [byts_len]; omega)
      refine hst.mono fun e w' ⟨a, h5, h6⟩ => ⟨⟨ms.set j ((m.bw (m.ba, m.cap) (wrB m.bs ob (byts o.v nb))).tw a o.now), h.upd (m' := (m.bw (m.ba, m.cap) (wrB m.bs ob (byts o.v nb))).tw a o.now) ht hc (f := putS o) (fun c => rfl) ?_ ?_ ht.2.2 ⟨?_, ?_, ?_, ?_⟩ ?_⟩, h5, h6⟩
      · have h8 := h.wf.step (⟨2, o.id, o.off, o.size, o.now, o.v, o.ad, o.cap, []⟩ : CO) (0, none, 0) (fun x hx => (by cases hx))
        have e8 : stpC (⟨2, o.id, o.off, o.size, o.now, o.v, o.ad, o.cap, []⟩ : CO) (0, none, 0) cs L = updC o.id (putS o) cs := by
          unfold stpC
          rw [if_neg (show ¬ (2 : Int) = 0 by decide), if_pos rfl]
          exact if_pos hs
        have e9 : stpL (⟨2, o.id, o.off, o.size, o.now, o.v, o.ad, o.cap, []⟩ : CO) L = L := by unfold stpL; rw [if_neg (show ¬ (2 : Int) = 0 by decide)]
        rw [e8, e9] at h8
        exact h8
      · rw [ep]
        exact ⟨by show wrB c.bs ob _ = wrB m.bs ob _; rw [hp.bs], by show c.wr + 1 = m.wr + 1; rw [hp.wr], by show c.bt.wr o.now = wrs (m.ts ++ [o.now]); rw [hp.bt]; simp [wrs], hp.dr⟩
      · show (m.ts ++ [o.now]).length ≤ n + 1
        simp
        omega
      · show m.wr + 1 ≤ n + 1
        omega
      · show (wrB m.bs ob (byts o.v nb)).length ≤ 64
        omega
      · exact hm.2.2.2.wr ob nb o.v
      · rw [liv_upd (fun c => (rfl : (putS o c).dr = c.dr))]
        rfl
theorem write70u (o : CO) (hb : Byts o.bs) (hlb : o.bs.length ≤ 200) (hl : InL w o.ad 1 cU o.bs) (hne : o.bs ≠ [] → ∀ b off, o.ad = some ⟨b, off, none⟩ → ¬ domL (OM mx ma mc ms) b) : Calls Try.prog 70 #[.pointer (some ⟨mx, 0, none⟩), .int .i64 o.id, .slice o.ad o.bs.length o.cap, .int .i64 o.now] w fun e w' => ∃ q : {ms' : List MC // Rl8 (stpW o cs) ms' L (n + 1)}, e = .returned (.bool (okW o cs)) ∧ Ok (domL (OM mx ma mc ms)) w (OM mx ma mc q.1) w' := by
  have g1 := h0.holds 0 _ rfl
  have g2 := h0.holds 1 _ rfl
  have hno : okW o cs = false → (NoM ms o.id ∨ ∃ j m, ThM ms o.id j m ∧ m.bs.length ≠ o.bs.length) → Calls Try.prog 70 #[.pointer (some ⟨mx, 0, none⟩), .int .i64 o.id, .slice o.ad o.bs.length o.cap, .int .i64 o.now] w fun e w' => ∃ q : {ms' : List MC // Rl8 (stpW o cs) ms' L (n + 1)}, e = .returned (.bool (okW o cs)) ∧ Ok (domL (OM mx ma mc ms)) w (OM mx ma mc q.1) w' := fun hk hh => by
    have e : stpW o cs = cs := by unfold stpW; rw [if_neg (by simp [hk])]
    rw [hk, e]
    exact (write70n mx ma mc ms o.id o.ad o.bs.length o.cap o.now hh (by omega) (h.ml hn).1 w g1 g2).mono fun e w' hh => ⟨⟨ms, h.mono (by omega)⟩, hh.1, h0.grow hh.2⟩
  rcases h.find o.id with ⟨hc, hN⟩ | ⟨j, m, c, ht, hc, hp, hkj⟩
  · exact hno (by unfold okW; rw [hc]) (.inl hN)
  · have hm := h.ok m (List.mem_of_getElem? ht.1)
    have hbl : c.bs.length = m.bs.length := by rw [hp.bs]
    cases hs : okW o cs with
    | false =>
      have h4 := okW_not hs c hc
      rw [← hs]
      exact hno hs (.inr ⟨j, m, ht, by rw [← hbl]; exact h4⟩)
    | true =>
      obtain ⟨c', hc', f1⟩ := okW_some hs
      rw [hc] at hc'
      obtain rfl := Option.some.inj hc'
      have e : stpW o cs = updC o.id (putW o) cs := by unfold stpW; rw [if_pos hs]
      rw [e]
      have hst := write70y mx ma mc ms o.id j m o.ad o.bs.length o.cap o.bs o.now rfl (by omega) (by omega) ht (h.ml hn).1 (by omega) (by omega) w h0 hl hne
      refine hst.mono fun e w' ⟨a, h5, h6⟩ => ⟨⟨ms.set j ((m.bw a.1 o.bs).tw a.2 o.now), h.upd (m' := (m.bw a.1 o.bs).tw a.2 o.now) ht hc (f := putW o) (fun c => rfl) ?_ ?_ ht.2.2 ⟨?_, ?_, ?_, ?_⟩ ?_⟩, h5, h6⟩
      · have h8 := h.wf.step (⟨3, o.id, o.off, o.size, o.now, o.v, o.ad, o.cap, o.bs⟩ : CO) (0, none, 0) hb
        have e8 : stpC (⟨3, o.id, o.off, o.size, o.now, o.v, o.ad, o.cap, o.bs⟩ : CO) (0, none, 0) cs L = updC o.id (putW o) cs := by
          unfold stpC
          rw [if_neg (show ¬ (3 : Int) = 0 by decide), if_neg (show ¬ (3 : Int) = 2 by decide), if_pos rfl]
          exact if_pos hs
        have e9 : stpL (⟨3, o.id, o.off, o.size, o.now, o.v, o.ad, o.cap, o.bs⟩ : CO) L = L := by unfold stpL; rw [if_neg (show ¬ (3 : Int) = 0 by decide)]
        rw [e8, e9] at h8
        exact h8
      · exact ⟨rfl, by show c.wr + 1 = m.wr + 1; rw [hp.wr], by show c.bt.wr o.now = wrs (m.ts ++ [o.now]); rw [hp.bt]; simp [wrs], hp.dr⟩
      · show (m.ts ++ [o.now]).length ≤ n + 1
        simp
        omega
      · show m.wr + 1 ≤ n + 1
        omega
      · show o.bs.length ≤ 64
        omega
      · exact hb
      · rw [liv_upd (fun c => (rfl : (putW o c).dr = c.dr))]
        rfl
end
end
end Go.Proofs.Ytfekmflnfhjebaa
