/- The document's cache as an object. -/
import Derived.Test.YtikdbgheefjpkaaQq
set_option maxRecDepth 100000
set_option maxHeartbeats 8000000
set_option linter.unusedSimpArgs false
set_option linter.unusedVariables false
namespace Go.Proofs.Ytikdbgheefjpkaa
open Go Go.Sx Go.RowKit
theorem sepL {S : Nat → Prop} {w0 w : World} {H : List Res} {ad : Option Addr} {cap e z n : Nat} {xs : List Value} (hw : Ok S w0 H w) (j : Nat) (hj : H[j]? = some (ownd ad cap e z n xs)) (L : List Res) (hL : ∀ k r, L[k]? = some r → H[k]? = some r ∧ k ≠ j) (hn : 0 < n) : ∀ b off, ad = some ⟨b, off, none⟩ → ¬ domL L b := fun b off e hd => by
  obtain ⟨k, r, hk, hr⟩ := hd
  obtain ⟨hk2, hkj⟩ := hL k r hk
  refine hw.sep k j _ _ hk2 hj hkj b hr ?_
  obtain ⟨b2, e2, _⟩ := (own_at (hw.holds j _ hj)).2.1 hn
  rw [e] at e2
  show (Value.slice ad n cap).ownBlock = some b
  rw [e]
  obtain rfl : off = 0 := congrArg Addr.off (Option.some.inj e2)
  simp [Value.ownBlock]
section
variable {S : Nat → Prop} {w0 w : World} {bx : Nat} {most : Int} {oa : Option Addr} {oc : Nat} {fs : List CD} {la : Option Addr} {lc : Nat} {rl : List Int}
theorem RC.inl (h : Ok S w0 (RC bx most oa oc fs la lc rl) w) : InL w oa 4 cCD fs := own_in len_CD (h.holds 1 _ rfl) (Nat.le_refl _)
theorem RC.inll (h : Ok S w0 (RC bx most oa oc fs la lc rl) w) : InL w la 1 cI rl := own_in len_I (h.holds 3 _ rfl) (Nat.le_refl _)
theorem RC.ne (h : Ok S w0 (RC bx most oa oc fs la lc rl) w) : fs ≠ [] → ∀ b off, oa = some ⟨b, off, none⟩ → ¬ domL [row bx 106 (hdR most oa fs.length oc la rl.length lc)] b := fun hne => sepRO h 0 1 rfl rfl (by decide) (List.length_pos_iff.2 hne)
theorem RC.lne (h : Ok S w0 (RC bx most oa oc fs la lc rl) w) : rl ≠ [] → ∀ b off, la = some ⟨b, off, none⟩ → ¬ domL [row bx 106 (hdR most oa fs.length oc la rl.length lc)] b := fun hne => sepRO h 0 3 rfl rfl (by decide) (List.length_pos_iff.2 hne)
end
theorem run70o (bx : Nat) (most : Int) (oa : Option Addr) (oc : Nat) (fs : List CD) (la : Option Addr) (lc : Nat) (rl : List Int) (hs : rl.length ≤ 10000) (p v : Int) (hv : cnt p rl + 1 = v) (w : World) (h0 : Ok (domL (RC bx most oa oc fs la lc rl)) w (RC bx most oa oc fs la lc rl) w) :
    Calls Try.prog 70 #[.pointer (some ⟨bx, 0, none⟩), .int .i64 p] w fun e w' => ∃ a : Option Addr × Nat, e = .returned (.int .i64 v) ∧ Ok (domL (RC bx most oa oc fs la lc rl)) w (RC bx most oa oc fs a.1 a.2 (rl ++ [p])) w' := by
  have h1 := h0.pick (H' := [row bx 106 (hdR most oa fs.length oc la rl.length lc), ownd la lc 3 1 rl.length (rl.flatMap cI)] ++ [ownd oa oc 59 4 fs.length (fs.flatMap cCD), allD fs]) [0, 3, 1, 2] (by simp) rfl
  exact (run70 bx most oa oc fs.length la lc rl hs p v hv w (Ok.enterL h1)).mono fun e w' ⟨a, h2, h3⟩ => ⟨a, h2, (Ok.backL h1 h3).pick [0, 2, 3, 1] (by simp) rfl⟩
theorem progs42o (bx : Nat) (most : Int) (oa : Option Addr) (oc : Nat) (fs : List CD) (la : Option Addr) (lc : Nat) (rl : List Int) (hs : fs.length ≤ 100000) (out : List Int) (ho : fs.map CD.prog = out) (w : World) (h0 : Ok (domL (RC bx most oa oc fs la lc rl)) w (RC bx most oa oc fs la lc rl) w) :
    Calls Try.prog 42 #[.pointer (some ⟨bx, 0, none⟩)] w fun e w' => ∃ a : Option Addr × Nat, e = .returned (.slice a.1 out.length a.2) ∧ Ok (domL (RC bx most oa oc fs la lc rl)) w (ownd a.1 a.2 3 1 out.length (out.flatMap cI) :: RC bx most oa oc fs la lc rl) w' := by
  subst ho
  rw [List.length_map]
  exact (progs42 bx _ _ oa oc fs hs w (h0.holds 0 _ rfl) (RC.inl h0)).mono fun e w' ⟨a, h2, h3⟩ => ⟨a, h2, Ok.backL (L := []) (H := RC bx most oa oc fs la lc rl) h0 h3⟩
theorem drop73o (bx : Nat) (most : Int) (oa : Option Addr) (oc : Nat) (fs : List CD) (la : Option Addr) (lc : Nat) (rl : List Int) (hs : fs.length ≤ 100000) (p : Int) (b : Bool) (hb : decide ((wo p fs).length < fs.length) = b) (w : World) (h0 : Ok (domL (RC bx most oa oc fs la lc rl)) w (RC bx most oa oc fs la lc rl) w) :
    Calls Try.prog 73 #[.pointer (some ⟨bx, 0, none⟩), .int .i64 p] w fun e w' => ∃ a : Option Addr × Nat, e = .returned (.bool b) ∧ Ok (domL (RC bx most oa oc fs la lc rl)) w (RC bx most a.1 a.2 (wo p fs) la lc rl) w' :=
  (drop73 bx most oa oc fs la rl.length lc p b hb hs w (RC.inl h0) (RC.ne h0) (Ok.enterL (L := [row bx 106 (hdR most oa fs.length oc la rl.length lc)]) (H := [ownd oa oc 59 4 fs.length (fs.flatMap cCD), allD fs, ownd la lc 3 1 rl.length (rl.flatMap cI)]) h0)).mono fun e w' ⟨a, h1, h2⟩ => ⟨a, h1, by
    have h3 := Ok.backL (L := [row bx 106 (hdR most oa fs.length oc la rl.length lc)]) (H := [ownd oa oc 59 4 fs.length (fs.flatMap cCD), allD fs, ownd la lc 3 1 rl.length (rl.flatMap cI)]) h0 h2
    have h4 := h3.pick (H' := [allD fs, row bx 106 (hdR most a.1 (wo p fs).length a.2 la rl.length lc), ownd a.1 a.2 59 4 (wo p fs).length ((wo p fs).flatMap cCD), ownd la lc 3 1 rl.length (rl.flatMap cI)]) [3, 0, 1, 4] (by simp) rfl
    exact (allD_sub (l' := wo p fs) List.filter_sublist h4).pick [1, 2, 0, 3] (by simp) rfl⟩
theorem forget74o (bx : Nat) (most : Int) (oa : Option Addr) (oc : Nat) (fs : List CD) (la : Option Addr) (lc : Nat) (rl : List Int) (hs : fs.length ≤ 100000) (hsl : rl.length ≤ 100000) (p : Int) (w : World) (h0 : Ok (domL (RC bx most oa oc fs la lc rl)) w (RC bx most oa oc fs la lc rl) w) :
    Calls Try.prog 74 #[.pointer (some ⟨bx, 0, none⟩), .int .i64 p] w fun e w' => ∃ a : (Option Addr × Nat) × (Option Addr × Nat), e = .returned (.tuple #[]) ∧ Ok (domL (RC bx most oa oc fs la lc rl)) w (RC bx most a.1.1 a.1.2 (wo p fs) a.2.1 a.2.2 (woI p rl)) w' :=
  (forget74 bx most oa oc fs la lc rl p hs hsl w (RC.inl h0) (RC.ne h0) (RC.inll h0) (RC.lne h0) (Ok.enterL (L := [row bx 106 (hdR most oa fs.length oc la rl.length lc)]) (H := [ownd oa oc 59 4 fs.length (fs.flatMap cCD), allD fs, ownd la lc 3 1 rl.length (rl.flatMap cI)]) h0)).mono fun e w' ⟨a, h1, h2⟩ => ⟨a, h1, by
    have h3 := Ok.backL (L := [row bx 106 (hdR most oa fs.length oc la rl.length lc)]) (H := [ownd oa oc 59 4 fs.length (fs.flatMap cCD), allD fs, ownd la lc 3 1 rl.length (rl.flatMap cI)]) h0 h2
    have h4 := h3.pick (H' := [allD fs, row bx 106 (hdR most a.1.1 (wo p fs).length a.1.2 a.2.1 (woI p rl).length a.2.2), ownd a.1.1 a.1.2 59 4 (wo p fs).length ((wo p fs).flatMap cCD), ownd a.2.1 a.2.2 3 1 (woI p rl).length ((woI p rl).flatMap cI)]) [4, 0, 1, 2] (by simp) rfl
    exact (allD_sub (l' := wo p fs) List.filter_sublist h4).pick [1, 2, 0, 3] (by simp) rfl⟩
theorem get44o (bx : Nat) (most : Int) (oa : Option Addr) (oc : Nat) (fs : List CD) (la : Option Addr) (lc : Nat) (rl : List Int) (hs : fs.length ≤ 100000) (hok : ∀ c ∈ fs, OkF c.vc) (p : Int) (v : VC) (b : Bool) (hv : getV p (fs.map CD.vc) = v ∧ hasV p (fs.map CD.vc) = b) (w : World) (h0 : Ok (domL (RC bx most oa oc fs la lc rl)) w (RC bx most oa oc fs la lc rl) w) :
    Calls Try.prog 44 #[.pointer (some ⟨bx, 0, none⟩), .int .i64 p] w fun e w' => ∃ a : {a : CD // a.vc = v}, e = .returned (.tuple #[.agg (cCD a.1).toArray, .bool b]) ∧ Ok (domL (RC bx most oa oc fs la lc rl)) w (OCd a.1 ++ RC bx most oa oc fs la lc rl) w' :=
  (get44 bx _ _ oa oc fs hs p v b hv w (h0.holds 0 _ rfl) (RC.inl h0) (fun c hc => ⟨hok c hc, rd_all (h0.holds 2 _ rfl) hc (hok c hc)⟩)).mono fun e w' ⟨a, h2, h3⟩ => ⟨a, h2, Ok.backL (L := []) (H := RC bx most oa oc fs la lc rl) h0 h3⟩
theorem leftR_sub (gone : List Int) (out : List CD) : (leftR gone out).Sublist out := by
  cases gone with
  | nil => exact List.Sublist.refl _
  | cons g l => exact List.filter_sublist
theorem put72o (bx : Nat) (most : Int) (oa : Option Addr) (oc : Nat) (fs : List CD) (la : Option Addr) (lc : Nat) (rl : List Int) (hs : fs.length ≤ 1000) (hsl : rl.length ≤ 100000) (x : CD) (hx : x.ops.length ≤ 1000 ∧ x.at'.length ≤ 1000 ∧ x.evs.length ≤ 1000) (gone : List Int) (hgone : goR most (fun q => cnt q rl) x.prog (insP x.prog ((wo x.prog fs).map CD.prog)) = gone) (w : World) (hd : ∀ w', Chg (domL (RC bx most oa oc fs la lc rl)) w w' → RdD w' x) (h0 : Ok (domL (RC bx most oa oc fs la lc rl)) w (RC bx most oa oc fs la lc rl) w) :
    Calls Try.prog 72 #[.pointer (some ⟨bx, 0, none⟩), .agg (cCD x).toArray] w fun e w' => ∃ a : (Option Addr × Nat) × (Option Addr × Nat) × {q : CD × List CD // q.1.vc = x.vc ∧ LaidD q.1 (wo x.prog fs) q.2}, e = .returned (.slice a.1.1 gone.length a.1.2) ∧ Ok (domL (RC bx most oa oc fs la lc rl)) w (ownd a.1.1 a.1.2 3 1 gone.length (gone.flatMap cI) :: RC bx most a.2.1.1 a.2.1.2 (leftR gone a.2.2.1.2) la lc rl) w' :=
  (put72 bx most oa oc fs hs la lc rl hsl x hx (wo x.prog fs) rfl gone hgone w (RC.inl h0) (RC.ne h0) (RC.inll h0) (RC.lne h0) (fun w' h => hd w' (h.mono fun b _ ⟨k, r, hk, hr⟩ => ⟨0, _, rfl, by
    have hk0 : k = 0 := by have := (List.getElem?_eq_some_iff.1 hk).1; simpa using this
    subst hk0
    obtain rfl : row bx 106 (hdR most oa fs.length oc la rl.length lc) = r := by simpa using hk
    exact hr⟩)) (Ok.enterL (L := [row bx 106 (hdR most oa fs.length oc la rl.length lc)]) (H := [ownd oa oc 59 4 fs.length (fs.flatMap cCD), allD fs, ownd la lc 3 1 rl.length (rl.flatMap cI)]) h0)).mono fun e w' ⟨a, h1, h2⟩ => ⟨a, h1, by
    have h3 := Ok.backL (L := [row bx 106 (hdR most oa fs.length oc la rl.length lc)]) (H := [ownd oa oc 59 4 fs.length (fs.flatMap cCD), allD fs, ownd la lc 3 1 rl.length (rl.flatMap cI)]) h0 h2
    obtain ⟨a1, a2, ⟨⟨y, out⟩, hy, hL⟩⟩ := a
    have h4 := h3.pick (H' := [allD [y], allD fs, ownd a1.1 a1.2 3 1 gone.length (gone.flatMap cI), row bx 106 (hdR most a2.1 (leftR gone out).length a2.2 la rl.length lc), ownd a2.1 a2.2 59 4 (leftR gone out).length ((leftR gone out).flatMap cCD), ownd la lc 3 1 rl.length (rl.flatMap cI)]) [3, 5, 0, 1, 2, 6] (by simp) rfl
    have h5 := Ok.unstar h4
    rw [show [y].flatMap OCd = OCd y by simp] at h5
    have h6 := okD_put (m := wo x.prog fs) List.filter_sublist hL.perm h5
    exact (allD_sub (leftR_sub gone out) h6).pick [1, 2, 3, 0, 4] (by simp) rfl⟩
theorem resD_sub {r : Int → Int} {m : Int} : ∀ (n : Nat) (L : List CD), (resD r m n L).2.Sublist L
  | 0, L => List.Sublist.refl _
  | n + 1, L => by
    unfold resD
    split
    · exact (resD_sub n _).trans List.filter_sublist
    · exact List.Sublist.refl _
theorem resize75o (bx : Nat) (most : Int) (oa : Option Addr) (oc : Nat) (fs : List CD) (la : Option Addr) (lc : Nat) (rl : List Int) (hs : fs.length ≤ 1000) (hsl : rl.length ≤ 100000) (n m : Int) (hm : max 0 n = m) (gone : List Int) (left : List CD) (hres : resD (fun q => cnt q rl) m fs.length fs = (gone, left)) (hnd : (fs.map CD.prog).Nodup) (w : World) (h0 : Ok (domL (RC bx most oa oc fs la lc rl)) w (RC bx most oa oc fs la lc rl) w) :
    Calls Try.prog 75 #[.pointer (some ⟨bx, 0, none⟩), .int .i64 n] w fun e w' => ∃ a : (Option Addr × Nat) × (Option Addr × Nat), e = .returned (.slice a.1.1 gone.length a.1.2) ∧ Ok (domL (RC bx most oa oc fs la lc rl)) w (ownd a.1.1 a.1.2 3 1 gone.length (gone.flatMap cI) :: RC bx m a.2.1 a.2.2 left la lc rl) w' :=
  (resize75 bx most oa oc fs la lc rl hs hsl n m hm gone left hres w hnd (RC.inll h0) (fun hne => sepL h0 3 rfl _ (fun k r hk => by
    have hk2 : k < 2 := (List.getElem?_eq_some_iff.1 hk).1
    match k, hk2 with
    | 0, _ => exact ⟨hk, by decide⟩
    | 1, _ => exact ⟨hk, by decide⟩) (List.length_pos_iff.2 hne)) (Ok.enterL (L := [row bx 106 (hdR most oa fs.length oc la rl.length lc), ownd oa oc 59 4 fs.length (fs.flatMap cCD)]) (H := [allD fs, ownd la lc 3 1 rl.length (rl.flatMap cI)]) h0)).mono fun e w' ⟨a, h1, h2⟩ => ⟨a, h1, by
    have h3 := Ok.backL (L := [row bx 106 (hdR most oa fs.length oc la rl.length lc), ownd oa oc 59 4 fs.length (fs.flatMap cCD)]) (H := [allD fs, ownd la lc 3 1 rl.length (rl.flatMap cI)]) h0 h2
    have hsub : left.Sublist fs := by have := resD_sub (r := fun q => cnt q rl) (m := m) fs.length fs; rwa [hres] at this
    have h4 := h3.pick (H' := [allD fs, ownd a.1.1 a.1.2 3 1 gone.length (gone.flatMap cI), row bx 106 (hdR m a.2.1 left.length a.2.2 la rl.length lc), ownd a.2.1 a.2.2 59 4 left.length (left.flatMap cCD), ownd la lc 3 1 rl.length (rl.flatMap cI)]) [3, 0, 1, 2, 4] (by simp) rfl
    exact (allD_sub hsub h4).pick [1, 2, 3, 0, 4] (by simp) rfl⟩
/-! ### The two caches alike: plain laws -/
theorem vp (gs : List CD) : (gs.map CD.vc).map VC.prog = gs.map CD.prog := by rw [List.map_map]; rfl
theorem srt_eq {l l' : List Int} (hp : l.Perm l') (h : l'.Pairwise (· < ·)) : srt l = l' := ((srt_perm l).trans hp).eq_of_pairwise (fun a b _ _ h1 h2 => by omega) (srt_le l) (h.imp fun h => by omega)
theorem progs_eq {f : List VC} {gs : List CD} (hp : f.Perm (gs.map CD.vc)) (hr : (gs.map CD.prog).Pairwise (· < ·)) : progsL f = gs.map CD.prog := srt_eq (by rw [← vp]; exact hp.map _) hr
theorem rise_nd {l : List Int} (h : l.Pairwise (· < ·)) : l.Nodup := h.imp fun h e => by omega
theorem getV_eq {fs gs : List CD} (hp : (fs.map CD.vc).Perm (gs.map CD.vc)) (hr : (gs.map CD.prog).Pairwise (· < ·)) (p : Int) : getV p (fs.map CD.vc) = getV p (gs.map CD.vc) ∧ hasV p (fs.map CD.vc) = hasV p (gs.map CD.vc) := by
  have hpp : (fs.map CD.prog).Perm (gs.map CD.prog) := by rw [← vp, ← vp]; exact hp.map _
  have hn : (fs.map CD.prog).Nodup := hpp.nodup_iff.2 (rise_nd hr)
  by_cases h : ∃ c ∈ fs, c.prog = p
  · obtain ⟨c, hc, hcp⟩ := h
    obtain ⟨d, hd, hdc⟩ := List.mem_map.1 (hp.mem_iff.1 (List.mem_map.2 ⟨c, hc, rfl⟩))
    have hdp : d.prog = p := by rw [← hcp]; exact congrArg VC.prog hdc
    rw [find_of hn hc hcp, find_of (rise_nd hr) hd hdp, hdc]
    refine ⟨rfl, ?_⟩
    rw [hasV_iff.2 (by rw [vp]; exact List.mem_map.2 ⟨c, hc, hcp⟩), hasV_iff.2 (by rw [vp]; exact List.mem_map.2 ⟨d, hd, hdp⟩)]
  · have h1 : ∀ c ∈ fs, c.prog ≠ p := fun c hc e => h ⟨c, hc, e⟩
    have h2 : ∀ c ∈ gs, c.prog ≠ p := fun c hc e => by
      have := hpp.mem_iff.2 (List.mem_map.2 ⟨c, hc, e⟩)
      obtain ⟨d, hd, hdp⟩ := List.mem_map.1 this
      exact h1 d hd hdp
    obtain ⟨a1, a2⟩ := getV_no (L := fs.map CD.vc) (p := p) (fun v hv => by obtain ⟨c, hc, rfl⟩ := List.mem_map.1 hv; exact h1 c hc)
    obtain ⟨b1, b2⟩ := getV_no (L := gs.map CD.vc) (p := p) (fun v hv => by obtain ⟨c, hc, rfl⟩ := List.mem_map.1 hv; exact h2 c hc)
    rw [a1, a2, b1, b2]
    exact ⟨rfl, rfl⟩
theorem wo_rise {gs : List CD} (hr : (gs.map CD.prog).Pairwise (· < ·)) (p : Int) : ((wo p gs).map CD.prog).Pairwise (· < ·) := hr.sublist (List.filter_sublist.map _)
theorem del_perm {f : List VC} {gs : List CD} (hp : f.Perm (gs.map CD.vc)) (p : Int) : (delV p f).Perm ((wo p gs).map CD.vc) := by
  unfold wo
  rw [del_vc]
  exact hp.filter _
theorem drop_eq {fs gs : List CD} (hp : (fs.map CD.vc).Perm (gs.map CD.vc)) (hr : (gs.map CD.prog).Pairwise (· < ·)) (p : Int) : decide ((wo p gs).length < gs.length) = hasV p (fs.map CD.vc) := by
  rw [(getV_eq hp hr p).2]
  by_cases h : p ∈ gs.map CD.prog
  · rw [hasV_iff.2 (by rw [vp]; exact h)]
    have := del_len (rise_nd hr) h
    exact decide_eq_true (by show ((wo p gs).length) < gs.length; unfold wo; omega)
  · have h2 : ∀ c ∈ gs, c.prog ≠ p := fun c hc e => h (List.mem_map.2 ⟨c, hc, e⟩)
    rw [(getV_no (L := gs.map CD.vc) (p := p) (fun v hv => by obtain ⟨c, hc, rfl⟩ := List.mem_map.1 hv; exact h2 c hc)).2]
    have : wo p gs = gs := List.filter_eq_self.2 fun c hc => by simpa using h2 c hc
    rw [this]
    exact decide_eq_false (Nat.lt_irrefl _)
theorem laid_ex (e : CD) : ∀ T : List CD, ∃ out, LaidD e T out
  | [] => ⟨[e], [], [], rfl, rfl, by simp, .inl rfl⟩
  | t :: T => by
    by_cases h : e.prog < t.prog
    · exact ⟨e :: t :: T, [], t :: T, rfl, rfl, by simp, .inr ⟨t, T, rfl, h⟩⟩
    · obtain ⟨out, A, B, h1, h2, h3, h4⟩ := laid_ex e T
      exact ⟨t :: out, t :: A, B, by rw [h1]; rfl, by rw [h2]; rfl, fun x hx => by
        rcases List.mem_cons.1 hx with rfl | hx
        · omega
        · exact h3 x hx, h4⟩
theorem putV_perm {f : List VC} (hn : (f.map VC.prog).Nodup) (x : VC) : (putV x f).Perm (delV x.prog f ++ [x]) := by
  unfold putV
  by_cases h : hasV x.prog f = true
  · rw [if_pos h]
    obtain ⟨u, hu, hup⟩ := List.mem_map.1 (hasV_iff.1 h)
    obtain ⟨A, B, rfl⟩ := List.append_of_mem hu
    rw [List.map_append, List.map_cons] at hn
    have h2 := (List.perm_middle (a := u.prog) (l₁ := A.map VC.prog) (l₂ := B.map VC.prog)).nodup_iff.1 hn
    have h3 := (List.nodup_cons.1 h2).1
    have hA : ∀ y ∈ A, y.prog ≠ x.prog := fun y hy e => h3 (List.mem_append_left _ (List.mem_map.2 ⟨y, hy, e.trans hup.symm⟩))
    have hB : ∀ y ∈ B, y.prog ≠ x.prog := fun y hy e => h3 (List.mem_append_right _ (List.mem_map.2 ⟨y, hy, e.trans hup.symm⟩))
    have mA : A.map (fun y => if y.prog = x.prog then x else y) = A := by
      conv => rhs; rw [← List.map_id A]
      exact List.map_congr_left fun y hy => if_neg (hA y hy)
    have mB : B.map (fun y => if y.prog = x.prog then x else y) = B := by
      conv => rhs; rw [← List.map_id B]
      exact List.map_congr_left fun y hy => if_neg (hB y hy)
    unfold delV
    rw [List.map_append, List.map_cons, mA, mB, if_pos hup, List.filter_append, List.filter_cons_of_neg (by simpa using hup), List.filter_eq_self.2 (fun y hy => by simpa using hA y hy), List.filter_eq_self.2 (fun y hy => by simpa using hB y hy), List.append_assoc]
    exact List.Perm.append_left _ (List.perm_append_comm (l₁ := [x]) (l₂ := B))
  · rw [if_neg h]
    have hno : ∀ y ∈ f, y.prog ≠ x.prog := fun y hy e => h (hasV_iff.2 (List.mem_map.2 ⟨y, hy, e⟩))
    have : delV x.prog f = f := List.filter_eq_self.2 fun y hy => by simpa using hno y hy
    rw [this]
theorem put_alk {M : Int} (hM : 0 ≤ M) (r : Int → Int) {f : List VC} {gs : List CD} (hp : f.Perm (gs.map CD.vc)) (hr : (gs.map CD.prog).Pairwise (· < ·)) {x : VC} {y : CD} {out : List CD} (hy : y.vc = x) (hL : LaidD y (wo x.prog gs) out) :
    (putC M r x f).1 = goR M r x.prog (insP x.prog ((wo x.prog gs).map CD.prog)) ∧ (putC M r x f).2.Perm ((leftR (goR M r x.prog (insP x.prog ((wo x.prog gs).map CD.prog))) out).map CD.vc) ∧ ((leftR (goR M r x.prog (insP x.prog ((wo x.prog gs).map CD.prog))) out).map CD.prog).Pairwise (· < ·) := by
  have hyp : y.prog = x.prog := congrArg VC.prog hy
  have hn : (f.map VC.prog).Nodup := (hp.map VC.prog).nodup_iff.2 (by rw [vp]; exact rise_nd hr)
  have hP : ∀ z ∈ wo x.prog gs, z.prog ≠ y.prog := fun z hz => by
    rw [hyp]
    simpa using (List.mem_filter.1 hz).2
  have hro : (out.map CD.prog).Pairwise (· < ·) := hL.rise (wo_rise hr _) hP
  have hput : (putV x f).Perm (out.map CD.vc) := by
    refine (putV_perm hn x).trans ?_
    refine ((del_perm hp x.prog).append_right [x]).trans ?_
    have := hL.perm.map CD.vc
    rw [List.map_append, List.map_cons, List.map_nil, hy] at this
    exact this
  have hpr : progsL (putV x f) = out.map CD.prog := progs_eq hput hro
  have hU : insP x.prog ((wo x.prog gs).map CD.prog) = out.map CD.prog := by rw [← hyp, hyp, hL.progs, hyp]
  have hlen : (putV x f).length = out.length := by have := hput.length_eq; rwa [List.length_map] at this
  have hUl : (out.map CD.prog).length = out.length := List.length_map ..
  have hsub : ∀ g, ((leftR g out).map CD.prog).Pairwise (· < ·) := fun g => hro.sublist ((leftR_sub g out).map _)
  have hout1 : 1 ≤ out.length := by
    obtain ⟨A, B, _, e2, _, _⟩ := hL.ex
    rw [e2]
    simp
    omega
  rw [hU]
  unfold putC goR
  by_cases h0 : M = 0
  · rw [if_pos h0, if_neg (by rw [hUl]; omega), if_neg (by omega)]
    refine ⟨rfl, ?_, hsub _⟩
    show (delV x.prog f).Perm ((wo x.prog out).map CD.vc)
    refine List.Perm.trans ?_ (del_perm hput x.prog)
    have h1 := (putV_perm hn x).filter (fun v => decide (v.prog ≠ x.prog))
    rw [List.filter_append, List.filter_cons_of_neg (by simp)] at h1
    have h2 : (delV x.prog f).filter (fun v => decide (v.prog ≠ x.prog)) = delV x.prog f := List.filter_eq_self.2 fun v hv => (List.mem_filter.1 hv).2
    rw [h2] at h1
    simp only [List.filter_nil, List.append_nil] at h1
    exact h1.symm
  · rw [if_neg h0]
    by_cases hfit : ((putV x f).length : Int) ≤ M
    · rw [if_pos hfit, if_pos (by rw [hUl, ← hlen]; exact hfit)]
      exact ⟨rfl, hput, hro⟩
    · rw [if_neg hfit, if_neg (by rw [hUl, ← hlen]; exact hfit), if_pos (by omega), hpr]
      refine ⟨rfl, ?_, hsub _⟩
      exact del_perm hput _
theorem res_alk {r : Int → Int} {m : Int} : ∀ (n : Nat) (f : List VC) (gs : List CD), f.Perm (gs.map CD.vc) → (gs.map CD.prog).Pairwise (· < ·) → (resV r m n f).1 = (resD r m n gs).1 ∧ (resV r m n f).2.Perm ((resD r m n gs).2.map CD.vc) ∧ ((resD r m n gs).2.map CD.prog).Pairwise (· < ·)
  | 0, f, gs, hp, hr => ⟨rfl, hp, hr⟩
  | n + 1, f, gs, hp, hr => by
    have hl : f.length = gs.length := by have := hp.length_eq; rwa [List.length_map] at this
    unfold resV resD
    rw [progs_eq hp hr, hl]
    by_cases h : (gs.length : Int) > m
    · rw [if_pos h, if_pos h]
      obtain ⟨h1, h2, h3⟩ := res_alk n _ _ (del_perm hp (evV r (gs.map CD.prog))) (wo_rise hr _)
      exact ⟨by rw [h1], h2, h3⟩
    · rw [if_neg h, if_neg h]
      exact ⟨rfl, hp, hr⟩
theorem cnt_wo (p q : Int) (rl : List Int) : cnt q (woI p rl) = if q = p then 0 else cnt q rl := by
  unfold cnt woI
  rw [List.filter_filter]
  by_cases h : q = p
  · subst h
    rw [if_pos rfl, List.filter_eq_nil_iff.2 (fun a _ => by simp)]
    rfl
  · rw [if_neg h]
    congr 2
    exact List.filter_congr fun a _ => by
      by_cases ha : a = q
      · subst ha; simp [h]
      · simp [ha]
/-- Alike. -/
structure AlkC (fs : List CD) (rs : List (Int × Int)) (gs : List CD) (rl : List Int) : Prop where
  p : (fs.map CD.vc).Perm (gs.map CD.vc)
  r : (gs.map CD.prog).Pairwise (· < ·)
  c : ∀ q, runs q rs = cnt q rl
  n : (rs.map Prod.fst).Nodup
end Go.Proofs.Ytikdbgheefjpkaa
