/- The program's cells: dropped, swept away; a number in a list. -/
import Derived.Test.YtfekmflnfhjebaaCw
set_option maxRecDepth 100000
set_option maxHeartbeats 8000000
set_option linter.unusedSimpArgs false
set_option linter.unusedVariables false
namespace Go.Proofs.Ytfekmflnfhjebaa
open Go Go.Sx Go.RowKit
def PC.gon (c : PC) : PC := { c with dr := true }
theorem drop50n (bx r : Nat) (last k : Int) (cs : List PC) (hk : ∀ c, lc k cs = some c → c.dr = true) (w : World) (h1 : (row bx 83 (hdC r last)).holds w) (h2 : (mapR r (kvC cs)).holds w) (h3 : (allC cs).holds w) :
    Calls Try.prog 50 #[.pointer (some ⟨bx, 0, none⟩), .int .i64 k] w fun e w' => e = .returned (.bool false) ∧ Grow w w' := by
  refine enter2 (S := fun _ => False) 27 Try.func50 rfl rfl rfl (Ok.start w) ?_
  have hS : ¬ (fun _ : Nat => False) bx := id
  cases hc : lc k cs with
  | none =>
    have hlv := look_none hc
    (repeat (first | ((refine (?_ : MX _ _ _ _ _ _ _ _ _ _ _)); first | refine mx_end ?_ | (refine mx_mv _ rfl rfl (by conv => {lhs; whnf}) ?_) | (refine mx_as _ rfl rfl (by conv => {lhs; whnf}) ?_) | (refine mx_fa0 E rfl rfl rfl rfl ?_ ) | (refine g_load rfl ?_; refine mx_orow E rfl rfl rfl rfl rfl (by assumption) (by assumption) (by rfl) rfl ?_ ) | (refine mx_nc rfl rfl rfl ?_) | (refine mx_not rfl rfl rfl ?_) | (refine mx_ex _ rfl rfl rfl (by conv => {lhs; whnf}) ?_) | (refine mx_skip rfl rfl rfl ?_) | (refine g_pick rfl ?_; refine mx_ort rfl rfl rfl rfl rfl ?_ ) | ( (refine mx_look mt81 rfl rfl rfl rfl rfl (hr := ⟨.inl ⟨fun _ => rfl, fun w' hw => Ok.oldM hw (by with_reducible assumption) (by exact id )⟩⟩) (by with_reducible assumption) rfl ?_)) ) | refine cw_seq ?_ | refine cw_line rfl ?_ | refine cw_cond_t rfl ?_ | refine cw_ret ?_ | refine pw_then ?_ | refine pw_then_r ?_ ))
    exact pw_ret rfl rfl rfl rfl fun w' hw => ⟨rfl, hw.keep.grow⟩
  | some c =>
    have hlv := look_some hc
    have hcr := inC h3 (lc_mem hc).1
    have hd := hk c hc
    obtain ⟨id', p, ba, cap, bs, wr, bt, dr⟩ := c
    have hd : dr = true := hd
    subst hd
    have hSp : ¬ (fun _ : Nat => False) p := id
    (repeat (first | ((refine (?_ : MX _ _ _ _ _ _ _ _ _ _ _)); first | refine mx_end ?_ | (refine mx_mv _ rfl rfl (by conv => {lhs; whnf}) ?_) | (refine mx_as _ rfl rfl (by conv => {lhs; whnf}) ?_) | (first | refine mx_fa0 E rfl rfl rfl rfl ?_ | refine mx_fa E rfl rfl rfl rfl ?_) | (refine g_load rfl ?_; refine mx_orow E rfl rfl rfl rfl rfl (by assumption) (by assumption) (by rfl) rfl ?_ ) | (refine mx_nc rfl rfl rfl ?_) | (refine mx_not rfl rfl rfl ?_) | (refine mx_ex _ rfl rfl rfl (by conv => {lhs; whnf}) ?_) | (refine g_pick rfl ?_; refine mx_or rfl rfl rfl rfl rfl rfl ?_ ) | ( (refine mx_look mt81 rfl rfl rfl rfl rfl (hr := ⟨.inl ⟨fun _ => rfl, fun w' hw => Ok.oldM hw (by with_reducible assumption) (by exact id )⟩⟩) (by with_reducible assumption) rfl ?_)) ) | refine cw_seq ?_ | refine cw_line rfl ?_ | refine cw_cond_t rfl ?_ | refine cw_ret ?_ | refine pw_then ?_ | refine pw_then_r ?_ ))
    exact pw_ret rfl rfl rfl rfl fun w' hw => ⟨rfl, hw.keep.grow⟩
theorem drop50y (bx r : Nat) (last k : Int) (cs : List PC) (i : Nat) (c : PC) (hi : cs[i]? = some c) (hk : lc k cs = some c) (hd : c.dr = false) (w : World) (h0 : Ok (domL (OC bx r last cs)) w (OC bx r last cs) w) :
    Calls Try.prog 50 #[.pointer (some ⟨bx, 0, none⟩), .int .i64 k] w fun e w' => e = .returned (.bool true) ∧ Ok (domL (OC bx r last cs)) w (OC bx r last (cs.set i c.gon)) w' := by
  have h1 : Ok (domL (OC bx r last cs)) w [row c.p 94 (cPC c), ownd c.ba c.cap 5 1 c.bs.length (c.bs.flatMap cU), allC (cs.eraseIdx i), row bx 83 (hdC r last), mapR r (kvC cs)] w := unplug (perm_at hi) (h0.pick [2, 0, 1] (by simp) rfl)
  obtain ⟨id', p, ba, cap, bs, wr, bt, dr⟩ := c
  have hd : dr = false := hd
  subst hd
  have hlv := look_some hk
  dsimp only at hlv
  refine enter2 (S := domL (OC bx r last cs)) (H := [row p 94 [.slice ba bs.length cap, .int .i64 wr, .complex .f64 (fe bt.x) (fe bt.y), .int .i64 bt.n, .int .i64 bt.last, .bool false], ownd ba cap 5 1 bs.length (bs.flatMap cU), allC (cs.eraseIdx i), row bx 83 (hdC r last), mapR r (kvC cs)]) 27 Try.func50 rfl rfl rfl h1 ?_
  (repeat (first | ((refine (?_ : MX _ _ _ _ _ _ _ _ _ _ _)); first | refine mx_end ?_ | (refine mx_mv _ rfl rfl (by conv => {lhs; whnf}) ?_) | (refine mx_as _ rfl rfl (by conv => {lhs; whnf}) ?_) | (first | refine mx_fa0 E rfl rfl rfl rfl ?_ | refine mx_fa E rfl rfl rfl rfl ?_) | (refine g_load rfl ?_; refine mx_get E rfl rfl rfl rfl rfl (by rfl) rfl ?_ ) | (refine mx_nc rfl rfl rfl ?_) | (refine mx_not rfl rfl rfl ?_) | (refine mx_ex _ rfl rfl rfl (by conv => {lhs; whnf}) ?_) | (refine g_pick rfl ?_; refine mx_or rfl rfl rfl rfl rfl rfl ?_ ) | (refine g_store rfl ?_; refine s_1 E rfl rfl rfl rfl rfl rfl rfl rfl (by exact Sp.lit rfl rfl) rfl ?_) | (refine mx_look mt81 rfl rfl rfl rfl rfl (by with_reducible assumption) rfl ?_ ) ) | refine cw_seq ?_ | refine cw_line rfl ?_ | refine cw_cond_f rfl ?_ | refine cw_skip ?_ | refine cw_ret ?_ | refine pw_then ?_ ))
  refine pw_ret rfl rfl rfl rfl fun w' hw => ⟨rfl, ?_⟩
  have h6 := plug (c := PC.gon ⟨id', p, ba, cap, bs, wr, bt, false⟩) (H := [row bx 83 (hdC r last), mapR r (kvC cs)]) (perm_set hi) hw
  have h7 : Ok (domL (OC bx r last cs)) w [allC (cs.set i (PC.gon ⟨id', p, ba, cap, bs, wr, bt, false⟩)), row bx 83 (hdC r last), mapR r (kvC (cs.set i (PC.gon ⟨id', p, ba, cap, bs, wr, bt, false⟩)))] w' := by
    rw [kvC_set (c' := PC.gon ⟨id', p, ba, cap, bs, wr, bt, false⟩) hi rfl rfl]
    exact h6
  exact h7.pick [1, 2, 0] (by simp) rfl
/-- Numbers of their own. -/
def Uni (cs : List PC) : Prop := cs.Pairwise fun a b => a.id ≠ b.id
theorem fnd_er (k : Int) : ∀ (es : List PC) (s j : Nat) (v : Value), Uni es → fnd k (kvC es) s = some (j, v) → s ≤ j ∧ es.eraseIdx (j - s) = es.filter fun c => !decide (c.id = k)
  | [], s, j, v, _, h => by simp [kvC, fnd] at h
  | c :: es, s, j, v, hu, h => by
    have hu' := List.pairwise_cons.1 hu
    have h : fnd k ((c.id, _) :: kvC es) s = some (j, v) := h
    unfold fnd at h
    by_cases hc : c.id = k
    · rw [if_pos hc] at h
      obtain ⟨rfl, _⟩ : s = j ∧ _ = v := by simpa using h
      refine ⟨Nat.le_refl _, ?_⟩
      rw [Nat.sub_self, List.eraseIdx_cons_zero, List.filter_cons, decide_eq_true hc]
      refine (List.filter_eq_self.2 fun q hq => ?_).symm
      have := hu'.1 q hq
      simp only [Bool.not_eq_true', decide_eq_false_iff_not]
      intro e
      exact this (by rw [hc, e])
    · rw [if_neg hc] at h
      obtain ⟨h1, h2⟩ := fnd_er k es (s + 1) j v hu'.2 h
      refine ⟨by omega, ?_⟩
      rw [show j - s = (j - (s + 1)) + 1 by omega, List.eraseIdx_cons_succ, h2, List.filter_cons, decide_eq_false hc]
      rfl
theorem lc_none {k : Int} {cs : List PC} (h : lc k cs = none) : ∀ c ∈ cs, c.id ≠ k := fun c hc e => by
  unfold lc at h
  rw [List.find?_eq_none] at h
  exact h c hc (by simpa using e)
theorem del_kv (k : Int) (es : List PC) (hu : Uni es) : delK k (kvC es) = kvC (es.filter fun c => !decide (c.id = k)) := by
  unfold delK
  cases hf : fnd k (kvC es) 0 with
  | none =>
    dsimp only
    have h1 := fnd_lc k es 0
    rw [hf] at h1
    have h2 : lc k es = none := by cases h : lc k es with
      | none => rfl
      | some c => rw [h] at h1; simp at h1
    rw [List.filter_eq_self.2 fun q hq => by simpa using lc_none h2 q hq]
  | some q =>
    obtain ⟨j, v⟩ := q
    have := fnd_er k es 0 j v hu hf
    dsimp only
    rw [← this.2, Nat.sub_zero]
    unfold kvC
    rw [map_eraseIdx]
theorem Uni.filter {cs : List PC} (h : Uni cs) (p : PC → Bool) : Uni (cs.filter p) := List.Pairwise.filter p h
theorem Uni.lc {cs : List PC} : Uni cs → ∀ c ∈ cs, Go.Proofs.Ytfekmflnfhjebaa.lc c.id cs = some c := by
  induction cs with
  | nil => intro _ c hc; cases hc
  | cons a cs ih =>
    intro h c hc
    have h' := List.pairwise_cons.1 h
    unfold Go.Proofs.Ytfekmflnfhjebaa.lc
    rw [List.find?_cons]
    rcases List.mem_cons.1 hc with rfl | hc
    · rw [decide_eq_true rfl]
    · rw [decide_eq_false (h'.1 c hc)]
      exact ih h'.2 c hc
def left (cs : List PC) (g : List Int) : List PC := cs.filter fun c => !g.contains c.id
theorem left_s (cs : List PC) (g : List Int) (j : Nat) (x : Int) (hx : g[j]? = some x) : (left cs (g.take j)).filter (fun c => !decide (c.id = x)) = left cs (g.take (j + 1)) := by
  unfold left
  rw [List.filter_filter, List.take_add_one, hx]
  congr 1
  funext c
  simp [Bool.and_comm]
theorem left_all {cs : List PC} {L : Nat} (hu : Uni cs) (hid : ∀ c ∈ cs, 1 ≤ c.id ∧ c.id ≤ L) : left cs (goneTo cs L) = cs.filter fun c => !c.dr := by
  unfold left
  refine List.filter_congr fun c hc => ?_
  have h1 : (goneTo cs L).contains c.id = c.dr := by
    have h2 : isG cs c.id = c.dr := by unfold isG; rw [hu.lc c hc]
    cases hd : c.dr with
    | true =>
      rw [List.contains_iff_mem]
      unfold goneTo
      rw [List.mem_filter]
      obtain ⟨h3, h4⟩ := hid c hc
      exact ⟨List.mem_map.2 ⟨(c.id - 1).toNat, List.mem_range.2 (by omega), by omega⟩, by rw [h2, hd]⟩
    | false =>
      rw [← Bool.not_eq_true, List.contains_iff_mem]
      unfold goneTo
      rw [List.mem_filter]
      rintro ⟨_, h5⟩
      rw [h2, hd] at h5
      cases h5
  rw [h1]
theorem sub_flat {α β : Type} (f : α → List β) {es cs : List α} (h : es.Sublist cs) : (es.flatMap f).Sublist (cs.flatMap f) := by
  induction h with
  | slnil => exact List.Sublist.refl _
  | cons a _ ih => rw [List.flatMap_cons]; exact ih.trans (List.sublist_append_right _ _)
  | cons_cons a _ ih => rw [List.flatMap_cons, List.flatMap_cons]; exact (List.Sublist.refl _).append ih
theorem allC_sub {S : Nat → Prop} {w0 w : World} {H : List Res} {cs es : List PC} (hs : es.Sublist cs) (h : Ok S w0 (allC cs :: H) w) : Ok S w0 (allC es :: H) w :=
  Ok.star ((Ok.unstar h).sub ((sub_flat RC hs).append (List.Sublist.refl H)))
theorem sweep46g (bx r L : Nat) (cs : List PC) (hu : Uni cs) (hid : ∀ c ∈ cs, 1 ≤ c.id ∧ c.id ≤ L) (hL : L ≤ 100000) (w : World) (h0 : Ok (domL (OC bx r L cs)) w (OC bx r L cs) w) :
    Calls Try.prog 46 #[.pointer (some ⟨bx, 0, none⟩)] w fun e w' => e = .returned (.int .i64 (goneTo cs L).length) ∧ Ok (domL (OC bx r L cs)) w (OC bx r L (cs.filter fun c => !c.dr)) w' := by
  refine enter1 (S := domL (OC bx r L cs)) (H := [row bx 83 (hdC r L), mapR r (kvC cs), allC cs]) 22 Try.func46 rfl rfl rfl h0 ?_
  have hgl := goneTo_len cs L
  (repeat (first | ((refine (?_ : MX _ _ _ _ _ _ _ _ _ _ _)); first | refine mx_end ?_ | (refine mx_mv _ rfl rfl (by conv => {lhs; whnf}) ?_) | (refine mx_as _ rfl rfl (by conv => {lhs; whnf}) ?_) ) | refine cw_seq ?_ | refine cw_line rfl ?_ | refine pw_then ?_ ))
  refine g_cf 61 rfl ?_
  refine a_callL rfl rfl rfl rfl Try.func61 rfl rfl rfl [] _ rfl (fun a : Option Addr × Nat => .slice a.1 (goneTo cs L).length a.2) (fun a => [ownd a.1 a.2 3 1 (goneTo cs L).length ((goneTo cs L).flatMap cI)]) (fun w' hw _ => gone61 bx r L cs hL w' (hw.holds 0 _ rfl) (hw.holds 1 _ rfl) (hw.holds 2 _ rfl)) (fun _ => rfl) (fun _ _ _ => trivial) (fun a => ?_)
  obtain ⟨a1, c1⟩ := a
  (repeat (first | ((refine (?_ : MX _ _ _ _ _ _ _ _ _ _ _)); first | refine mx_end ?_ | (refine mx_mv _ rfl rfl (by conv => {lhs; whnf}) ?_) | (refine mx_as _ rfl rfl (by conv => {lhs; whnf}) ?_) | (refine g_bi .len rfl ?_; refine mx_len E rfl rfl rfl rfl ?_) ) | refine cw_seq ?_ | refine cw_line rfl ?_ | refine cw_block ?_ | refine pw_then ?_ ))
  refine cw_loop (ι := Nat) (fun j => [(10, .int .i64 j), (9, .int .i64 (goneTo cs L).length), (8, .slice a1 (goneTo cs L).length c1), (3, .slice a1 (goneTo cs L).length c1), (0, .pointer (some ⟨bx, 0, none⟩))]) (fun j => [ownd a1 c1 3 1 (goneTo cs L).length ((goneTo cs L).flatMap cI), row bx 83 (hdC r L), mapR r (kvC (left cs ((goneTo cs L).take j))), allC cs]) (fun j => j ≤ (goneTo cs L).length) (fun j => (goneTo cs L).length - j) 0 (by omega) ⟨rfl, rfl, rfl, rfl, rfl, trivial⟩ (fun w h => by
    have e : left cs ((goneTo cs L).take 0) = cs := by unfold left; rw [List.take_zero]; exact List.filter_eq_self.2 fun c _ => by simp
    rw [e]
    exact h) ?_
  intro j jk hj
  by_cases hjl : (j : Int) < (goneTo cs L).length
  case neg =>
    obtain rfl : j = (goneTo cs L).length := by omega
    (repeat (first | ((refine (?_ : MX _ _ _ _ _ _ _ _ _ _ _)); first | refine mx_end ?_ | (refine mx_mv _ rfl rfl (by conv => {lhs; whnf}) ?_) | (refine mx_as _ rfl rfl (by conv => {lhs; whnf}) ?_) | (refine g_bin rfl ?_; ( (refine mx_cmpl .lss rfl rfl rfl rfl rfl (by exact cmp_lt_f (by omega) ) ?_) ) ) | (refine g_bi .len rfl ?_; refine mx_len E rfl rfl rfl rfl ?_) ) | refine cw_seq ?_ | refine cw_line rfl ?_ | refine cw_cond_f rfl ?_ | refine cw_exit ?_ | refine cw_ret ?_ | refine pw_then ?_ | refine pw_then_x ?_ | refine pw_block_e ?_ ))
    refine pw_ret rfl rfl rfl rfl fun w' hw => ⟨rfl, ?_⟩
    rw [List.take_length, left_all hu hid] at hw
    have h1 : Ok (domL (OC bx r L cs)) w [allC cs, row bx 83 (hdC r L), mapR r (kvC (cs.filter fun c => !c.dr))] w' := hw.pick [3, 1, 2] (by simp) rfl
    exact (allC_sub List.filter_sublist h1).pick [1, 2, 0] (by simp) rfl
  case pos =>
    obtain ⟨x, hx⟩ := getElem_some (xs := goneTo cs L) (i := j) (by omega)
    refine cw_know (p := ∃ b, a1 = some ⟨b, 0, none⟩) (fun w hw => by
      obtain ⟨b, e, _⟩ := (own_at (hw.holds 0 _ rfl)).2.1 (by omega)
      exact ⟨b, e⟩) (fun ⟨bs, e⟩ => ?_)
    subst e
    (repeat (first | ((refine (?_ : MX _ _ _ _ _ _ _ _ _ _ _)); first | refine mx_end ?_ | (refine g_bin rfl ?_; ( (refine mx_cmpl .lss rfl rfl rfl rfl rfl (by exact cmp_lt_t (by omega) ) ?_) ) ) | (refine g_ix rfl ?_; refine mx_ixsn E rfl rfl rfl rfl rfl rfl (by omega) rfl ?_ ) ) | refine cw_seq ?_ | refine cw_line rfl ?_ | refine cw_block ?_ | refine cw_cond_t rfl ?_ | refine cw_skip ?_ | refine pw_then ?_ ))
    refine g_load rfl ?_
    refine a_load1 E rfl rfl rfl rfl rfl rfl (v := .int .i64 x) (fun w hw => by
      obtain ⟨b, off, e, hcc⟩ := inl_at (own_in len_I (hw.holds 0 _ rfl) (Nat.le_refl _)) hx
      obtain ⟨rfl, rfl⟩ : bs = b ∧ 0 = off := by simpa using e
      exact hcc 0 _ rfl) rfl ?_
    (repeat (first | ((refine (?_ : MX _ _ _ _ _ _ _ _ _ _ _)); first | refine mx_end ?_ | (refine mx_mv _ rfl rfl (by conv => {lhs; whnf}) ?_) | (refine mx_as _ rfl rfl (by conv => {lhs; whnf}) ?_) | (refine mx_fa0 E rfl rfl rfl rfl ?_ ) | (refine g_load rfl ?_; refine mx_get E rfl rfl rfl rfl rfl (by rfl) rfl ?_ ) | (refine mx_nc rfl rfl rfl ?_) ) | refine cw_line rfl ?_ | refine pw_then ?_ ))
    refine a_mdel mt81 rfl rfl rfl rfl rfl rfl (fun _ _ => trivial) rfl ?_
    rw [del_kv x (left cs ((goneTo cs L).take j)) (hu.filter _), left_s cs _ j x hx]
    (repeat (first | ((refine (?_ : MX _ _ _ _ _ _ _ _ _ _ _)); first | refine mx_end ?_ | (refine mx_mv _ rfl rfl (by conv => {lhs; whnf}) ?_) | (refine g_bin rfl ?_; (refine mx_ar rfl rfl rfl rfl rfl rfl (IntWalk.i64_in _ (by omega)) rfl ?_ ) ) ) | refine cw_line rfl ?_ | refine pw_then ?_ | refine pw_block ?_ ))
    exact pw_round (j + 1) (by omega) (by omega) ⟨rfl, rfl, rfl, rfl, rfl, trivial⟩ (fun w h => h)
end Go.Proofs.Ytfekmflnfhjebaa
