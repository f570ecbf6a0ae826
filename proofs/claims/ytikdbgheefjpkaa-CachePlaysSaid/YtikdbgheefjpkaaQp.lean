/- The document's cache: Put. -/
import Derived.Test.YtikdbgheefjpkaaQo
set_option maxRecDepth 100000
set_option maxHeartbeats 8000000
set_option linter.unusedSimpArgs false
set_option linter.unusedVariables false
namespace Go.Proofs.Ytikdbgheefjpkaa
open Go Go.Sx Go.RowKit
/-- LaidD among others: behind whom is no more than it, ahead of the first that is. -/
structure InsD (e : CD) (T : List CD) (laid : Bool) (out : List CD) : Prop where
  ex : ∃ A B, T = A ++ B ∧ (∀ x ∈ A, x.prog ≤ e.prog) ∧ (laid = false → B = [] ∧ out = A) ∧ (laid = true → out = A ++ e :: B ∧ ∃ b t, B = b :: t ∧ e.prog < b.prog)
theorem InsD.nil (e : CD) : InsD e [] false [] := ⟨[], [], rfl, by simp, fun _ => ⟨rfl, rfl⟩, (fun h => by cases h)⟩
theorem InsD.le {e x : CD} {T out : List CD} (h : InsD e T false out) (hx : x.prog ≤ e.prog) : InsD e (T ++ [x]) false (out ++ [x]) := by
  obtain ⟨A, B, h1, h2, h3, h4⟩ := h.ex
  obtain ⟨rfl, rfl⟩ := h3 rfl
  rw [List.append_nil] at h1
  subst h1
  exact ⟨T ++ [x], [], by simp, fun y hy => by
    rcases List.mem_append.1 hy with hy | hy
    · exact h2 y hy
    · obtain rfl := List.mem_singleton.1 hy; exact hx, fun _ => ⟨rfl, rfl⟩, (fun h => by cases h)⟩
theorem InsD.gt {e x : CD} {T out : List CD} (h : InsD e T false out) (hx : e.prog < x.prog) : InsD e (T ++ [x]) true (out ++ [e] ++ [x]) := by
  obtain ⟨A, B, h1, h2, h3, h4⟩ := h.ex
  obtain ⟨rfl, rfl⟩ := h3 rfl
  rw [List.append_nil] at h1
  subst h1
  exact ⟨T, [x], rfl, h2, (fun h => by cases h), fun _ => ⟨by simp, x, [], rfl, hx⟩⟩
theorem InsD.more {e x : CD} {T out : List CD} (h : InsD e T true out) : InsD e (T ++ [x]) true (out ++ [x]) := by
  obtain ⟨A, B, h1, h2, h3, h4⟩ := h.ex
  obtain ⟨rfl, b, t, rfl, hb⟩ := h4 rfl
  subst h1
  exact ⟨A, b :: t ++ [x], by simp, h2, (fun h => by cases h), fun _ => ⟨by simp, b, t ++ [x], rfl, hb⟩⟩
/-- At last. -/
structure LaidD (e : CD) (T out : List CD) : Prop where
  ex : ∃ A B, T = A ++ B ∧ out = A ++ e :: B ∧ (∀ x ∈ A, x.prog ≤ e.prog) ∧ (B = [] ∨ ∃ b t, B = b :: t ∧ e.prog < b.prog)
theorem InsD.done_f {e : CD} {T out : List CD} (h : InsD e T false out) : LaidD e T (out ++ [e]) := by
  obtain ⟨A, B, h1, h2, h3, h4⟩ := h.ex
  obtain ⟨rfl, rfl⟩ := h3 rfl
  exact ⟨_, [], h1, rfl, h2, .inl rfl⟩
theorem InsD.done_t {e : CD} {T out : List CD} (h : InsD e T true out) : LaidD e T out := by
  obtain ⟨A, B, h1, h2, h3, h4⟩ := h.ex
  obtain ⟨h5, h6⟩ := h4 rfl
  exact ⟨A, B, h1, h5, h2, .inr h6⟩
theorem LaidD.perm {e : CD} {T out : List CD} (h : LaidD e T out) : (T ++ [e]).Perm out := by
  obtain ⟨A, B, rfl, rfl, _, _⟩ := h.ex
  rw [List.append_assoc]
  exact List.Perm.append_left _ (List.perm_append_comm (l₂ := [e]))
theorem LaidD.rise {e : CD} {T out : List CD} (h : LaidD e T out) (hr : (T.map CD.prog).Pairwise (· < ·)) (hk : ∀ x ∈ T, x.prog ≠ e.prog) : (out.map CD.prog).Pairwise (· < ·) := by
  obtain ⟨A, B, rfl, rfl, hA, hB⟩ := h.ex
  rw [List.map_append] at hr ⊢
  rw [List.map_cons]
  obtain ⟨h1, h2, h3⟩ := List.pairwise_append.1 hr
  have hA' : ∀ x ∈ A.map CD.prog, x < e.prog := fun x hx => by
    obtain ⟨y, hy, rfl⟩ := List.mem_map.1 hx
    have := hA y hy
    have := hk y (List.mem_append_left _ hy)
    omega
  have hB' : ∀ x ∈ B.map CD.prog, e.prog < x := fun x hx => by
    rcases hB with rfl | ⟨b, t, rfl, hb⟩
    · simp at hx
    · rw [List.map_cons] at hx h2
      rcases List.mem_cons.1 hx with rfl | hx
      · exact hb
      · have := (List.pairwise_cons.1 h2).1 x hx
        omega
  refine List.pairwise_append.2 ⟨h1, List.pairwise_cons.2 ⟨fun x hx => hB' x hx, h2⟩, fun x hx y hy => ?_⟩
  rcases List.mem_cons.1 hy with rfl | hy
  · exact hA' x hx
  · exact h3 x hx y hy
theorem InsD.sw {e y : CD} {T out : List CD} (h : InsD e T false out) (hp : y.prog = e.prog) : InsD y T false out := by
  obtain ⟨A, B, h1, h2, h3, h4⟩ := h.ex
  exact ⟨A, B, h1, fun x hx => by rw [hp]; exact h2 x hx, h3, (fun h => by cases h)⟩
theorem InsD.len {e : CD} {T out : List CD} (h : InsD e T false out) : out.length = T.length := by
  obtain ⟨A, B, h6, h7, h8, h9⟩ := h.ex
  obtain ⟨rfl, rfl⟩ := h8 rfl
  rw [h6]
  simp
/-- A number laid among rising ones. -/
def insP (p : Int) : List Int → List Int
  | [] => [p]
  | q :: l => if p < q then p :: q :: l else q :: insP p l
theorem insP_app {p : Int} : ∀ {A B : List Int}, (∀ x ∈ A, x ≤ p) → (B = [] ∨ ∃ b t, B = b :: t ∧ p < b) → insP p (A ++ B) = A ++ p :: B
  | [], B, _, hB => by
    rcases hB with rfl | ⟨b, t, rfl, h⟩
    · rfl
    · show insP p (b :: t) = _
      unfold insP
      rw [if_pos h]
      rfl
  | a :: A, B, hA, hB => by
    have := hA a (by simp)
    show insP p (a :: (A ++ B)) = _
    unfold insP
    rw [if_neg (by omega), insP_app (fun x hx => hA x (List.mem_cons_of_mem _ hx)) hB]
    rfl
theorem LaidD.progs {e : CD} {T out : List CD} (h : LaidD e T out) : out.map CD.prog = insP e.prog (T.map CD.prog) := by
  obtain ⟨A, B, rfl, rfl, hA, hB⟩ := h.ex
  rw [List.map_append, List.map_append, List.map_cons, insP_app]
  · intro x hx
    obtain ⟨y, hy, rfl⟩ := List.mem_map.1 hx
    exact hA y hy
  · rcases hB with rfl | ⟨b, t, rfl, hb⟩
    · exact .inl rfl
    · exact .inr ⟨b.prog, t.map CD.prog, rfl, hb⟩
theorem vr_rowD {α : Type} {z : Nat} {c : α → List Value} (hz : ∀ x, (c x).length = z) {xs : List α} {j : Nat} {x : α} (hj : xs[j]? = some x) (rest : List Value) {p : Nat} (hp : p = j * z) : Vr (xs.flatMap c ++ rest) p z (c x) := by
  obtain ⟨e1, _⟩ := list_cut hj
  have hl : ((xs.take j).flatMap c).length = j * z := by
    rw [flatMap_len hz, List.length_take, Nat.min_eq_left (by have := (List.getElem?_eq_some_iff.1 hj).1; omega)]
  have e2 : xs.flatMap c ++ rest = (xs.take j).flatMap c ++ (c x ++ ((xs.drop (j + 1)).flatMap c ++ rest)) := by
    conv => lhs; rw [e1]
    simp
  refine ⟨⟨?_⟩, hz x⟩
  rw [e2, hp, ← hl, List.drop_left]
  rw [List.take_left]
theorem fm_snocD (l : List CD) (x : CD) : l.flatMap cCD ++ cCD x = (l ++ [x]).flatMap cCD := by rw [List.flatMap_append]; simp
/-- What goes, and what is left. -/
def goR (most : Int) (r : Int → Int) (p : Int) (U : List Int) : List Int :=
  if (U.length : Int) ≤ most then [] else if 0 < most then [evV r (U.filter fun q => decide (q ≠ p))] else [p]
def leftR (gone : List Int) (out : List CD) : List CD := match gone with
  | [] => out
  | g :: _ => wo g out
theorem may_f (p : Int) (fs : List CD) : may false p fs = (fs.map CD.prog).filter fun q => decide (q ≠ p) := by
  unfold may
  congr 1
theorem sepRO {S : Nat → Prop} {w0 w : World} {H : List Res} {bx t : Nat} {vs : List Value} {ad : Option Addr} {cap e z n : Nat} {xs : List Value} (hw : Ok S w0 H w) (i j : Nat) (hi : H[i]? = some (row bx t vs)) (hj : H[j]? = some (ownd ad cap e z n xs)) (hij : i ≠ j) (hn : 0 < n) : ∀ b off, ad = some ⟨b, off, none⟩ → ¬ domL [row bx t vs] b := fun b off e hd => by
  obtain ⟨k, r, hk, hr⟩ := hd
  have hk0 : k = 0 := by have := (List.getElem?_eq_some_iff.1 hk).1; simpa using this
  subst hk0
  obtain rfl : row bx t vs = r := by simpa using hk
  obtain rfl : b = bx := hr
  refine hw.sep i j _ _ hi hj hij b rfl ?_
  obtain ⟨b2, e2, _⟩ := (own_at (hw.holds j _ hj)).2.1 hn
  rw [e] at e2
  show (Value.slice ad n cap).ownBlock = some b
  rw [e]
  obtain rfl : off = 0 := congrArg Addr.off (Option.some.inj e2)
  simp [Value.ownBlock]
theorem okStarD {S : Nat → Prop} {w0 w : World} {H : List Res} {y : CD} (h : Ok S w0 (OCd y ++ H) w) : Ok S w0 (allD [y] :: H) w := by
  have := Ok.star h
  unfold allD
  simpa using this
theorem put72 (bx : Nat) (most : Int) (oa : Option Addr) (oc : Nat) (fs : List CD) (hs : fs.length ≤ 1000) (la : Option Addr) (lc : Nat) (rl : List Int) (hsl : rl.length ≤ 100000) (x : CD) (hx : x.ops.length ≤ 1000 ∧ x.at'.length ≤ 1000 ∧ x.evs.length ≤ 1000) (R : List CD) (hR : wo x.prog fs = R) (gone : List Int) (hgone : goR most (fun q => cnt q rl) x.prog (insP x.prog (R.map CD.prog)) = gone) (w : World) (hl : InL w oa 4 cCD fs) (hne : fs ≠ [] → ∀ b off, oa = some ⟨b, off, none⟩ → ¬ domL [row bx 106 (hdR most oa fs.length oc la rl.length lc)] b)
    (hll : InL w la 1 cI rl) (hlne : rl ≠ [] → ∀ b off, la = some ⟨b, off, none⟩ → ¬ domL [row bx 106 (hdR most oa fs.length oc la rl.length lc)] b) (hd : ∀ w', Chg (domL [row bx 106 (hdR most oa fs.length oc la rl.length lc)]) w w' → RdD w' x) (h0 : Ok (domL [row bx 106 (hdR most oa fs.length oc la rl.length lc)]) w [row bx 106 (hdR most oa fs.length oc la rl.length lc)] w) :
    Calls Try.prog 72 #[.pointer (some ⟨bx, 0, none⟩), .agg (cCD x).toArray] w fun e w' => ∃ a : (Option Addr × Nat) × (Option Addr × Nat) × {q : CD × List CD // q.1.vc = x.vc ∧ LaidD q.1 R q.2}, e = .returned (.slice a.1.1 gone.length a.1.2) ∧ Ok (domL [row bx 106 (hdR most oa fs.length oc la rl.length lc)]) w [ownd a.1.1 a.1.2 3 1 gone.length (gone.flatMap cI), row bx 106 (hdR most a.2.1.1 (leftR gone a.2.2.1.2).length a.2.1.2 la rl.length lc), ownd a.2.1.1 a.2.1.2 59 4 (leftR gone a.2.2.1.2).length ((leftR gone a.2.2.1.2).flatMap cCD), allD [a.2.2.1.1]] w' := by
  refine enter2 (S := domL [row bx 106 (hdR most oa fs.length oc la rl.length lc)]) (H := [row bx 106 (hdR most oa fs.length oc la rl.length lc)]) 89 Try.func72 rfl rfl rfl h0 ?_
  (repeat (first | ((refine (?_ : MX _ _ _ _ _ _ _ _ _ _ _)); first | refine mx_end ?_ | (refine mx_mv _ rfl rfl (by conv => {lhs; whnf}) ?_) | (refine mx_as _ rfl rfl (by conv => {lhs; whnf}) ?_) | (refine mx_fa0 E rfl rfl rfl rfl ?_ ) | (refine g_load rfl ?_; refine mx_get E rfl rfl rfl rfl rfl (by rfl) rfl ?_ ) | (refine g_box rfl ?_; refine a_boxl rfl rfl rfl rfl rfl rfl (fun _ => ?_) ) ) | refine cw_seq ?_ | refine cw_line rfl ?_ | refine pw_then ?_ ))
  rename_i b3
  refine mx_weak (H' := [row bx 106 (hdR most oa fs.length oc la rl.length lc), row b3 59 (cCD x)]) (fun w h => h.pick [1, 0] (by simp) rfl) (fun _ _ => trivial) ?_
  refine g_cf 73 rfl ?_
  refine a_callL rfl rfl rfl rfl Try.func73 rfl rfl rfl [row bx 106 (hdR most oa fs.length oc la rl.length lc)] [row b3 59 (cCD x)] rfl (fun _ : Option Addr × Nat => .bool (decide ((wo x.prog fs).length < fs.length))) (fun a => [row bx 106 (hdR most a.1 (wo x.prog fs).length a.2 la rl.length lc), ownd a.1 a.2 59 4 (wo x.prog fs).length ((wo x.prog fs).flatMap cCD)]) (fun w' hw h => drop73 bx most oa oc fs la rl.length lc x.prog _ rfl (by omega) w' (by
    intro hr
    obtain ⟨b, off, e, hc⟩ := hl hr
    exact ⟨b, off, e, fun i x hx j v hv => hw.old (hc i x hx j v hv) (hne hr b off e)⟩) hne h) (fun _ => rfl) (fun _ _ _ => trivial) (fun qd => ?_)
  obtain ⟨a0, c0⟩ := qd
  dsimp only
  have hRp : ∀ c ∈ R, c.prog ≠ x.prog := fun c hc => by rw [← hR] at hc; simpa using (List.mem_filter.1 hc).2
  have hRl : R.length ≤ 1000 := by rw [← hR]; exact Nat.le_trans (List.length_filter_le ..) hs
  rw [hR]
  refine mx_weak (H' := [row bx 106 (hdR most a0 R.length c0 la rl.length lc), ownd a0 c0 59 4 R.length (R.flatMap cCD), row b3 59 (cCD x)]) (fun w h => h) (fun _ _ => trivial) ?_
  (repeat (first | ((refine (?_ : MX _ _ _ _ _ _ _ _ _ _ _)); first | refine mx_end ?_ | (refine mx_as _ rfl rfl (by conv => {lhs; whnf}) ?_) ) | refine cw_seq ?_ | refine cw_line rfl ?_ | refine cw_block ?_ | refine pw_then ?_ ))
  refine cw_loop (ι := (Nat × Bool) × (Option Addr × Nat) × List CD × List CD) (fun q => [(7, .int .i64 q.1.1), (6, .bool q.1.2), (5, .slice q.2.1.1 q.2.2.1.length q.2.1.2), (3, .pointer (some ⟨b3, 0, none⟩)), (0, .pointer (some ⟨bx, 0, none⟩))]) (fun q => [ownd q.2.1.1 q.2.1.2 59 4 q.2.2.1.length (q.2.2.1.flatMap cCD), allD q.2.2.2, row b3 59 (cCD x), row bx 106 (hdR most a0 R.length c0 la rl.length lc), ownd a0 c0 59 4 R.length (R.flatMap cCD)]) (fun q => q.1.1 ≤ R.length ∧ q.2.2.1.length ≤ q.1.1 + 1 ∧ ((q.1.2 = false ∧ q.2.2.2 = [] ∧ InsD x (R.take q.1.1) false q.2.2.1) ∨ (q.1.2 = true ∧ ∃ y, q.2.2.2 = [y] ∧ y.vc = x.vc ∧ InsD y (R.take q.1.1) true q.2.2.1))) (fun q => R.length - q.1.1) ((0, false), (none, 0), [], []) ⟨Nat.zero_le _, Nat.zero_le _, .inl ⟨rfl, rfl, InsD.nil x⟩⟩ ⟨rfl, rfl, rfl, rfl, rfl, trivial⟩ (fun w h => ((allD_nil h).own_nil 59 4).pick [0, 1, 4, 2, 3] (by simp) rfl) ?_
  rintro ⟨⟨i, laid⟩, ⟨a2, c2⟩, out, N⟩ jk ⟨hi, hol, hJ⟩
  dsimp only at hi hol hJ ⊢
  by_cases h1 : (i : Int) < R.length
  case pos =>
    refine cw_know (p := ∃ b, a0 = some ⟨b, 0, none⟩) (fun w hw => by obtain ⟨b, e, _⟩ := (own_at (hw.holds 4 _ rfl)).2.1 (by omega); exact ⟨b, e⟩) (fun hb => ?_)
    obtain ⟨b, rfl⟩ := hb
    refine cw_ex (fun rest => [ownd a2 c2 59 4 out.length (out.flatMap cCD), allD N, row b3 59 (cCD x), row bx 106 (hdR most (some ⟨b, 0, none⟩) R.length c0 la rl.length lc), row b 59 (R.flatMap cCD ++ rest)]) _ (fun w hw => (ok_open 4 rfl hw).imp fun rest h => ⟨h.1, h.2⟩) (fun rest he => ?_)
    obtain ⟨z, hz⟩ := getElem_some (xs := R) (i := i) (by omega)
    have hrk : (R.flatMap cCD ++ rest)[0 + i * 4]? = some (.int .i64 z.prog) := rd_at len_CD hz (o := 0) (show 0 < 4 by omega) rfl rest (by omega)
    have hrv : Vr (R.flatMap cCD ++ rest) (0 + i * 4) 4 (cCD z) := vr_rowD len_CD hz rest (by omega)
    have htk : R.take (i + 1) = R.take i ++ [z] := by rw [List.take_add_one, hz]; rfl
    rcases hJ with ⟨rfl, rfl, hI⟩ | ⟨rfl, y, rfl, hy, hI⟩
    · by_cases hk : x.prog < z.prog
      · (repeat (first | ((refine (?_ : MX _ _ _ _ _ _ _ _ _ _ _)); first | refine mx_end ?_ | (refine mx_mv _ rfl rfl (by conv => {lhs; whnf}) ?_) | ( refine mx_fa E rfl rfl rfl rfl ?_) | (refine g_load rfl ?_; refine mx_get E rfl rfl rfl rfl rfl (by rfl) rfl ?_ ) | (refine g_bin rfl ?_; ( (refine mx_cmpl .lss rfl rfl rfl rfl rfl (by exact cmp_lt_t (by omega) ) ?_) ) ) | (refine mx_nc rfl rfl rfl ?_) | (refine g_bi .len rfl ?_; refine mx_len E rfl rfl rfl rfl ?_) ) | refine cw_seq ?_ | refine cw_line rfl ?_ | refine cw_block ?_ | refine cw_cond_t rfl ?_ | refine cw_skip ?_ | refine pw_then ?_ ))
        refine cw_drawm [0, 1, 2, 3, 4, 5, 6, 7, 8, 9, 10, 11, 12, 13, 14] (fun i => false) [row b3 59 (cCD x), row bx 106 (hdR most (some ⟨b, 0, none⟩) R.length c0 la rl.length lc), row b 59 (R.flatMap cCD ++ rest)] mixed (by kernel_rfl) (fun w h => h.pick [2, 3, 4] (by simp) rfl) ?_
        (repeat (first | ((refine (?_ : MX _ _ _ _ _ _ _ _ _ _ _)); first | refine mx_end ?_ | (refine mx_mv _ rfl rfl (by conv => {lhs; whnf}) ?_) | (first | refine mx_fa0 E rfl rfl rfl rfl ?_ | refine mx_fa E rfl rfl rfl rfl ?_) | (refine g_load rfl ?_; first | refine mx_get E rfl rfl rfl rfl rfl (by first | assumption | rfl) rfl ?_ | refine mx_getn E rfl rfl rfl rfl rfl (by exact Vr.all rfl ) rfl ?_ ) | (refine g_bin rfl ?_; ( (refine mx_cmpl .gtr rfl rfl rfl rfl rfl (by exact cmp_gt_t (by omega) ) ?_) ) ) | (refine g_ix rfl ?_; refine mx_ixsn E rfl rfl rfl rfl rfl rfl (by omega) rfl ?_ ) | (refine mx_nc rfl rfl rfl ?_) | (refine mx_not rfl rfl rfl ?_) | (refine g_pick rfl ?_; refine mx_and rfl rfl rfl rfl rfl rfl ?_ ) ) | refine cw_seq ?_ | refine cw_line rfl ?_ | refine cw_cond_t rfl ?_ | refine pw_then ?_ ))
        refine g_cf 71 rfl ?_; refine a_callL rfl rfl rfl rfl Try.func71 rfl rfl rfl [] _ rfl (fun a : {y : CD // y.vc = x.vc} => .agg (cCD a.1).toArray) (fun a => OCd a.1) (fun w' hw _ => copyC71 x (by omega) w' (hd w' hw.keep)) (fun _ => rfl) (fun _ _ _ => trivial) (fun qy => ?_)
        obtain ⟨y, hy⟩ := qy
        have hyp : y.prog = x.prog := congrArg VC.prog hy
        refine mx_weak (H' := [ownd a2 c2 59 4 out.length (out.flatMap cCD), allD [y], row b3 59 (cCD x), row bx 106 (hdR most (some ⟨b, 0, none⟩) R.length c0 la rl.length lc), row b 59 (R.flatMap cCD ++ rest)]) (fun w h => (okStarD h).pick [1, 0, 3, 4, 5] (by simp) rfl) (fun _ _ => trivial) ?_
        refine g_bs rfl ?_; refine a_bslice1 E rfl rfl rfl rfl (us := cCD y) rfl rfl rfl rfl rfl rfl (fun b9 => ?_); refine g_bi .append rfl ?_; refine a_app E rfl rfl rfl rfl rfl rfl rfl rfl (cCD y) rfl (fun w hw => fun _ => ⟨b9, 0, rfl, fun j u hj => by rw [add_at, Nat.zero_add]; exact row_cell (hw.holds 0 _ rfl) hj⟩) rfl (by omega) rfl (fun _ _ _ _ => trivial) (fun a3 c3 => ?_)
        rw [fm_snocD out y]
        have hlo : out.length + 1 = (out ++ [y]).length := by simp
        rw [hlo]
        have hil := hI.len
        rw [List.length_take] at hil
        have hins := (hI.sw hyp).gt (x := z) (by rw [hyp]; exact hk)
        have hol2 : (out ++ [y]).length ≤ i + 1 := by rw [← hlo]; omega
        generalize out ++ [y] = out2 at *
        (repeat (first | ((refine (?_ : MX _ _ _ _ _ _ _ _ _ _ _)); first | refine mx_end ?_ | (refine mx_mv _ rfl rfl (by conv => {lhs; whnf}) ?_) | (refine mx_as _ rfl rfl (by conv => {lhs; whnf}) ?_) | ( refine mx_fa E rfl rfl rfl rfl ?_) | (refine g_load rfl ?_; first | refine mx_get E rfl rfl rfl rfl rfl (by first | assumption | rfl) rfl ?_ | refine mx_getn E rfl rfl rfl rfl rfl (by assumption ) rfl ?_ ) | (refine g_ix rfl ?_; refine mx_ixsn E rfl rfl rfl rfl rfl rfl (by omega) rfl ?_ ) | (refine mx_nc rfl rfl rfl ?_) ) | refine cw_line rfl ?_ | refine pw_then ?_ ))
        refine g_bs rfl ?_; refine a_bslice1 E rfl rfl rfl rfl (us := cCD z) rfl rfl rfl rfl rfl rfl (fun b9 => ?_); refine g_bi .append rfl ?_; refine a_app E rfl rfl rfl rfl rfl rfl rfl rfl (cCD z) rfl (fun w hw => fun _ => ⟨b9, 0, rfl, fun j u hj => by rw [add_at, Nat.zero_add]; exact row_cell (hw.holds 0 _ rfl) hj⟩) rfl (by omega) rfl (fun _ _ _ _ => trivial) (fun a4 c4 => ?_)
        rw [fm_snocD out2 z]
        have hlo2 : out2.length + 1 = (out2 ++ [z]).length := by simp
        rw [hlo2]
        (repeat (first | ((refine (?_ : MX _ _ _ _ _ _ _ _ _ _ _)); first | refine mx_end ?_ | (refine mx_mv _ rfl rfl (by conv => {lhs; whnf}) ?_) | (refine mx_as _ rfl rfl (by conv => {lhs; whnf}) ?_) | (refine g_bin rfl ?_; ( refine mx_ar rfl rfl rfl rfl rfl rfl (IntWalk.i64_in _ (by omega)) rfl ?_ ) ) ) | refine cw_line rfl ?_ | refine pw_then ?_ | refine pw_block ?_ ))
        exact pw_round ((i + 1, true), (a4, c4), out2 ++ [z], [y]) ⟨by show i + 1 ≤ R.length; omega, by show (out2 ++ [z]).length ≤ i + 1 + 1; rw [← hlo2]; omega, .inr ⟨rfl, y, rfl, hy, by dsimp only; rw [htk]; exact hins⟩⟩ (by show R.length - (i + 1) < R.length - i; omega) ⟨rfl, rfl, rfl, rfl, rfl, trivial⟩ (fun w h => ok_close (cap := c0) (z := 4) (len := R.length) (H := [ownd a4 c4 59 4 (out2 ++ [z]).length ((out2 ++ [z]).flatMap cCD), allD [y], row b3 59 (cCD x), row bx 106 (hdR most (some ⟨b, 0, none⟩) R.length c0 la rl.length lc), row b 59 (R.flatMap cCD ++ rest)]) 4 rfl he.1 he.2.1 he.2.2.1 he.2.2.2 (h.pick [2, 3, 4, 5, 6] (by simp) rfl))
      · (repeat (first | ((refine (?_ : MX _ _ _ _ _ _ _ _ _ _ _)); first | refine mx_end ?_ | (refine mx_mv _ rfl rfl (by conv => {lhs; whnf}) ?_) | ( refine mx_fa E rfl rfl rfl rfl ?_) | (refine g_load rfl ?_; refine mx_get E rfl rfl rfl rfl rfl (by rfl) rfl ?_ ) | (refine g_bin rfl ?_; ( (refine mx_cmpl .lss rfl rfl rfl rfl rfl (by exact cmp_lt_t (by omega) ) ?_) ) ) | (refine mx_nc rfl rfl rfl ?_) | (refine g_bi .len rfl ?_; refine mx_len E rfl rfl rfl rfl ?_) ) | refine cw_seq ?_ | refine cw_line rfl ?_ | refine cw_block ?_ | refine cw_cond_t rfl ?_ | refine cw_skip ?_ | refine pw_then ?_ ))
        refine cw_drawm [0, 1, 2, 3, 4, 5, 6, 7, 8, 9, 10, 11, 12, 13, 14] (fun i => false) [row b3 59 (cCD x), row bx 106 (hdR most (some ⟨b, 0, none⟩) R.length c0 la rl.length lc), row b 59 (R.flatMap cCD ++ rest)] mixed (by kernel_rfl) (fun w h => h.pick [2, 3, 4] (by simp) rfl) ?_
        (repeat (first | ((refine (?_ : MX _ _ _ _ _ _ _ _ _ _ _)); first | refine mx_end ?_ | (refine mx_mv _ rfl rfl (by conv => {lhs; whnf}) ?_) | (first | refine mx_fa0 E rfl rfl rfl rfl ?_ | refine mx_fa E rfl rfl rfl rfl ?_) | (refine g_load rfl ?_; first | refine mx_get E rfl rfl rfl rfl rfl (by first | assumption | rfl) rfl ?_ | refine mx_getn E rfl rfl rfl rfl rfl (by assumption ) rfl ?_ ) | (refine g_bin rfl ?_; ( (refine mx_cmpl .gtr rfl rfl rfl rfl rfl (by exact cmp_gt_f (by omega) ) ?_) ) ) | (refine g_ix rfl ?_; refine mx_ixsn E rfl rfl rfl rfl rfl rfl (by omega) rfl ?_ ) | (refine mx_nc rfl rfl rfl ?_) | (refine mx_not rfl rfl rfl ?_) | (refine g_pick rfl ?_; refine mx_and rfl rfl rfl rfl rfl rfl ?_ ) ) | refine cw_line rfl ?_ | refine cw_cond_f rfl ?_ | refine cw_skip ?_ | refine pw_then ?_ ))
        refine g_bs rfl ?_; refine a_bslice1 E rfl rfl rfl rfl (us := cCD z) rfl rfl rfl rfl rfl rfl (fun b9 => ?_); refine g_bi .append rfl ?_; refine a_app E rfl rfl rfl rfl rfl rfl rfl rfl (cCD z) rfl (fun w hw => fun _ => ⟨b9, 0, rfl, fun j u hj => by rw [add_at, Nat.zero_add]; exact row_cell (hw.holds 0 _ rfl) hj⟩) rfl (by omega) rfl (fun _ _ _ _ => trivial) (fun a4 c4 => ?_)
        rw [fm_snocD out z]
        have hlo2 : out.length + 1 = (out ++ [z]).length := by simp
        rw [hlo2]
        (repeat (first | ((refine (?_ : MX _ _ _ _ _ _ _ _ _ _ _)); first | refine mx_end ?_ | (refine mx_mv _ rfl rfl (by conv => {lhs; whnf}) ?_) | (refine mx_as _ rfl rfl (by conv => {lhs; whnf}) ?_) | (refine g_bin rfl ?_; ( refine mx_ar rfl rfl rfl rfl rfl rfl (IntWalk.i64_in _ (by omega)) rfl ?_ ) ) ) | refine cw_line rfl ?_ | refine pw_then ?_ | refine pw_block ?_ ))
        exact pw_round ((i + 1, false), (a4, c4), out ++ [z], []) ⟨by show i + 1 ≤ R.length; omega, by show (out ++ [z]).length ≤ i + 1 + 1; rw [← hlo2]; omega, .inl ⟨rfl, rfl, by dsimp only; rw [htk]; exact hI.le (by omega)⟩⟩ (by show R.length - (i + 1) < R.length - i; omega) ⟨rfl, rfl, rfl, rfl, rfl, trivial⟩ (fun w h => ok_close (cap := c0) (z := 4) (len := R.length) (H := [ownd a4 c4 59 4 (out ++ [z]).length ((out ++ [z]).flatMap cCD), allD [], row b3 59 (cCD x), row bx 106 (hdR most (some ⟨b, 0, none⟩) R.length c0 la rl.length lc), row b 59 (R.flatMap cCD ++ rest)]) 4 rfl he.1 he.2.1 he.2.2.1 he.2.2.2 (h.pick [1, 2, 3, 4, 5] (by simp) rfl))
    · (repeat (first | ((refine (?_ : MX _ _ _ _ _ _ _ _ _ _ _)); first | refine mx_end ?_ | (refine mx_mv _ rfl rfl (by conv => {lhs; whnf}) ?_) | ( refine mx_fa E rfl rfl rfl rfl ?_) | (refine g_load rfl ?_; refine mx_get E rfl rfl rfl rfl rfl (by rfl) rfl ?_ ) | (refine g_bin rfl ?_; ( (refine mx_cmpl .lss rfl rfl rfl rfl rfl (by exact cmp_lt_t (by omega) ) ?_) ) ) | (refine mx_nc rfl rfl rfl ?_) | (refine g_bi .len rfl ?_; refine mx_len E rfl rfl rfl rfl ?_) ) | refine cw_seq ?_ | refine cw_line rfl ?_ | refine cw_block ?_ | refine cw_cond_t rfl ?_ | refine cw_skip ?_ | refine pw_then ?_ ))
      refine cw_drawm [0, 1, 2, 3, 4, 5, 6, 7, 8, 9, 10, 11, 12, 13, 14] (fun i => false) [row b3 59 (cCD x), row bx 106 (hdR most (some ⟨b, 0, none⟩) R.length c0 la rl.length lc), row b 59 (R.flatMap cCD ++ rest)] mixed (by kernel_rfl) (fun w h => h.pick [2, 3, 4] (by simp) rfl) ?_
      (repeat (first | ((refine (?_ : MX _ _ _ _ _ _ _ _ _ _ _)); first | refine mx_end ?_ | (refine mx_mv _ rfl rfl (by conv => {lhs; whnf}) ?_) | ( refine mx_fa E rfl rfl rfl rfl ?_) | (refine g_load rfl ?_; first | refine mx_get E rfl rfl rfl rfl rfl (by first | assumption | rfl) rfl ?_ | refine mx_getn E rfl rfl rfl rfl rfl (by assumption ) rfl ?_ ) | (refine g_ix rfl ?_; refine mx_ixsn E rfl rfl rfl rfl rfl rfl (by omega) rfl ?_ ) | (refine mx_nc rfl rfl rfl ?_) | (refine mx_not rfl rfl rfl ?_) | (refine mx_skip rfl rfl rfl ?_) | (refine g_pick rfl ?_; refine mx_andf rfl rfl rfl rfl rfl ?_ ) ) | refine cw_line rfl ?_ | refine cw_cond_f rfl ?_ | refine cw_skip ?_ | refine pw_then ?_ ))
      refine g_bs rfl ?_; refine a_bslice1 E rfl rfl rfl rfl (us := cCD z) rfl rfl rfl rfl rfl rfl (fun b9 => ?_); refine g_bi .append rfl ?_; refine a_app E rfl rfl rfl rfl rfl rfl rfl rfl (cCD z) rfl (fun w hw => fun _ => ⟨b9, 0, rfl, fun j u hj => by rw [add_at, Nat.zero_add]; exact row_cell (hw.holds 0 _ rfl) hj⟩) rfl (by omega) rfl (fun _ _ _ _ => trivial) (fun a4 c4 => ?_)
      rw [fm_snocD out z]
      have hlo2 : out.length + 1 = (out ++ [z]).length := by simp
      rw [hlo2]
      (repeat (first | ((refine (?_ : MX _ _ _ _ _ _ _ _ _ _ _)); first | refine mx_end ?_ | (refine mx_mv _ rfl rfl (by conv => {lhs; whnf}) ?_) | (refine mx_as _ rfl rfl (by conv => {lhs; whnf}) ?_) | (refine g_bin rfl ?_; ( refine mx_ar rfl rfl rfl rfl rfl rfl (IntWalk.i64_in _ (by omega)) rfl ?_ ) ) ) | refine cw_line rfl ?_ | refine pw_then ?_ | refine pw_block ?_ ))
      exact pw_round ((i + 1, true), (a4, c4), out ++ [z], [y]) ⟨by show i + 1 ≤ R.length; omega, by show (out ++ [z]).length ≤ i + 1 + 1; rw [← hlo2]; omega, .inr ⟨rfl, y, rfl, hy, by dsimp only; rw [htk]; exact hI.more⟩⟩ (by show R.length - (i + 1) < R.length - i; omega) ⟨rfl, rfl, rfl, rfl, rfl, trivial⟩ (fun w h => ok_close (cap := c0) (z := 4) (len := R.length) (H := [ownd a4 c4 59 4 (out ++ [z]).length ((out ++ [z]).flatMap cCD), allD [y], row b3 59 (cCD x), row bx 106 (hdR most (some ⟨b, 0, none⟩) R.length c0 la rl.length lc), row b 59 (R.flatMap cCD ++ rest)]) 4 rfl he.1 he.2.1 he.2.2.1 he.2.2.2 (h.pick [1, 2, 3, 4, 5] (by simp) rfl))
  obtain rfl : i = R.length := by omega
  rw [List.take_length] at hJ
  rcases hJ with ⟨rfl, rfl, hI⟩ | ⟨rfl, y, rfl, hy, hI⟩
  case' inl =>
    (repeat (first | ((refine (?_ : MX _ _ _ _ _ _ _ _ _ _ _)); first | refine mx_end ?_ | (refine mx_mv _ rfl rfl (by conv => {lhs; whnf}) ?_) | ( refine mx_fa E rfl rfl rfl rfl ?_) | (refine g_load rfl ?_; first | refine mx_get E rfl rfl rfl rfl rfl (by rfl) rfl ?_ | refine mx_getn E rfl rfl rfl rfl rfl (by exact Vr.all rfl ) rfl ?_ ) | (refine g_bin rfl ?_; ( (refine mx_cmpl .lss rfl rfl rfl rfl rfl (by exact cmp_lt_f (by omega) ) ?_) ) ) | (refine mx_nc rfl rfl rfl ?_) | (refine g_bi .len rfl ?_; refine mx_len E rfl rfl rfl rfl ?_) | (refine mx_not rfl rfl rfl ?_) ) | refine cw_seq ?_ | refine cw_line rfl ?_ | refine cw_cond_f rfl ?_ | refine cw_cond_t rfl ?_ | refine cw_exit ?_ | refine pw_then ?_ | refine pw_then_x ?_ | refine pw_block_e ?_ ))
    refine g_cf 71 rfl ?_; refine a_callL rfl rfl rfl rfl Try.func71 rfl rfl rfl [] _ rfl (fun a : {y : CD // y.vc = x.vc} => .agg (cCD a.1).toArray) (fun a => OCd a.1) (fun w' hw _ => copyC71 x (by omega) w' (hd w' hw.keep)) (fun _ => rfl) (fun _ _ _ => trivial) (fun qy => ?_)
    obtain ⟨y, hy⟩ := qy
    have hyp : y.prog = x.prog := congrArg VC.prog hy
    refine mx_weak (H' := [ownd a2 c2 59 4 out.length (out.flatMap cCD), allD [y], row b3 59 (cCD x), row bx 106 (hdR most a0 R.length c0 la rl.length lc)]) (fun w h => (okStarD h).pick [1, 0, 3, 4] (by simp) rfl) (fun _ _ => trivial) ?_
    have hil := hI.len
    refine g_bs rfl ?_; refine a_bslice1 E rfl rfl rfl rfl (us := cCD y) rfl rfl rfl rfl rfl rfl (fun b9 => ?_); refine g_bi .append rfl ?_; refine a_app E rfl rfl rfl rfl rfl rfl rfl rfl (cCD y) rfl (fun w hw => fun _ => ⟨b9, 0, rfl, fun j u hj => by rw [add_at, Nat.zero_add]; exact row_cell (hw.holds 0 _ rfl) hj⟩) rfl (by omega) rfl (fun _ _ _ _ => trivial) (fun a3 c3 => ?_)
    rw [fm_snocD out y]
    have hlo : out.length + 1 = (out ++ [y]).length := by simp
    rw [hlo]
    have hL := (hI.sw hyp).done_f
    have hol2 : (out ++ [y]).length ≤ R.length + 1 := by rw [← hlo]; omega
    generalize out ++ [y] = out2 at *
    refine mx_weak (H' := [ownd a3 c3 59 4 out2.length (out2.flatMap cCD), allD [y], row bx 106 (hdR most a0 R.length c0 la rl.length lc), row b3 59 (cCD x)]) (fun w h => h.pick [1, 2, 4, 3] (by simp) rfl) (fun _ _ => trivial) ?_
  case' inr =>
    have hyp : y.prog = x.prog := congrArg VC.prog hy
    have hL := hI.done_t
    have hol2 := hol
    generalize a2 = a3 at *
    generalize c2 = c3 at *
    generalize out = out2 at *
    refine cw_weak (H' := [ownd a3 c3 59 4 out2.length (out2.flatMap cCD), allD [y], row bx 106 (hdR most a0 R.length c0 la rl.length lc), row b3 59 (cCD x)]) (fun w h => h.pick [0, 1, 3, 2] (by simp) rfl) ?_
  all_goals (
    have hU := hL.progs
    rw [hyp] at hU
    rw [← hU] at hgone
    have hUl : (out2.map CD.prog).length = out2.length := List.length_map ..
    have h1000 : out2.length ≤ 1001 := by omega
    (repeat (first | ((refine (?_ : MX _ _ _ _ _ _ _ _ _ _ _)); first | refine mx_end ?_ | (refine mx_mv _ rfl rfl (by conv => {lhs; whnf}) ?_) | (refine mx_as _ rfl rfl (by conv => {lhs; whnf}) ?_) | ( refine mx_fa E rfl rfl rfl rfl ?_) | (refine g_load rfl ?_; refine mx_get E rfl rfl rfl rfl rfl (by rfl) rfl ?_ ) | (refine g_bin rfl ?_; ( (refine mx_cmpl .lss rfl rfl rfl rfl rfl (by exact cmp_lt_f (by omega) ) ?_) ) ) | (refine mx_nc rfl rfl rfl ?_) | (refine g_bi .len rfl ?_; refine mx_len E rfl rfl rfl rfl ?_) | (refine mx_not rfl rfl rfl ?_) | (refine g_store rfl ?_; refine s_1 E rfl rfl rfl rfl rfl rfl rfl rfl (by exact spS sp0 ) rfl ?_) ) | refine cw_seq ?_ | refine cw_line rfl ?_ | refine cw_cond_f rfl ?_ | refine cw_skip ?_ | refine cw_exit ?_ | refine pw_then ?_ | refine pw_then_x ?_ | refine pw_block_e ?_ ))
    refine cw_drawm [0, 1, 2, 3, 4, 5, 6, 7, 8, 9] (fun i => false) [row bx 106 (hdR most a3 out2.length c3 la rl.length lc)] mixed (by kernel_rfl) (fun w h => h.only 2 rfl) ?_
    by_cases hfit : (out2.length : Int) ≤ most
    case pos =>
      have hg0 : gone = [] := by rw [← hgone]; unfold goR; rw [if_pos (by rw [hUl]; exact hfit)]
      subst hg0
      (repeat (first | ((refine (?_ : MX _ _ _ _ _ _ _ _ _ _ _)); first | refine mx_end ?_ | (refine mx_mv _ rfl rfl (by conv => {lhs; whnf}) ?_) | (refine mx_as _ rfl rfl (by conv => {lhs; whnf}) ?_) | (first | refine mx_fa0 E rfl rfl rfl rfl ?_ | refine mx_fa E rfl rfl rfl rfl ?_) | (refine g_load rfl ?_; refine mx_get E rfl rfl rfl rfl rfl (by rfl) rfl ?_ ) | (refine g_bin rfl ?_; ( (refine mx_cmpl .leq rfl rfl rfl rfl rfl (by exact cmp_le_t (by omega) ) ?_) ) ) | (refine mx_nc rfl rfl rfl ?_) | (refine g_bi .len rfl ?_; refine mx_len E rfl rfl rfl rfl ?_) ) | refine cw_seq ?_ | refine cw_line rfl ?_ | refine cw_cond_t rfl ?_ | refine cw_ret ?_ | refine pw_then ?_ | refine pw_then_r ?_ ))
      exact pw_ret rfl rfl rfl rfl fun w' hw => ⟨((none, 0), (a3, c3), ⟨(y, out2), hy, hL⟩), rfl, (hw.own_nil 3 1).pick [0, 3, 1, 2] (by simp) rfl⟩
    case neg =>
      by_cases hm : 0 < most
      case pos =>
        obtain ⟨g, hgv⟩ : ∃ g, evV (fun q => cnt q rl) (may false x.prog out2) = g := ⟨_, rfl⟩
        have hg1 : gone = [g] := by
          rw [← hgone]
          unfold goR
          rw [if_neg (by rw [hUl]; exact hfit), if_pos hm, ← hgv, may_f]
        have hmne : may false x.prog out2 ≠ [] := by
          obtain ⟨A, B, e1, e2, _, _⟩ := hL.ex
          have hlen : 1 ≤ R.length := by
            have h5 := congrArg List.length e1
            have h6 := congrArg List.length e2
            simp at h5 h6
            omega
          obtain ⟨c, hc⟩ := getElem_some (xs := R) (i := 0) (by omega)
          have hcm := List.mem_of_getElem? hc
          have hco : c ∈ out2 := by
            rw [e2]
            rw [e1] at hcm
            rcases List.mem_append.1 hcm with h | h
            · exact List.mem_append_left _ h
            · exact List.mem_append_right _ (List.mem_cons_of_mem _ h)
          rw [may_f]
          exact List.ne_nil_of_mem (List.mem_filter.2 ⟨List.mem_map.2 ⟨c, hco, rfl⟩, by simpa using hRp c hcm⟩)
        (repeat (first | ((refine (?_ : MX _ _ _ _ _ _ _ _ _ _ _)); first | refine mx_end ?_ | (refine mx_mv _ rfl rfl (by conv => {lhs; whnf}) ?_) | (refine mx_as _ rfl rfl (by conv => {lhs; whnf}) ?_) | (first | refine mx_fa0 E rfl rfl rfl rfl ?_ | refine mx_fa E rfl rfl rfl rfl ?_) | (refine g_load rfl ?_; refine mx_get E rfl rfl rfl rfl rfl (by rfl) rfl ?_ ) | (refine g_bin rfl ?_; (first | (refine mx_cmpl .leq rfl rfl rfl rfl rfl (by exact cmp_le_f (by omega) ) ?_) | (refine mx_cmpl .gtr rfl rfl rfl rfl rfl (by exact cmp_gt_t (by omega) ) ?_) ) ) | (refine mx_nc rfl rfl rfl ?_) | (refine g_bi .len rfl ?_; refine mx_len E rfl rfl rfl rfl ?_) ) | refine cw_seq ?_ | refine cw_line rfl ?_ | refine cw_cond_f rfl ?_ | refine cw_cond_t rfl ?_ | refine cw_skip ?_ | refine pw_then ?_ ))
        refine g_cf 96 rfl ?_
        refine a_callv rfl rfl rfl rfl Try.func96 rfl rfl rfl (.int .i64 g) (fun w' hw => who96 bx _ a3 c3 out2 la lc rl (by omega) hsl x.prog false hmne g hgv w' (hw.holds 2 _ rfl) (own_in len_CD (hw.holds 0 _ rfl) (Nat.le_refl _)) (by
          intro hr
          obtain ⟨b, off, e, hc⟩ := hll hr
          exact ⟨b, off, e, fun i x hx j v hv => hw.old (hc i x hx j v hv) (hlne hr b off e)⟩)) rfl ?_
        (repeat (first | ((refine (?_ : MX _ _ _ _ _ _ _ _ _ _ _)); first | refine mx_end ?_ | (refine mx_mv _ rfl rfl (by conv => {lhs; whnf}) ?_) | (refine mx_as _ rfl rfl (by conv => {lhs; whnf}) ?_) ) | refine cw_seq ?_ | refine cw_line rfl ?_ | refine pw_then ?_ ))
        refine mx_weak (H' := [row bx 106 (hdR most a3 out2.length c3 la rl.length lc), ownd a3 c3 59 4 out2.length (out2.flatMap cCD), allD [y]]) (fun w h => h.pick [2, 0, 1] (by simp) rfl) (fun _ _ => trivial) ?_; refine g_cf 73 rfl ?_; refine a_callL rfl rfl rfl rfl Try.func73 rfl rfl rfl [row bx 106 (hdR most a3 out2.length c3 la rl.length lc)] [ownd a3 c3 59 4 out2.length (out2.flatMap cCD), allD [y]] rfl (fun _ : Option Addr × Nat => .bool (decide ((wo g out2).length < out2.length))) (fun a => [row bx 106 (hdR most a.1 (wo g out2).length a.2 la rl.length lc), ownd a.1 a.2 59 4 (wo g out2).length ((wo g out2).flatMap cCD)]) (fun w' hw h => drop73 bx most a3 c3 out2 la rl.length lc g _ rfl (by omega) w' (own_in len_CD (hw.holds 1 _ rfl) (Nat.le_refl _)) (fun hne => sepRO hw 0 1 rfl rfl (by decide) (List.length_pos_iff.2 hne)) h) (fun _ => rfl) (fun _ _ _ => trivial) (fun qz => ?_); obtain ⟨a5, c5⟩ := qz; ((repeat (first | ((refine (?_ : MX _ _ _ _ _ _ _ _ _ _ _)); first | refine mx_end ?_ | (refine mx_mv _ rfl rfl (by conv => {lhs; whnf}) ?_) | (refine mx_as _ rfl rfl (by conv => {lhs; whnf}) ?_) | (refine g_bs rfl ?_; refine a_bsi E rfl rfl rfl rfl rfl (by (repeat (first | exact EvI.nil | (apply EvI.cons; rfl)))) (by rfl) (by rfl) (by rfl) rfl (fun _ => ?_)) ) | refine cw_seq ?_ | refine cw_line rfl ?_ | refine cw_ret ?_ | refine pw_then ?_ ))); rename_i b9; subst hg1; exact pw_ret rfl rfl rfl rfl fun w' hw => ⟨((some ⟨b9, 0, none⟩, 1), (a5, c5), ⟨(y, out2), hy, hL⟩), rfl, (row_own hw).pick [0, 1, 2, 4] (by simp) rfl⟩
      case neg =>
        have hg1 : gone = [x.prog] := by
          rw [← hgone]
          unfold goR
          rw [if_neg (by rw [hUl]; exact hfit), if_neg hm]
        (repeat (first | ((refine (?_ : MX _ _ _ _ _ _ _ _ _ _ _)); first | refine mx_end ?_ | (refine mx_mv _ rfl rfl (by conv => {lhs; whnf}) ?_) | (refine mx_as _ rfl rfl (by conv => {lhs; whnf}) ?_) | (first | refine mx_fa0 E rfl rfl rfl rfl ?_ | refine mx_fa E rfl rfl rfl rfl ?_) | (refine g_load rfl ?_; refine mx_get E rfl rfl rfl rfl rfl (by rfl) rfl ?_ ) | (refine g_bin rfl ?_; (first | (refine mx_cmpl .leq rfl rfl rfl rfl rfl (by first | exact cmp_le_f (by omega) | rfl) ?_) | (refine mx_cmpl .gtr rfl rfl rfl rfl rfl (by exact cmp_gt_f (by omega) ) ?_) ) ) | (refine mx_nc rfl rfl rfl ?_) | (refine g_bi .len rfl ?_; refine mx_len E rfl rfl rfl rfl ?_) ) | refine cw_seq ?_ | refine cw_line rfl ?_ | refine cw_cond_f rfl ?_ | refine cw_skip ?_ | refine pw_then ?_ ))
        refine mx_weak (H' := [row bx 106 (hdR most a3 out2.length c3 la rl.length lc), ownd a3 c3 59 4 out2.length (out2.flatMap cCD), allD [y]]) (fun w h => h.pick [2, 0, 1] (by simp) rfl) (fun _ _ => trivial) ?_; refine g_cf 73 rfl ?_; refine a_callL rfl rfl rfl rfl Try.func73 rfl rfl rfl [row bx 106 (hdR most a3 out2.length c3 la rl.length lc)] [ownd a3 c3 59 4 out2.length (out2.flatMap cCD), allD [y]] rfl (fun _ : Option Addr × Nat => .bool (decide ((wo x.prog out2).length < out2.length))) (fun a => [row bx 106 (hdR most a.1 (wo x.prog out2).length a.2 la rl.length lc), ownd a.1 a.2 59 4 (wo x.prog out2).length ((wo x.prog out2).flatMap cCD)]) (fun w' hw h => drop73 bx most a3 c3 out2 la rl.length lc x.prog _ rfl (by omega) w' (own_in len_CD (hw.holds 1 _ rfl) (Nat.le_refl _)) (fun hne => sepRO hw 0 1 rfl rfl (by decide) (List.length_pos_iff.2 hne)) h) (fun _ => rfl) (fun _ _ _ => trivial) (fun qz => ?_); obtain ⟨a5, c5⟩ := qz; ((repeat (first | ((refine (?_ : MX _ _ _ _ _ _ _ _ _ _ _)); first | refine mx_end ?_ | (refine mx_mv _ rfl rfl (by conv => {lhs; whnf}) ?_) | (refine mx_as _ rfl rfl (by conv => {lhs; whnf}) ?_) | (refine g_bs rfl ?_; refine a_bsi E rfl rfl rfl rfl rfl (by (repeat (first | exact EvI.nil | (apply EvI.cons; rfl)))) (by rfl) (by rfl) (by rfl) rfl (fun _ => ?_)) ) | refine cw_seq ?_ | refine cw_line rfl ?_ | refine cw_ret ?_ | refine pw_then ?_ ))); rename_i b9; subst hg1; exact pw_ret rfl rfl rfl rfl fun w' hw => ⟨((some ⟨b9, 0, none⟩, 1), (a5, c5), ⟨(y, out2), hy, hL⟩), rfl, (row_own hw).pick [0, 1, 2, 4] (by simp) rfl⟩)
end Go.Proofs.Ytikdbgheefjpkaa
