/- The document's watch: Add; all as wholes. -/
import Derived.Test.YtikdbgheefjpkaaKi
set_option maxRecDepth 100000
set_option maxHeartbeats 8000000
set_option linter.unusedSimpArgs false
set_option linter.unusedVariables false
namespace Go.Proofs.Ytikdbgheefjpkaa
open Go Go.Sx Go.RowKit
/-- Laid among others: behind whom is no more than it, ahead of the first that is. -/
structure Ins (e : WE) (T : List WE) (laid : Bool) (out : List WE) : Prop where
  ex : ∃ A B, T = A ++ B ∧ (∀ x ∈ A, x.k ≤ e.k) ∧ (laid = false → B = [] ∧ out = A) ∧ (laid = true → out = A ++ e :: B ∧ ∃ b t, B = b :: t ∧ e.k < b.k)
theorem Ins.nil (e : WE) : Ins e [] false [] := ⟨[], [], rfl, by simp, fun _ => ⟨rfl, rfl⟩, (fun h => by cases h)⟩
theorem Ins.le {e x : WE} {T out : List WE} (h : Ins e T false out) (hx : x.k ≤ e.k) : Ins e (T ++ [x]) false (out ++ [x]) := by
  obtain ⟨A, B, h1, h2, h3, h4⟩ := h.ex
  obtain ⟨rfl, rfl⟩ := h3 rfl
  rw [List.append_nil] at h1
  subst h1
  exact ⟨T ++ [x], [], by simp, fun y hy => by
    rcases List.mem_append.1 hy with hy | hy
    · exact h2 y hy
    · obtain rfl := List.mem_singleton.1 hy; exact hx, fun _ => ⟨rfl, rfl⟩, (fun h => by cases h)⟩
theorem Ins.gt {e x : WE} {T out : List WE} (h : Ins e T false out) (hx : e.k < x.k) : Ins e (T ++ [x]) true (out ++ [e] ++ [x]) := by
  obtain ⟨A, B, h1, h2, h3, h4⟩ := h.ex
  obtain ⟨rfl, rfl⟩ := h3 rfl
  rw [List.append_nil] at h1
  subst h1
  exact ⟨T, [x], rfl, h2, (fun h => by cases h), fun _ => ⟨by simp, x, [], rfl, hx⟩⟩
theorem Ins.more {e x : WE} {T out : List WE} (h : Ins e T true out) : Ins e (T ++ [x]) true (out ++ [x]) := by
  obtain ⟨A, B, h1, h2, h3, h4⟩ := h.ex
  obtain ⟨rfl, b, t, rfl, hb⟩ := h4 rfl
  subst h1
  exact ⟨A, b :: t ++ [x], by simp, h2, (fun h => by cases h), fun _ => ⟨by simp, b, t ++ [x], rfl, hb⟩⟩
/-- At last. -/
structure Laid (e : WE) (T out : List WE) : Prop where
  ex : ∃ A B, T = A ++ B ∧ out = A ++ e :: B ∧ (∀ x ∈ A, x.k ≤ e.k) ∧ (B = [] ∨ ∃ b t, B = b :: t ∧ e.k < b.k)
theorem Ins.done_f {e : WE} {T out : List WE} (h : Ins e T false out) : Laid e T (out ++ [e]) := by
  obtain ⟨A, B, h1, h2, h3, h4⟩ := h.ex
  obtain ⟨rfl, rfl⟩ := h3 rfl
  exact ⟨_, [], h1, rfl, h2, .inl rfl⟩
theorem Ins.done_t {e : WE} {T out : List WE} (h : Ins e T true out) : Laid e T out := by
  obtain ⟨A, B, h1, h2, h3, h4⟩ := h.ex
  obtain ⟨h5, h6⟩ := h4 rfl
  exact ⟨A, B, h1, h5, h2, .inr h6⟩
theorem Laid.perm {e : WE} {T out : List WE} (h : Laid e T out) : (T ++ [e]).Perm out := by
  obtain ⟨A, B, rfl, rfl, _, _⟩ := h.ex
  rw [List.append_assoc]
  exact List.Perm.append_left _ (List.perm_append_comm (l₂ := [e]))
/-- By rising programs. -/
def Rise (L : List (Int × List VE)) : Prop := (L.map (·.1)).Pairwise (· < ·)
theorem Laid.rise {e : WE} {T out : List WE} (h : Laid e T out) (hr : (T.map WE.k).Pairwise (· < ·)) (hk : ∀ x ∈ T, x.k ≠ e.k) : (out.map WE.k).Pairwise (· < ·) := by
  obtain ⟨A, B, rfl, rfl, hA, hB⟩ := h.ex
  rw [List.map_append] at hr ⊢
  rw [List.map_cons]
  obtain ⟨h1, h2, h3⟩ := List.pairwise_append.1 hr
  have hA' : ∀ x ∈ A.map WE.k, x < e.k := fun x hx => by
    obtain ⟨y, hy, rfl⟩ := List.mem_map.1 hx
    have := hA y hy
    have := hk y (List.mem_append_left _ hy)
    omega
  have hB' : ∀ x ∈ B.map WE.k, e.k < x := fun x hx => by
    rcases hB with rfl | ⟨b, t, rfl, hb⟩
    · simp at hx
    · rw [List.map_cons] at hx h2
      rcases List.mem_cons.1 hx with rfl | hx
      · exact hb
      · have := (List.pairwise_cons.1 h2).1 x hx
        omega
  refine List.pairwise_append.2 ⟨h1, List.pairwise_cons.2 ⟨fun x hx => hB' x hx, h2⟩, fun x hx y hy => ?_⟩
  rcases List.mem_cons.1 hy with rfl | hy
  · exact hA' x hx
  · exact h3 x hx y hy
theorem vr_row {α : Type} {z : Nat} {c : α → List Value} (hz : ∀ x, (c x).length = z) {xs : List α} {j : Nat} {x : α} (hj : xs[j]? = some x) (rest : List Value) {p : Nat} (hp : p = j * z) : Vr (xs.flatMap c ++ rest) p z (c x) := by
  obtain ⟨e1, _⟩ := list_cut hj
  have hl : ((xs.take j).flatMap c).length = j * z := by
    rw [flatMap_len hz, List.length_take, Nat.min_eq_left (by have := (List.getElem?_eq_some_iff.1 hj).1; omega)]
  have e2 : xs.flatMap c ++ rest = (xs.take j).flatMap c ++ (c x ++ ((xs.drop (j + 1)).flatMap c ++ rest)) := by
    conv => lhs; rw [e1]
    simp
  refine ⟨⟨?_⟩, hz x⟩
  rw [e2, hp, ← hl, List.drop_left]
  rw [List.take_left]
theorem fm_snoc (l : List WE) (x : WE) : l.flatMap cRW ++ cRW x = (l ++ [x]).flatMap cRW := by rw [List.flatMap_append]; simp
theorem add17 (bx : Nat) (la : Option Addr) (lc : Nat) (rows : List WE) (hs : rows.length ≤ 1000) (k : Int) (ad : Option Addr) (cap : Nat) (evs : List EV) (hes : evs.length ≤ 1000) (w : World) (hl : InL w la 2 cRW rows) (hne : rows ≠ [] → ∀ b off, la = some ⟨b, off, none⟩ → ¬ domL [row bx 83 [.slice la rows.length lc]] b) (hd : ∀ w', Chg (domL [row bx 83 [.slice la rows.length lc]]) w w' → EvR w' ad evs) (h0 : Ok (domL [row bx 83 [.slice la rows.length lc]]) w [row bx 83 [.slice la rows.length lc]] w) :
    Calls Try.prog 17 #[.pointer (some ⟨bx, 0, none⟩), .int .i64 k, .slice ad evs.length cap] w fun e w' => ∃ a : (Option Addr × Nat) × {q : WE × List WE // q.1.vw = (k, evs.map EV.v) ∧ Laid q.1 (rows.filter fun e : WE => decide (e.k ≠ k)) q.2}, e = .returned (.tuple #[]) ∧ Ok (domL [row bx 83 [.slice la rows.length lc]]) w [row bx 83 [.slice a.1.1 a.2.1.2.length a.1.2], ownd a.1.1 a.1.2 86 2 a.2.1.2.length (a.2.1.2.flatMap cRW), ownd a.2.1.1.ad a.2.1.1.cap 49 5 a.2.1.1.evs.length (a.2.1.1.evs.flatMap cEV), allK a.2.1.1.evs] w' := by
  refine enter3 (S := domL [row bx 83 [.slice la rows.length lc]]) (H := [row bx 83 [.slice la rows.length lc]]) 64 Try.func17 rfl rfl rfl h0 ?_
  (repeat (first | ((refine (?_ : MX _ _ _ _ _ _ _ _ _ _ _)); (refine mx_mv _ rfl rfl (by conv => {lhs; whnf}) ?_) ) | refine cw_seq ?_ | refine cw_line rfl ?_ ))
  refine g_cf 19 rfl ?_
  refine a_callL rfl rfl rfl rfl Try.func19 rfl rfl rfl [row bx 83 [.slice la rows.length lc]] [] rfl (fun _ : Option Addr × Nat => .tuple #[]) (fun a => [row bx 83 [.slice a.1 (rows.filter fun e : WE => decide (e.k ≠ k)).length a.2], ownd a.1 a.2 86 2 (rows.filter fun e : WE => decide (e.k ≠ k)).length ((rows.filter fun e : WE => decide (e.k ≠ k)).flatMap cRW)]) (fun w' hw h => drop19 bx la lc rows k (by omega) w' (by
    intro hr
    obtain ⟨b, off, e, hc⟩ := hl hr
    exact ⟨b, off, e, fun i x hx j v hv => hw.old (hc i x hx j v hv) (hne hr b off e)⟩) hne h) (fun _ => rfl) (fun _ _ _ => trivial) (fun qd => ?_)
  obtain ⟨a0, c0⟩ := qd
  dsimp only
  generalize hR : (rows.filter fun e : WE => decide (e.k ≠ k)) = R
  have hRl : R.length ≤ 1000 := by rw [← hR]; exact Nat.le_trans (List.length_filter_le ..) hs
  refine mx_weak (H' := [row bx 83 [.slice a0 R.length c0], ownd a0 c0 86 2 R.length (R.flatMap cRW)]) (fun w h => h) (fun _ _ => trivial) ?_
  (repeat (first | ((refine (?_ : MX _ _ _ _ _ _ _ _ _ _ _)); first | refine mx_end ?_ | (refine mx_mv _ rfl rfl (by conv => {lhs; whnf}) ?_) | (refine mx_as _ rfl rfl (by conv => {lhs; whnf}) ?_) ) | refine cw_seq ?_ | refine cw_line rfl ?_ | refine pw_then ?_ ))
  refine g_cf 15 rfl ?_
  refine a_callL rfl rfl rfl rfl Try.func15 rfl rfl rfl [] _ rfl (fun a : (Option Addr × Nat) × {l' : List EV // l'.map EV.v = evs.map EV.v} => .slice a.1.1 evs.length a.1.2) (fun a => [ownd a.1.1 a.1.2 49 5 evs.length (a.2.1.flatMap cEV), allK a.2.1]) (fun w' hw _ => copyE15 ad cap evs (by omega) (fun x hx => by have := ((hd w' hw.keep).k x hx).2.2; omega) w' (hd w' hw.keep).l (fun x hx => ((hd w' hw.keep).k x hx).1)) (fun _ => rfl) (fun _ _ _ => trivial) (fun qe => ?_)
  obtain ⟨⟨e1, e2⟩, ⟨evs', hevs⟩⟩ := qe
  have hel : evs'.length = evs.length := by have := congrArg List.length hevs; simpa using this
  dsimp only [List.cons_append, List.nil_append]
  rw [← hel]
  (repeat (first | ((refine (?_ : MX _ _ _ _ _ _ _ _ _ _ _)); first | refine mx_end ?_ | (refine mx_as _ rfl rfl (by conv => {lhs; whnf}) ?_) | (refine g_store rfl ?_; refine s_l E rfl rfl rfl rfl rfl rfl rfl (by exact Sp.all rfl ) rfl ?_ ) | (refine g_build rfl ?_; refine mx_build rfl rfl rfl rfl (b86 _ _ _ _) rfl ?_) | (refine a_new rfl rfl rfl rfl rfl (fun _ => ?_)) ) | refine cw_seq ?_ | refine cw_line rfl ?_ | refine cw_block ?_ | refine pw_then ?_ ))
  rename_i br
  refine cw_loop (ι := (Nat × Bool) × (Option Addr × Nat) × List WE) (fun q => [(9, .int .i64 q.1.1), (8, .pointer (some ⟨br, 0, none⟩)), (7, .bool q.1.2), (6, .slice q.2.1.1 q.2.2.length q.2.1.2), (0, .pointer (some ⟨bx, 0, none⟩)), (1, .int .i64 k)]) (fun q => [ownd q.2.1.1 q.2.1.2 86 2 q.2.2.length (q.2.2.flatMap cRW), row br 86 [.int .i64 k, .slice e1 evs'.length e2], ownd e1 e2 49 5 evs'.length (evs'.flatMap cEV), allK evs', row bx 83 [.slice a0 R.length c0], ownd a0 c0 86 2 R.length (R.flatMap cRW)]) (fun q => q.1.1 ≤ R.length ∧ Ins ⟨k, e1, e2, evs'⟩ (R.take q.1.1) q.1.2 q.2.2 ∧ q.2.2.length ≤ q.1.1 + 1) (fun q => R.length - q.1.1) ((0, false), (none, 0), []) ⟨Nat.zero_le _, Ins.nil _, Nat.zero_le _⟩ ⟨rfl, rfl, rfl, rfl, rfl, rfl, trivial⟩ (fun w h => h.own_nil 86 2) ?_
  rintro ⟨⟨i, laid⟩, ⟨a2, c2⟩, out⟩ jk ⟨hi, hins, hol⟩
  dsimp only at hi hins hol ⊢
  by_cases h1 : (i : Int) < R.length
  case neg =>
    obtain rfl : i = R.length := by omega
    rw [List.take_length] at hins
    cases laid with
    | false =>
      (repeat (first | ((refine (?_ : MX _ _ _ _ _ _ _ _ _ _ _)); first | refine mx_end ?_ | (refine mx_mv _ rfl rfl (by conv => {lhs; whnf}) ?_) | (refine mx_fa0 E rfl rfl rfl rfl ?_ ) | (refine g_load rfl ?_; first | refine mx_get E rfl rfl rfl rfl rfl (by rfl) rfl ?_ | refine mx_getn E rfl rfl rfl rfl rfl (by exact Vr.all rfl ) rfl ?_ ) | (refine g_bin rfl ?_; ( (refine mx_cmpl .lss rfl rfl rfl rfl rfl (by exact cmp_lt_f (by omega) ) ?_) ) ) | (refine mx_nc rfl rfl rfl ?_) | (refine g_bi .len rfl ?_; refine mx_len E rfl rfl rfl rfl ?_) | (refine mx_not rfl rfl rfl ?_) ) | refine cw_seq ?_ | refine cw_line rfl ?_ | refine cw_cond_f rfl ?_ | refine cw_cond_t rfl ?_ | refine cw_exit ?_ | refine pw_then ?_ | refine pw_then_x ?_ | refine pw_block_e ?_ ))
      refine g_bs rfl ?_; refine a_bslice1 E rfl rfl rfl rfl (us := cRW (⟨k, e1, e2, evs'⟩ : WE)) rfl rfl rfl rfl rfl rfl (fun b9 => ?_); refine g_bi .append rfl ?_; refine a_app E rfl rfl rfl rfl rfl rfl rfl rfl (cRW (⟨k, e1, e2, evs'⟩ : WE)) rfl (fun w hw => fun _ => ⟨b9, 0, rfl, fun j u hj => by rw [add_at, Nat.zero_add]; exact row_cell (hw.holds 0 _ rfl) hj⟩) rfl (by omega) rfl (fun _ _ _ _ => trivial) (fun a3 c3 => ?_)
      rw [fm_snoc out ⟨k, e1, e2, evs'⟩]
      have hlo : out.length + 1 = (out ++ [(⟨k, e1, e2, evs'⟩ : WE)]).length := by simp
      rw [hlo]
      (repeat (first | ((refine (?_ : MX _ _ _ _ _ _ _ _ _ _ _)); first | refine mx_end ?_ | (refine mx_mv _ rfl rfl (by conv => {lhs; whnf}) ?_) | (refine mx_as _ rfl rfl (by conv => {lhs; whnf}) ?_) | (refine mx_fa0 E rfl rfl rfl rfl ?_ ) | (refine mx_nc rfl rfl rfl ?_) | (refine g_store rfl ?_; refine s_1 E rfl rfl rfl rfl rfl rfl rfl rfl (by exact sp0 ) rfl ?_) ) | refine cw_line rfl ?_ | refine pw_then ?_ ))
      exact pw_ret0 rfl rfl fun w' hw => ⟨((a3, c3), ⟨(⟨k, e1, e2, evs'⟩, out ++ [⟨k, e1, e2, evs'⟩]), by rw [← hevs]; rfl, hins.done_f⟩), rfl, hw.pick [5, 1, 3, 4] (by simp) rfl⟩
    | true =>
      (repeat (first | ((refine (?_ : MX _ _ _ _ _ _ _ _ _ _ _)); first | refine mx_end ?_ | (refine mx_mv _ rfl rfl (by conv => {lhs; whnf}) ?_) | (refine mx_fa0 E rfl rfl rfl rfl ?_ ) | (refine g_load rfl ?_; refine mx_get E rfl rfl rfl rfl rfl (by rfl) rfl ?_ ) | (refine g_bin rfl ?_; ( (refine mx_cmpl .lss rfl rfl rfl rfl rfl (by exact cmp_lt_f (by omega) ) ?_) ) ) | (refine mx_nc rfl rfl rfl ?_) | (refine g_bi .len rfl ?_; refine mx_len E rfl rfl rfl rfl ?_) | (refine mx_not rfl rfl rfl ?_) | (refine g_store rfl ?_; refine s_1 E rfl rfl rfl rfl rfl rfl rfl rfl (by exact sp0 ) rfl ?_) ) | refine cw_seq ?_ | refine cw_line rfl ?_ | refine cw_cond_f rfl ?_ | refine cw_skip ?_ | refine cw_exit ?_ | refine pw_then ?_ | refine pw_then_x ?_ | refine pw_block_e ?_ ))
      exact pw_ret0 rfl rfl fun w' hw => ⟨((a2, c2), ⟨(⟨k, e1, e2, evs'⟩, out), by rw [← hevs]; rfl, hins.done_t⟩), rfl, hw.pick [4, 0, 2, 3] (by simp) rfl⟩
  refine cw_know (p := ∃ b, a0 = some ⟨b, 0, none⟩) (fun w hw => by obtain ⟨b, e, _⟩ := (own_at (hw.holds 5 _ rfl)).2.1 (by omega); exact ⟨b, e⟩) (fun hb => ?_)
  obtain ⟨b, rfl⟩ := hb
  refine cw_ex (fun rest => [ownd a2 c2 86 2 out.length (out.flatMap cRW), row br 86 [.int .i64 k, .slice e1 evs'.length e2], ownd e1 e2 49 5 evs'.length (evs'.flatMap cEV), allK evs', row bx 83 [.slice (some ⟨b, 0, none⟩) R.length c0], row b 86 (R.flatMap cRW ++ rest)]) _ (fun w hw => (ok_open 5 rfl hw).imp fun rest h => ⟨h.1, h.2⟩) (fun rest he => ?_)
  obtain ⟨x, hx⟩ := getElem_some (xs := R) (i := i) (by omega)
  have hrk : (R.flatMap cRW ++ rest)[0 + i * 2]? = some (.int .i64 x.k) := rd_at len_RW hx (o := 0) (show 0 < 2 by omega) rfl rest (by omega)
  have hrv : Vr (R.flatMap cRW ++ rest) (0 + i * 2) 2 (cRW x) := vr_row len_RW hx rest (by omega)
  have htk : R.take (i + 1) = R.take i ++ [x] := by rw [List.take_add_one, hx]; rfl
  cases laid with
  | true =>
    (repeat (first | ((refine (?_ : MX _ _ _ _ _ _ _ _ _ _ _)); first | refine mx_end ?_ | (refine mx_mv _ rfl rfl (by conv => {lhs; whnf}) ?_) | (refine mx_fa0 E rfl rfl rfl rfl ?_ ) | (refine g_load rfl ?_; first | refine mx_get E rfl rfl rfl rfl rfl (by first | assumption | rfl) rfl ?_ | refine mx_getn E rfl rfl rfl rfl rfl (by assumption ) rfl ?_ ) | (refine g_bin rfl ?_; ( (refine mx_cmpl .lss rfl rfl rfl rfl rfl (by exact cmp_lt_t (by omega) ) ?_) ) ) | (refine g_ix rfl ?_; refine mx_ixsn E rfl rfl rfl rfl rfl rfl (by omega) rfl ?_ ) | (refine mx_nc rfl rfl rfl ?_) | (refine g_bi .len rfl ?_; refine mx_len E rfl rfl rfl rfl ?_) | (refine mx_not rfl rfl rfl ?_) | (refine mx_skip rfl rfl rfl ?_) | (refine g_pick rfl ?_; refine mx_andf rfl rfl rfl rfl rfl ?_ ) ) | refine cw_seq ?_ | refine cw_line rfl ?_ | refine cw_block ?_ | refine cw_cond_f rfl ?_ | refine cw_cond_t rfl ?_ | refine cw_skip ?_ | refine pw_then ?_ ))
    refine g_bs rfl ?_; refine a_bslice1 E rfl rfl rfl rfl (us := cRW x) rfl rfl rfl rfl rfl rfl (fun b9 => ?_); refine g_bi .append rfl ?_; refine a_app E rfl rfl rfl rfl rfl rfl rfl rfl (cRW x) rfl (fun w hw => fun _ => ⟨b9, 0, rfl, fun j u hj => by rw [add_at, Nat.zero_add]; exact row_cell (hw.holds 0 _ rfl) hj⟩) rfl (by omega) rfl (fun _ _ _ _ => trivial) (fun a3 c3 => ?_)
    rw [fm_snoc out x]
    have hlo : out.length + 1 = (out ++ [x]).length := by simp
    rw [hlo]
    (repeat (first | ((refine (?_ : MX _ _ _ _ _ _ _ _ _ _ _)); first | refine mx_end ?_ | (refine mx_mv _ rfl rfl (by conv => {lhs; whnf}) ?_) | (refine mx_as _ rfl rfl (by conv => {lhs; whnf}) ?_) | (refine g_bin rfl ?_; ( refine mx_ar rfl rfl rfl rfl rfl rfl (IntWalk.i64_in _ (by omega)) rfl ?_ ) ) ) | refine cw_line rfl ?_ | refine pw_then ?_ | refine pw_block ?_ ))
    have hI : i + 1 ≤ R.length ∧ Ins ⟨k, e1, e2, evs'⟩ (R.take (i + 1)) true (out ++ [x]) ∧ (out ++ [x]).length ≤ i + 1 + 1 := ⟨by omega, by rw [htk]; exact hins.more, by simp; omega⟩
    exact pw_round ((i + 1, true), (a3, c3), out ++ [x]) hI (by show R.length - (i + 1) < R.length - i; omega) ⟨rfl, rfl, rfl, rfl, rfl, rfl, trivial⟩ (fun w h => ok_close (cap := c0) (z := 2) (len := R.length) (H := [ownd a3 c3 86 2 (out ++ [x]).length ((out ++ [x]).flatMap cRW), row br 86 [.int .i64 k, .slice e1 evs'.length e2], ownd e1 e2 49 5 evs'.length (evs'.flatMap cEV), allK evs', row bx 83 [.slice (some ⟨b, 0, none⟩) R.length c0], row b 86 (R.flatMap cRW ++ rest)]) 5 rfl he.1 he.2.1 he.2.2.1 he.2.2.2 (h.pick [1, 2, 3, 4, 5, 6] (by simp) rfl))
  | false =>
    by_cases hk : k < x.k
    · (repeat (first | ((refine (?_ : MX _ _ _ _ _ _ _ _ _ _ _)); first | refine mx_end ?_ | (refine mx_mv _ rfl rfl (by conv => {lhs; whnf}) ?_) | (refine mx_fa0 E rfl rfl rfl rfl ?_ ) | (refine g_load rfl ?_; first | refine mx_get E rfl rfl rfl rfl rfl (by first | assumption | rfl) rfl ?_ | refine mx_getn E rfl rfl rfl rfl rfl (by exact Vr.all rfl ) rfl ?_ ) | (refine g_bin rfl ?_; (first | (refine mx_cmpl .lss rfl rfl rfl rfl rfl (by exact cmp_lt_t (by omega) ) ?_) | (refine mx_cmpl .gtr rfl rfl rfl rfl rfl (by exact cmp_gt_t (by omega) ) ?_) ) ) | (refine g_ix rfl ?_; refine mx_ixsn E rfl rfl rfl rfl rfl rfl (by omega) rfl ?_ ) | (refine mx_nc rfl rfl rfl ?_) | (refine g_bi .len rfl ?_; refine mx_len E rfl rfl rfl rfl ?_) | (refine mx_not rfl rfl rfl ?_) | (refine g_pick rfl ?_; refine mx_and rfl rfl rfl rfl rfl rfl ?_ ) ) | refine cw_seq ?_ | refine cw_line rfl ?_ | refine cw_block ?_ | refine cw_cond_t rfl ?_ | refine cw_skip ?_ | refine pw_then ?_ ))
      refine g_bs rfl ?_; refine a_bslice1 E rfl rfl rfl rfl (us := cRW (⟨k, e1, e2, evs'⟩ : WE)) rfl rfl rfl rfl rfl rfl (fun b9 => ?_); refine g_bi .append rfl ?_; refine a_app E rfl rfl rfl rfl rfl rfl rfl rfl (cRW (⟨k, e1, e2, evs'⟩ : WE)) rfl (fun w hw => fun _ => ⟨b9, 0, rfl, fun j u hj => by rw [add_at, Nat.zero_add]; exact row_cell (hw.holds 0 _ rfl) hj⟩) rfl (by omega) rfl (fun _ _ _ _ => trivial) (fun a3 c3 => ?_)
      rw [fm_snoc out ⟨k, e1, e2, evs'⟩]
      have hlo : out.length + 1 = (out ++ [(⟨k, e1, e2, evs'⟩ : WE)]).length := by simp
      rw [hlo]
      have hol2 : (out ++ [(⟨k, e1, e2, evs'⟩ : WE)]).length ≤ 2000 := by simp; omega
      generalize hout : out ++ [(⟨k, e1, e2, evs'⟩ : WE)] = out2 at *
      (repeat (first | ((refine (?_ : MX _ _ _ _ _ _ _ _ _ _ _)); first | refine mx_end ?_ | (refine mx_mv _ rfl rfl (by conv => {lhs; whnf}) ?_) | (refine mx_as _ rfl rfl (by conv => {lhs; whnf}) ?_) | (refine mx_fa0 E rfl rfl rfl rfl ?_ ) | (refine g_load rfl ?_; first | refine mx_get E rfl rfl rfl rfl rfl (by first | assumption | rfl) rfl ?_ | refine mx_getn E rfl rfl rfl rfl rfl (by assumption ) rfl ?_ ) | (refine g_ix rfl ?_; refine mx_ixsn E rfl rfl rfl rfl rfl rfl (by omega) rfl ?_ ) | (refine mx_nc rfl rfl rfl ?_) ) | refine cw_line rfl ?_ | refine pw_then ?_ ))
      refine g_bs rfl ?_; refine a_bslice1 E rfl rfl rfl rfl (us := cRW x) rfl rfl rfl rfl rfl rfl (fun b9 => ?_); refine g_bi .append rfl ?_; refine a_app E rfl rfl rfl rfl rfl rfl rfl rfl (cRW x) rfl (fun w hw => fun _ => ⟨b9, 0, rfl, fun j u hj => by rw [add_at, Nat.zero_add]; exact row_cell (hw.holds 0 _ rfl) hj⟩) rfl (by omega) rfl (fun _ _ _ _ => trivial) (fun a4 c4 => ?_)
      rw [fm_snoc out2 x]
      have hlo2 : out2.length + 1 = (out2 ++ [x]).length := by simp
      rw [hlo2]
      (repeat (first | ((refine (?_ : MX _ _ _ _ _ _ _ _ _ _ _)); first | refine mx_end ?_ | (refine mx_mv _ rfl rfl (by conv => {lhs; whnf}) ?_) | (refine mx_as _ rfl rfl (by conv => {lhs; whnf}) ?_) | (refine g_bin rfl ?_; ( refine mx_ar rfl rfl rfl rfl rfl rfl (IntWalk.i64_in _ (by omega)) rfl ?_ ) ) ) | refine cw_line rfl ?_ | refine pw_then ?_ | refine pw_block ?_ ))
      have hI : i + 1 ≤ R.length ∧ Ins ⟨k, e1, e2, evs'⟩ (R.take (i + 1)) true (out2 ++ [x]) ∧ (out2 ++ [x]).length ≤ i + 1 + 1 := ⟨by omega, by rw [htk, ← hout]; exact hins.gt hk, by
        have h5 : out.length ≤ i := by
          obtain ⟨A, B, h6, h7, h8, h9⟩ := hins.ex
          obtain ⟨rfl, rfl⟩ := h8 rfl
          have := congrArg List.length h6
          simp at this
          omega
        rw [← hout]; simp; omega⟩
      exact pw_round ((i + 1, true), (a4, c4), out2 ++ [x]) hI (by show R.length - (i + 1) < R.length - i; omega) ⟨rfl, rfl, rfl, rfl, rfl, rfl, trivial⟩ (fun w h => ok_close (cap := c0) (z := 2) (len := R.length) (H := [ownd a4 c4 86 2 (out2 ++ [x]).length ((out2 ++ [x]).flatMap cRW), row br 86 [.int .i64 k, .slice e1 evs'.length e2], ownd e1 e2 49 5 evs'.length (evs'.flatMap cEV), allK evs', row bx 83 [.slice (some ⟨b, 0, none⟩) R.length c0], row b 86 (R.flatMap cRW ++ rest)]) 5 rfl he.1 he.2.1 he.2.2.1 he.2.2.2 (h.pick [2, 3, 4, 5, 6, 7] (by simp) rfl))
    · (repeat (first | ((refine (?_ : MX _ _ _ _ _ _ _ _ _ _ _)); first | refine mx_end ?_ | (refine mx_mv _ rfl rfl (by conv => {lhs; whnf}) ?_) | (refine mx_fa0 E rfl rfl rfl rfl ?_ ) | (refine g_load rfl ?_; first | refine mx_get E rfl rfl rfl rfl rfl (by first | assumption | rfl) rfl ?_ | refine mx_getn E rfl rfl rfl rfl rfl (by assumption ) rfl ?_ ) | (refine g_bin rfl ?_; (first | (refine mx_cmpl .lss rfl rfl rfl rfl rfl (by exact cmp_lt_t (by omega) ) ?_) | (refine mx_cmpl .gtr rfl rfl rfl rfl rfl (by exact cmp_gt_f (by omega) ) ?_) ) ) | (refine g_ix rfl ?_; refine mx_ixsn E rfl rfl rfl rfl rfl rfl (by omega) rfl ?_ ) | (refine mx_nc rfl rfl rfl ?_) | (refine g_bi .len rfl ?_; refine mx_len E rfl rfl rfl rfl ?_) | (refine mx_not rfl rfl rfl ?_) | (refine g_pick rfl ?_; refine mx_and rfl rfl rfl rfl rfl rfl ?_ ) ) | refine cw_seq ?_ | refine cw_line rfl ?_ | refine cw_block ?_ | refine cw_cond_f rfl ?_ | refine cw_cond_t rfl ?_ | refine cw_skip ?_ | refine pw_then ?_ ))
      refine g_bs rfl ?_; refine a_bslice1 E rfl rfl rfl rfl (us := cRW x) rfl rfl rfl rfl rfl rfl (fun b9 => ?_); refine g_bi .append rfl ?_; refine a_app E rfl rfl rfl rfl rfl rfl rfl rfl (cRW x) rfl (fun w hw => fun _ => ⟨b9, 0, rfl, fun j u hj => by rw [add_at, Nat.zero_add]; exact row_cell (hw.holds 0 _ rfl) hj⟩) rfl (by omega) rfl (fun _ _ _ _ => trivial) (fun a3 c3 => ?_)
      rw [fm_snoc out x]
      have hlo : out.length + 1 = (out ++ [x]).length := by simp
      rw [hlo]
      (repeat (first | ((refine (?_ : MX _ _ _ _ _ _ _ _ _ _ _)); first | refine mx_end ?_ | (refine mx_mv _ rfl rfl (by conv => {lhs; whnf}) ?_) | (refine mx_as _ rfl rfl (by conv => {lhs; whnf}) ?_) | (refine g_bin rfl ?_; ( refine mx_ar rfl rfl rfl rfl rfl rfl (IntWalk.i64_in _ (by omega)) rfl ?_ ) ) ) | refine cw_line rfl ?_ | refine pw_then ?_ | refine pw_block ?_ ))
      have hI : i + 1 ≤ R.length ∧ Ins ⟨k, e1, e2, evs'⟩ (R.take (i + 1)) false (out ++ [x]) ∧ (out ++ [x]).length ≤ i + 1 + 1 := ⟨by omega, by rw [htk]; exact hins.le (by show x.k ≤ k; omega), by simp; omega⟩
      exact pw_round ((i + 1, false), (a3, c3), out ++ [x]) hI (by show R.length - (i + 1) < R.length - i; omega) ⟨rfl, rfl, rfl, rfl, rfl, rfl, trivial⟩ (fun w h => ok_close (cap := c0) (z := 2) (len := R.length) (H := [ownd a3 c3 86 2 (out ++ [x]).length ((out ++ [x]).flatMap cRW), row br 86 [.int .i64 k, .slice e1 evs'.length e2], ownd e1 e2 49 5 evs'.length (evs'.flatMap cEV), allK evs', row bx 83 [.slice (some ⟨b, 0, none⟩) R.length c0], row b 86 (R.flatMap cRW ++ rest)]) 5 rfl he.1 he.2.1 he.2.2.1 he.2.2.2 (h.pick [1, 2, 3, 4, 5, 6] (by simp) rfl))
end Go.Proofs.Ytikdbgheefjpkaa
