/- The program's watch: Add. -/
import Derived.Test.YtikdbgheefjpkaaKg
set_option maxRecDepth 100000
set_option maxHeartbeats 8000000
set_option linter.unusedSimpArgs false
set_option linter.unusedVariables false
namespace Go.Proofs.Ytikdbgheefjpkaa
open Go Go.Sx Go.RowKit
theorem clone51 (ad : Option Addr) (cap : Nat) (xs : List EV) (hs : xs.length ≤ 1000000) (w : World) (hl : InL w ad 5 cEV xs) :
    Calls Try.prog 51 #[.slice ad xs.length cap] w fun e w' => ∃ a : Option Addr × Nat, e = .returned (.slice a.1 xs.length a.2) ∧ Ok (domL []) w [ownd a.1 a.2 49 5 xs.length (xs.flatMap cEV)] w' := by
  have hno : ∀ b, ¬ (domL [] : Nat → Prop) b := fun b ⟨j, r, h, _⟩ => by simp at h
  refine enter1 (S := domL []) 8 Try.func51 rfl rfl rfl (Ok.start w) ?_
  refine cw_seq ?_; refine cw_line rfl ?_; (repeat (first | ((refine (?_ : MX _ _ _ _ _ _ _ _ _ _ _)); first | refine mx_end ?_ | (refine mx_as _ rfl rfl (by conv => {lhs; whnf}) ?_) ) | refine pw_then ?_))
  refine cw_seq ?_
  refine cw_seq ?_
  refine cw_line rfl ?_
  refine mx_mv _ rfl rfl (by conv => {lhs; whnf}) ?_
  refine mx_nils E rfl rfl rfl rfl rfl rfl rfl ?_
  cases ad with
  | none =>
    have hx : xs = [] := by
      cases xs with
      | nil => rfl
      | cons x xs => obtain ⟨b, off, e, _⟩ := hl (by simp); cases e
    subst hx
    (repeat (first | ((refine (?_ : MX _ _ _ _ _ _ _ _ _ _ _)); first | refine mx_end ?_ | (refine mx_as _ rfl rfl (by conv => {lhs; whnf}) ?_) ) | refine cw_seq ?_ | refine cw_line rfl ?_ | refine cw_cond_t rfl ?_ | refine cw_ret ?_ | refine pw_then ?_ | refine pw_then_r ?_ ))
    refine pw_weak (H' := [ownd none 0 49 5 0 []]) (fun w h => h.own_nil _ _) ?_
    exact pw_ret rfl rfl rfl rfl fun w' hw => ⟨(none, 0), rfl, hw⟩
  | some a =>
    (repeat (first | ((refine (?_ : MX _ _ _ _ _ _ _ _ _ _ _)); first | refine mx_end ?_ | (refine mx_mv _ rfl rfl (by conv => {lhs; whnf}) ?_) | (refine g_bs rfl ?_; refine a_bs0 E rfl rfl rfl rfl rfl rfl (fun _ => ?_) ) ) | refine cw_seq ?_ | refine cw_line rfl ?_ | refine cw_cond_f rfl ?_ | refine cw_skip ?_ | refine pw_then ?_ ))
    refine g_bi .append rfl ?_
    refine a_app E rfl rfl rfl rfl rfl rfl rfl rfl (xs.flatMap cEV) (by rw [flatMap_len len_EV]) (fun w hw => (hl.keep' hw fun _ _ _ _ => hno _).src len_EV) (one_fm (fun _ => rfl) xs) (by omega) rfl (fun _ _ _ _ => trivial) (fun a2 c2 => ?_)
    rw [List.nil_append, Nat.zero_add]
    (repeat (first | ((refine (?_ : MX _ _ _ _ _ _ _ _ _ _ _)); first | refine mx_end ?_ | (refine mx_as _ rfl rfl (by conv => {lhs; whnf}) ?_) ) | refine cw_ret ?_ | refine pw_then ?_ ))
    exact pw_ret rfl rfl rfl rfl fun w' hw => ⟨(a2, c2), rfl, hw.only 0 rfl⟩
theorem fnd_none {k : Int} : ∀ {l : List WE} {i : Nat}, fnd k (l.map wV) i = none → ∀ e ∈ l, e.k ≠ k
  | [], _, _, _, he => by simp at he
  | x :: l, i, h, e, he => by
    rw [List.map_cons] at h
    unfold fnd at h
    split at h
    · cases h
    · rename_i hx
      rcases List.mem_cons.1 he with rfl | he
      · exact hx
      · exact fnd_none h e he
theorem fnd_some {k : Int} {l : List WE} {q : Nat} {v : Value} (h : fnd k (l.map wV) 0 = some (q, v)) : ∃ x, l[q]? = some x ∧ x.k = k := by
  have h1 := (fnd_at k _ 0 q v h).2.2
  rw [Nat.sub_zero, List.getElem?_map] at h1
  cases hx : l[q]? with
  | none => rw [hx] at h1; cases h1
  | some x =>
    rw [hx] at h1
    exact ⟨x, rfl, congrArg Prod.fst (Option.some.inj h1)⟩
/-- What Add leaves. -/
def addV (k : Int) (m : List VE) (L : List (Int × List VE)) : List (Int × List VE) := (L.filter fun p => decide (p.1 ≠ k)) ++ [(k, m)]
theorem vw_filter (k : Int) (l : List WE) : ((l.map WE.vw).filter fun p => decide (p.1 ≠ k)) = (l.filter fun e => decide (e.k ≠ k)).map WE.vw := by
  rw [List.filter_map]
  rfl
theorem put_new (e : WE) (l : List WE) (h : ∀ x ∈ l, x.k ≠ e.k) : ((l ++ [e]).map WE.vw).Perm (addV e.k e.vs (l.map WE.vw)) := by
  unfold addV
  rw [vw_filter, List.filter_eq_self.2 (fun x hx => by simpa using h x hx), List.map_append]
  exact .refl _
theorem put_set (e : WE) (l : List WE) {q : Nat} {x : WE} (hq : l[q]? = some x) (hx : x.k = e.k) (hn : (l.map (·.k)).Nodup) : (l.take q ++ l.drop (q + 1)).Sublist l ∧ ((l.take q ++ l.drop (q + 1)) ++ [e]).Perm (l.set q e) ∧ ((l.set q e).map WE.vw).Perm (addV e.k e.vs (l.map WE.vw)) := by
  obtain ⟨e1, e2⟩ := list_cut hq
  have hp : ((l.take q ++ l.drop (q + 1)) ++ [e]).Perm (l.set q e) := by
    rw [e2 e, List.append_assoc]
    exact List.Perm.append_left _ (List.perm_append_comm (l₂ := [e]))
  have hsub : (l.take q ++ l.drop (q + 1)).Sublist l := by
    conv => rhs; rw [e1]
    exact (List.sublist_cons_self _ _).append_left _
  refine ⟨hsub, hp, ?_⟩
  refine (hp.map _).symm.trans ?_
  unfold addV
  rw [vw_filter, List.map_append]
  have hne : ∀ y ∈ l.take q ++ l.drop (q + 1), y.k ≠ e.k := fun y hy hk => by
    have h1 : (l.map (·.k)) = (l.take q).map (·.k) ++ x.k :: (l.drop (q + 1)).map (·.k) := by conv => lhs; rw [e1]
                                                                                              rw [List.map_append, List.map_cons]
    rw [h1] at hn
    have h2 := (List.perm_middle (a := x.k) (l₁ := (l.take q).map (·.k)) (l₂ := (l.drop (q + 1)).map (·.k))).nodup_iff.1 hn
    have h3 := (List.nodup_cons.1 h2).1
    rw [← List.map_append] at h3
    exact h3 (List.mem_map.2 ⟨y, hy, hk.trans hx.symm⟩)
  have h4 : (l.filter fun y => decide (y.k ≠ e.k)) = l.take q ++ l.drop (q + 1) := by
    conv => lhs; rw [e1]
    rw [List.filter_append, List.filter_cons_of_neg (by simp [hx]), List.filter_eq_self.2 (fun y hy => by simpa using hne y (List.mem_append_left _ hy)), List.filter_eq_self.2 (fun y hy => by simpa using hne y (List.mem_append_right _ hy))]
  rw [h4]
  exact .refl _
theorem ok_put {S : Nat → Prop} {w0 w : World} {H : List Res} {l m : List WE} {e : WE} (hs : m.Sublist l) {l' : List WE} (hp : (m ++ [e]).Perm l') (h : Ok S w0 (ownd e.ad e.cap 49 5 e.evs.length (e.evs.flatMap cEV) :: allK e.evs :: allW l :: H) w) : Ok S w0 (allW l' :: H) w := by
  have h1 := allW_sub hs (h.perm (H' := allW l :: ownd e.ad e.cap 49 5 e.evs.length (e.evs.flatMap cEV) :: allK e.evs :: H) (by
    exact (List.perm_middle (l₁ := [ownd e.ad e.cap 49 5 e.evs.length (e.evs.flatMap cEV), allK e.evs]) (a := allW l) (l₂ := H))))
  exact allW_perm hp (allW_snoc (h1.perm (List.perm_middle (l₁ := [ownd e.ad e.cap 49 5 e.evs.length (e.evs.flatMap cEV), allK e.evs]) (a := allW m) (l₂ := H)).symm))
theorem cw_midb {P : Program} {n : Nat} {st : Slots} {S : Nat → Prop} {w0 : World} {H : List Res} {k : Nat} {Q : Exit → Act → World → Prop} {x y : Code} {ι : Type} (live : ι → Slots) (HH : ι → List Res) (I : ι → Prop) (hx : CW P x (Exit.inBlock k (Exit.then (MidW ι n S w0 live HH I) Q)) n st S w0 H) (hy : ∀ i jk, I i → CW P y Q n (live i ++ jk) S w0 (HH i)) : CW P x (Exit.inBlock k (Exit.then (y.wp P Q) Q)) n st S w0 H := ⟨fun w hw => by
  refine wp_mono (hx.run w hw) fun e a w hq => ?_
  have keyn : ∀ a w, MidW ι n S w0 live HH I a w → y.wp P Q a w := fun a w hq => by
    obtain ⟨i, jk, h1, rfl, h3⟩ := hq
    exact (hy i jk h1).run w h3
  cases e with
  | normal => exact keyn _ _ hq
  | exit id' =>
    simp only [Exit.inBlock] at hq ⊢
    by_cases h : id' = k
    · rw [if_pos h] at hq ⊢; exact keyn _ _ hq
    · rw [if_neg h] at hq ⊢; exact hq
  | _ => exact hq⟩
theorem add16 (bx mp : Nat) (l : List WE) (hn : (l.map (·.k)).Nodup) (k : Int) (ad : Option Addr) (cap : Nat) (evs : List EV) (hs : evs.length ≤ 1000) (w : World) (hd : ∀ w', Chg (domL (OW bx mp l)) w w' → EvR w' ad evs) (h0 : Ok (domL (OW bx mp l)) w (OW bx mp l) w) :
    Calls Try.prog 16 #[.pointer (some ⟨bx, 0, none⟩), .int .i64 k, .slice ad evs.length cap] w fun e w' => ∃ a : {l' : List WE // (l'.map WE.vw).Perm (addV k (evs.map EV.v) (l.map WE.vw))}, e = .returned (.tuple #[]) ∧ Ok (domL (OW bx mp l)) w (OW bx mp a.1) w' := by
  refine enter3 (S := domL (OW bx mp l)) (H := [row bx 80 [.map (some mp)], mapR mp (l.map wV), allW l]) 32 Try.func16 rfl rfl rfl h0 ?_
  (repeat (first | ((refine (?_ : MX _ _ _ _ _ _ _ _ _ _ _)); (refine mx_mv _ rfl rfl (by conv => {lhs; whnf}) ?_) ) | refine cw_seq ?_ | refine cw_line rfl ?_ ))
  refine g_cf 51 rfl ?_
  refine a_cn1 rfl rfl rfl rfl Try.func51 rfl rfl rfl (fun a : Option Addr × Nat => .slice a.1 evs.length a.2) (fun a => ownd a.1 a.2 49 5 evs.length (evs.flatMap cEV)) (fun w' hw => clone51 ad cap evs (by omega) w' (hd w' hw.keep).l) (fun _ => rfl) (fun _ _ _ => trivial) (fun qa => ?_)
  obtain ⟨a1, c1⟩ := qa
  dsimp only
  refine mx_weak (H' := [ownd a1 c1 49 5 evs.length (evs.flatMap cEV), row bx 80 [.map (some mp)], mapR mp (l.map wV), allW l]) (fun w h => h) (fun _ _ => trivial) ?_
  (repeat (first | ((refine (?_ : MX _ _ _ _ _ _ _ _ _ _ _)); first | refine mx_end ?_ | (refine mx_mv _ rfl rfl (by conv => {lhs; whnf}) ?_) | (refine mx_as _ rfl rfl (by conv => {lhs; whnf}) ?_) | (refine g_bi .len rfl ?_; refine mx_len E rfl rfl rfl rfl ?_) ) | refine cw_seq ?_ | refine cw_line rfl ?_ | refine cw_block ?_ | refine pw_then ?_ ))
  refine cw_midb (ι := List EV) (fun dn => [(6, .slice a1 evs.length c1), (0, .pointer (some ⟨bx, 0, none⟩)), (1, .int .i64 k)]) (fun dn => [ownd a1 c1 49 5 dn.length (dn.flatMap cEV), allK dn, row bx 80 [.map (some mp)], mapR mp (l.map wV), allW l]) (fun dn => dn.map EV.v = evs.map EV.v) ?_ ?_
  · rcases Nat.eq_zero_or_pos evs.length with hz | hz
    · obtain rfl := List.eq_nil_of_length_eq_zero hz
      refine cw_loop (fun i : Nat => [(12, .int .i64 i), (11, .int .i64 0), (6, .slice a1 0 c1), (0, .pointer (some ⟨bx, 0, none⟩)), (1, .int .i64 k)]) (fun i => [ownd a1 c1 49 5 0 [], row bx 80 [.map (some mp)], mapR mp (l.map wV), allW l]) (fun i => i = 0) (fun i => 0) 0 rfl ⟨rfl, rfl, rfl, rfl, rfl, trivial⟩ (fun w h => h) ?_
      rintro i jk rfl
      have hne : ¬ (((0 : Nat) : Int) < 0) := by omega
      (repeat (first | ((refine (?_ : MX _ _ _ _ _ _ _ _ _ _ _)); first | refine mx_end ?_ | (refine g_bin rfl ?_; ( (refine mx_cmpl .lss rfl rfl rfl rfl rfl (by exact cmp_lt_f (by omega) ) ?_) ) ) ) | refine cw_seq ?_ | refine cw_line rfl ?_ | refine cw_cond_f rfl ?_ | refine cw_exit ?_ | refine pw_then ?_ | refine pw_then_x ?_ | refine pw_block_e ?_ ))
      exact pw_mid ([] : List EV) rfl ⟨rfl, rfl, rfl, trivial⟩ (fun w h => (allK_nil h).pick [1, 0, 2, 3, 4] (by simp) rfl)
    refine cw_know (p := ∃ b, a1 = some ⟨b, 0, none⟩) (fun w hw => by obtain ⟨b, e, _⟩ := (own_at (hw.holds 0 _ rfl)).2.1 (by omega); exact ⟨b, e⟩) (fun hb => ?_)
    obtain ⟨b, rfl⟩ := hb
    refine cw_ex (fun rest => [row b 49 (evs.flatMap cEV ++ rest), row bx 80 [.map (some mp)], mapR mp (l.map wV), allW l]) _ (fun w hw => (ok_open 0 rfl hw).imp fun rest h => ⟨h.1, h.2⟩) (fun rest he => ?_)
    refine cw_loop (ι := Nat × List EV) (fun q => [(12, .int .i64 q.1), (11, .int .i64 evs.length), (6, .slice (some ⟨b, 0, none⟩) evs.length c1), (0, .pointer (some ⟨bx, 0, none⟩)), (1, .int .i64 k)]) (fun q => [row b 49 ((q.2 ++ evs.drop q.1).flatMap cEV ++ rest), allK q.2, row bx 80 [.map (some mp)], mapR mp (l.map wV), allW l]) (fun q => q.1 ≤ evs.length ∧ q.2.map EV.v = (evs.take q.1).map EV.v) (fun q => evs.length - q.1) (0, []) ⟨Nat.zero_le _, rfl⟩ ⟨rfl, rfl, rfl, rfl, rfl, trivial⟩ (fun w h => (allK_nil h).pick [1, 0, 2, 3, 4] (by simp) rfl) ?_
    rintro ⟨i, dn⟩ jk ⟨hi, hdn⟩
    dsimp only at hi hdn ⊢
    have hdl : dn.length = i := by have := congrArg List.length hdn; simp at this; omega
    by_cases h1 : (i : Int) < evs.length
    case neg =>
      obtain rfl : i = evs.length := by omega
      rw [List.take_length] at hdn
      (repeat (first | ((refine (?_ : MX _ _ _ _ _ _ _ _ _ _ _)); first | refine mx_end ?_ | (refine g_bin rfl ?_; ( (refine mx_cmpl .lss rfl rfl rfl rfl rfl (by exact cmp_lt_f (by omega) ) ?_) ) ) ) | refine cw_seq ?_ | refine cw_line rfl ?_ | refine cw_cond_f rfl ?_ | refine cw_exit ?_ | refine pw_then ?_ | refine pw_then_x ?_ | refine pw_block_e ?_ ))
      refine pw_mid dn hdn ⟨rfl, rfl, rfl, trivial⟩ (fun w h => ?_)
      rw [List.drop_length, List.append_nil] at h
      have h2 := ok_close (cap := c1) (z := 5) (len := dn.length) 0 rfl (flatMap_len len_EV dn) (by have := he.2.1; rw [List.length_append] at this ⊢; rw [flatMap_len len_EV, hdl]; rw [flatMap_len len_EV] at this; exact this) (by have := he.2.2.1; omega) he.2.2.2 h
      exact h2
    obtain ⟨x, hx⟩ := getElem_some (xs := evs) (i := i) (by omega)
    have hdr : evs.drop i = x :: evs.drop (i + 1) := by
      rw [List.drop_eq_getElem_cons (by omega)]
      congr 1
      exact (List.getElem?_eq_some_iff.1 hx).2
    rw [hdr]
    generalize htl : evs.drop (i + 1) = tl
    have hrk : ((dn ++ x :: tl).flatMap cEV ++ rest)[0 + i * 5 + 4]? = some (.slice x.ka x.v.key.length x.kc) := rd_at len_EV (xs := dn ++ x :: tl) (j := dn.length) (x := x) (by simp) (show 4 < 5 by omega) rfl rest (by omega)
    have hxm := List.mem_of_getElem? hx
    (repeat (first | ((refine (?_ : MX _ _ _ _ _ _ _ _ _ _ _)); first | refine mx_end ?_ | (refine mx_mv _ rfl rfl (by conv => {lhs; whnf}) ?_) | (refine mx_as _ rfl rfl (by conv => {lhs; whnf}) ?_) | ( refine mx_fa E rfl rfl rfl rfl ?_) | (refine g_load rfl ?_; refine mx_get E rfl rfl rfl rfl rfl (by assumption ) rfl ?_ ) | (refine g_bin rfl ?_; ( (refine mx_cmpl .lss rfl rfl rfl rfl rfl (by exact cmp_lt_t (by omega) ) ?_) ) ) | (refine g_ix rfl ?_; refine mx_ixsn E rfl rfl rfl rfl rfl rfl (by omega) rfl ?_ ) ) | refine cw_seq ?_ | refine cw_line rfl ?_ | refine cw_block ?_ | refine cw_cond_t rfl ?_ | refine cw_skip ?_ | refine pw_then ?_ ))
    refine g_cf 52 rfl ?_
    refine a_cn1 rfl rfl rfl rfl Try.func52 rfl rfl rfl (fun a : Option Addr × Nat => .slice a.1 x.v.key.length a.2) (fun a => ownd a.1 a.2 5 1 x.v.key.length (x.v.key.flatMap cU)) (fun w' hw => clone52 x.ka x.kc x.v.key (by have := ((hd w' hw.keep).k x hxm).2.2; omega) w' ((hd w' hw.keep).k x hxm).1) (fun _ => rfl) (fun _ _ _ => trivial) (fun qk => ?_)
    obtain ⟨k1, k2⟩ := qk
    dsimp only
    have hsp : Sp ((dn ++ x :: tl).flatMap cEV ++ rest) (0 + i * 5 + 4) [.slice k1 x.v.key.length k2] ((dn ++ (⟨x.v, k1, k2⟩ : EV) :: tl).flatMap cEV ++ rest) := by
      have h2 := sp_at len_EV (xs := dn ++ x :: tl) (j := dn.length) (x := x) (x' := (⟨x.v, k1, k2⟩ : EV)) (by simp) (o := 4) (us := [.slice k1 x.v.key.length k2]) (Sp.lit rfl rfl) rest (p := 0 + i * 5 + 4) (by omega)
      rwa [set_cat] at h2
    (repeat (first | ((refine (?_ : MX _ _ _ _ _ _ _ _ _ _ _)); first | refine mx_end ?_ | (refine mx_mv _ rfl rfl (by conv => {lhs; whnf}) ?_) | ( refine mx_fa E rfl rfl rfl rfl ?_) | (refine g_bin rfl ?_; ( refine mx_ar rfl rfl rfl rfl rfl rfl (IntWalk.i64_in _ (by omega)) rfl ?_ ) ) | (refine g_ix rfl ?_; refine mx_ixsn E rfl rfl rfl rfl rfl rfl (by omega) rfl ?_ ) | (refine g_store rfl ?_; refine s_1 E rfl rfl rfl rfl rfl rfl rfl rfl (by assumption ) rfl ?_) ) | refine cw_line rfl ?_ | refine pw_then ?_ | refine pw_block ?_ ))
    have hcat : dn ++ (⟨x.v, k1, k2⟩ : EV) :: tl = (dn ++ [(⟨x.v, k1, k2⟩ : EV)]) ++ evs.drop (i + 1) := by rw [htl]; simp
    rw [hcat]
    have hI : i + 1 ≤ evs.length ∧ (dn ++ [(⟨x.v, k1, k2⟩ : EV)]).map EV.v = (evs.take (i + 1)).map EV.v := ⟨by omega, by rw [List.map_append, hdn, List.take_add_one, hx, List.map_append]; rfl⟩
    exact pw_round (i + 1, dn ++ [(⟨x.v, k1, k2⟩ : EV)]) hI (by show evs.length - (i + 1) < evs.length - i; omega) ⟨rfl, rfl, rfl, rfl, rfl, trivial⟩ (fun w h => (allK_snoc (o := (⟨x.v, k1, k2⟩ : EV)) (h.pick (H' := [ownd k1 k2 5 1 x.v.key.length (x.v.key.flatMap cU), allK dn, row b 49 (((dn ++ [(⟨x.v, k1, k2⟩ : EV)]) ++ evs.drop (i + 1)).flatMap cEV ++ rest), row bx 80 [.map (some mp)], mapR mp (l.map wV), allW l]) [0, 2, 1, 3, 4, 5] (by simp) rfl)).pick [1, 0, 2, 3, 4] (by simp) rfl)
  · intro dn jk hdn
    have hdl : dn.length = evs.length := by have := congrArg List.length hdn; simpa using this
    rw [← hdl]
    cases hf : fnd k (l.map wV) 0 with
    | none =>
      (repeat (first | ((refine (?_ : MX _ _ _ _ _ _ _ _ _ _ _)); first | (refine mx_mv _ rfl rfl (by conv => {lhs; whnf}) ?_) | (refine mx_fa0 E rfl rfl rfl rfl ?_ ) | (refine g_load rfl ?_; refine mx_get E rfl rfl rfl rfl rfl (by rfl) rfl ?_ ) | (refine mx_nc rfl rfl rfl ?_) ) | refine cw_line rfl ?_ ))
      refine a_mput (v := .slice a1 dn.length c1) mt78 rfl rfl rfl rfl rfl rfl rfl hf (fun _ _ => trivial) rfl ?_
      have hp := put_new ⟨k, a1, c1, dn⟩ l (fnd_none hf)
      have hm : l.map wV ++ [(k, Value.slice a1 dn.length c1)] = (l ++ [(⟨k, a1, c1, dn⟩ : WE)]).map wV := by rw [List.map_append]; rfl
      rw [hm]
      (repeat (((refine (?_ : MX _ _ _ _ _ _ _ _ _ _ _)); refine mx_end ?_ ) ))
      exact pw_ret0 rfl rfl fun w' hw => ⟨⟨l ++ [(⟨k, a1, c1, dn⟩ : WE)], by rw [← hdn]; exact hp⟩, rfl, (allW_snoc (e := (⟨k, a1, c1, dn⟩ : WE)) (hw.pick (H' := [ownd a1 c1 49 5 dn.length (dn.flatMap cEV), allK dn, allW l, row bx 80 [.map (some mp)], mapR mp ((l ++ [(⟨k, a1, c1, dn⟩ : WE)]).map wV)]) [0, 1, 4, 2, 3] (by simp) rfl)).pick [1, 2, 0] (by simp) rfl⟩
    | some qv =>
      obtain ⟨q, v0⟩ := qv
      obtain ⟨x, hx, hxk⟩ := fnd_some hf
      (repeat (first | ((refine (?_ : MX _ _ _ _ _ _ _ _ _ _ _)); first | (refine mx_mv _ rfl rfl (by conv => {lhs; whnf}) ?_) | (refine mx_fa0 E rfl rfl rfl rfl ?_ ) | (refine g_load rfl ?_; refine mx_get E rfl rfl rfl rfl rfl (by rfl) rfl ?_ ) | (refine mx_nc rfl rfl rfl ?_) ) | refine cw_line rfl ?_ ))
      refine a_mset (v := .slice a1 dn.length c1) mt78 rfl rfl rfl rfl rfl rfl rfl hf (fun _ _ => trivial) rfl ?_
      obtain ⟨hs1, hp1, hp2⟩ := put_set ⟨k, a1, c1, dn⟩ l hx hxk hn
      have hm : (l.map wV).set q (k, Value.slice a1 dn.length c1) = (l.set q (⟨k, a1, c1, dn⟩ : WE)).map wV := by rw [List.map_set]; rfl
      rw [hm]
      (repeat (((refine (?_ : MX _ _ _ _ _ _ _ _ _ _ _)); refine mx_end ?_ ) ))
      exact pw_ret0 rfl rfl fun w' hw => ⟨⟨l.set q (⟨k, a1, c1, dn⟩ : WE), by rw [← hdn]; exact hp2⟩, rfl, (ok_put (e := (⟨k, a1, c1, dn⟩ : WE)) hs1 hp1 (hw.pick (H' := [ownd a1 c1 49 5 dn.length (dn.flatMap cEV), allK dn, allW l, row bx 80 [.map (some mp)], mapR mp ((l.set q (⟨k, a1, c1, dn⟩ : WE)).map wV)]) [0, 1, 4, 2, 3] (by simp) rfl)).pick [1, 2, 0] (by simp) rfl⟩
end Go.Proofs.Ytikdbgheefjpkaa
