/- The walk of the law HashHolds: each key has the cell that it was given last. -/
import Derived.Test.YtminmbkhlnaabaaHn
set_option maxRecDepth 100000
set_option maxHeartbeats 8000000
set_option linter.unusedSimpArgs false
set_option linter.unusedVariables false
namespace Go.Proofs.Ytminmbkhlnaabaa
open Go Go.Sx Go.RowKit
theorem b69 (ad : Option Addr) (m cap : Nat) (c : Int) : Blt Try.prog 69 [(0, .slice ad m cap), (1, .int .i64 c)] [.slice ad m cap, .int .i64 c] := ⟨by kernel_rfl⟩
instance : ZeroT Try.prog 69 [.slice none 0 0, .int .i64 0] := ⟨by kernel_rfl⟩
theorem sp_flat {α : Type} {c : α → List Value} {z : Nat} (hz : ∀ x, (c x).length = z) {us : List Value} {o : Nat} : ∀ {xs : List α} {i : Nat} {x x' : α} {rest : List Value}, xs[i]? = some x → Sp (c x) o us (c x') → Sp (xs.flatMap c ++ rest) (i * z + o) us ((xs.set i x').flatMap c ++ rest)
  | [], i, x, x', rest, h, _ => by simp at h
  | y :: ys, 0, x, x', rest, h, hs => by
    obtain rfl : y = x := by simpa using h
    rw [List.set_cons_zero, List.flatMap_cons, List.flatMap_cons, List.append_assoc, List.append_assoc, Nat.zero_mul, Nat.zero_add]
    exact Sp.left _ hs
  | y :: ys, i + 1, x, x', rest, h, hs => by
    have h' : ys[i]? = some x := by simpa using h
    rw [List.set_cons_succ, List.flatMap_cons, List.flatMap_cons, List.append_assoc, List.append_assoc]
    have := Sp.right (c y) (sp_flat hz (rest := rest) h' hs)
    rw [hz y] at this
    rw [show (i + 1) * z + o = z + (i * z + o) by rw [Nat.add_mul]; omega]
    exact this
theorem row_flat {α : Type} {c : α → List Value} {z : Nat} (hz : ∀ x, (c x).length = z) {xs : List α} {rest : List Value} {i : Nat} {x : α} (hx : xs[i]? = some x) {o : Nat} {v : Value} (ho : o < z) (hv : (c x)[o]? = some v) : (xs.flatMap c ++ rest)[0 + i * z + o]? = some v := by
  have hi := (List.getElem?_eq_some_iff.1 hx).1
  have h1 := flatMap_at hz xs i o x hx ho
  rw [hv] at h1
  rw [Nat.zero_add, List.getElem?_append_left (List.getElem?_eq_some_iff.1 h1).1]
  exact h1
theorem vr_flat {α : Type} {c : α → List Value} {z : Nat} (hz : ∀ x, (c x).length = z) {xs : List α} {rest : List Value} {i : Nat} {x : α} (hx : xs[i]? = some x) : Vr (xs.flatMap c ++ rest) (0 + i * z) z (c x) := by
  refine ⟨⟨?_⟩, hz x⟩
  rw [hz x]
  apply List.ext_getElem?
  intro j
  by_cases hj : j < z
  · rw [List.getElem?_take_of_lt hj, List.getElem?_drop]
    cases hv : (c x)[j]? with
    | none => rw [List.getElem?_eq_none_iff, hz] at hv; omega
    | some v => exact row_flat hz hx hj hv
  · rw [List.getElem?_eq_none (by rw [List.length_take]; omega), List.getElem?_eq_none (by rw [hz]; omega)]
theorem cw_base {P : Program} {c : Code} {Q : Exit → Act → World → Prop} {n : Nat} {st : Slots} {S : Nat → Prop} {w0 : World} {H : List Res} (h : ∀ w, Ok S w0 H w → CW P c Q n st (fun _ => False) w []) : CW P c Q n st S w0 H := ⟨fun w hw => (h w hw).run w (Ok.start w)⟩
theorem at49s (hb : Option Addr) (hc : Nat) (l : List PH) (hs : l.length ≤ 1000000) (hks : ∀ p ∈ l, p.k.length ≤ 1000) (ad : Option Addr) (m cap : Nat) (k : List Int) (hm : k.length = m) (hms : m ≤ 1000000) (hex : ∃ p ∈ l, p.k = k) (w : World) (hl : InL w hb 2 cPH l) (hk : ∀ p ∈ l, InL w p.ka 1 cU p.k) (hkk : InL w ad 1 cU k) :
    Calls Try.prog 49 #[.slice hb l.length hc, .slice ad m cap] w fun e w' => ∃ i : Nat, e = .returned (.int .i64 (i : Int)) ∧ Ok (domL []) w [] w' :=
  (at49 hb hc l hs hks ad m cap k hm hms w hl hk hkk).mono fun e w' ⟨⟨o, ho⟩, h1, h2⟩ => by
    cases o with
    | none => obtain ⟨p, hp, e⟩ := hex; exact absurd e (ho p hp)
    | some i => exact ⟨i, h1, (Ok.start w).grow h2⟩
theorem lawHashHolds (K M : Int) (ad : Option Addr) (cap : Nat) (l : List AH) (w : World) (hl : InL w ad 3 cAH l) (hc : l.length ≤ cap) (hm : cap ≤ maxLen) (ha : ActsH w l) : Calls Try.prog 10 #[.int .i64 K, .int .i64 M, .slice ad l.length cap] w fun e w' => e = .returned (.bool true) ∧ Grow w w' := by
  have hmx : maxLen = 9223372036854775807 := rfl
  obtain ⟨kl, hkl⟩ : ∃ k, (cutH K 16).toNat = k := ⟨_, rfl⟩
  obtain ⟨mx, hmx'⟩ : ∃ k, (cutH M 64).toNat = k := ⟨_, rfl⟩
  have hkl2 : 1 ≤ kl ∧ kl ≤ 16 := by rw [← hkl]; unfold cutH; omega
  have hmx2 : 1 ≤ mx ∧ mx ≤ 64 := by rw [← hmx']; unfold cutH; omega
  have hKe : max 1 (min K 16) = (kl : Int) := by rw [← hkl]; unfold cutH; omega
  have hMe : max 1 (min M 64) = (mx : Int) := by rw [← hmx']; unfold cutH; omega
  refine enter3 (S := fun _ => False) 215 Try.func10 rfl rfl rfl (Ok.start w) ?_
  (repeat (first | ((refine (?_ : MX _ _ _ _ _ _ _ _ _ _ _)); first | refine mx_end ?_ | (refine mx_mv _ rfl rfl (by conv => {lhs; whnf}) ?_) | (refine mx_as _ rfl rfl (by conv => {lhs; whnf}) ?_) ) | refine cw_seq ?_ | refine cw_line rfl ?_ | refine pw_then ?_ ))
  refine g_cf 40 rfl ?_
  refine a_callL rfl rfl rfl rfl Try.func40 rfl rfl rfl [] _ rfl (fun b : {b : Bool // b = false → l.length ≤ 400 ∧ ∀ a ∈ l, a.data.length ≤ 100} => .bool b.1) (fun _ => []) (fun w' hw _ => (long40 ad cap l (Nat.le_trans hc hm) (fun a h => Nat.le_trans (ha a h).2.1 (ha a h).2.2.1) w' (hl.keep hw fun _ _ _ h => h)).mono fun e w'' ⟨b, h1, h2⟩ => ⟨b, h1, (Ok.start w').grow h2⟩) (fun _ => rfl) (fun _ _ _ => trivial) (fun b => ?_)
  obtain ⟨b, hb⟩ := b
  cases b with
  | true =>
    (repeat (first | ((refine (?_ : MX _ _ _ _ _ _ _ _ _ _ _)); refine mx_end ?_ ) | refine cw_seq ?_ | refine cw_line rfl ?_ | refine cw_cond_t rfl ?_ | refine pw_then ?_ ))
    refine g_cf 29 rfl ?_
    refine a_callv rfl rfl rfl rfl Try.func29 rfl rfl rfl (.bool true) (fun w' hw => works29 w') rfl ?_
    (repeat (first | ((refine (?_ : MX _ _ _ _ _ _ _ _ _ _ _)); first | refine mx_end ?_ | (refine mx_as _ rfl rfl (by conv => {lhs; whnf}) ?_) ) | refine cw_ret ?_ | refine pw_then ?_ | refine pw_then_r ?_ ))
    exact pw_ret rfl rfl rfl rfl fun w hw => ⟨rfl, hw.keep.grow⟩
  | false =>
  obtain ⟨hl4, hl1⟩ := hb rfl
  (repeat (first | ((refine (?_ : MX _ _ _ _ _ _ _ _ _ _ _)); first | refine mx_end ?_ | (refine mx_mv _ rfl rfl (by conv => {lhs; whnf}) ?_) ) | refine cw_seq ?_ | refine cw_line rfl ?_ | refine cw_cond_f rfl ?_ | refine cw_skip ?_ | refine pw_then ?_ ))
  refine g_cf 34 rfl ?_
  refine a_callL rfl rfl rfl rfl Try.func34 rfl rfl rfl [] _ rfl (fun a : Nat × Nat × Nat × Nat => .pointer (some ⟨a.1, 0, none⟩)) (fun a => OH a.1 a.2.1 a.2.2.1 a.2.2.2 kl mx (noneH kl mx)) (fun w' hw _ => by have := new34 K M w'; rw [hkl, hmx'] at this; exact this) (fun _ => rfl) (fun _ _ _ => trivial) (fun q => ?_)
  obtain ⟨bx, kb, sb, cb⟩ := q
  refine mx_weak (H' := [star (OH bx kb sb cb kl mx (noneH kl mx))]) (fun w h => Ok.star h) (fun _ _ => trivial) ?_
  (repeat (first | ((refine (?_ : MX _ _ _ _ _ _ _ _ _ _ _)); first | refine mx_end ?_ | (refine mx_mv _ rfl rfl (by conv => {lhs; whnf}) ?_) | (refine mx_as _ rfl rfl (by conv => {lhs; whnf}) ?_) | (first | (refine g_bi .max rfl ?_; refine mx_maxi rfl rfl rfl rfl rfl rfl rfl ?_) | (refine g_bi .min rfl ?_; refine mx_mini rfl rfl rfl rfl rfl rfl rfl ?_)) ) | refine cw_seq ?_ | refine cw_line rfl ?_ | refine cw_block ?_ | refine pw_then ?_ ))
  refine cw_loop (ι := Nat × (Option Addr × Nat) × List PH × List PLc) (fun q => [(9, .int .i64 q.1), (8, .slice q.2.1.1 q.2.2.1.length q.2.1.2), (7, .pointer (some ⟨bx, 0, none⟩)), (0, .int .i64 kl), (1, .int .i64 mx), (2, .slice ad l.length cap)]) (fun q => [ownd q.2.1.1 q.2.1.2 69 2 q.2.2.1.length (q.2.2.1.flatMap cPH), phR q.2.2.1, star (OH bx kb sb cb kl mx q.2.2.2)]) (fun q => q.1 ≤ l.length ∧ HL kl mx q.2.2.2 q.2.2.1) (fun q => l.length - q.1) (0, (none, 0), [], noneH kl mx) ⟨Nat.zero_le _, HL.start kl mx hkl2.1 hkl2.2 hmx2.1 hmx2.2⟩ ⟨rfl, rfl, rfl, congrArg (Value.int .i64) hKe, congrArg (Value.int .i64) hMe, rfl, trivial⟩ (fun w h => (h.own_nil 69 2).push (D := fun _ => False) (Chg.rfl' _ _) (fun _ _ h => h) (phR []) (fun q hq => by cases hq) (fun b ⟨q, hq, _⟩ => by cases hq) |>.pick [1, 0, 2] (by simp) rfl) ?_
  rintro ⟨i, ⟨hb, hc⟩, lst, pl⟩ jk ⟨hi1, hI⟩
  dsimp only at hi1 hI ⊢
  have hll := hI.le
  have hkls : ∀ p ∈ lst, p.k.length ≤ 1000 := fun p hp => by have := (hI.ks p hp).1; omega
  by_cases h0 : (i : Int) < l.length
  case neg =>
    (repeat (first | ((refine (?_ : MX _ _ _ _ _ _ _ _ _ _ _)); first | refine mx_end ?_ | (refine mx_mv _ rfl rfl (by conv => {lhs; whnf}) ?_) | (refine g_bin rfl ?_; ( (refine mx_cmpl .lss rfl rfl rfl rfl rfl (by exact cmp_lt_f (by omega) ) ?_) ) ) | (refine g_bi .len rfl ?_; refine mx_len E rfl rfl rfl rfl ?_) ) | refine cw_seq ?_ | refine cw_line rfl ?_ | refine cw_cond_f rfl ?_ | refine cw_exit ?_ | refine pw_then ?_ | refine pw_then_x ?_ | refine pw_block_e ?_ ))
    refine g_cf 45 rfl ?_
    refine a_callL rfl rfl rfl rfl Try.func45 rfl rfl rfl [] _ rfl (fun a : (Option Addr × Nat) × {ts : List TX // ts.map (·.k) = keysH pl} => .slice a.1.1 a.2.1.length a.1.2) (fun a => [ownd a.1.1 a.1.2 22 1 a.2.1.length (a.2.1.flatMap cT), allT a.2.1]) (fun w' hw _ => keys45 bx kb sb cb kl mx pl hI.wf w' (fun r hr => star_holds (hw.holds 2 _ rfl) hr)) (fun _ => rfl) (fun _ _ _ => trivial) (fun qq => ?_)
    obtain ⟨⟨k1, c2⟩, ⟨ts, hts⟩⟩ := qq
    dsimp only [List.cons_append, List.nil_append]
    (repeat (first | ((refine (?_ : MX _ _ _ _ _ _ _ _ _ _ _)); first | refine mx_end ?_ | (refine mx_as _ rfl rfl (by conv => {lhs; whnf}) ?_) ) | refine pw_then ?_))
    refine cw_base fun w1 hw1 => ?_
    have htl : ts.length = lst.length := by
      have h1 := congrArg List.length hts
      rwa [List.length_map, keysH_len, hI.cnt] at h1
    have htn : (ts.map (·.k)).Nodup := by rw [hts]; exact keysH_nodup hI.good
    have htk : ∀ t ∈ ts, ∃ p ∈ lst, p.k = t.k := fun t ht => hI.key (by rw [← hts]; exact List.mem_map.2 ⟨t, ht, rfl⟩)
    have htc : ∀ t ∈ ts, t.k.length ≤ 1000 := fun t ht => by
      obtain ⟨p, hp, e⟩ := htk t ht
      rw [← e]
      exact hkls p hp
    have g1 : InL w1 k1 1 cT ts := own_in len_T (hw1.holds 0 _ rfl) (Nat.le_refl _)
    have g2 : ∀ t ∈ ts, InL w1 t.ad 1 cU t.k := fun t ht => inT (hw1.holds 1 _ rfl) ht
    have g3 : InL w1 hb 2 cPH lst := own_in len_PH (hw1.holds 2 _ rfl) (Nat.le_refl _)
    have g4 : ∀ p ∈ lst, InL w1 p.ka 1 cU p.k := fun p hp => phR_in (hw1.holds 3 _ rfl) hp
    have g5 : ∀ r ∈ OH bx kb sb cb kl mx pl, r.holds w1 ∧ ∀ b, r.dom b → b < w1.heap.size := fun r hr => ⟨star_holds (hw1.holds 4 _ rfl) hr, fun b hb => (hw1.own 4 _ rfl b (domL_of hr hb)).1⟩
    have hgr := hw1.keep
    clear hw1
    have hnb : ∀ b : Nat, ¬ (fun _ : Nat => False) b := fun b h => h
    (repeat (first | ((refine (?_ : MX _ _ _ _ _ _ _ _ _ _ _)); first | refine mx_end ?_ | (refine mx_as _ rfl rfl (by conv => {lhs; whnf}) ?_) ) | refine cw_seq ?_ | refine cw_line rfl ?_ | refine cw_block ?_ | refine pw_then ?_ ))
    refine cw_loop (fun j : Nat => [(16, .int .i64 j), (15, .slice k1 ts.length c2), (8, .slice hb lst.length hc), (7, .pointer (some ⟨bx, 0, none⟩))]) (fun j => []) (fun j => j ≤ ts.length) (fun j => ts.length - j) 0 (Nat.zero_le _) ⟨rfl, rfl, rfl, rfl, trivial⟩ (fun w h => h) ?_
    intro j jk2 hj
    by_cases hj0 : (j : Int) < ts.length
    case pos =>
      obtain ⟨t, ht⟩ := getElem_some (xs := ts) (i := j) (by omega)
      have htm := List.mem_of_getElem? ht
      have htt := htc t htm
      obtain ⟨b6, off6, e6, hc6⟩ := inl_at g1 ht
      subst e6
      have hS6 := hnb b6
      have hc60 : w1.cell? ⟨b6, off6 + j * 1, none⟩ = some (.slice t.ad t.k.length t.cap) := hc6 0 _ rfl
      by_cases hjp : (j : Int) > 0
      · obtain ⟨u, hu⟩ := getElem_some (xs := ts) (i := j - 1) (by omega)
        have hum := List.mem_of_getElem? hu
        have huu := htc u hum
        obtain ⟨b7, off7, e7, hc7⟩ := inl_at g1 hu
        obtain ⟨rfl, rfl⟩ : b6 = b7 ∧ off6 = off7 := by simpa using e7
        have hj1 : (j : Int) - 1 = ((j - 1 : Nat) : Int) := by omega
        have hne : t.k ≠ u.k := fun e => by
          have ha' := (List.getElem?_eq_some_iff.1 ht)
          have hb' := (List.getElem?_eq_some_iff.1 hu)
          have : j = j - 1 := (List.getElem_inj (h₀ := by rw [List.length_map]; exact ha'.1) (h₁ := by rw [List.length_map]; exact hb'.1) htn).1 (by
            rw [List.getElem_map, List.getElem_map, ha'.2, hb'.2]
            exact e)
          omega
        have hc70 : w1.cell? ⟨b6, off6 + (j - 1) * 1, none⟩ = some (.slice u.ad u.k.length u.cap) := hc7 0 _ rfl
        generalize hjm : j - 1 = jm at *
        (repeat (first | ((refine (?_ : MX _ _ _ _ _ _ _ _ _ _ _)); first | refine mx_end ?_ | (refine mx_mv _ rfl rfl (by conv => {lhs; whnf}) ?_) | (refine g_bin rfl ?_; ( (refine mx_cmpl .lss rfl rfl rfl rfl rfl (by exact cmp_lt_t (by omega) ) ?_) ) ) | (refine g_bi .len rfl ?_; refine mx_len E rfl rfl rfl rfl ?_) ) | refine cw_seq ?_ | refine cw_line rfl ?_ | refine cw_block ?_ | refine cw_cond_t rfl ?_ | refine cw_skip ?_ | refine pw_then ?_ ))
        refine cw_drawm [0, 1, 2, 3, 4, 5, 6, 7, 8, 9, 10, 11, 12, 13, 14, 15, 16, 17, 18, 19, 20, 21, 22] (fun i => or (Nat.beq i 5) (Nat.beq i 20)) _ mixed (by kernel_rfl) (fun w h => h.nil) ?_
        (repeat (((refine (?_ : MX _ _ _ _ _ _ _ _ _ _ _)); first | (refine mx_mv _ rfl rfl (by conv => {lhs; whnf}) ?_) | (refine g_load rfl ?_; refine mx_old1 E rfl rfl rfl rfl rfl (by assumption) (by assumption) rfl ?_ ) | (refine g_ix rfl ?_; refine mx_ixsn E rfl rfl rfl rfl rfl rfl (by omega) rfl ?_ ) ) ))
        refine g_cf 49 rfl ?_; refine a_callL rfl rfl rfl rfl Try.func49 rfl rfl rfl [] _ rfl (fun i : Nat => .int .i64 (i : Int)) (fun _ => []) (fun w' hw _ => at49s hb hc lst (by omega) hkls t.ad t.k.length t.cap t.k rfl (by omega) (htk t htm) w' (g3.keep hw fun _ _ _ h => h) (fun p hp => (g4 p hp).keep hw fun _ _ _ h => h) ((g2 t htm).keep hw fun _ _ _ h => h)) (fun _ => rfl) (fun _ w h => h.nil) (fun ix => ?_)
        (repeat (((refine (?_ : MX _ _ _ _ _ _ _ _ _ _ _)); first | (refine mx_mv _ rfl rfl (by conv => {lhs; whnf}) ?_) | (refine g_load rfl ?_; refine mx_old1 E rfl rfl rfl rfl rfl (by assumption) (by assumption) rfl ?_ ) | (refine g_bin rfl ?_; first | (first | (refine mx_cmpl .lss rfl rfl rfl rfl rfl (by first | exact cmp_lt_t (by omega) | exact cmp_lt_f (by omega) ) ?_) | (refine mx_cmpl .gtr rfl rfl rfl rfl rfl (by exact cmp_gt_t (by omega) ) ?_) ) | (refine mx_ar rfl rfl rfl rfl rfl rfl ((IntWalk.i64_in _ (by omega)).trans (by with_reducible assumption)) rfl ?_ ) ) | (refine g_ix rfl ?_; refine mx_ixsn E rfl rfl rfl rfl rfl rfl (by omega) rfl ?_ ) ) ))
        refine g_cf 36 rfl ?_
        refine a_callv rfl rfl rfl rfl Try.func36 rfl rfl rfl (.bool false) (fun w' hw => decide_eq_false hne ▸ sameB t.ad u.ad t.k.length u.k.length t.cap u.cap t.k u.k rfl rfl (by omega) w' ((g2 t htm).keep hw fun _ _ _ h => h) ((g2 u hum).keep hw fun _ _ _ h => h)) rfl ?_
        (repeat (first | ((refine (?_ : MX _ _ _ _ _ _ _ _ _ _ _)); first | refine mx_end ?_ | (refine mx_mv _ rfl rfl (by conv => {lhs; whnf}) ?_) | (refine mx_as _ rfl rfl (by conv => {lhs; whnf}) ?_) | (refine g_bin rfl ?_; ( refine mx_ar rfl rfl rfl rfl rfl rfl (IntWalk.i64_in _ (by omega)) rfl ?_) ) | (refine g_pick rfl ?_; first | refine mx_and rfl rfl rfl rfl rfl rfl ?_ | refine mx_or rfl rfl rfl rfl rfl rfl ?_ ) ) | refine cw_line rfl ?_ | refine cw_cond_f rfl ?_ | refine cw_skip ?_ | refine pw_then ?_ | refine pw_block ?_ ))
        exact pw_round (j + 1) (by omega) (by omega) ⟨rfl, rfl, rfl, rfl, trivial⟩ (fun w h => h)
      · (repeat (first | ((refine (?_ : MX _ _ _ _ _ _ _ _ _ _ _)); first | refine mx_end ?_ | (refine mx_mv _ rfl rfl (by conv => {lhs; whnf}) ?_) | (refine g_bin rfl ?_; ( (refine mx_cmpl .lss rfl rfl rfl rfl rfl (by exact cmp_lt_t (by omega) ) ?_) ) ) | (refine g_bi .len rfl ?_; refine mx_len E rfl rfl rfl rfl ?_) ) | refine cw_seq ?_ | refine cw_line rfl ?_ | refine cw_block ?_ | refine cw_cond_t rfl ?_ | refine cw_skip ?_ | refine pw_then ?_ ))
        refine cw_drawm [0, 1, 2, 3, 4, 5, 6, 7, 8, 9, 10, 11, 12, 13, 14, 15, 16, 17, 18, 19, 20, 21, 22] (fun i => or (Nat.beq i 5) (Nat.beq i 20)) _ mixed (by kernel_rfl) (fun w h => h.nil) ?_
        (repeat (((refine (?_ : MX _ _ _ _ _ _ _ _ _ _ _)); first | (refine mx_mv _ rfl rfl (by conv => {lhs; whnf}) ?_) | (refine g_load rfl ?_; refine mx_old1 E rfl rfl rfl rfl rfl (by assumption) (by assumption) rfl ?_ ) | (refine g_ix rfl ?_; refine mx_ixsn E rfl rfl rfl rfl rfl rfl (by omega) rfl ?_ ) ) ))
        refine g_cf 49 rfl ?_; refine a_callL rfl rfl rfl rfl Try.func49 rfl rfl rfl [] _ rfl (fun i : Nat => .int .i64 (i : Int)) (fun _ => []) (fun w' hw _ => at49s hb hc lst (by omega) hkls t.ad t.k.length t.cap t.k rfl (by omega) (htk t htm) w' (g3.keep hw fun _ _ _ h => h) (fun p hp => (g4 p hp).keep hw fun _ _ _ h => h) ((g2 t htm).keep hw fun _ _ _ h => h)) (fun _ => rfl) (fun _ w h => h.nil) (fun ix => ?_)
        (repeat (first | ((refine (?_ : MX _ _ _ _ _ _ _ _ _ _ _)); first | refine mx_end ?_ | (refine mx_mv _ rfl rfl (by conv => {lhs; whnf}) ?_) | (refine mx_as _ rfl rfl (by conv => {lhs; whnf}) ?_) | (refine g_bin rfl ?_; first | (first | (refine mx_cmpl .lss rfl rfl rfl rfl rfl (by first | exact cmp_lt_t (by omega) | exact cmp_lt_f (by omega) ) ?_) | (refine mx_cmpl .gtr rfl rfl rfl rfl rfl (by first | exact cmp_gt_t (by omega) | exact cmp_gt_f (by omega) ) ?_) ) | ( refine mx_ar rfl rfl rfl rfl rfl rfl (IntWalk.i64_in _ (by omega)) rfl ?_) ) | (refine mx_skip rfl rfl rfl ?_) | (refine g_pick rfl ?_; first | refine mx_andf rfl rfl rfl rfl rfl ?_ | refine mx_or rfl rfl rfl rfl rfl rfl ?_ ) ) | refine cw_line rfl ?_ | refine cw_cond_f rfl ?_ | refine cw_skip ?_ | refine pw_then ?_ | refine pw_block ?_ ))
        exact pw_round (j + 1) (by omega) (by omega) ⟨rfl, rfl, rfl, rfl, trivial⟩ (fun w h => h)
    (repeat (first | ((refine (?_ : MX _ _ _ _ _ _ _ _ _ _ _)); first | refine mx_end ?_ | (refine mx_mv _ rfl rfl (by conv => {lhs; whnf}) ?_) | (refine mx_as _ rfl rfl (by conv => {lhs; whnf}) ?_) | (refine g_bin rfl ?_; ( (refine mx_cmpl .lss rfl rfl rfl rfl rfl (by exact cmp_lt_f (by omega) ) ?_) ) ) | (refine g_bi .len rfl ?_; refine mx_len E rfl rfl rfl rfl ?_) ) | refine cw_seq ?_ | refine cw_line rfl ?_ | refine cw_block ?_ | refine cw_cond_f rfl ?_ | refine cw_exit ?_ | refine pw_then ?_ | refine pw_then_x ?_ | refine pw_block_e ?_ ))
    refine cw_loop (fun j : Nat => [(17, .int .i64 j), (15, .slice k1 ts.length c2), (8, .slice hb lst.length hc), (7, .pointer (some ⟨bx, 0, none⟩))]) (fun j => []) (fun j => j ≤ lst.length) (fun j => lst.length - j) 0 (Nat.zero_le _) ⟨rfl, rfl, rfl, rfl, trivial⟩ (fun w h => h) ?_
    intro j2 jk3 hj2
    by_cases hj20 : (j2 : Int) < lst.length
    case pos =>
      obtain ⟨p, hp⟩ := getElem_some (xs := lst) (i := j2) (by omega)
      have hpm := List.mem_of_getElem? hp
      obtain ⟨hpk1, hpk2⟩ := hI.ks p hpm
      obtain ⟨b8, off8, e8, hc8⟩ := inl_at g3 hp
      subst e8
      have hS8 := hnb b8
      have hc80 : w1.cell? ⟨b8, off8 + j2 * 2, none⟩ = some (.slice p.ka p.k.length p.kc) := hc8 0 _ rfl
      have hc81 : w1.cell? ⟨b8, off8 + j2 * 2 + 1, none⟩ = some (.int .i64 p.c) := hc8 1 _ rfl
      have hfp := hI.f_some hpm
      (repeat (first | ((refine (?_ : MX _ _ _ _ _ _ _ _ _ _ _)); first | refine mx_end ?_ | (refine mx_mv _ rfl rfl (by conv => {lhs; whnf}) ?_) | (refine mx_fa0 E rfl rfl rfl rfl ?_ ) | (refine g_load rfl ?_; refine mx_old1 E rfl rfl rfl rfl rfl (by assumption) (by assumption) rfl ?_ ) | (refine g_bin rfl ?_; ( (refine mx_cmpl .lss rfl rfl rfl rfl rfl (by exact cmp_lt_t (by omega) ) ?_) ) ) | (refine g_ix rfl ?_; refine mx_ixsn E rfl rfl rfl rfl rfl rfl (by omega) rfl ?_ ) | (refine g_bi .len rfl ?_; refine mx_len E rfl rfl rfl rfl ?_) ) | refine cw_seq ?_ | refine cw_line rfl ?_ | refine cw_block ?_ | refine cw_cond_t rfl ?_ | refine cw_skip ?_ | refine pw_then ?_ ))
      refine g_cf 39 rfl ?_
      refine a_callv rfl rfl rfl rfl Try.func39 rfl rfl rfl (.tuple #[.int .i64 p.c, .bool true]) (fun w' hw => by
        have h := find39 bx kb sb cb kl mx pl hI.wf p.ka p.k.length p.kc p.k hpk2 rfl (by omega) w' (fun r hr => r.loc w1 w' (fun b hb => hw.keep.old b ((g5 r hr).2 b hb) id) (g5 r hr).1) ((g4 p hpm).keep hw fun _ _ _ h => h)
        rwa [hfp] at h) rfl ?_
      (repeat (first | ((refine (?_ : MX _ _ _ _ _ _ _ _ _ _ _)); first | refine mx_end ?_ | (refine mx_mv _ rfl rfl (by conv => {lhs; whnf}) ?_) | (refine mx_as _ rfl rfl (by conv => {lhs; whnf}) ?_) | ( refine mx_fa E rfl rfl rfl rfl ?_) | (refine g_load rfl ?_; refine mx_old1 E rfl rfl rfl rfl rfl (by assumption) (by assumption) rfl ?_ ) | (refine g_bin rfl ?_; first | ( (refine mx_cmpl .neq rfl rfl rfl rfl rfl (by exact cmp_ne_f (by omega) ) ?_) ) | ( refine mx_ar rfl rfl rfl rfl rfl rfl (IntWalk.i64_in _ (by omega)) rfl ?_) ) | (refine g_ix rfl ?_; refine mx_ixsn E rfl rfl rfl rfl rfl rfl (by omega) rfl ?_ ) | (refine mx_not rfl rfl rfl ?_) | (refine mx_ex _ rfl rfl rfl (by conv => {lhs; whnf}) ?_) | (refine g_pick rfl ?_; refine mx_or rfl rfl rfl rfl rfl rfl ?_ ) ) | refine cw_seq ?_ | refine cw_line rfl ?_ | refine cw_cond_f rfl ?_ | refine cw_skip ?_ | refine pw_then ?_ | refine pw_block ?_ ))
      exact pw_round (j2 + 1) (by omega) (by omega) ⟨rfl, rfl, rfl, rfl, trivial⟩ (fun w h => h)
    (repeat (first | ((refine (?_ : MX _ _ _ _ _ _ _ _ _ _ _)); first | refine mx_end ?_ | (refine mx_mv _ rfl rfl (by conv => {lhs; whnf}) ?_) | (refine g_bin rfl ?_; (first | (refine mx_cmpl .eql rfl rfl rfl rfl rfl (by exact cmp_eq_t (by omega) ) ?_) | (refine mx_cmpl .lss rfl rfl rfl rfl rfl (by exact cmp_lt_f (by omega) ) ?_) ) ) | (refine g_bi .len rfl ?_; refine mx_len E rfl rfl rfl rfl ?_) ) | refine cw_seq ?_ | refine cw_line rfl ?_ | refine cw_cond_f rfl ?_ | refine cw_exit ?_ | refine pw_then ?_ | refine pw_then_x ?_ | refine pw_block_e ?_ ))
    refine g_cf 29 rfl ?_
    refine a_callv rfl rfl rfl rfl Try.func29 rfl rfl rfl (.bool true) (fun w' hw => works29 w') rfl ?_
    (repeat (first | ((refine (?_ : MX _ _ _ _ _ _ _ _ _ _ _)); first | refine mx_end ?_ | (refine mx_as _ rfl rfl (by conv => {lhs; whnf}) ?_) | (refine g_pick rfl ?_; refine mx_and rfl rfl rfl rfl rfl rfl ?_ ) ) | refine cw_ret ?_ | refine pw_then ?_ ))
    exact pw_ret rfl rfl rfl rfl fun w2 hw2 => ⟨rfl, (Chg.trans hgr hw2.keep).grow⟩
  obtain ⟨a, hx⟩ := getElem_some (xs := l) (i := i) (by omega)
  obtain ⟨b4, off, e, hcc⟩ := inl_at hl hx
  subst e
  have hS : ¬ (fun _ : Nat => False) b4 := fun h => h
  have hc0 : ∀ (k : Nat) (v : Value), (cAH a)[k]? = some v → w.cell? ⟨b4, off + i * 3 + k, none⟩ = some v := hcc
  obtain ⟨hd1, hd2, hd3, hd4⟩ := ha a (List.mem_of_getElem? hx)
  have hda := hl1 a (List.mem_of_getElem? hx)
  (repeat (first | ((refine (?_ : MX _ _ _ _ _ _ _ _ _ _ _)); first | refine mx_end ?_ | (refine mx_mv _ rfl rfl (by conv => {lhs; whnf}) ?_) | ( refine mx_fa E rfl rfl rfl rfl ?_) | (refine g_load rfl ?_; first | refine mx_get E rfl rfl rfl rfl rfl (by rfl) rfl ?_ | refine mx_oldn E rfl rfl rfl rfl rfl (by assumption) (by assumption) (rfl) rfl ?_ ) | (refine g_bin rfl ?_; ( (refine mx_cmpl .lss rfl rfl rfl rfl rfl (by exact cmp_lt_t (by omega) ) ?_) ) ) | (refine g_ix rfl ?_; refine mx_ixsn E rfl rfl rfl rfl rfl rfl (by omega) rfl ?_ ) | (refine g_bi .len rfl ?_; refine mx_len E rfl rfl rfl rfl ?_) | (refine g_store rfl ?_; refine s_l E rfl rfl rfl rfl rfl rfl rfl (by exact Sp.all rfl ) rfl ?_ ) | (refine a_new rfl rfl rfl rfl rfl (fun _ => ?_)) ) | refine cw_seq ?_ | refine cw_line rfl ?_ | refine cw_block ?_ | refine cw_cond_t rfl ?_ | refine cw_skip ?_ | refine pw_then ?_ ))
  rename_i b5
  refine g_cf 49 rfl ?_
  refine a_callL rfl rfl rfl rfl Try.func49 rfl rfl rfl [] _ rfl (fun o : {o : Option Nat // AtO lst a.data o} => .int .i64 (oixH o.1)) (fun _ => []) (fun w' hw _ => (at49 hb hc lst (by omega) hkls a.ad a.data.length a.cap a.data rfl (by omega) w' (own_in len_PH (hw.holds 1 _ rfl) (Nat.le_refl _)) (fun p hp => phR_in (hw.holds 2 _ rfl) hp) (hd1.keep hw fun _ _ _ h => h)).mono fun e w'' ⟨o, h1, h2⟩ => ⟨o, h1, (Ok.start w').grow h2⟩) (fun _ => rfl) (fun _ _ _ => trivial) (fun o => ?_)
  obtain ⟨o, ho⟩ := o
  dsimp only [List.nil_append]
  (repeat (first | ((refine (?_ : MX _ _ _ _ _ _ _ _ _ _ _)); first | refine mx_end ?_ | (refine mx_as _ rfl rfl (by conv => {lhs; whnf}) ?_) ) | refine pw_then ?_))
  refine cw_mid (ι := {q : (Option Addr × Nat) × List PH × List PLc // HL kl mx q.2.2 q.2.1}) (fun q => [(9, .int .i64 i), (8, .slice q.1.1.1 q.1.2.1.length q.1.1.2), (7, .pointer (some ⟨bx, 0, none⟩)), (0, .int .i64 kl), (1, .int .i64 mx), (2, .slice (some ⟨b4, off, none⟩) l.length cap)]) (fun q => [ownd q.1.1.1 q.1.1.2 69 2 q.1.2.1.length (q.1.2.1.flatMap cPH), phR q.1.2.1, star (OH bx kb sb cb kl mx q.1.2.2)]) (fun _ => True) ?_ ?_
  · by_cases hk0 : a.k = 0
    · cases o with
      | some p0 =>
        obtain ⟨p, hp, hpk⟩ := ho
        have hpm := List.mem_of_getElem? hp
        have hlen : a.data.length = kl := by rw [← hpk]; exact (hI.ks p hpm).1
        have hE : hpE pl kl mx a.data = 11 := by rw [← hpk]; exact hI.e11 hpm
        have hP : putH pl kl mx a.data a.c = pl := put_ne (by rw [hE]; decide)
        rw [oixH_some]
        (repeat (first | ((refine (?_ : MX _ _ _ _ _ _ _ _ _ _ _)); first | refine mx_end ?_ | (refine mx_mv _ rfl rfl (by conv => {lhs; whnf}) ?_) | (refine mx_as _ rfl rfl (by conv => {lhs; whnf}) ?_) | (first | refine mx_fa0 E rfl rfl rfl rfl ?_ | refine mx_fa E rfl rfl rfl rfl ?_) | (refine g_load rfl ?_; refine mx_get E rfl rfl rfl rfl rfl (by rfl) rfl ?_ ) | (refine g_bin rfl ?_; (first | (refine mx_cmpl .eql rfl rfl rfl rfl rfl (by exact cmp_eq_t (by omega) ) ?_) | (refine mx_cmpl .neq rfl rfl rfl rfl rfl (by exact cmp_ne_f (by omega) ) ?_) | (refine mx_cmpl .geq rfl rfl rfl rfl rfl (by exact cmp_ge_t (by omega) ) ?_)) ) | (refine g_bi .len rfl ?_; refine mx_len E rfl rfl rfl rfl ?_) ) | refine cw_seq ?_ | refine cw_line rfl ?_ | refine cw_block ?_ | refine cw_cond_f rfl ?_ | refine cw_cond_t rfl ?_ | refine pw_then ?_ ))
        refine g_cf 35 rfl ?_; refine a_cou rfl rfl rfl rfl Try.func35 rfl rfl rfl (OH bx kb sb cb kl mx pl) (.int .i64 11) (OH bx kb sb cb kl mx pl) (fun w' hw h => put35e bx kb sb cb kl mx pl pl 11 a.data a.c hE hP hI.wf a.ad a.data.length a.cap hd4 rfl (by omega) w' h (hd1.keep hw fun _ _ _ h => h) (oldNf hw 3 rfl len_U (by omega) hd1 fun _ _ _ _ h => h)) rfl (fun _ _ => trivial) ?_
        (repeat (first | ((refine (?_ : MX _ _ _ _ _ _ _ _ _ _ _)); first | refine mx_end ?_ | (refine mx_mv _ rfl rfl (by conv => {lhs; whnf}) ?_) | (refine g_bin rfl ?_; (first | (refine mx_cmpl .eql rfl rfl rfl rfl rfl (by first | exact cmp_eq_t (by omega) | exact cmp_eq_f (by omega) ) ?_) | (refine mx_cmpl .neq rfl rfl rfl rfl rfl (by exact cmp_ne_f (by omega) ) ?_) ) ) ) | refine cw_seq ?_ | refine cw_line rfl ?_ | refine cw_cond_f rfl ?_ | refine cw_skip ?_ | refine pw_then ?_ | refine pw_block ?_ ))
        exact pw_mid ⟨((hb, hc), lst, pl), hI⟩ trivial ⟨rfl, rfl, rfl, rfl, rfl, rfl, trivial⟩ (fun w h => h.pick [1, 2, 3] (by simp) rfl)
      | none =>
        have hn : ∀ p ∈ lst, p.k ≠ a.data := ho
        rw [oixH_none]
        by_cases hlen : (a.data.length : Int) = kl
        case neg =>
          have hE : hpE pl kl mx a.data = 14 := e_len (by omega)
          have hP : putH pl kl mx a.data a.c = pl := put_ne (by rw [hE]; decide)
          (repeat (first | ((refine (?_ : MX _ _ _ _ _ _ _ _ _ _ _)); first | refine mx_end ?_ | (refine mx_mv _ rfl rfl (by conv => {lhs; whnf}) ?_) | (refine mx_as _ rfl rfl (by conv => {lhs; whnf}) ?_) | (first | refine mx_fa0 E rfl rfl rfl rfl ?_ | refine mx_fa E rfl rfl rfl rfl ?_) | (refine g_load rfl ?_; refine mx_get E rfl rfl rfl rfl rfl (by rfl) rfl ?_ ) | (refine g_bin rfl ?_; (first | (refine mx_cmpl .eql rfl rfl rfl rfl rfl (by exact cmp_eq_t (by omega) ) ?_) | (refine mx_cmpl .neq rfl rfl rfl rfl rfl (by exact cmp_ne_t (by omega) ) ?_) ) ) | (refine g_bi .len rfl ?_; refine mx_len E rfl rfl rfl rfl ?_) ) | refine cw_seq ?_ | refine cw_line rfl ?_ | refine cw_block ?_ | refine cw_cond_t rfl ?_ | refine pw_then ?_ ))
          refine g_cf 35 rfl ?_; refine a_cou rfl rfl rfl rfl Try.func35 rfl rfl rfl (OH bx kb sb cb kl mx pl) (.int .i64 14) (OH bx kb sb cb kl mx pl) (fun w' hw h => put35e bx kb sb cb kl mx pl pl 14 a.data a.c hE hP hI.wf a.ad a.data.length a.cap hd4 rfl (by omega) w' h (hd1.keep hw fun _ _ _ h => h) (oldNf hw 3 rfl len_U (by omega) hd1 fun _ _ _ _ h => h)) rfl (fun _ _ => trivial) ?_
          (repeat (first | ((refine (?_ : MX _ _ _ _ _ _ _ _ _ _ _)); first | refine mx_end ?_ | (refine mx_mv _ rfl rfl (by conv => {lhs; whnf}) ?_) | (refine g_bin rfl ?_; (first | (refine mx_cmpl .eql rfl rfl rfl rfl rfl (by first | exact cmp_eq_t (by omega) | exact cmp_eq_f (by omega) ) ?_) | (refine mx_cmpl .neq rfl rfl rfl rfl rfl (by exact cmp_ne_f (by omega) ) ?_) ) ) ) | refine cw_seq ?_ | refine cw_line rfl ?_ | refine cw_cond_f rfl ?_ | refine cw_skip ?_ | refine pw_then ?_ | refine pw_block ?_ ))
          exact pw_mid ⟨((hb, hc), lst, pl), hI⟩ trivial ⟨rfl, rfl, rfl, rfl, rfl, rfl, trivial⟩ (fun w h => h.pick [1, 2, 3] (by simp) rfl)
        have hlen2 : a.data.length = kl := by omega
        by_cases hfull : (lst.length : Int) = mx
        · have hE : hpE pl kl mx a.data = 12 := hI.e12 hlen2 hn (by omega)
          have hP : putH pl kl mx a.data a.c = pl := put_ne (by rw [hE]; decide)
          (repeat (first | ((refine (?_ : MX _ _ _ _ _ _ _ _ _ _ _)); first | refine mx_end ?_ | (refine mx_mv _ rfl rfl (by conv => {lhs; whnf}) ?_) | (refine mx_as _ rfl rfl (by conv => {lhs; whnf}) ?_) | (first | refine mx_fa0 E rfl rfl rfl rfl ?_ | refine mx_fa E rfl rfl rfl rfl ?_) | (refine g_load rfl ?_; refine mx_get E rfl rfl rfl rfl rfl (by rfl) rfl ?_ ) | (refine g_bin rfl ?_; (first | (refine mx_cmpl .eql rfl rfl rfl rfl rfl (by exact cmp_eq_t (by omega) ) ?_) | (refine mx_cmpl .neq rfl rfl rfl rfl rfl (by exact cmp_ne_f (by omega) ) ?_) | (refine mx_cmpl .geq rfl rfl rfl rfl rfl (by exact cmp_ge_f (by omega) ) ?_)) ) | (refine g_bi .len rfl ?_; refine mx_len E rfl rfl rfl rfl ?_) ) | refine cw_seq ?_ | refine cw_line rfl ?_ | refine cw_block ?_ | refine cw_cond_f rfl ?_ | refine cw_cond_t rfl ?_ | refine pw_then ?_ ))
          refine g_cf 35 rfl ?_; refine a_cou rfl rfl rfl rfl Try.func35 rfl rfl rfl (OH bx kb sb cb kl mx pl) (.int .i64 12) (OH bx kb sb cb kl mx pl) (fun w' hw h => put35e bx kb sb cb kl mx pl pl 12 a.data a.c hE hP hI.wf a.ad a.data.length a.cap hd4 rfl (by omega) w' h (hd1.keep hw fun _ _ _ h => h) (oldNf hw 3 rfl len_U (by omega) hd1 fun _ _ _ _ h => h)) rfl (fun _ _ => trivial) ?_
          (repeat (first | ((refine (?_ : MX _ _ _ _ _ _ _ _ _ _ _)); first | refine mx_end ?_ | (refine mx_mv _ rfl rfl (by conv => {lhs; whnf}) ?_) | (refine g_bin rfl ?_; (first | (refine mx_cmpl .eql rfl rfl rfl rfl rfl (by first | exact cmp_eq_t (by omega) | exact cmp_eq_f (by omega) ) ?_) | (refine mx_cmpl .neq rfl rfl rfl rfl rfl (by exact cmp_ne_f (by omega) ) ?_) ) ) ) | refine cw_seq ?_ | refine cw_line rfl ?_ | refine cw_cond_f rfl ?_ | refine cw_skip ?_ | refine pw_then ?_ | refine pw_block ?_ ))
          exact pw_mid ⟨((hb, hc), lst, pl), hI⟩ trivial ⟨rfl, rfl, rfl, rfl, rfl, rfl, trivial⟩ (fun w h => h.pick [1, 2, 3] (by simp) rfl)
        · have hE : hpE pl kl mx a.data = 0 := hI.e0 hlen2 hn (by omega)
          have hI2 := fun ad cap => hI.put hlen2 hd4 hn (by omega) a.c ad cap
          (repeat (first | ((refine (?_ : MX _ _ _ _ _ _ _ _ _ _ _)); first | refine mx_end ?_ | (refine mx_mv _ rfl rfl (by conv => {lhs; whnf}) ?_) | (refine mx_as _ rfl rfl (by conv => {lhs; whnf}) ?_) | (first | refine mx_fa0 E rfl rfl rfl rfl ?_ | refine mx_fa E rfl rfl rfl rfl ?_) | (refine g_load rfl ?_; refine mx_get E rfl rfl rfl rfl rfl (by rfl) rfl ?_ ) | (refine g_bin rfl ?_; (first | (refine mx_cmpl .eql rfl rfl rfl rfl rfl (by first | exact cmp_eq_t (by omega) | exact cmp_eq_f (by omega) ) ?_) | (refine mx_cmpl .neq rfl rfl rfl rfl rfl (by first | exact cmp_ne_t (by omega) | exact cmp_ne_f (by omega) ) ?_) | (refine mx_cmpl .geq rfl rfl rfl rfl rfl (by exact cmp_ge_f (by omega) ) ?_)) ) | (refine g_bi .len rfl ?_; refine mx_len E rfl rfl rfl rfl ?_) ) | refine cw_seq ?_ | refine cw_line rfl ?_ | refine cw_block ?_ | refine cw_cond_f rfl ?_ | refine cw_cond_t rfl ?_ | refine cw_skip ?_ | refine pw_then ?_ ))
          refine g_cf 35 rfl ?_; refine a_cou rfl rfl rfl rfl Try.func35 rfl rfl rfl (OH bx kb sb cb kl mx pl) (.int .i64 0) (OH bx kb sb cb kl mx (putH pl kl mx a.data a.c)) (fun w' hw h => put35e bx kb sb cb kl mx pl (putH pl kl mx a.data a.c) 0 a.data a.c hE rfl hI.wf a.ad a.data.length a.cap hd4 rfl (by omega) w' h (hd1.keep hw fun _ _ _ h => h) (oldNf hw 3 rfl len_U (by omega) hd1 fun _ _ _ _ h => h)) rfl (fun _ _ => trivial) ?_
          (repeat (first | ((refine (?_ : MX _ _ _ _ _ _ _ _ _ _ _)); first | refine mx_end ?_ | (refine mx_mv _ rfl rfl (by conv => {lhs; whnf}) ?_) | (refine g_bin rfl ?_; (first | (refine mx_cmpl .eql rfl rfl rfl rfl rfl (by exact cmp_eq_t (by omega) ) ?_) | (refine mx_cmpl .neq rfl rfl rfl rfl rfl (by exact cmp_ne_f (by omega) ) ?_) ) ) ) | refine cw_seq ?_ | refine cw_line rfl ?_ | refine cw_cond_f rfl ?_ | refine cw_cond_t rfl ?_ | refine cw_skip ?_ | refine pw_then ?_ ))
          refine cw_drawm [0, 1, 2, 4, 5, 3, 6, 7, 8, 9] (fun i => or (Nat.beq i 3) (or (Nat.beq i 7) (Nat.beq i 8))) _ mixed (by kernel_rfl) (fun w h => h.only 0 rfl) ?_
          (repeat (((refine (?_ : MX _ _ _ _ _ _ _ _ _ _ _)); first | (refine mx_mv _ rfl rfl (by conv => {lhs; whnf}) ?_) | ( refine mx_fa E rfl rfl rfl rfl ?_) | (refine g_load rfl ?_; refine mx_get E rfl rfl rfl rfl rfl (by rfl) rfl ?_ ) ) ))
          refine g_cf 50 rfl ?_
          refine a_calln rfl rfl rfl rfl Try.func50 rfl rfl rfl (fun q : Option Addr × Nat => .slice q.1 a.data.length q.2) (fun q => ownd q.1 q.2 5 1 a.data.length (a.data.flatMap cU)) (fun w' hw => copyB a.ad a.data.length a.cap a.data rfl (by omega) w' (hd1.keep hw fun _ _ _ h => h)) rfl (fun q => ?_)
          obtain ⟨q1, q2⟩ := q
          (repeat (((refine (?_ : MX _ _ _ _ _ _ _ _ _ _ _)); (refine g_build rfl ?_; refine mx_build rfl rfl rfl rfl (b69 _ _ _ _) rfl ?_) ) ))
          refine g_bs rfl ?_
          refine a_bslice1 E rfl rfl rfl rfl (us := [.slice q1 a.data.length q2, .int .i64 a.c]) rfl rfl rfl rfl rfl rfl (fun b6 => ?_)
          refine g_bi .append rfl ?_
          refine a_app E rfl rfl rfl rfl rfl rfl rfl rfl [.slice q1 a.data.length q2, .int .i64 a.c] rfl (fun w hw => fun _ => ⟨b6, 0, rfl, fun j u hj => by rw [add_at, Nat.zero_add]; exact row_cell (hw.holds 0 _ rfl) hj⟩) rfl (by omega) rfl (fun _ _ w h => h.only 2 rfl) (fun a3 c3 => ?_)
          have e1 : lst.flatMap cPH ++ [.slice q1 a.data.length q2, .int .i64 a.c] = (lst ++ [(⟨q1, q2, a.data, a.c⟩ : PH)]).flatMap cPH := by rw [List.flatMap_append]; rfl
          have e2 : lst.length + 1 = (lst ++ [(⟨q1, q2, a.data, a.c⟩ : PH)]).length := by simp
          rw [e1, e2]
          (repeat (first | ((refine (?_ : MX _ _ _ _ _ _ _ _ _ _ _)); first | refine mx_end ?_ | (refine mx_as _ rfl rfl (by conv => {lhs; whnf}) ?_) ) | refine pw_block ?_ ))
          refine pw_mid ⟨((a3, c3), lst ++ [(⟨q1, q2, a.data, a.c⟩ : PH)], putH pl kl mx a.data a.c), hI2 q1 q2⟩ trivial ⟨rfl, rfl, rfl, rfl, rfl, rfl, trivial⟩ (fun w h => ?_)
          have h3 := h.pick (H' := [RPH ⟨q1, q2, a.data, a.c⟩, phR lst, ownd a3 c3 69 2 (lst ++ [(⟨q1, q2, a.data, a.c⟩ : PH)]).length ((lst ++ [(⟨q1, q2, a.data, a.c⟩ : PH)]).flatMap cPH), star (OH bx kb sb cb kl mx (putH pl kl mx a.data a.c))]) [1, 4, 3, 5] (by simp) rfl
          exact (h3.merge (r := phR (lst ++ [(⟨q1, q2, a.data, a.c⟩ : PH)])) (fun b ⟨x, hx, hb⟩ => by
            rcases List.mem_append.1 hx with h | h
            · exact .inr ⟨x, h, hb⟩
            · obtain rfl := List.mem_singleton.1 h
              exact .inl hb) (fun x hx => by
            rcases List.mem_append.1 hx with h | h
            · exact h3.holds 1 _ rfl x h
            · obtain rfl := List.mem_singleton.1 h
              exact h3.holds 0 _ rfl)).pick [1, 0, 2] (by simp) rfl
    by_cases hk12 : a.k = 1 ∨ a.k = 2
    case neg =>
      have hk1 : a.k ≠ 1 := fun h => hk12 (.inl h)
      have hk2 : a.k ≠ 2 := fun h => hk12 (.inr h)
      (repeat (first | ((refine (?_ : MX _ _ _ _ _ _ _ _ _ _ _)); first | refine mx_end ?_ | (refine mx_as _ rfl rfl (by conv => {lhs; whnf}) ?_) | (refine mx_fa0 E rfl rfl rfl rfl ?_ ) | (refine g_load rfl ?_; refine mx_get E rfl rfl rfl rfl rfl (by rfl) rfl ?_ ) | (refine g_bin rfl ?_; ((refine mx_cmpl .eql rfl rfl rfl rfl rfl (by exact cmp_eq_f (by omega) ) ?_) ) ) ) | refine cw_seq ?_ | refine cw_line rfl ?_ | refine cw_block ?_ | refine cw_cond_f rfl ?_ | refine cw_skip ?_ | refine pw_then ?_ | refine pw_block ?_ ))
      exact pw_mid ⟨((hb, hc), lst, pl), hI⟩ trivial ⟨rfl, rfl, rfl, rfl, rfl, rfl, trivial⟩ (fun w h => h.pick [1, 2, 3] (by simp) rfl)
    cases o with
    | none =>
      have hn : ∀ p ∈ lst, p.k ≠ a.data := ho
      have hf := hI.f_none hn
      have hdn := hI.d_none hn
      rw [oixH_none]
      rcases hk12 with hk1 | hk2
      · (repeat (first | ((refine (?_ : MX _ _ _ _ _ _ _ _ _ _ _)); first | refine mx_end ?_ | (refine mx_mv _ rfl rfl (by conv => {lhs; whnf}) ?_) | (refine mx_as _ rfl rfl (by conv => {lhs; whnf}) ?_) | (first | refine mx_fa0 E rfl rfl rfl rfl ?_ | refine mx_fa E rfl rfl rfl rfl ?_) | (refine g_load rfl ?_; refine mx_get E rfl rfl rfl rfl rfl (by rfl) rfl ?_ ) | (refine g_bin rfl ?_; ((refine mx_cmpl .eql rfl rfl rfl rfl rfl (by first | exact cmp_eq_t (by omega) | exact cmp_eq_f (by omega) ) ?_) ) ) ) | refine cw_seq ?_ | refine cw_line rfl ?_ | refine cw_block ?_ | refine cw_cond_f rfl ?_ | refine cw_cond_t rfl ?_ | refine cw_skip ?_ | refine pw_then ?_ ))
        refine g_cf 39 rfl ?_; refine a_callv rfl rfl rfl rfl Try.func39 rfl rfl rfl (.tuple #[.int .i64 0, .bool false]) (fun w' hw => find39e bx kb sb cb kl mx pl 0 false a.data hf hI.wf a.ad a.data.length a.cap hd4 rfl (by omega) w' (hw.holds 3 _ rfl) (hd1.keep hw fun _ _ _ h => h)) rfl ?_
        (repeat (first | ((refine (?_ : MX _ _ _ _ _ _ _ _ _ _ _)); first | refine mx_end ?_ | (refine mx_mv _ rfl rfl (by conv => {lhs; whnf}) ?_) | (refine mx_as _ rfl rfl (by conv => {lhs; whnf}) ?_) | (refine mx_fa0 E rfl rfl rfl rfl ?_ ) | (refine g_load rfl ?_; refine mx_get E rfl rfl rfl rfl rfl (by rfl) rfl ?_ ) | (refine g_bin rfl ?_; first | (first | (refine mx_cmpl .eql rfl rfl rfl rfl rfl (by first | exact cmp_eq_t (by omega) | exact cmp_eq_f (by omega) | rfl) ?_) | (refine mx_cmpl .neq rfl rfl rfl rfl rfl (by first | exact cmp_ne_t (by omega) | exact cmp_ne_f (by omega) ) ?_) | (refine mx_cmpl .geq rfl rfl rfl rfl rfl (by exact cmp_ge_f (by omega) ) ?_)) | refine mx_bnsame E rfl rfl rfl rfl rfl rfl rfl ?_ ) | (refine mx_not rfl rfl rfl ?_) | (refine mx_ex _ rfl rfl rfl (by conv => {lhs; whnf}) ?_) | (refine mx_skip rfl rfl rfl ?_) | (refine g_pick rfl ?_; first | refine mx_andf rfl rfl rfl rfl rfl ?_ | refine mx_and rfl rfl rfl rfl rfl rfl ?_ | refine mx_or rfl rfl rfl rfl rfl rfl ?_ ) ) | refine cw_seq ?_ | refine cw_line rfl ?_ | refine cw_cond_f rfl ?_ | refine cw_skip ?_ | refine pw_then ?_ | refine pw_block ?_ ))
        exact pw_mid ⟨((hb, hc), lst, pl), hI⟩ trivial ⟨rfl, rfl, rfl, rfl, rfl, rfl, trivial⟩ (fun w h => h.pick [1, 2, 3] (by simp) rfl)
      · (repeat (first | ((refine (?_ : MX _ _ _ _ _ _ _ _ _ _ _)); first | refine mx_end ?_ | (refine mx_mv _ rfl rfl (by conv => {lhs; whnf}) ?_) | (refine mx_as _ rfl rfl (by conv => {lhs; whnf}) ?_) | (first | refine mx_fa0 E rfl rfl rfl rfl ?_ | refine mx_fa E rfl rfl rfl rfl ?_) | (refine g_load rfl ?_; refine mx_get E rfl rfl rfl rfl rfl (by rfl) rfl ?_ ) | (refine g_bin rfl ?_; ((refine mx_cmpl .eql rfl rfl rfl rfl rfl (by first | exact cmp_eq_t (by omega) | exact cmp_eq_f (by omega) ) ?_) ) ) ) | refine cw_seq ?_ | refine cw_line rfl ?_ | refine cw_block ?_ | refine cw_cond_f rfl ?_ | refine cw_cond_t rfl ?_ | refine pw_then ?_ ))
        refine g_cf 39 rfl ?_; refine a_callv rfl rfl rfl rfl Try.func39 rfl rfl rfl (.tuple #[.int .i64 0, .bool false]) (fun w' hw => find39e bx kb sb cb kl mx pl 0 false a.data hf hI.wf a.ad a.data.length a.cap hd4 rfl (by omega) w' (hw.holds 3 _ rfl) (hd1.keep hw fun _ _ _ h => h)) rfl ?_
        (repeat (first | ((refine (?_ : MX _ _ _ _ _ _ _ _ _ _ _)); first | refine mx_end ?_ | (refine mx_mv _ rfl rfl (by conv => {lhs; whnf}) ?_) | (refine mx_as _ rfl rfl (by conv => {lhs; whnf}) ?_) | (first | refine mx_fa0 E rfl rfl rfl rfl ?_ | refine mx_fa E rfl rfl rfl rfl ?_) | (refine g_load rfl ?_; refine mx_get E rfl rfl rfl rfl rfl (by rfl) rfl ?_ ) | (refine g_bin rfl ?_; ((refine mx_cmpl .eql rfl rfl rfl rfl rfl (by exact cmp_eq_t (by omega) ) ?_) ) ) | (refine mx_ex _ rfl rfl rfl (by conv => {lhs; whnf}) ?_) ) | refine cw_seq ?_ | refine cw_line rfl ?_ | refine cw_cond_t rfl ?_ | refine pw_then ?_ ))
        refine g_cf 37 rfl ?_; refine a_cou rfl rfl rfl rfl Try.func37 rfl rfl rfl (OH bx kb sb cb kl mx pl) (.tuple #[.int .i64 0, .bool false]) (OH bx kb sb cb kl mx pl) (fun w' hw h => del37e bx kb sb cb kl mx pl pl 0 false a.data hf hdn hI.wf a.ad a.data.length a.cap hd4 rfl (by omega) w' h (hd1.keep hw fun _ _ _ h => h) (oldNf hw 3 rfl len_U (by omega) hd1 fun _ _ _ _ h => h)) rfl (fun _ _ => trivial) ?_
        (repeat (first | ((refine (?_ : MX _ _ _ _ _ _ _ _ _ _ _)); first | refine mx_end ?_ | (refine mx_mv _ rfl rfl (by conv => {lhs; whnf}) ?_) | (refine mx_as _ rfl rfl (by conv => {lhs; whnf}) ?_) | (refine g_bin rfl ?_; first | (first | (refine mx_cmpl .neq rfl rfl rfl rfl rfl (by first | exact cmp_ne_t (by omega) | exact cmp_ne_f (by omega) ) ?_) | (refine mx_cmpl .geq rfl rfl rfl rfl rfl (by exact cmp_ge_f (by omega) ) ?_)) | refine mx_bnsame E rfl rfl rfl rfl rfl rfl rfl ?_ ) | (refine mx_not rfl rfl rfl ?_) | (refine mx_ex _ rfl rfl rfl (by conv => {lhs; whnf}) ?_) | (refine mx_skip rfl rfl rfl ?_) | (refine g_pick rfl ?_; first | refine mx_andf rfl rfl rfl rfl rfl ?_ | refine mx_and rfl rfl rfl rfl rfl rfl ?_ | refine mx_or rfl rfl rfl rfl rfl rfl ?_ ) ) | refine cw_seq ?_ | refine cw_line rfl ?_ | refine cw_cond_f rfl ?_ | refine cw_skip ?_ | refine pw_then ?_ | refine pw_block ?_ ))
        exact pw_mid ⟨((hb, hc), lst, pl), hI⟩ trivial ⟨rfl, rfl, rfl, rfl, rfl, rfl, trivial⟩ (fun w h => h.pick [1, 2, 3] (by simp) rfl)
    | some p0 =>
      obtain ⟨p, hp, hpk⟩ := ho
      have hpm := List.mem_of_getElem? hp
      have hp0 := (List.getElem?_eq_some_iff.1 hp).1
      have hf : fdH pl kl a.data = (p.c, true) := by rw [← hpk]; exact hI.f_some hpm
      obtain ⟨hI3, hn1⟩ := hI.del hp
      rw [hpk] at hI3
      rw [oixH_some]
      refine cw_know (p := ∃ b, hb = some ⟨b, 0, none⟩) (fun w hw => by
        obtain ⟨b, e, _⟩ := (own_at (hw.holds 1 _ rfl)).2.1 (by omega)
        exact ⟨b, e⟩) (fun ⟨bb, e⟩ => ?_)
      subst e
      refine cw_ex (fun rest => [row b5 63 (cAH a), row bb 69 (lst.flatMap cPH ++ rest), phR lst, star (OH bx kb sb cb kl mx pl)]) _ (fun w hw => (ok_open 1 rfl hw).imp fun rest h => ⟨h.1, h.2⟩) (fun rest q => ?_)
      obtain ⟨qa, qb, qc, qd⟩ := q
      have hv : (lst.flatMap cPH ++ rest)[0 + p0 * 2 + 1]? = some (.int .i64 p.c) := row_flat len_PH hp (o := 1) (by omega) rfl
      rcases hk12 with hk1 | hk2
      · (repeat (first | ((refine (?_ : MX _ _ _ _ _ _ _ _ _ _ _)); first | refine mx_end ?_ | (refine mx_mv _ rfl rfl (by conv => {lhs; whnf}) ?_) | (refine mx_as _ rfl rfl (by conv => {lhs; whnf}) ?_) | (first | refine mx_fa0 E rfl rfl rfl rfl ?_ | refine mx_fa E rfl rfl rfl rfl ?_) | (refine g_load rfl ?_; refine mx_get E rfl rfl rfl rfl rfl (by rfl) rfl ?_ ) | (refine g_bin rfl ?_; ((refine mx_cmpl .eql rfl rfl rfl rfl rfl (by first | exact cmp_eq_t (by omega) | exact cmp_eq_f (by omega) ) ?_) ) ) ) | refine cw_seq ?_ | refine cw_line rfl ?_ | refine cw_block ?_ | refine cw_cond_f rfl ?_ | refine cw_cond_t rfl ?_ | refine cw_skip ?_ | refine pw_then ?_ ))
        refine g_cf 39 rfl ?_; refine a_callv rfl rfl rfl rfl Try.func39 rfl rfl rfl (.tuple #[.int .i64 p.c, .bool true]) (fun w' hw => find39e bx kb sb cb kl mx pl p.c true a.data hf hI.wf a.ad a.data.length a.cap hd4 rfl (by omega) w' (hw.holds 3 _ rfl) (hd1.keep hw fun _ _ _ h => h)) rfl ?_
        (repeat (first | ((refine (?_ : MX _ _ _ _ _ _ _ _ _ _ _)); first | refine mx_end ?_ | (refine mx_mv _ rfl rfl (by conv => {lhs; whnf}) ?_) | (refine mx_as _ rfl rfl (by conv => {lhs; whnf}) ?_) | (first | refine mx_fa0 E rfl rfl rfl rfl ?_ | refine mx_fa E rfl rfl rfl rfl ?_) | (refine g_load rfl ?_; refine mx_get E rfl rfl rfl rfl rfl (by first | assumption | rfl) rfl ?_ ) | (refine g_bin rfl ?_; first | (first | (refine mx_cmpl .eql rfl rfl rfl rfl rfl (by first | exact cmp_eq_t (by omega) | exact cmp_eq_f (by omega) ) ?_) | (refine mx_cmpl .neq rfl rfl rfl rfl rfl (by first | exact cmp_ne_t (by omega) | exact cmp_ne_f (by omega) ) ?_) | (refine mx_cmpl .geq rfl rfl rfl rfl rfl (by first | exact cmp_ge_t (by omega) | exact cmp_ge_f (by omega) ) ?_)) | refine mx_bnsame E rfl rfl rfl rfl rfl rfl rfl ?_ ) | (refine g_ix rfl ?_; refine mx_ixsn E rfl rfl rfl rfl rfl rfl (by omega) rfl ?_ ) | (refine mx_not rfl rfl rfl ?_) | (refine mx_ex _ rfl rfl rfl (by conv => {lhs; whnf}) ?_) | (refine mx_skip rfl rfl rfl ?_) | (refine g_pick rfl ?_; first | refine mx_andf rfl rfl rfl rfl rfl ?_ | refine mx_and rfl rfl rfl rfl rfl rfl ?_ | refine mx_or rfl rfl rfl rfl rfl rfl ?_ ) ) | refine cw_seq ?_ | refine cw_line rfl ?_ | refine cw_cond_f rfl ?_ | refine cw_skip ?_ | refine pw_then ?_ | refine pw_block ?_ ))
        exact pw_mid ⟨((some ⟨bb, 0, none⟩, hc), lst, pl), hI⟩ trivial ⟨rfl, rfl, rfl, rfl, rfl, rfl, trivial⟩ (fun w h => (ok_close 1 rfl qa qb qc qd h).pick [1, 2, 3] (by simp) rfl)
      · obtain ⟨z, hz⟩ := getElem_some (xs := lst) (i := lst.length - 1) (by omega)
        have hzd : lst.getD (lst.length - 1) default = z := by simp [List.getD, hz]
        have hj1 : (lst.length : Int) - 1 = ((lst.length - 1 : Nat) : Int) := by omega
        have hvr : Vr (lst.flatMap cPH ++ rest) (0 + (lst.length - 1) * 2) 2 (cPH z) := vr_flat len_PH hz
        have hsp : Sp (lst.flatMap cPH ++ rest) (0 + p0 * 2) (cPH z) ((lst.set p0 z).flatMap cPH ++ rest) := by
          rw [Nat.zero_add]
          exact sp_flat len_PH (o := 0) hp (Sp.all rfl)
        have hsl := swapL_len (l := lst) (i := p0)
        generalize hn' : lst.length - 1 = n' at *
        (repeat (first | ((refine (?_ : MX _ _ _ _ _ _ _ _ _ _ _)); first | refine mx_end ?_ | (refine mx_mv _ rfl rfl (by conv => {lhs; whnf}) ?_) | (refine mx_as _ rfl rfl (by conv => {lhs; whnf}) ?_) | (first | refine mx_fa0 E rfl rfl rfl rfl ?_ | refine mx_fa E rfl rfl rfl rfl ?_) | (refine g_load rfl ?_; refine mx_get E rfl rfl rfl rfl rfl (by rfl) rfl ?_ ) | (refine g_bin rfl ?_; ((refine mx_cmpl .eql rfl rfl rfl rfl rfl (by first | exact cmp_eq_t (by omega) | exact cmp_eq_f (by omega) ) ?_) ) ) ) | refine cw_seq ?_ | refine cw_line rfl ?_ | refine cw_block ?_ | refine cw_cond_f rfl ?_ | refine cw_cond_t rfl ?_ | refine pw_then ?_ ))
        refine g_cf 39 rfl ?_; refine a_callv rfl rfl rfl rfl Try.func39 rfl rfl rfl (.tuple #[.int .i64 p.c, .bool true]) (fun w' hw => find39e bx kb sb cb kl mx pl p.c true a.data hf hI.wf a.ad a.data.length a.cap hd4 rfl (by omega) w' (hw.holds 3 _ rfl) (hd1.keep hw fun _ _ _ h => h)) rfl ?_
        (repeat (first | ((refine (?_ : MX _ _ _ _ _ _ _ _ _ _ _)); first | refine mx_end ?_ | (refine mx_mv _ rfl rfl (by conv => {lhs; whnf}) ?_) | (refine mx_as _ rfl rfl (by conv => {lhs; whnf}) ?_) | (first | refine mx_fa0 E rfl rfl rfl rfl ?_ | refine mx_fa E rfl rfl rfl rfl ?_) | (refine g_load rfl ?_; refine mx_get E rfl rfl rfl rfl rfl (by rfl) rfl ?_ ) | (refine g_bin rfl ?_; ((refine mx_cmpl .eql rfl rfl rfl rfl rfl (by exact cmp_eq_t (by omega) ) ?_) ) ) | (refine mx_ex _ rfl rfl rfl (by conv => {lhs; whnf}) ?_) ) | refine cw_seq ?_ | refine cw_line rfl ?_ | refine cw_cond_t rfl ?_ | refine pw_then ?_ ))
        refine g_cf 37 rfl ?_; refine a_cou rfl rfl rfl rfl Try.func37 rfl rfl rfl (OH bx kb sb cb kl mx pl) (.tuple #[.int .i64 p.c, .bool true]) (OH bx kb sb cb kl mx (delH pl kl a.data)) (fun w' hw h => del37e bx kb sb cb kl mx pl (delH pl kl a.data) p.c true a.data hf rfl hI.wf a.ad a.data.length a.cap hd4 rfl (by omega) w' h (hd1.keep hw fun _ _ _ h => h) (oldNf hw 3 rfl len_U (by omega) hd1 fun _ _ _ _ h => h)) rfl (fun _ _ => trivial) ?_
        (repeat (first | ((refine (?_ : MX _ _ _ _ _ _ _ _ _ _ _)); first | refine mx_end ?_ | (refine mx_mv _ rfl rfl (by conv => {lhs; whnf}) ?_) | (refine mx_as _ rfl rfl (by conv => {lhs; whnf}) ?_) | (first | refine mx_fa0 E rfl rfl rfl rfl ?_ | refine mx_fa E rfl rfl rfl rfl ?_) | (refine g_load rfl ?_; first | refine mx_get E rfl rfl rfl rfl rfl (by first | assumption | rfl) rfl ?_ | refine mx_getn E rfl rfl rfl rfl rfl (by assumption ) rfl ?_ ) | (refine g_bin rfl ?_; first | (first | (refine mx_cmpl .eql rfl rfl rfl rfl rfl (by exact cmp_eq_t (by omega) ) ?_) | (refine mx_cmpl .neq rfl rfl rfl rfl rfl (by first | exact cmp_ne_t (by omega) | exact cmp_ne_f (by omega) ) ?_) | (refine mx_cmpl .geq rfl rfl rfl rfl rfl (by first | exact cmp_ge_t (by omega) | exact cmp_ge_f (by omega) ) ?_)) | (refine mx_ar rfl rfl rfl rfl rfl rfl ((IntWalk.i64_in _ (by omega)).trans (by with_reducible assumption)) rfl ?_ ) | refine mx_bnsame E rfl rfl rfl rfl rfl rfl rfl ?_ ) | (refine g_ix rfl ?_; refine mx_ixsn E rfl rfl rfl rfl rfl rfl (by omega) rfl ?_ ) | (refine g_bi .len rfl ?_; refine mx_len E rfl rfl rfl rfl ?_) | (refine mx_not rfl rfl rfl ?_) | (refine mx_ex _ rfl rfl rfl (by conv => {lhs; whnf}) ?_) | (refine mx_skip rfl rfl rfl ?_) | (refine g_pick rfl ?_; first | refine mx_andf rfl rfl rfl rfl rfl ?_ | refine mx_and rfl rfl rfl rfl rfl rfl ?_ | refine mx_or rfl rfl rfl rfl rfl rfl ?_ ) | (refine g_store rfl ?_; refine s_l E rfl rfl rfl rfl rfl rfl rfl (by assumption ) rfl ?_ ) | ((refine mx_slice_to E rfl rfl rfl rfl rfl rfl (by omega) (by omega) rfl ?_; rw [Int.toNat_natCast])) ) | refine cw_seq ?_ | refine cw_line rfl ?_ | refine cw_cond_f rfl ?_ | refine cw_cond_t rfl ?_ | refine cw_skip ?_ | refine pw_then ?_ | refine pw_block ?_ ))
        refine pw_mid ⟨((some ⟨bb, 0, none⟩, hc), swapL lst p0, delH pl kl a.data), hI3⟩ trivial ⟨rfl, by rw [hsl]; rfl, rfl, rfl, rfl, rfl, trivial⟩ (fun w h => ?_)
        have e3 : (lst.set p0 z).flatMap cPH ++ rest = (swapL lst p0).flatMap cPH ++ (((lst.set p0 z).drop n').flatMap cPH ++ rest) := by
          rw [← List.append_assoc, ← List.flatMap_append]
          unfold swapL
          rw [hn', hzd, List.take_append_drop]
        rw [e3] at h
        have h4 := ok_close (z := 2) (cap := hc) (len := (swapL lst p0).length) 1 rfl (by rw [flatMap_len len_PH]) (by
          rw [← e3, List.length_append, flatMap_len len_PH, List.length_set]
          rw [List.length_append, flatMap_len len_PH] at qb
          exact qb) (by rw [hsl]; omega) qd h
        have h5 := h4.pick (H' := [ownd (some ⟨bb, 0, none⟩) hc 69 2 (swapL lst p0).length ((swapL lst p0).flatMap cPH), phR lst, star (OH bx kb sb cb kl mx (delH pl kl a.data))]) [1, 2, 3] (by simp) rfl
        have hsub : ∀ x ∈ swapL lst p0, x ∈ lst := fun x hx => List.mem_of_mem_eraseIdx ((swapL_perm hp0).mem_iff.1 hx)
        exact h5.rep 1 rfl (phR (swapL lst p0)) (phR_sub hsub) (fun x hx => h5.holds 1 _ rfl x (hsub x hx))
  · rintro ⟨⟨⟨hb2, hc2⟩, lst2, pl2⟩, hI2⟩ jk2 -
    dsimp only at hI2 ⊢
    (repeat (first | ((refine (?_ : MX _ _ _ _ _ _ _ _ _ _ _)); (refine mx_mv _ rfl rfl (by conv => {lhs; whnf}) ?_) ) | refine cw_seq ?_ | refine cw_line rfl ?_ ))
    refine g_cf 38 rfl ?_
    refine a_callv rfl rfl rfl rfl Try.func38 rfl rfl rfl (.int .i64 (lst2.length : Nat)) (fun w' hw => by have h := len38 bx kb sb cb kl mx pl2 w' (fun r hr => star_holds (hw.holds 2 _ rfl) hr); rwa [hI2.cnt] at h) rfl ?_
    (repeat (first | ((refine (?_ : MX _ _ _ _ _ _ _ _ _ _ _)); first | refine mx_end ?_ | (refine mx_mv _ rfl rfl (by conv => {lhs; whnf}) ?_) | (refine mx_as _ rfl rfl (by conv => {lhs; whnf}) ?_) | (refine g_bin rfl ?_; first | ( (refine mx_cmpl .neq rfl rfl rfl rfl rfl (by exact cmp_ne_f (by omega) ) ?_) ) | ( refine mx_ar rfl rfl rfl rfl rfl rfl (IntWalk.i64_in _ (by omega)) rfl ?_) ) | (refine g_bi .len rfl ?_; refine mx_len E rfl rfl rfl rfl ?_) ) | refine cw_line rfl ?_ | refine cw_cond_f rfl ?_ | refine cw_skip ?_ | refine pw_then ?_ | refine pw_block ?_ ))
    exact pw_round (i + 1, (hb2, hc2), lst2, pl2) ⟨by show i + 1 ≤ l.length; omega, hI2⟩ (by show l.length - (i + 1) < l.length - i; omega) ⟨rfl, rfl, rfl, rfl, rfl, rfl, trivial⟩ (fun w h => h)
end Go.Proofs.Ytminmbkhlnaabaa
