/- The law CellsApart: a cell is another one behind a call only if it was written by it, or swept away, having been dropped. -/
import Derived.Test.YtfekmflnfhjebaaCu
import Derived.Test.YtfekmflnfhjebaaCv
set_option maxRecDepth 100000
set_option maxHeartbeats 8000000
set_option linter.unusedSimpArgs false
set_option linter.unusedVariables false
namespace Go.Proofs.Ytfekmflnfhjebaa
open Go Go.Sx Go.RowKit
instance : ZeroT Try.prog 71 [.int .i64 0, .int .i64 0, .int .i64 0, .int .i64 0, .int .i64 0, .int .u64 0, .slice none 0 0] := ⟨by kernel_rfl⟩
def mineP (o : CO) (k : Int) (cs : List PC) : Bool := decide (o.id = k) && doesR o cs && (decide (o.kind = 2) || decide (o.kind = 3))
theorem apart_stp {cs : List PC} {L n : Nat} (h : WF cs L n) (o : CO) (a : Nat × Option Addr × Nat) (k : Int) (hk : o.kind ≠ 0) (hd : o.kind = 5 → ∀ c, lc k cs = some c → c.dr = false) :
    (mineP o k cs = false → bsOf k (stpC o a cs L) = bsOf k cs ∧ verOf k (stpC o a cs L) = verOf k cs) ∧ (mineP o k cs = true → (bsOf k (stpC o a cs L)).length = (bsOf k cs).length ∧ verOf k (stpC o a cs L) = verOf k cs + 1) := by
  unfold bsOf verOf
  rw [lc_stp h o a k, if_neg hk]
  by_cases k5 : o.kind = 5
  · rw [if_pos k5]
    have hm : mineP o k cs = false := by unfold mineP; rw [decide_eq_false (show ¬ o.kind = 2 by omega), decide_eq_false (show ¬ o.kind = 3 by omega)]; simp
    refine ⟨fun _ => ?_, fun hm' => (by rw [hm] at hm'; cases hm')⟩
    cases hc : lc k cs with
    | none => exact ⟨rfl, rfl⟩
    | some c => rw [Option.filter_some, hd k5 c hc]; exact ⟨rfl, rfl⟩
  rw [if_neg k5]
  cases hc : lc k cs with
  | none =>
    refine ⟨fun _ => ⟨rfl, rfl⟩, fun hm => ?_⟩
    unfold mineP at hm
    simp only [Bool.and_eq_true, Bool.or_eq_true, decide_eq_true_eq] at hm
    obtain ⟨⟨h1, h2⟩, h3⟩ := hm
    unfold doesR at h2
    subst h1
    rw [if_neg (by omega)] at h2
    rcases h3 with h3 | h3
    · rw [if_pos h3] at h2
      obtain ⟨c, h4, _⟩ := okS_some h2
      rw [hc] at h4; cases h4
    · rw [if_neg (by omega), if_pos h3] at h2
      obtain ⟨c, h4, _⟩ := okW_some h2
      rw [hc] at h4; cases h4
  | some c =>
    simp only [Option.map_some]
    by_cases hid : k = o.id
    · rw [if_pos hid]
      subst hid
      by_cases h2 : o.kind = 2 ∧ okS o cs = true
      · rw [if_pos h2]
        have hm : mineP o o.id cs = true := by
          unfold mineP doesR
          rw [if_neg (by omega), if_pos h2.1, h2.2]
          simp [h2.1]
        refine ⟨fun hm' => (by rw [hm] at hm'; cases hm'), fun _ => ⟨?_, rfl⟩⟩
        obtain ⟨c', h4, h5⟩ := okS_some h2.2
        rw [hc] at h4
        obtain rfl := Option.some.inj h4
        exact wrB_len' h5
      rw [if_neg h2]
      by_cases h3 : o.kind = 3 ∧ okW o cs = true
      · rw [if_pos h3]
        have hm : mineP o o.id cs = true := by
          unfold mineP doesR
          rw [if_neg (by omega), if_neg (by omega), if_pos h3.1, h3.2]
          simp [h3.1]
        refine ⟨fun hm' => (by rw [hm] at hm'; cases hm'), fun _ => ⟨?_, rfl⟩⟩
        obtain ⟨c', h4, h5⟩ := okW_some h3.2
        rw [hc] at h4
        obtain rfl := Option.some.inj h4
        exact h5.symm
      rw [if_neg h3]
      have hm : mineP o o.id cs = false := by
        unfold mineP doesR
        by_cases k2 : o.kind = 2
        · have : okS o cs = false := by cases hs : okS o cs with
            | false => rfl
            | true => exact absurd ⟨k2, hs⟩ h2
          rw [if_neg (by omega), if_pos k2, this]; simp
        by_cases k3 : o.kind = 3
        · have : okW o cs = false := by cases hs : okW o cs with
            | false => rfl
            | true => exact absurd ⟨k3, hs⟩ h3
          rw [if_neg (by omega), if_neg (by omega), if_pos k3, this]; simp
        rw [decide_eq_false k2, decide_eq_false k3]; simp
      refine ⟨fun _ => ?_, fun hm' => (by rw [hm] at hm'; cases hm')⟩
      split
      · exact ⟨rfl, rfl⟩
      · exact ⟨rfl, rfl⟩
    · rw [if_neg hid]
      have hm : mineP o k cs = false := by unfold mineP; rw [decide_eq_false (show ¬ o.id = k from fun e => hid e.symm)]; rfl
      exact ⟨fun _ => ⟨rfl, rfl⟩, fun hm' => (by rw [hm] at hm'; cases hm')⟩
def dropB (d : Bool) (o : CO) (k : Int) (cs : List PC) : Bool := d || (decide (o.kind = 4) && decide (o.id = k) && doesR o cs)
theorem drop_stp {cs : List PC} {L n : Nat} (h : WF cs L n) (o : CO) (a : Nat × Option Addr × Nat) (k : Int) (d : Bool) (hd : d = false → ∀ c, lc k cs = some c → c.dr = false) :
    dropB d o k cs = false → ∀ c, lc k (stpC o a cs L) = some c → c.dr = false := by
  intro hb c hc
  unfold dropB at hb
  rw [Bool.or_eq_false_iff] at hb
  have h0 := hd hb.1
  rw [lc_stp h o a k] at hc
  split at hc
  · cases hl : lc k cs with
    | none =>
      rw [hl] at hc
      simp only [Option.none_or] at hc
      split at hc
      · obtain rfl := Option.some.inj hc; rfl
      · cases hc
    | some q =>
      rw [hl] at hc
      obtain rfl := Option.some.inj hc
      exact h0 q hl
  · split at hc
    · cases hl : lc k cs with
      | none => rw [hl] at hc; cases hc
      | some q =>
        rw [hl, Option.filter_some] at hc
        split at hc
        · obtain rfl := Option.some.inj hc
          exact h0 q hl
        · cases hc
    · cases hl : lc k cs with
      | none => rw [hl] at hc; cases hc
      | some q =>
        rw [hl] at hc
        have hq := h0 q hl
        have hc := Option.some.inj hc
        subst hc
        split
        · rename_i hid
          split
          · exact hq
          · split
            · exact hq
            · split
              · rename_i h4
                exfalso
                have h5 := hb.2
                unfold doesR at h5
                rw [if_neg (by omega), if_neg (by omega), if_neg (by omega), if_pos h4.1, h4.2, decide_eq_true h4.1, decide_eq_true hid.symm] at h5
                cases h5
              · exact hq
        · exact hq
/-- A call, as it may be handed in. -/
def CoP (W : World) (o : CO) : Prop := InL W o.ad 1 cU o.bs ∧ o.bs.length ≤ o.cap ∧ Byts o.bs ∧ (-9223372036854775808 ≤ o.off ∧ o.off < 9223372036854775808)
theorem old_ne {α : Type} {w0 w : World} {H L : List Res} {z : Nat} {c : α → List Value} {xs : List α} {ad : Option Addr} (hw : Ok (fun _ => False) w0 H w) (j : Nat) (hj : H[j]? = some (star L)) (hz : ∀ x, (c x).length = z) (hp : 0 < z) (hl : InL w0 ad z c xs) : xs ≠ [] → ∀ b off, ad = some ⟨b, off, none⟩ → ¬ domL L b := fun hne b off e hd => by
  cases xs with
  | nil => exact hne rfl
  | cons x xs =>
    obtain ⟨b', off', e', hc⟩ := hl hne
    rw [e] at e'
    obtain ⟨rfl, rfl⟩ : b = b' ∧ off = off' := by simpa using e'
    have hx := hz x
    cases hcx : c x with
    | nil => rw [hcx] at hx; simp at hx; omega
    | cons v vs =>
      have := hc 0 x rfl 0 v (by rw [hcx]; rfl)
      exact (hw.own j _ hj b hd).2 (World.block_lt_of_cell? w0 _ this)
theorem bs_len {cs : List PC} {L n : Nat} (h : WF cs L n) (k : Int) : (bsOf k cs).length ≤ 64 := by
  unfold bsOf
  cases hc : lc k cs with
  | none => exact Nat.zero_le _
  | some c => exact h.bs c (lc_mem hc).1
theorem ver_le {cs : List PC} {L n : Nat} (h : WF cs L n) (k : Int) : 0 ≤ verOf k cs ∧ verOf k cs ≤ n := by
  unfold verOf
  cases hc : lc k cs with
  | none => dsimp only; omega
  | some c => have := (h.ok c (lc_mem hc).1).2.2; dsimp only; omega
theorem lawCellsApart (ad : Option Addr) (cap : Nat) (l : List CO) (id : Int) (hm : l.length ≤ cap ∧ cap ≤ maxLen) (w : World) (hl : InL w ad 7 cCO l) (ha : ∀ o ∈ l, CoP w o) :
    Calls Try.prog 12 #[.slice ad l.length cap, .int .i64 id] w fun e w' => e = .returned (.bool true) ∧ Grow w w' := by
  refine enter2 (S := fun _ => False) 133 Try.func12 rfl rfl rfl (Ok.start w) ?_
  by_cases hlong : l.length ≤ 200 ∧ ∀ a ∈ l, a.bs.length ≤ 200
  case neg =>
    (repeat (first | ((refine (?_ : MX _ _ _ _ _ _ _ _ _ _ _)); first | refine mx_end ?_ | (refine mx_mv _ rfl rfl (by conv => {lhs; whnf}) ?_) | (refine mx_as _ rfl rfl (by conv => {lhs; whnf}) ?_) ) | refine cw_seq ?_ | refine cw_line rfl ?_ | refine pw_then ?_ ))
    refine g_cf 51 rfl ?_
    refine a_callv rfl rfl rfl rfl Try.func51 rfl rfl rfl (.bool true) (fun w' hw => long51n ad cap l hm hlong w' (hl.keep hw fun _ _ _ h => h)) rfl ?_
    (repeat (first | ((refine (?_ : MX _ _ _ _ _ _ _ _ _ _ _)); first | refine mx_end ?_ | (refine mx_as _ rfl rfl (by conv => {lhs; whnf}) ?_) | (refine g_call rfl ?_; (refine g_cf 47 rfl ?_; refine mx_call rfl rfl rfl Try.func47 rfl rfl rfl _ (fun w => works47 w) rfl ?_))) | refine cw_seq ?_ | refine cw_line rfl ?_ | refine cw_cond_t rfl ?_ | refine cw_ret ?_ | refine pw_then ?_ | refine pw_then_r ?_ ))
    exact pw_ret rfl rfl rfl rfl fun w' hw => ⟨rfl, hw.keep.grow⟩
  (repeat (first | ((refine (?_ : MX _ _ _ _ _ _ _ _ _ _ _)); first | refine mx_end ?_ | (refine mx_mv _ rfl rfl (by conv => {lhs; whnf}) ?_) | (refine mx_as _ rfl rfl (by conv => {lhs; whnf}) ?_) ) | refine cw_seq ?_ | refine cw_line rfl ?_ | refine pw_then ?_ ))
  refine g_cf 51 rfl ?_
  refine a_callv rfl rfl rfl rfl Try.func51 rfl rfl rfl (.bool false) (fun w' hw => long51y ad cap l hlong w' (hl.keep hw fun _ _ _ h => h)) rfl ?_
  (repeat (first | ((refine (?_ : MX _ _ _ _ _ _ _ _ _ _ _)); refine mx_end ?_ ) | refine cw_seq ?_ | refine cw_line rfl ?_ | refine cw_cond_f rfl ?_ | refine cw_skip ?_ | refine pw_then ?_ ))
  refine g_cf 27 rfl ?_
  refine a_callL rfl rfl rfl rfl Try.func27 rfl rfl rfl [] _ rfl (fun a : Nat × Nat => .pointer (some ⟨a.1, 0, none⟩)) (fun a => OC a.1 a.2 0 []) (fun w' hw _ => new27 w') (fun _ => rfl) (fun _ _ _ => trivial) (fun a => ?_)
  obtain ⟨bx, r⟩ := a
  refine mx_weak (H' := [Sx.star (OC bx r ((0 : Nat) : Int) [])]) (fun w h => h.star) (fun _ _ => trivial) ?_
  (repeat (first | ((refine (?_ : MX _ _ _ _ _ _ _ _ _ _ _)); first | refine mx_end ?_ | (refine mx_as _ rfl rfl (by conv => {lhs; whnf}) ?_) ) | refine cw_seq ?_ | refine cw_line rfl ?_ | refine cw_block ?_ | refine pw_then ?_ ))
  refine cw_loop (ι := Nat × List PC × Nat × Bool) (fun q => [(7, .int .i64 q.1), (6, .bool q.2.2.2), (5, .pointer (some ⟨bx, 0, none⟩)), (0, .slice ad l.length cap), (1, .int .i64 id)]) (fun q => [Sx.star (OC bx r ((q.2.2.1 : Nat) : Int) q.2.1)]) (fun q => q.1 ≤ l.length ∧ WF q.2.1 q.2.2.1 q.1 ∧ (q.2.2.2 = false → ∀ c, lc id q.2.1 = some c → c.dr = false)) (fun q => l.length - q.1) (0, [], 0, false) ⟨by show 0 ≤ l.length; omega, WF.nil, fun _ c hc => by cases hc⟩ ⟨rfl, rfl, rfl, rfl, rfl, trivial⟩ (fun w h => h) ?_
  rintro ⟨i, cs, L, d⟩ jk ⟨hi, hwf, hd⟩
  dsimp only at hi hwf hd ⊢
  by_cases hil : (i : Int) < l.length
  case neg =>
    (repeat (first | ((refine (?_ : MX _ _ _ _ _ _ _ _ _ _ _)); first | refine mx_end ?_ | (refine mx_mv _ rfl rfl (by conv => {lhs; whnf}) ?_) | (refine mx_as _ rfl rfl (by conv => {lhs; whnf}) ?_) | (refine g_bin rfl ?_; ( (refine mx_cmpl .lss rfl rfl rfl rfl rfl (by exact cmp_lt_f (by omega) ) ?_) ) ) | (refine g_bi .len rfl ?_; refine mx_len E rfl rfl rfl rfl ?_) | (refine g_call rfl ?_; (refine g_cf 47 rfl ?_; refine mx_call rfl rfl rfl Try.func47 rfl rfl rfl _ (fun w => works47 w) rfl ?_))) | refine cw_seq ?_ | refine cw_line rfl ?_ | refine cw_cond_f rfl ?_ | refine cw_exit ?_ | refine cw_ret ?_ | refine pw_then ?_ | refine pw_then_x ?_ | refine pw_block_e ?_ ))
    exact pw_ret rfl rfl rfl rfl fun w' hw => ⟨rfl, hw.keep.grow⟩
  obtain ⟨o, ho⟩ := getElem_some (xs := l) (i := i) (by omega)
  obtain ⟨b4, off, e, hcc⟩ := inl_at hl ho
  subst e
  have hS : ¬ (fun _ : Nat => False) b4 := fun h => h
  have hc0 : ∀ (k : Nat) (v : Value), (cCO o)[k]? = some v → w.cell? ⟨b4, off + i * 7 + k, none⟩ = some v := hcc
  obtain ⟨p1, p2, p3, p4⟩ := ha o (List.mem_of_getElem? ho)
  have hbl := hlong.2 o (List.mem_of_getElem? ho)
  (repeat (first | ((refine (?_ : MX _ _ _ _ _ _ _ _ _ _ _)); first | refine mx_end ?_ | (refine mx_mv _ rfl rfl (by conv => {lhs; whnf}) ?_) | (refine g_load rfl ?_; refine mx_oldn E rfl rfl rfl rfl rfl (by assumption) (by assumption) (rfl) rfl ?_ ) | (refine g_bin rfl ?_; ( (refine mx_cmpl .lss rfl rfl rfl rfl rfl (by exact cmp_lt_t (by omega) ) ?_) ) ) | (refine g_ix rfl ?_; refine mx_ixsn E rfl rfl rfl rfl rfl rfl (by omega) rfl ?_ ) | (refine g_bi .len rfl ?_; refine mx_len E rfl rfl rfl rfl ?_) | (refine g_store rfl ?_; refine s_l E rfl rfl rfl rfl rfl rfl rfl (by exact Sp.all rfl ) rfl ?_ ) | (refine a_new rfl rfl rfl rfl rfl (fun _ => ?_)) ) | refine cw_seq ?_ | refine cw_line rfl ?_ | refine cw_block ?_ | refine cw_cond_t rfl ?_ | refine cw_skip ?_ | refine pw_then ?_ ))
  refine g_cf 40 rfl ?_; refine a_callL rfl rfl rfl rfl Try.func40 rfl rfl rfl [] _ rfl (fun a : Option Addr × Nat => .slice a.1 (bsOf id cs).length a.2) (fun a => [ownd a.1 a.2 5 1 (bsOf id cs).length ((bsOf id cs).flatMap cU)]) (fun w' hw _ => bytes40 bx r _ id cs (wf_bs hwf (by omega)) w' (oc1 (hw.holds 1 _ rfl)) (oc2 (hw.holds 1 _ rfl)) (oc3 (hw.holds 1 _ rfl))) (fun _ => rfl) (fun _ _ _ => trivial) (fun a_1 => ?_); rw [List.singleton_append]
  (repeat (first | ((refine (?_ : MX _ _ _ _ _ _ _ _ _ _ _)); first | refine mx_end ?_ | (refine mx_mv _ rfl rfl (by conv => {lhs; whnf}) ?_) | (refine mx_as _ rfl rfl (by conv => {lhs; whnf}) ?_) ) | refine cw_seq ?_ | refine cw_line rfl ?_ | refine pw_then ?_ ))
  refine g_cf 52 rfl ?_; refine a_callv rfl rfl rfl rfl Try.func52 rfl rfl rfl (.int .i64 (verOf id cs)) (fun w' hw => version52 bx r _ id cs w' (oc1 (hw.holds 2 _ rfl)) (oc2 (hw.holds 2 _ rfl)) (oc3 (hw.holds 2 _ rfl))) rfl ?_
  (repeat (first | ((refine (?_ : MX _ _ _ _ _ _ _ _ _ _ _)); first | refine mx_end ?_ | (refine mx_mv _ rfl rfl (by conv => {lhs; whnf}) ?_) | (refine mx_as _ rfl rfl (by conv => {lhs; whnf}) ?_) ) | refine cw_seq ?_ | refine cw_line rfl ?_ | refine pw_then ?_ ))
  refine g_cf 33 rfl ?_; refine a_callv rfl rfl rfl rfl Try.func33 rfl rfl rfl (.int .i64 (liv cs)) (fun w' hw => live33u hwf (by omega) bx r w' (oc1 (hw.holds 2 _ rfl)) (oc2 (hw.holds 2 _ rfl)) (oc3 (hw.holds 2 _ rfl))) rfl ?_
  (repeat (first | ((refine (?_ : MX _ _ _ _ _ _ _ _ _ _ _)); first | refine mx_end ?_ | (refine mx_mv _ rfl rfl (by conv => {lhs; whnf}) ?_) | (refine mx_as _ rfl rfl (by conv => {lhs; whnf}) ?_) | (refine g_load rfl ?_; refine mx_getn E rfl rfl rfl rfl rfl (by exact Vr.all rfl ) rfl ?_ ) ) | refine cw_seq ?_ | refine cw_line rfl ?_ | refine pw_then ?_ ))
  refine g_cf 53 rfl ?_
  refine a_callo rfl rfl rfl rfl Try.func53 rfl rfl rfl 2 rfl (fun a : Nat × Option Addr × Nat => .bool (doesR o cs)) (fun a => []) (fun a => OC bx r ((stpL o L : Nat) : Int) (stpC o a cs L)) (fun w' hw h => does53 hwf (by omega) bx r o hbl p2 p4 w' h (p1.keep hw fun _ _ _ h => h) (old_ne hw 2 rfl len_U (by omega) p1)) (fun _ => rfl) (fun _ _ _ => trivial) (fun aa => ?_)
  have hwf2 := hwf.step o aa p3
  have hdr2 := drop_stp hwf o aa id d hd
  have hap := fun hk hd5 => apart_stp hwf o aa id hk hd5
  have hlv := liv_stp hwf o aa
  have hv1 := ver_le hwf id
  have hv2 := ver_le hwf2 id
  have hb1 := bs_len hwf id
  have hb2 := bs_len hwf2 id
  have hln : liv cs ≤ 200 := by
    have h1 : liv cs ≤ cs.length := List.length_filter_le _ _
    have h2 := hwf.len
    have h3 := hwf.le
    omega
  generalize stpC o aa cs L = cs2 at hwf2 hdr2 hap hlv hv2 hb2 ⊢
  generalize hL2 : stpL o L = L2 at hwf2 ⊢
  rename_i b8
  obtain ⟨u1, u2⟩ := a_1
  refine mx_weak (H' := [ownd u1 u2 5 1 (bsOf id cs).length ((bsOf id cs).flatMap cU), row b8 71 (cCO o), Sx.star (OC bx r ((L2 : Nat) : Int) cs2)]) (fun w h => h) (fun _ _ => trivial) ?_
  (repeat (first | ((refine (?_ : MX _ _ _ _ _ _ _ _ _ _ _)); first | refine mx_end ?_ | (refine mx_mv _ rfl rfl (by conv => {lhs; whnf}) ?_) | (refine mx_as _ rfl rfl (by conv => {lhs; whnf}) ?_) ) | refine cw_seq ?_ | refine cw_line rfl ?_ | refine pw_then ?_ ))
  refine g_cf 40 rfl ?_; refine a_callL rfl rfl rfl rfl Try.func40 rfl rfl rfl [] _ rfl (fun a : Option Addr × Nat => .slice a.1 (bsOf id cs2).length a.2) (fun a => [ownd a.1 a.2 5 1 (bsOf id cs2).length ((bsOf id cs2).flatMap cU)]) (fun w' hw _ => bytes40 bx r _ id cs2 (wf_bs hwf2 (by omega)) w' (oc1 (hw.holds 2 _ rfl)) (oc2 (hw.holds 2 _ rfl)) (oc3 (hw.holds 2 _ rfl))) (fun _ => rfl) (fun _ _ _ => trivial) (fun a_1 => ?_); rw [List.singleton_append]
  obtain ⟨u3, u4⟩ := a_1
  (repeat (first | ((refine (?_ : MX _ _ _ _ _ _ _ _ _ _ _)); first | refine mx_end ?_ | (refine mx_as _ rfl rfl (by conv => {lhs; whnf}) ?_) ) | refine pw_then ?_))
  have hmd : mineP o id cs = (decide (o.id = id) && doesR o cs && (decide (o.kind = 2) || decide (o.kind = 3))) := rfl
  have hdd : dropB d o id cs = (d || (decide (o.kind = 4) && decide (o.id = id) && doesR o cs)) := rfl
  generalize mineP o id cs = mm at hap hmd
  generalize dropB d o id cs = d2 at hdr2 hdd
  have hlv : o.kind ≠ 0 → liv cs2 + (if o.kind = 4 ∧ doesR o cs = true then 1 else 0) = liv cs := fun hk => by
    have h5 := hlv hk
    by_cases k4 : o.kind = 4
    · have : doesR o cs = okD o.id cs := by unfold doesR; rw [if_neg (by omega), if_neg (by omega), if_neg (by omega), if_pos k4]
      rw [this]
      exact h5
    · rw [if_neg fun h => k4 h.1] at h5 ⊢
      exact h5
  generalize hdn : doesR o cs = D at hmd hdd hlv ⊢
  refine cw_mid (ι := Unit) (fun _ => [(14, .bool mm), (7, .int .i64 i), (6, .bool d), (5, .pointer (some ⟨bx, 0, none⟩)), (0, .slice (some ⟨b4, off, none⟩) l.length cap), (1, .int .i64 id), (8, .pointer (some ⟨b8, 0, none⟩)), (9, .slice u1 (bsOf id cs).length u2), (10, .int .i64 (verOf id cs)), (11, .int .i64 (liv cs)), (12, .bool D), (13, .slice u3 (bsOf id cs2).length u4)]) (fun _ => [ownd u3 u4 5 1 (bsOf id cs2).length ((bsOf id cs2).flatMap cU), ownd u1 u2 5 1 (bsOf id cs).length ((bsOf id cs).flatMap cU), row b8 71 (cCO o), Sx.star (OC bx r ((L2 : Nat) : Int) cs2)]) (fun _ => True) ?_ ?_
  · have fin : ∀ {b : Bool}, b = (decide (o.id = id) && D && (decide (o.kind = 2) || decide (o.kind = 3))) → b = mm := fun h => h.trans hmd.symm
    by_cases hid : o.id = id
    case neg =>
      obtain rfl : false = mm := fin (by rw [decide_eq_false hid]; rfl)
      (repeat (first | ((refine (?_ : MX _ _ _ _ _ _ _ _ _ _ _)); first | refine mx_end ?_ | (refine mx_mv _ rfl rfl (by conv => {lhs; whnf}) ?_) | (refine mx_as _ rfl rfl (by conv => {lhs; whnf}) ?_) | ( refine mx_fa E rfl rfl rfl rfl ?_) | (refine g_load rfl ?_; refine mx_get E rfl rfl rfl rfl rfl (by rfl) rfl ?_ ) | (refine g_bin rfl ?_; ((refine mx_cmpl .eql rfl rfl rfl rfl rfl (by first | exact cmp_eq_f (by omega) | rfl) ?_) ) ) | (refine mx_skip rfl rfl rfl ?_) | (refine g_pick rfl ?_; refine mx_andf rfl rfl rfl rfl rfl ?_ ) ) | refine cw_line rfl ?_ ))
      exact pw_mid () trivial ⟨rfl, rfl, rfl, rfl, rfl, rfl, rfl, rfl, rfl, rfl, rfl, rfl, trivial⟩ (fun w h => h)
    cases D with
    | false =>
      obtain rfl : false = mm := fin (by simp)
      (repeat (first | ((refine (?_ : MX _ _ _ _ _ _ _ _ _ _ _)); first | refine mx_end ?_ | (refine mx_mv _ rfl rfl (by conv => {lhs; whnf}) ?_) | (refine mx_as _ rfl rfl (by conv => {lhs; whnf}) ?_) | ( refine mx_fa E rfl rfl rfl rfl ?_) | (refine g_load rfl ?_; refine mx_get E rfl rfl rfl rfl rfl (by rfl) rfl ?_ ) | (refine g_bin rfl ?_; ((refine mx_cmpl .eql rfl rfl rfl rfl rfl (by first | exact cmp_eq_t (by omega) | rfl) ?_) ) ) | (refine mx_skip rfl rfl rfl ?_) | (refine g_pick rfl ?_; first | refine mx_andf rfl rfl rfl rfl rfl ?_ | refine mx_and rfl rfl rfl rfl rfl rfl ?_ ) ) | refine cw_line rfl ?_ ))
      exact pw_mid () trivial ⟨rfl, rfl, rfl, rfl, rfl, rfl, rfl, rfl, rfl, rfl, rfl, rfl, trivial⟩ (fun w h => h)
    | true =>
      by_cases k2 : o.kind = 2
      · obtain rfl : true = mm := fin (by rw [decide_eq_true hid, decide_eq_true k2]; rfl)
        (repeat (first | ((refine (?_ : MX _ _ _ _ _ _ _ _ _ _ _)); first | refine mx_end ?_ | (refine mx_mv _ rfl rfl (by conv => {lhs; whnf}) ?_) | (refine mx_as _ rfl rfl (by conv => {lhs; whnf}) ?_) | (first | refine mx_fa0 E rfl rfl rfl rfl ?_ | refine mx_fa E rfl rfl rfl rfl ?_) | (refine g_load rfl ?_; refine mx_get E rfl rfl rfl rfl rfl (by rfl) rfl ?_ ) | (refine g_bin rfl ?_; ((refine mx_cmpl .eql rfl rfl rfl rfl rfl (by first | exact cmp_eq_t (by omega) | rfl) ?_) ) ) | (refine mx_skip rfl rfl rfl ?_) | (refine g_pick rfl ?_; first | refine mx_ort rfl rfl rfl rfl rfl ?_ | refine mx_and rfl rfl rfl rfl rfl rfl ?_ ) ) | refine cw_line rfl ?_ ))
        exact pw_mid () trivial ⟨rfl, rfl, rfl, rfl, rfl, rfl, rfl, rfl, rfl, rfl, rfl, rfl, trivial⟩ (fun w h => h)
      by_cases k3 : o.kind = 3
      · obtain rfl : true = mm := fin (by rw [decide_eq_true hid, decide_eq_true k3]; simp)
        (repeat (first | ((refine (?_ : MX _ _ _ _ _ _ _ _ _ _ _)); first | refine mx_end ?_ | (refine mx_mv _ rfl rfl (by conv => {lhs; whnf}) ?_) | (refine mx_as _ rfl rfl (by conv => {lhs; whnf}) ?_) | (first | refine mx_fa0 E rfl rfl rfl rfl ?_ | refine mx_fa E rfl rfl rfl rfl ?_) | (refine g_load rfl ?_; refine mx_get E rfl rfl rfl rfl rfl (by rfl) rfl ?_ ) | (refine g_bin rfl ?_; ((refine mx_cmpl .eql rfl rfl rfl rfl rfl (by first | exact cmp_eq_t (by omega) | exact cmp_eq_f (by omega) ) ?_) ) ) | (refine g_pick rfl ?_; first | refine mx_and rfl rfl rfl rfl rfl rfl ?_ | refine mx_or rfl rfl rfl rfl rfl rfl ?_ ) ) | refine cw_line rfl ?_ ))
        exact pw_mid () trivial ⟨rfl, rfl, rfl, rfl, rfl, rfl, rfl, rfl, rfl, rfl, rfl, rfl, trivial⟩ (fun w h => h)
      · obtain rfl : false = mm := fin (by rw [decide_eq_false k2, decide_eq_false k3]; simp)
        (repeat (first | ((refine (?_ : MX _ _ _ _ _ _ _ _ _ _ _)); first | refine mx_end ?_ | (refine mx_mv _ rfl rfl (by conv => {lhs; whnf}) ?_) | (refine mx_as _ rfl rfl (by conv => {lhs; whnf}) ?_) | (first | refine mx_fa0 E rfl rfl rfl rfl ?_ | refine mx_fa E rfl rfl rfl rfl ?_) | (refine g_load rfl ?_; refine mx_get E rfl rfl rfl rfl rfl (by rfl) rfl ?_ ) | (refine g_bin rfl ?_; ((refine mx_cmpl .eql rfl rfl rfl rfl rfl (by first | exact cmp_eq_t (by omega) | exact cmp_eq_f (by omega) ) ?_) ) ) | (refine g_pick rfl ?_; first | refine mx_and rfl rfl rfl rfl rfl rfl ?_ | refine mx_or rfl rfl rfl rfl rfl rfl ?_ ) ) | refine cw_line rfl ?_ ))
        exact pw_mid () trivial ⟨rfl, rfl, rfl, rfl, rfl, rfl, rfl, rfl, rfl, rfl, rfl, rfl, trivial⟩ (fun w h => h)
  rintro ⟨⟩ jk2 -
  refine cw_mid (ι := Unit) (fun _ => [(6, .bool d2), (14, .bool mm), (7, .int .i64 i), (5, .pointer (some ⟨bx, 0, none⟩)), (0, .slice (some ⟨b4, off, none⟩) l.length cap), (1, .int .i64 id), (8, .pointer (some ⟨b8, 0, none⟩)), (9, .slice u1 (bsOf id cs).length u2), (10, .int .i64 (verOf id cs)), (11, .int .i64 (liv cs)), (12, .bool D), (13, .slice u3 (bsOf id cs2).length u4)]) (fun _ => [ownd u3 u4 5 1 (bsOf id cs2).length ((bsOf id cs2).flatMap cU), ownd u1 u2 5 1 (bsOf id cs).length ((bsOf id cs).flatMap cU), row b8 71 (cCO o), Sx.star (OC bx r ((L2 : Nat) : Int) cs2)]) (fun _ => True) ?_ ?_
  · have fin : ∀ {b : Bool}, b = (d || (decide (o.kind = 4) && decide (o.id = id) && D)) → b = d2 := fun h => h.trans hdd.symm
    cases d with
    | true =>
      obtain rfl : true = d2 := fin rfl
      (repeat (first | ((refine (?_ : MX _ _ _ _ _ _ _ _ _ _ _)); first | refine mx_end ?_ | (refine mx_mv _ rfl rfl (by conv => {lhs; whnf}) ?_) | (refine mx_as _ rfl rfl (by conv => {lhs; whnf}) ?_) | (refine mx_skip rfl rfl rfl ?_) | (refine g_pick rfl ?_; refine mx_ort rfl rfl rfl rfl rfl ?_ ) ) | refine cw_line rfl ?_ ))
      exact pw_mid () trivial ⟨rfl, rfl, rfl, rfl, rfl, rfl, rfl, rfl, rfl, rfl, rfl, rfl, trivial⟩ (fun w h => h)
    | false =>
      by_cases k4 : o.kind = 4
      case neg =>
        obtain rfl : false = d2 := fin (by rw [decide_eq_false k4]; rfl)
        (repeat (first | ((refine (?_ : MX _ _ _ _ _ _ _ _ _ _ _)); first | refine mx_end ?_ | (refine mx_mv _ rfl rfl (by conv => {lhs; whnf}) ?_) | (refine mx_as _ rfl rfl (by conv => {lhs; whnf}) ?_) | (refine mx_fa0 E rfl rfl rfl rfl ?_ ) | (refine g_load rfl ?_; refine mx_get E rfl rfl rfl rfl rfl (by rfl) rfl ?_ ) | (refine g_bin rfl ?_; ((refine mx_cmpl .eql rfl rfl rfl rfl rfl (by exact cmp_eq_f (by omega) ) ?_) ) ) | (refine mx_skip rfl rfl rfl ?_) | (refine g_pick rfl ?_; first | refine mx_andf rfl rfl rfl rfl rfl ?_ | refine mx_or rfl rfl rfl rfl rfl rfl ?_ ) ) | refine cw_line rfl ?_ ))
        exact pw_mid () trivial ⟨rfl, rfl, rfl, rfl, rfl, rfl, rfl, rfl, rfl, rfl, rfl, rfl, trivial⟩ (fun w h => h)
      by_cases hid : o.id = id
      case neg =>
        obtain rfl : false = d2 := fin (by rw [decide_eq_false hid]; simp)
        (repeat (first | ((refine (?_ : MX _ _ _ _ _ _ _ _ _ _ _)); first | refine mx_end ?_ | (refine mx_mv _ rfl rfl (by conv => {lhs; whnf}) ?_) | (refine mx_as _ rfl rfl (by conv => {lhs; whnf}) ?_) | (first | refine mx_fa0 E rfl rfl rfl rfl ?_ | refine mx_fa E rfl rfl rfl rfl ?_) | (refine g_load rfl ?_; refine mx_get E rfl rfl rfl rfl rfl (by rfl) rfl ?_ ) | (refine g_bin rfl ?_; ((refine mx_cmpl .eql rfl rfl rfl rfl rfl (by first | exact cmp_eq_t (by omega) | exact cmp_eq_f (by omega) ) ?_) ) ) | (refine mx_skip rfl rfl rfl ?_) | (refine g_pick rfl ?_; first | refine mx_andf rfl rfl rfl rfl rfl ?_ | refine mx_and rfl rfl rfl rfl rfl rfl ?_ | refine mx_or rfl rfl rfl rfl rfl rfl ?_ ) ) | refine cw_line rfl ?_ ))
        exact pw_mid () trivial ⟨rfl, rfl, rfl, rfl, rfl, rfl, rfl, rfl, rfl, rfl, rfl, rfl, trivial⟩ (fun w h => h)
      obtain rfl : D = d2 := fin (by rw [decide_eq_true hid, decide_eq_true k4]; simp)
      (repeat (first | ((refine (?_ : MX _ _ _ _ _ _ _ _ _ _ _)); first | refine mx_end ?_ | (refine mx_mv _ rfl rfl (by conv => {lhs; whnf}) ?_) | (refine mx_as _ rfl rfl (by conv => {lhs; whnf}) ?_) | (first | refine mx_fa0 E rfl rfl rfl rfl ?_ | refine mx_fa E rfl rfl rfl rfl ?_) | (refine g_load rfl ?_; refine mx_get E rfl rfl rfl rfl rfl (by rfl) rfl ?_ ) | (refine g_bin rfl ?_; ((refine mx_cmpl .eql rfl rfl rfl rfl rfl (by exact cmp_eq_t (by omega) ) ?_) ) ) | (refine g_pick rfl ?_; first | refine mx_and rfl rfl rfl rfl rfl rfl ?_ | refine mx_or rfl rfl rfl rfl rfl rfl ?_ ) ) | refine cw_line rfl ?_ ))
      exact pw_mid () trivial ⟨rfl, rfl, rfl, rfl, rfl, rfl, rfl, rfl, rfl, rfl, rfl, rfl, trivial⟩ (fun w h => h)
  rintro ⟨⟩ jk3 -
  have hi1 : (i : Int) + 1 = ((i + 1 : Nat) : Int) := rfl
  by_cases k0 : o.kind = 0
  · (repeat (first | ((refine (?_ : MX _ _ _ _ _ _ _ _ _ _ _)); first | refine mx_end ?_ | (refine mx_mv _ rfl rfl (by conv => {lhs; whnf}) ?_) | (refine mx_as _ rfl rfl (by conv => {lhs; whnf}) ?_) | (refine mx_fa0 E rfl rfl rfl rfl ?_ ) | (refine g_load rfl ?_; refine mx_get E rfl rfl rfl rfl rfl (by rfl) rfl ?_ ) | (refine g_bin rfl ?_; first | ((refine mx_cmpl .eql rfl rfl rfl rfl rfl (by first | exact cmp_eq_t (by omega) | rfl) ?_) ) | (refine mx_ar rfl rfl rfl rfl rfl rfl (IntWalk.i64_in _ (by omega)) rfl ?_ ) ) | (refine mx_skip rfl rfl rfl ?_) | (refine g_pick rfl ?_; refine mx_ort rfl rfl rfl rfl rfl ?_ ) ) | refine cw_seq ?_ | refine cw_line rfl ?_ | refine cw_cond_t rfl ?_ | refine cw_exit ?_ | refine pw_then ?_ | refine pw_then_x ?_ | refine pw_block_e ?_ ))
    exact pw_round (i + 1, cs2, L2, d2) ⟨by show i + 1 ≤ l.length; omega, hwf2, hdr2⟩ (by show l.length - (i + 1) < l.length - i; omega) ⟨rfl, rfl, rfl, rfl, rfl, trivial⟩ (fun w h => h.pick [3] (by simp) rfl)
  have hgo : ¬ (o.kind = 5 ∧ d2 = true) → o.kind = 5 → ∀ c, lc id cs = some c → c.dr = false := fun hn k5 => by
    have hd2 : d2 = false := by cases d2 with
      | false => rfl
      | true => exact absurd ⟨k5, rfl⟩ hn
    rw [hd2] at hdd
    cases d with
    | false => exact hd rfl
    | true => cases hdd
  have rest : ¬ (o.kind = 5 ∧ d2 = true) → (mm = false → bsOf id cs2 = bsOf id cs ∧ verOf id cs2 = verOf id cs) ∧ (mm = true → (bsOf id cs2).length = (bsOf id cs).length ∧ verOf id cs2 = verOf id cs + 1) := fun hn => hap k0 (hgo hn)
  have hlv := hlv k0
  generalize hd2 : d2 = d3
  by_cases k5 : o.kind = 5
  case' pos =>
    cases d3 with
    | true =>
      (repeat (first | ((refine (?_ : MX _ _ _ _ _ _ _ _ _ _ _)); first | refine mx_end ?_ | (refine mx_mv _ rfl rfl (by conv => {lhs; whnf}) ?_) | (refine mx_as _ rfl rfl (by conv => {lhs; whnf}) ?_) | (refine mx_fa0 E rfl rfl rfl rfl ?_ ) | (refine g_load rfl ?_; refine mx_get E rfl rfl rfl rfl rfl (by rfl) rfl ?_ ) | (refine g_bin rfl ?_; first | ((refine mx_cmpl .eql rfl rfl rfl rfl rfl (by first | exact cmp_eq_t (by omega) | exact cmp_eq_f (by omega) ) ?_) ) | (refine mx_ar rfl rfl rfl rfl rfl rfl (IntWalk.i64_in _ (by omega)) rfl ?_ ) ) | (refine g_pick rfl ?_; first | refine mx_and rfl rfl rfl rfl rfl rfl ?_ | refine mx_or rfl rfl rfl rfl rfl rfl ?_ ) ) | refine cw_seq ?_ | refine cw_line rfl ?_ | refine cw_cond_t rfl ?_ | refine cw_exit ?_ | refine pw_then ?_ | refine pw_then_x ?_ | refine pw_block_e ?_ ))
      exact pw_round (i + 1, cs2, L2, true) ⟨by show i + 1 ≤ l.length; omega, hwf2, fun h => (by cases h)⟩ (by show l.length - (i + 1) < l.length - i; omega) ⟨rfl, rfl, rfl, rfl, rfl, trivial⟩ (fun w h => h.pick [3] (by simp) rfl)
    | false => ?_
    have rest := rest (by rw [hd2]; simp)
  case' neg =>
    have rest := rest (fun h => k5 h.1)
  all_goals (
    have hl4 : o.kind = 4 → D = true → (liv cs2 : Int) = liv cs - 1 := fun h1 h2 => by rw [if_pos ⟨h1, h2⟩] at hlv; omega
    have hl5 : ¬ (o.kind = 4 ∧ D = true) → (liv cs2 : Int) = liv cs - 0 := fun h1 => by rw [if_neg h1] at hlv; omega
    cases mm with
    | false =>
      obtain ⟨e1, e2⟩ := rest.1 rfl
      (repeat (first | ((refine (?_ : MX _ _ _ _ _ _ _ _ _ _ _)); first | refine mx_end ?_ | (refine mx_mv _ rfl rfl (by conv => {lhs; whnf}) ?_) | (refine mx_fa0 E rfl rfl rfl rfl ?_ ) | (refine g_load rfl ?_; refine mx_get E rfl rfl rfl rfl rfl (by rfl) rfl ?_ ) | (refine g_bin rfl ?_; ((refine mx_cmpl .eql rfl rfl rfl rfl rfl (by first | exact cmp_eq_t (by omega) | exact cmp_eq_f (by omega) ) ?_) ) ) | (refine mx_not rfl rfl rfl ?_) | (refine mx_skip rfl rfl rfl ?_) | (refine g_pick rfl ?_; first | refine mx_andf rfl rfl rfl rfl rfl ?_ | refine mx_and rfl rfl rfl rfl rfl rfl ?_ | refine mx_or rfl rfl rfl rfl rfl rfl ?_ ) ) | refine cw_seq ?_ | refine cw_line rfl ?_ | refine cw_cond_f rfl ?_ | refine cw_skip ?_ | refine pw_then ?_ ))
      refine g_cf 39 rfl ?_
      refine a_callv rfl rfl rfl rfl Try.func39 rfl rfl rfl (.bool true) (fun w' hw => by
        have h39 := sameB u1 u3 (bsOf id cs).length (bsOf id cs2).length u2 u4 (bsOf id cs) (bsOf id cs2) rfl rfl (by omega) w' (own_in len_U (hw.holds 1 _ rfl) (Nat.le_refl _)) (own_in len_U (hw.holds 0 _ rfl) (Nat.le_refl _))
        rw [decide_eq_true e1.symm] at h39
        exact h39) rfl ?_
      (repeat (((refine (?_ : MX _ _ _ _ _ _ _ _ _ _ _)); first | (refine mx_mv _ rfl rfl (by conv => {lhs; whnf}) ?_) | (refine mx_not rfl rfl rfl ?_) ) ))
      refine g_cf 52 rfl ?_; refine a_callv rfl rfl rfl rfl Try.func52 rfl rfl rfl (.int .i64 (verOf id cs2)) (fun w' hw => version52 bx r _ id cs2 w' (oc1 (hw.holds 3 _ rfl)) (oc2 (hw.holds 3 _ rfl)) (oc3 (hw.holds 3 _ rfl))) rfl ?_
      by_cases k4 : o.kind = 4
      · first
        | (exfalso; omega)
        | (cases D
           case true =>
             have hl := hl4 k4 rfl
             (repeat (first | ((refine (?_ : MX _ _ _ _ _ _ _ _ _ _ _)); first | refine mx_end ?_ | (refine mx_mv _ rfl rfl (by conv => {lhs; whnf}) ?_) | (refine mx_as _ rfl rfl (by conv => {lhs; whnf}) ?_) | (refine mx_fa0 E rfl rfl rfl rfl ?_ ) | (refine g_load rfl ?_; refine mx_get E rfl rfl rfl rfl rfl (by rfl) rfl ?_ ) | (refine g_bin rfl ?_; (first | (refine mx_cmpl .eql rfl rfl rfl rfl rfl (by exact cmp_eq_t (by omega) ) ?_) | (refine mx_cmpl .neq rfl rfl rfl rfl rfl (by first | exact cmp_ne_t (by omega) | exact cmp_ne_f (by omega) ) ?_) ) ) | (refine mx_skip rfl rfl rfl ?_) | (refine g_pick rfl ?_; first | refine mx_andf rfl rfl rfl rfl rfl ?_ | refine mx_and rfl rfl rfl rfl rfl rfl ?_ | refine mx_or rfl rfl rfl rfl rfl rfl ?_ ) ) | refine cw_seq ?_ | refine cw_line rfl ?_ | refine cw_cond_f rfl ?_ | refine cw_cond_t rfl ?_ | refine cw_skip ?_ | refine pw_then ?_ ))
             refine g_cf 33 rfl ?_; refine a_callv rfl rfl rfl rfl Try.func33 rfl rfl rfl (.int .i64 (liv cs2)) (fun w' hw => live33u hwf2 (by omega) bx r w' (oc1 (hw.holds 3 _ rfl)) (oc2 (hw.holds 3 _ rfl)) (oc3 (hw.holds 3 _ rfl))) rfl ?_
             (repeat (first | ((refine (?_ : MX _ _ _ _ _ _ _ _ _ _ _)); first | refine mx_end ?_ | (refine mx_mv _ rfl rfl (by conv => {lhs; whnf}) ?_) | (refine mx_as _ rfl rfl (by conv => {lhs; whnf}) ?_) | (refine g_bin rfl ?_; first | ( (refine mx_cmpl .neq rfl rfl rfl rfl rfl (by first | exact cmp_ne_t (by omega) | exact cmp_ne_f (by omega) ) ?_) ) | (refine mx_ar rfl rfl rfl rfl rfl rfl (IntWalk.i64_in _ (by omega)) rfl ?_ ) ) ) | refine cw_line rfl ?_ | refine cw_cond_f rfl ?_ | refine cw_skip ?_ | refine pw_then ?_ | refine pw_block ?_ ))
             exact pw_round (i + 1, cs2, L2, d3) ⟨by show i + 1 ≤ l.length; omega, hwf2, fun h => hdr2 (hd2.trans h)⟩ (by show l.length - (i + 1) < l.length - i; omega) ⟨rfl, rfl, rfl, rfl, rfl, trivial⟩ (fun w h => h.pick [3] (by simp) rfl) 
           case false =>
             have hl := hl5 (by simp)
             (repeat (first | ((refine (?_ : MX _ _ _ _ _ _ _ _ _ _ _)); first | refine mx_end ?_ | (refine mx_mv _ rfl rfl (by conv => {lhs; whnf}) ?_) | (refine mx_as _ rfl rfl (by conv => {lhs; whnf}) ?_) | (refine mx_fa0 E rfl rfl rfl rfl ?_ ) | (refine g_load rfl ?_; refine mx_get E rfl rfl rfl rfl rfl (by rfl) rfl ?_ ) | (refine g_bin rfl ?_; (first | (refine mx_cmpl .eql rfl rfl rfl rfl rfl (by exact cmp_eq_t (by omega) ) ?_) | (refine mx_cmpl .neq rfl rfl rfl rfl rfl (by first | exact cmp_ne_t (by omega) | exact cmp_ne_f (by omega) ) ?_) ) ) | (refine mx_skip rfl rfl rfl ?_) | (refine g_pick rfl ?_; first | refine mx_andf rfl rfl rfl rfl rfl ?_ | refine mx_and rfl rfl rfl rfl rfl rfl ?_ | refine mx_or rfl rfl rfl rfl rfl rfl ?_ ) ) | refine cw_seq ?_ | refine cw_line rfl ?_ | refine cw_cond_f rfl ?_ | refine cw_skip ?_ | refine pw_then ?_ ))
             refine g_cf 33 rfl ?_; refine a_callv rfl rfl rfl rfl Try.func33 rfl rfl rfl (.int .i64 (liv cs2)) (fun w' hw => live33u hwf2 (by omega) bx r w' (oc1 (hw.holds 3 _ rfl)) (oc2 (hw.holds 3 _ rfl)) (oc3 (hw.holds 3 _ rfl))) rfl ?_
             (repeat (first | ((refine (?_ : MX _ _ _ _ _ _ _ _ _ _ _)); first | refine mx_end ?_ | (refine mx_mv _ rfl rfl (by conv => {lhs; whnf}) ?_) | (refine mx_as _ rfl rfl (by conv => {lhs; whnf}) ?_) | (refine g_bin rfl ?_; first | ( (refine mx_cmpl .neq rfl rfl rfl rfl rfl (by first | exact cmp_ne_t (by omega) | exact cmp_ne_f (by omega) ) ?_) ) | (refine mx_ar rfl rfl rfl rfl rfl rfl (IntWalk.i64_in _ (by omega)) rfl ?_ ) ) ) | refine cw_line rfl ?_ | refine cw_cond_f rfl ?_ | refine cw_skip ?_ | refine pw_then ?_ | refine pw_block ?_ ))
             exact pw_round (i + 1, cs2, L2, d3) ⟨by show i + 1 ≤ l.length; omega, hwf2, fun h => hdr2 (hd2.trans h)⟩ (by show l.length - (i + 1) < l.length - i; omega) ⟨rfl, rfl, rfl, rfl, rfl, trivial⟩ (fun w h => h.pick [3] (by simp) rfl) )
      · have hl := hl5 (fun h => k4 h.1)
        (repeat (first | ((refine (?_ : MX _ _ _ _ _ _ _ _ _ _ _)); first | refine mx_end ?_ | (refine mx_mv _ rfl rfl (by conv => {lhs; whnf}) ?_) | (refine mx_as _ rfl rfl (by conv => {lhs; whnf}) ?_) | (refine mx_fa0 E rfl rfl rfl rfl ?_ ) | (refine g_load rfl ?_; refine mx_get E rfl rfl rfl rfl rfl (by rfl) rfl ?_ ) | (refine g_bin rfl ?_; (first | (refine mx_cmpl .eql rfl rfl rfl rfl rfl (by first | exact cmp_eq_t (by omega) | exact cmp_eq_f (by omega) ) ?_) | (refine mx_cmpl .neq rfl rfl rfl rfl rfl (by first | exact cmp_ne_t (by omega) | exact cmp_ne_f (by omega) ) ?_) ) ) | (refine mx_skip rfl rfl rfl ?_) | (refine g_pick rfl ?_; first | refine mx_andf rfl rfl rfl rfl rfl ?_ | refine mx_and rfl rfl rfl rfl rfl rfl ?_ | refine mx_or rfl rfl rfl rfl rfl rfl ?_ ) ) | refine cw_seq ?_ | refine cw_line rfl ?_ | refine cw_cond_f rfl ?_ | refine cw_skip ?_ | refine pw_then ?_ ))
        refine g_cf 33 rfl ?_; refine a_callv rfl rfl rfl rfl Try.func33 rfl rfl rfl (.int .i64 (liv cs2)) (fun w' hw => live33u hwf2 (by omega) bx r w' (oc1 (hw.holds 3 _ rfl)) (oc2 (hw.holds 3 _ rfl)) (oc3 (hw.holds 3 _ rfl))) rfl ?_
        (repeat (first | ((refine (?_ : MX _ _ _ _ _ _ _ _ _ _ _)); first | refine mx_end ?_ | (refine mx_mv _ rfl rfl (by conv => {lhs; whnf}) ?_) | (refine mx_as _ rfl rfl (by conv => {lhs; whnf}) ?_) | (refine g_bin rfl ?_; first | ( (refine mx_cmpl .neq rfl rfl rfl rfl rfl (by first | exact cmp_ne_t (by omega) | exact cmp_ne_f (by omega) ) ?_) ) | (refine mx_ar rfl rfl rfl rfl rfl rfl (IntWalk.i64_in _ (by omega)) rfl ?_ ) ) ) | refine cw_line rfl ?_ | refine cw_cond_f rfl ?_ | refine cw_skip ?_ | refine pw_then ?_ | refine pw_block ?_ ))
        first | exact pw_round (i + 1, cs2, L2, d3) ⟨by show i + 1 ≤ l.length; omega, hwf2, fun h => hdr2 (hd2.trans h)⟩ (by show l.length - (i + 1) < l.length - i; omega) ⟨rfl, rfl, rfl, rfl, rfl, trivial⟩ (fun w h => h.pick [3] (by simp) rfl) | exact pw_round (i + 1, cs2, L2, false) ⟨by show i + 1 ≤ l.length; omega, hwf2, fun h => hdr2 (hd2.trans h)⟩ (by show l.length - (i + 1) < l.length - i; omega) ⟨rfl, rfl, rfl, rfl, rfl, trivial⟩ (fun w h => h.pick [3] (by simp) rfl)
    | true =>
      obtain ⟨e1, e2⟩ := rest.2 rfl
      (repeat (first | ((refine (?_ : MX _ _ _ _ _ _ _ _ _ _ _)); first | refine mx_end ?_ | (refine mx_mv _ rfl rfl (by conv => {lhs; whnf}) ?_) | (refine mx_fa0 E rfl rfl rfl rfl ?_ ) | (refine g_load rfl ?_; refine mx_get E rfl rfl rfl rfl rfl (by rfl) rfl ?_ ) | (refine g_bin rfl ?_; (first | (refine mx_cmpl .eql rfl rfl rfl rfl rfl (by first | exact cmp_eq_t (by omega) | exact cmp_eq_f (by omega) ) ?_) | (refine mx_cmpl .neq rfl rfl rfl rfl rfl (by first | exact cmp_ne_t (by omega) | exact cmp_ne_f (by omega) ) ?_) ) ) | (refine g_bi .len rfl ?_; refine mx_len E rfl rfl rfl rfl ?_) | (refine mx_not rfl rfl rfl ?_) | (refine mx_skip rfl rfl rfl ?_) | (refine g_pick rfl ?_; first | refine mx_andf rfl rfl rfl rfl rfl ?_ | refine mx_and rfl rfl rfl rfl rfl rfl ?_ | refine mx_or rfl rfl rfl rfl rfl rfl ?_ ) ) | refine cw_seq ?_ | refine cw_line rfl ?_ | refine cw_cond_f rfl ?_ | refine cw_skip ?_ | refine pw_then ?_ ))
      refine g_cf 52 rfl ?_; refine a_callv rfl rfl rfl rfl Try.func52 rfl rfl rfl (.int .i64 (verOf id cs2)) (fun w' hw => version52 bx r _ id cs2 w' (oc1 (hw.holds 3 _ rfl)) (oc2 (hw.holds 3 _ rfl)) (oc3 (hw.holds 3 _ rfl))) rfl ?_
      by_cases k4 : o.kind = 4
      · first
        | (exfalso; omega)
        | (cases D
           case true =>
             have hl := hl4 k4 rfl
             (repeat (first | ((refine (?_ : MX _ _ _ _ _ _ _ _ _ _ _)); first | refine mx_end ?_ | (refine mx_mv _ rfl rfl (by conv => {lhs; whnf}) ?_) | (refine mx_as _ rfl rfl (by conv => {lhs; whnf}) ?_) | (refine mx_fa0 E rfl rfl rfl rfl ?_ ) | (refine g_load rfl ?_; refine mx_get E rfl rfl rfl rfl rfl (by rfl) rfl ?_ ) | (refine g_bin rfl ?_; first | (first | (refine mx_cmpl .eql rfl rfl rfl rfl rfl (by exact cmp_eq_t (by omega) ) ?_) | (refine mx_cmpl .neq rfl rfl rfl rfl rfl (by first | exact cmp_ne_t (by omega) | exact cmp_ne_f (by omega) ) ?_) ) | (refine mx_ar rfl rfl rfl rfl rfl rfl (IntWalk.i64_in _ (by omega)) rfl ?_ ) ) | (refine g_pick rfl ?_; first | refine mx_and rfl rfl rfl rfl rfl rfl ?_ | refine mx_or rfl rfl rfl rfl rfl rfl ?_ ) ) | refine cw_seq ?_ | refine cw_line rfl ?_ | refine cw_cond_f rfl ?_ | refine cw_cond_t rfl ?_ | refine cw_skip ?_ | refine pw_then ?_ ))
             refine g_cf 33 rfl ?_; refine a_callv rfl rfl rfl rfl Try.func33 rfl rfl rfl (.int .i64 (liv cs2)) (fun w' hw => live33u hwf2 (by omega) bx r w' (oc1 (hw.holds 3 _ rfl)) (oc2 (hw.holds 3 _ rfl)) (oc3 (hw.holds 3 _ rfl))) rfl ?_
             (repeat (first | ((refine (?_ : MX _ _ _ _ _ _ _ _ _ _ _)); first | refine mx_end ?_ | (refine mx_mv _ rfl rfl (by conv => {lhs; whnf}) ?_) | (refine mx_as _ rfl rfl (by conv => {lhs; whnf}) ?_) | (refine g_bin rfl ?_; first | ( (refine mx_cmpl .neq rfl rfl rfl rfl rfl (by first | exact cmp_ne_t (by omega) | exact cmp_ne_f (by omega) ) ?_) ) | (refine mx_ar rfl rfl rfl rfl rfl rfl (IntWalk.i64_in _ (by omega)) rfl ?_ ) ) ) | refine cw_line rfl ?_ | refine cw_cond_f rfl ?_ | refine cw_skip ?_ | refine pw_then ?_ | refine pw_block ?_ ))
             exact pw_round (i + 1, cs2, L2, d3) ⟨by show i + 1 ≤ l.length; omega, hwf2, fun h => hdr2 (hd2.trans h)⟩ (by show l.length - (i + 1) < l.length - i; omega) ⟨rfl, rfl, rfl, rfl, rfl, trivial⟩ (fun w h => h.pick [3] (by simp) rfl) 
           case false =>
             have hl := hl5 (by simp)
             (repeat (first | ((refine (?_ : MX _ _ _ _ _ _ _ _ _ _ _)); first | refine mx_end ?_ | (refine mx_mv _ rfl rfl (by conv => {lhs; whnf}) ?_) | (refine mx_as _ rfl rfl (by conv => {lhs; whnf}) ?_) | (refine mx_fa0 E rfl rfl rfl rfl ?_ ) | (refine g_load rfl ?_; refine mx_get E rfl rfl rfl rfl rfl (by rfl) rfl ?_ ) | (refine g_bin rfl ?_; first | (first | (refine mx_cmpl .eql rfl rfl rfl rfl rfl (by exact cmp_eq_t (by omega) ) ?_) | (refine mx_cmpl .neq rfl rfl rfl rfl rfl (by first | exact cmp_ne_t (by omega) | exact cmp_ne_f (by omega) ) ?_) ) | (refine mx_ar rfl rfl rfl rfl rfl rfl (IntWalk.i64_in _ (by omega)) rfl ?_ ) ) | (refine g_pick rfl ?_; first | refine mx_and rfl rfl rfl rfl rfl rfl ?_ | refine mx_or rfl rfl rfl rfl rfl rfl ?_ ) ) | refine cw_seq ?_ | refine cw_line rfl ?_ | refine cw_cond_f rfl ?_ | refine cw_skip ?_ | refine pw_then ?_ ))
             refine g_cf 33 rfl ?_; refine a_callv rfl rfl rfl rfl Try.func33 rfl rfl rfl (.int .i64 (liv cs2)) (fun w' hw => live33u hwf2 (by omega) bx r w' (oc1 (hw.holds 3 _ rfl)) (oc2 (hw.holds 3 _ rfl)) (oc3 (hw.holds 3 _ rfl))) rfl ?_
             (repeat (first | ((refine (?_ : MX _ _ _ _ _ _ _ _ _ _ _)); first | refine mx_end ?_ | (refine mx_mv _ rfl rfl (by conv => {lhs; whnf}) ?_) | (refine mx_as _ rfl rfl (by conv => {lhs; whnf}) ?_) | (refine g_bin rfl ?_; first | ( (refine mx_cmpl .neq rfl rfl rfl rfl rfl (by first | exact cmp_ne_t (by omega) | exact cmp_ne_f (by omega) ) ?_) ) | (refine mx_ar rfl rfl rfl rfl rfl rfl (IntWalk.i64_in _ (by omega)) rfl ?_ ) ) ) | refine cw_line rfl ?_ | refine cw_cond_f rfl ?_ | refine cw_skip ?_ | refine pw_then ?_ | refine pw_block ?_ ))
             exact pw_round (i + 1, cs2, L2, d3) ⟨by show i + 1 ≤ l.length; omega, hwf2, fun h => hdr2 (hd2.trans h)⟩ (by show l.length - (i + 1) < l.length - i; omega) ⟨rfl, rfl, rfl, rfl, rfl, trivial⟩ (fun w h => h.pick [3] (by simp) rfl) )
      · have hl := hl5 (fun h => k4 h.1)
        (repeat (first | ((refine (?_ : MX _ _ _ _ _ _ _ _ _ _ _)); first | refine mx_end ?_ | (refine mx_mv _ rfl rfl (by conv => {lhs; whnf}) ?_) | (refine mx_as _ rfl rfl (by conv => {lhs; whnf}) ?_) | (refine mx_fa0 E rfl rfl rfl rfl ?_ ) | (refine g_load rfl ?_; refine mx_get E rfl rfl rfl rfl rfl (by rfl) rfl ?_ ) | (refine g_bin rfl ?_; first | (first | (refine mx_cmpl .eql rfl rfl rfl rfl rfl (by first | exact cmp_eq_t (by omega) | exact cmp_eq_f (by omega) ) ?_) | (refine mx_cmpl .neq rfl rfl rfl rfl rfl (by first | exact cmp_ne_t (by omega) | exact cmp_ne_f (by omega) ) ?_) ) | (refine mx_ar rfl rfl rfl rfl rfl rfl (IntWalk.i64_in _ (by omega)) rfl ?_ ) ) | (refine mx_skip rfl rfl rfl ?_) | (refine g_pick rfl ?_; first | refine mx_andf rfl rfl rfl rfl rfl ?_ | refine mx_and rfl rfl rfl rfl rfl rfl ?_ | refine mx_or rfl rfl rfl rfl rfl rfl ?_ ) ) | refine cw_seq ?_ | refine cw_line rfl ?_ | refine cw_cond_f rfl ?_ | refine cw_skip ?_ | refine pw_then ?_ ))
        refine g_cf 33 rfl ?_; refine a_callv rfl rfl rfl rfl Try.func33 rfl rfl rfl (.int .i64 (liv cs2)) (fun w' hw => live33u hwf2 (by omega) bx r w' (oc1 (hw.holds 3 _ rfl)) (oc2 (hw.holds 3 _ rfl)) (oc3 (hw.holds 3 _ rfl))) rfl ?_
        (repeat (first | ((refine (?_ : MX _ _ _ _ _ _ _ _ _ _ _)); first | refine mx_end ?_ | (refine mx_mv _ rfl rfl (by conv => {lhs; whnf}) ?_) | (refine mx_as _ rfl rfl (by conv => {lhs; whnf}) ?_) | (refine g_bin rfl ?_; first | ( (refine mx_cmpl .neq rfl rfl rfl rfl rfl (by first | exact cmp_ne_t (by omega) | exact cmp_ne_f (by omega) ) ?_) ) | (refine mx_ar rfl rfl rfl rfl rfl rfl (IntWalk.i64_in _ (by omega)) rfl ?_ ) ) ) | refine cw_line rfl ?_ | refine cw_cond_f rfl ?_ | refine cw_skip ?_ | refine pw_then ?_ | refine pw_block ?_ ))
        first | exact pw_round (i + 1, cs2, L2, d3) ⟨by show i + 1 ≤ l.length; omega, hwf2, fun h => hdr2 (hd2.trans h)⟩ (by show l.length - (i + 1) < l.length - i; omega) ⟨rfl, rfl, rfl, rfl, rfl, trivial⟩ (fun w h => h.pick [3] (by simp) rfl) | exact pw_round (i + 1, cs2, L2, false) ⟨by show i + 1 ≤ l.length; omega, hwf2, fun h => hdr2 (hd2.trans h)⟩ (by show l.length - (i + 1) < l.length - i; omega) ⟨rfl, rfl, rfl, rfl, rfl, trivial⟩ (fun w h => h.pick [3] (by simp) rfl))
end Go.Proofs.Ytfekmflnfhjebaa
