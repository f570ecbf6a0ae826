/- The law HashHolds: a list of pairs held against a table. -/
import Derived.Test.YtminmbkhlnaabaaHm
set_option maxRecDepth 100000
set_option maxHeartbeats 8000000
set_option linter.unusedSimpArgs false
set_option linter.unusedVariables false
namespace Go.Proofs.Ytminmbkhlnaabaa
open Go Go.Sx Go.RowKit
structure PH where
  ka : Option Addr
  kc : Nat
  k : List Int
  c : Int
  deriving Inhabited
@[reducible] def cPH (p : PH) : List Value := [.slice p.ka p.k.length p.kc, .int .i64 p.c]
theorem len_PH (p : PH) : (cPH p).length = 2 := rfl
def RPH (p : PH) : Res := ownd p.ka p.kc 5 1 p.k.length (p.k.flatMap cU)
def phR (l : List PH) : Res where
  dom := fun b => ∃ p ∈ l, (RPH p).dom b
  holds := fun w => ∀ p ∈ l, (RPH p).holds w
  loc := fun w w' h hh p hp => (RPH p).loc w w' (fun b hb => h b ⟨p, hp, hb⟩) (hh p hp)
theorem phR_in {w : World} {l : List PH} (h : (phR l).holds w) {p : PH} (hp : p ∈ l) : InL w p.ka 1 cU p.k := own_in len_U (h p hp) (Nat.le_refl _)
theorem phR_lt {w : World} {l : List PH} (h : (phR l).holds w) : ∀ b, (phR l).dom b → b < w.heap.size := fun b hb => by
  obtain ⟨d, hd, hb⟩ := hb
  exact own_lt (h d hd) b hb
theorem phR_sub {l l' : List PH} (h : ∀ p ∈ l', p ∈ l) : ∀ b, (phR l').dom b → (phR l).dom b := fun b ⟨p, hp, hb⟩ => ⟨p, h p hp, hb⟩
def AtO (l : List PH) (k : List Int) : Option Nat → Prop
  | none => ∀ p ∈ l, p.k ≠ k
  | some i => ∃ p, l[i]? = some p ∧ p.k = k
theorem at49 (hb : Option Addr) (hc : Nat) (l : List PH) (hs : l.length ≤ 1000000) (hks : ∀ p ∈ l, p.k.length ≤ 1000) (ad : Option Addr) (m cap : Nat) (k : List Int) (hm : k.length = m) (hms : m ≤ 1000000) (w : World) (hl : InL w hb 2 cPH l) (hk : ∀ p ∈ l, InL w p.ka 1 cU p.k) (hkk : InL w ad 1 cU k) :
    Calls Try.prog 49 #[.slice hb l.length hc, .slice ad m cap] w fun e w' => ∃ o : {o : Option Nat // AtO l k o}, e = .returned (.int .i64 (oixH o.1)) ∧ Grow w w' := by
  refine enter2 (S := fun _ => False) 20 Try.func49 rfl rfl rfl (Ok.start w) ?_
  (repeat (first | ((refine (?_ : MX _ _ _ _ _ _ _ _ _ _ _)); first | refine mx_end ?_ | (refine mx_as _ rfl rfl (by conv => {lhs; whnf}) ?_) ) | refine cw_seq ?_ | refine cw_line rfl ?_ | refine cw_block ?_ | refine pw_then ?_ ))
  refine cw_loop (fun i : Nat => [(5, .int .i64 i), (0, .slice hb l.length hc), (1, .slice ad m cap)]) (fun i => []) (fun i => i ≤ l.length ∧ ∀ p ∈ l.take i, p.k ≠ k) (fun i => l.length - i) 0 ⟨Nat.zero_le _, by simp⟩ ⟨rfl, rfl, rfl, trivial⟩ (fun w h => h) ?_
  intro i jk ⟨hi, hall⟩
  by_cases h0 : (i : Int) < l.length
  case neg =>
    rw [List.take_of_length_le (by omega)] at hall
    (repeat (first | ((refine (?_ : MX _ _ _ _ _ _ _ _ _ _ _)); first | refine mx_end ?_ | (refine mx_mv _ rfl rfl (by conv => {lhs; whnf}) ?_) | (refine mx_as _ rfl rfl (by conv => {lhs; whnf}) ?_) | (refine g_bin rfl ?_; ( (refine mx_cmpl .lss rfl rfl rfl rfl rfl (by exact cmp_lt_f (by omega) ) ?_) ) ) | (refine g_bi .len rfl ?_; refine mx_len E rfl rfl rfl rfl ?_) ) | refine cw_seq ?_ | refine cw_line rfl ?_ | refine cw_cond_f rfl ?_ | refine cw_exit ?_ | refine cw_ret ?_ | refine pw_then ?_ | refine pw_then_x ?_ | refine pw_block_e ?_ ))
    exact pw_ret rfl rfl rfl rfl fun w' hw => ⟨⟨none, hall⟩, rfl, hw.keep.grow⟩
  case pos =>
    obtain ⟨p, hx⟩ := getElem_some (xs := l) (i := i) (by omega)
    obtain ⟨b4, off, e, hcc⟩ := inl_at hl hx
    subst e
    have hS : ¬ (fun _ : Nat => False) b4 := id
    have hc0 : w.cell? ⟨b4, off + i * 2, none⟩ = some (.slice p.ka p.k.length p.kc) := hcc 0 _ rfl
    have hpm := List.mem_of_getElem? hx
    have hpl := hks p hpm
    by_cases hpk : p.k = k
    · (repeat (first | ((refine (?_ : MX _ _ _ _ _ _ _ _ _ _ _)); first | refine mx_end ?_ | (refine mx_mv _ rfl rfl (by conv => {lhs; whnf}) ?_) | (refine mx_fa0 E rfl rfl rfl rfl ?_ ) | (refine g_load rfl ?_; refine mx_old1 E rfl rfl rfl rfl rfl (by assumption) (by assumption) rfl ?_ ) | (refine g_bin rfl ?_; ( (refine mx_cmpl .lss rfl rfl rfl rfl rfl (by exact cmp_lt_t (by omega) ) ?_) ) ) | (refine g_ix rfl ?_; refine mx_ixsn E rfl rfl rfl rfl rfl rfl (by omega) rfl ?_ ) | (refine g_bi .len rfl ?_; refine mx_len E rfl rfl rfl rfl ?_) ) | refine cw_seq ?_ | refine cw_line rfl ?_ | refine cw_block ?_ | refine cw_cond_t rfl ?_ | refine cw_skip ?_ | refine pw_then ?_ ))
      refine g_cf 36 rfl ?_
      refine a_callv rfl rfl rfl rfl Try.func36 rfl rfl rfl (.bool true) (fun w' hw => decide_eq_true hpk ▸ sameB p.ka ad p.k.length m p.kc cap p.k k rfl hm (by omega) w' ((hk p hpm).keep hw fun _ _ _ h => h) (hkk.keep hw fun _ _ _ h => h)) rfl ?_
      (repeat (first | ((refine (?_ : MX _ _ _ _ _ _ _ _ _ _ _)); first | refine mx_end ?_ | (refine mx_mv _ rfl rfl (by conv => {lhs; whnf}) ?_) | (refine mx_as _ rfl rfl (by conv => {lhs; whnf}) ?_) ) | refine cw_seq ?_ | refine cw_line rfl ?_ | refine cw_cond_t rfl ?_ | refine cw_ret ?_ | refine pw_then ?_ | refine pw_then_r ?_ | refine pw_block_r ?_))
      exact pw_ret rfl rfl rfl rfl fun w' hw => ⟨⟨some i, p, hx, hpk⟩, rfl, hw.keep.grow⟩
    · (repeat (first | ((refine (?_ : MX _ _ _ _ _ _ _ _ _ _ _)); first | refine mx_end ?_ | (refine mx_mv _ rfl rfl (by conv => {lhs; whnf}) ?_) | (refine mx_fa0 E rfl rfl rfl rfl ?_ ) | (refine g_load rfl ?_; refine mx_old1 E rfl rfl rfl rfl rfl (by assumption) (by assumption) rfl ?_ ) | (refine g_bin rfl ?_; ( (refine mx_cmpl .lss rfl rfl rfl rfl rfl (by exact cmp_lt_t (by omega) ) ?_) ) ) | (refine g_ix rfl ?_; refine mx_ixsn E rfl rfl rfl rfl rfl rfl (by omega) rfl ?_ ) | (refine g_bi .len rfl ?_; refine mx_len E rfl rfl rfl rfl ?_) ) | refine cw_seq ?_ | refine cw_line rfl ?_ | refine cw_block ?_ | refine cw_cond_t rfl ?_ | refine cw_skip ?_ | refine pw_then ?_ ))
      refine g_cf 36 rfl ?_
      refine a_callv rfl rfl rfl rfl Try.func36 rfl rfl rfl (.bool false) (fun w' hw => decide_eq_false hpk ▸ sameB p.ka ad p.k.length m p.kc cap p.k k rfl hm (by omega) w' ((hk p hpm).keep hw fun _ _ _ h => h) (hkk.keep hw fun _ _ _ h => h)) rfl ?_
      (repeat (first | ((refine (?_ : MX _ _ _ _ _ _ _ _ _ _ _)); first | refine mx_end ?_ | (refine mx_mv _ rfl rfl (by conv => {lhs; whnf}) ?_) | (refine mx_as _ rfl rfl (by conv => {lhs; whnf}) ?_) | (refine g_bin rfl ?_; (refine mx_ar rfl rfl rfl rfl rfl rfl (IntWalk.i64_in _ (by omega)) rfl ?_ ) ) ) | refine cw_line rfl ?_ | refine cw_cond_f rfl ?_ | refine cw_skip ?_ | refine pw_then ?_ | refine pw_block ?_ ))
      refine pw_round (i + 1) ⟨by omega, fun x hxm => ?_⟩ (by omega) ⟨rfl, rfl, rfl, trivial⟩ (fun w h => h)
      rw [List.take_add_one, hx] at hxm
      rcases List.mem_append.1 hxm with h | h
      · exact hall x h
      · obtain rfl : x = p := by simpa using h
        exact hpk
/-! ### The list and the table -/
structure HL (kl mx : Nat) (pl : List PLc) (l : List PH) : Prop where
  gh : ∃ m, GH kl mx pl m l.length ∧ ∀ k v, k.length = kl → (m k = some v ↔ ∃ p ∈ l, p.k = k ∧ p.c = v)
  nd : (l.map (·.k)).Nodup
  ks : ∀ p ∈ l, p.k.length = kl ∧ BytK p.k
section
variable {kl mx : Nat} {pl : List PLc} {l : List PH}
theorem HL.wf (h : HL kl mx pl l) : WfH kl mx pl := by obtain ⟨m, hg, _⟩ := h.gh; exact hg.wf
theorem HL.good (h : HL kl mx pl l) : Good kl pl := by obtain ⟨m, hg, _⟩ := h.gh; exact hg.good
theorem HL.cnt (h : HL kl mx pl l) : cntH pl = l.length := by obtain ⟨m, hg, _⟩ := h.gh; exact hg.cnt
theorem HL.le (h : HL kl mx pl l) : l.length ≤ mx := by obtain ⟨m, hg, _⟩ := h.gh; exact hg.le
theorem m_none {m : List Int → Option Int} (hm : ∀ k v, k.length = kl → (m k = some v ↔ ∃ p ∈ l, p.k = k ∧ p.c = v)) {k : List Int} (hk : k.length = kl) (hn : ∀ p ∈ l, p.k ≠ k) : m k = none := by
  cases hh : m k with
  | none => rfl
  | some v => obtain ⟨p, hp, h1, _⟩ := (hm k v hk).1 hh; exact absurd h1 (hn p hp)
theorem HL.f_none (h : HL kl mx pl l) {k : List Int} (hn : ∀ p ∈ l, p.k ≠ k) : fdH pl kl k = (0, false) := by
  by_cases hk : k.length = kl
  · obtain ⟨m, hg, hm⟩ := h.gh
    rw [hg.find hk, m_none hm hk hn]
  · exact find_len hk
theorem HL.f_some (h : HL kl mx pl l) {p : PH} (hp : p ∈ l) : fdH pl kl p.k = (p.c, true) := by
  obtain ⟨m, hg, hm⟩ := h.gh
  have hk := (h.ks p hp).1
  rw [hg.find hk, (hm p.k p.c hk).2 ⟨p, hp, rfl, rfl⟩]
theorem HL.d_none (h : HL kl mx pl l) {k : List Int} (hn : ∀ p ∈ l, p.k ≠ k) : delH pl kl k = pl := by
  have hl : lookH pl kl k = none := by
    by_cases hk : k.length = kl
    · obtain ⟨m, hg, hm⟩ := h.gh
      exact hg.look_none hk (m_none hm hk hn)
    · unfold lookH
      rw [if_neg hk]
  unfold delH
  rw [hl]
theorem e_len {k : List Int} (hk : k.length ≠ kl) : hpE pl kl mx k = 14 := if_pos hk
theorem HL.e11 (h : HL kl mx pl l) {p : PH} (hp : p ∈ l) : hpE pl kl mx p.k = 11 := by
  obtain ⟨m, hg, hm⟩ := h.gh
  have hk := (h.ks p hp).1
  rw [hg.e, if_neg (fun h => h hk), (hm p.k p.c hk).2 ⟨p, hp, rfl, rfl⟩]
  rfl
theorem HL.e12 (h : HL kl mx pl l) {k : List Int} (hk : k.length = kl) (hn : ∀ p ∈ l, p.k ≠ k) (hf : l.length = mx) : hpE pl kl mx k = 12 := by
  obtain ⟨m, hg, hm⟩ := h.gh
  rw [hg.e, if_neg (fun h => h hk), m_none hm hk hn, if_neg (by decide), if_pos hf]
theorem HL.e0 (h : HL kl mx pl l) {k : List Int} (hk : k.length = kl) (hn : ∀ p ∈ l, p.k ≠ k) (hf : l.length ≠ mx) : hpE pl kl mx k = 0 := by
  obtain ⟨m, hg, hm⟩ := h.gh
  rw [hg.e, if_neg (fun h => h hk), m_none hm hk hn, if_neg (by decide), if_neg hf]
theorem put_ne {k : List Int} {v : Int} (h : hpE pl kl mx k ≠ 0) : putH pl kl mx k v = pl := if_neg h
theorem HL.put (h : HL kl mx pl l) {k : List Int} (hk : k.length = kl) (hb : BytK k) (hn : ∀ p ∈ l, p.k ≠ k) (hf : l.length ≠ mx) (v : Int) (ad : Option Addr) (cap : Nat) : HL kl mx (putH pl kl mx k v) (l ++ [⟨ad, cap, k, v⟩]) := by
  obtain ⟨m, hg, hm⟩ := h.gh
  refine ⟨⟨mput m k v, ?_, fun x y hx => ?_⟩, ?_, fun p hp => ?_⟩
  · rw [List.length_append]
    exact hg.put hk hb (m_none hm hk hn) hf v
  · unfold mput
    by_cases e : x = k
    · subst e
      rw [if_pos rfl]
      constructor
      · intro h1
        exact ⟨_, List.mem_append.2 (.inr (List.mem_singleton.2 rfl)), rfl, by simpa using h1⟩
      · rintro ⟨p, hp, h1, h2⟩
        rcases List.mem_append.1 hp with h3 | h3
        · exact absurd h1 (hn p h3)
        · obtain rfl := List.mem_singleton.1 h3
          rw [← h2]
    · rw [if_neg e, hm x y hx]
      constructor
      · rintro ⟨p, hp, h1⟩; exact ⟨p, List.mem_append.2 (.inl hp), h1⟩
      · rintro ⟨p, hp, h1, h2⟩
        rcases List.mem_append.1 hp with h3 | h3
        · exact ⟨p, h3, h1, h2⟩
        · obtain rfl := List.mem_singleton.1 h3
          exact absurd h1.symm e
  · rw [List.map_append, List.nodup_append]
    refine ⟨h.nd, by simp, fun a ha b hb2 => ?_⟩
    obtain ⟨p, hp, rfl⟩ := List.mem_map.1 ha
    obtain rfl : b = k := by simpa using hb2
    exact hn p hp
  · rcases List.mem_append.1 hp with h3 | h3
    · exact h.ks p h3
    · obtain rfl := List.mem_singleton.1 h3
      exact ⟨hk, hb⟩
/-- The last one in the place of one that goes. -/
def swapL (l : List PH) (i : Nat) : List PH := (l.set i (l.getD (l.length - 1) default)).take (l.length - 1)
theorem swapL_len {i : Nat} : (swapL l i).length = l.length - 1 := by
  unfold swapL
  rw [List.length_take, List.length_set]
  omega
theorem swapL_perm {i : Nat} (hi : i < l.length) : (swapL l i).Perm (l.eraseIdx i) := by
  rcases Nat.lt_or_ge (i + 1) l.length with h | h
  · have hne : l ≠ [] := by intro e; rw [e] at hi; simp at hi
    have e1 : l = l.dropLast ++ [l.getLast hne] := (List.dropLast_concat_getLast hne).symm
    generalize hd : l.dropLast = d at e1
    generalize hz : l.getLast hne = z at e1
    have hdl : d.length = l.length - 1 := by rw [← hd, List.length_dropLast]
    have e2 : l.getD (l.length - 1) default = z := by rw [e1]; simp [List.getD]
    unfold swapL
    rw [e2, ← hdl]
    rw [e1]
    have hid : i < d.length := by omega
    rw [List.set_append_left _ _ hid, List.take_append_of_le_length (by rw [List.length_set]; exact Nat.le_refl _), List.take_of_length_le (by rw [List.length_set]; exact Nat.le_refl _), List.eraseIdx_append_of_lt_length hid]
    rw [List.set_eq_take_append_cons_drop, if_pos hid, List.eraseIdx_eq_take_drop_succ]
    exact List.perm_middle.trans (List.perm_append_singleton z _).symm
  · obtain rfl : i = l.length - 1 := by omega
    unfold swapL
    rw [List.eraseIdx_eq_take_drop_succ, List.drop_of_length_le (by omega), List.append_nil, List.take_set_of_le (Nat.le_refl _)]
theorem HL.del (h : HL kl mx pl l) {i : Nat} {q : PH} (hq : l[i]? = some q) : HL kl mx (delH pl kl q.k) (swapL l i) ∧ 1 ≤ l.length := by
  obtain ⟨m, hg, hm⟩ := h.gh
  have hi := (List.getElem?_eq_some_iff.1 hq).1
  have hqm := List.mem_of_getElem? hq
  have hk := (h.ks q hqm).1
  have hp := swapL_perm hi
  have hsub : ∀ x ∈ swapL l i, x ∈ l := fun x hx => List.mem_of_mem_eraseIdx (hp.mem_iff.1 hx)
  have hnd2 : ∀ x, x ∈ l.eraseIdx i ↔ x ∈ l ∧ x.k ≠ q.k := fun x => by
    have hinj : ∀ (a b : Nat) (u v : PH), l[a]? = some u → l[b]? = some v → u.k = v.k → a = b := fun a b u v ha hb huv => by
      have ha' := (List.getElem?_eq_some_iff.1 ha)
      have hb' := (List.getElem?_eq_some_iff.1 hb)
      refine (List.getElem_inj (h₀ := by rw [List.length_map]; exact ha'.1) (h₁ := by rw [List.length_map]; exact hb'.1) h.nd).1 ?_
      rw [List.getElem_map, List.getElem_map, ha'.2, hb'.2]
      exact huv
    rw [List.mem_eraseIdx_iff_getElem?]
    constructor
    · rintro ⟨j, hj, hx⟩
      exact ⟨List.mem_of_getElem? hx, fun e => hj (hinj j i x q hx hq e)⟩
    · rintro ⟨hx, hne⟩
      obtain ⟨j, hj, e⟩ := List.mem_iff_getElem.1 hx
      have hx' : l[j]? = some x := by rw [List.getElem?_eq_getElem hj, e]
      refine ⟨j, fun e2 => ?_, hx'⟩
      subst e2
      rw [hq] at hx'
      obtain rfl : q = x := by simpa using hx'
      exact hne rfl
  obtain ⟨hg2, hn⟩ := hg.del hk (v := q.c) ((hm q.k q.c hk).2 ⟨q, hqm, rfl, rfl⟩)
  refine ⟨⟨⟨mdel m q.k, by rw [swapL_len]; exact hg2, fun x y hx => ?_⟩, ?_, fun p hp' => h.ks p (hsub p hp')⟩, hn⟩
  · unfold mdel
    by_cases e : x = q.k
    · subst e
      rw [if_pos rfl]
      constructor
      · intro h1; cases h1
      · rintro ⟨p, hp', h1, _⟩
        exact absurd h1 ((hnd2 p).1 (hp.mem_iff.1 hp')).2
    · rw [if_neg e, hm x y hx]
      constructor
      · rintro ⟨p, hp', h1, h2⟩
        exact ⟨p, hp.mem_iff.2 ((hnd2 p).2 ⟨hp', fun e2 => e (by rw [← h1, e2])⟩), h1, h2⟩
      · rintro ⟨p, hp', h1⟩
        exact ⟨p, hsub p hp', h1⟩
  · have h1 : ((swapL l i).map (·.k)).Perm ((l.eraseIdx i).map (·.k)) := hp.map _
    refine h1.nodup_iff.2 ?_
    exact h.nd.sublist ((List.eraseIdx_sublist l i).map _)
theorem HL.start (kl mx : Nat) (hk0 : 1 ≤ kl) (hk : kl ≤ 16) (h0 : 1 ≤ mx) (hm : mx ≤ 64) : HL kl mx (noneH kl mx) [] :=
  ⟨⟨fun _ => none, GH.start kl mx hk0 hk h0 hm, fun k v _ => ⟨fun h => (by cases h), fun ⟨p, hp, _⟩ => (by cases hp)⟩⟩, List.nodup_nil, fun p hp => (by cases hp)⟩
/-! ### Its keys -/
theorem keysH_nodup (hg : Good kl pl) : (keysH pl).Nodup := by
  unfold keysH
  show List.Pairwise (· ≠ ·) _
  rw [List.pairwise_map, List.pairwise_filter, List.pairwise_iff_getElem]
  intro i j hi hj hij h1 h2 e
  have g1 := hg i pl[i] (List.getElem?_eq_getElem hi) (by simpa using h1)
  have g2 := hg j pl[j] (List.getElem?_eq_getElem hj) (by simpa using h2)
  rw [e, g2] at g1
  have : j = i := by simpa using g1
  omega
theorem HL.key (h : HL kl mx pl l) {k : List Int} (hk : k ∈ keysH pl) : ∃ p ∈ l, p.k = k := by
  obtain ⟨c, hc, e⟩ := List.mem_map.1 hk
  obtain ⟨hc1, hc2⟩ := List.mem_filter.1 hc
  obtain ⟨i, hi, e2⟩ := List.mem_iff_getElem.1 hc1
  have hci : pl[i]? = some c := by rw [List.getElem?_eq_getElem hi, e2]
  have hl := h.good i c hci (by simpa using hc2)
  obtain ⟨m, hg, hm⟩ := h.gh
  have hkl : c.k.length = kl := (hg.wf.ok c hc1).1
  have := hg.get c.k hkl
  unfold getH at this
  rw [hl] at this
  obtain ⟨p, hp, h1, _⟩ := (hm c.k _ hkl).1 this.symm
  exact ⟨p, hp, by rw [h1, e]⟩
end
end Go.Proofs.Ytminmbkhlnaabaa
