/- The law HashRuns: what stays true of both tables; lists too long. -/
import Derived.Test.YtminmbkhlnaabaaHk
set_option maxRecDepth 100000
set_option maxHeartbeats 8000000
set_option linter.unusedSimpArgs false
set_option linter.unusedVariables false
namespace Go.Proofs.Ytminmbkhlnaabaa
open Go Go.Sx Go.RowKit
theorem oldNf {S : Nat → Prop} {w0 : World} {H : List Res} {α : Type} {w : World} {L : List Res} {z : Nat} {c : α → List Value} {xs : List α} {ad : Option Addr} (hw : Ok S w0 H w) (j : Nat) (hj : H[j]? = some (Sx.star L)) (hz : ∀ x, (c x).length = z) (hp : 0 < z) (hl : InL w0 ad z c xs) (hne : xs ≠ [] → ∀ b off, ad = some ⟨b, off, none⟩ → ¬ S b) : xs ≠ [] → ∀ b off, ad = some ⟨b, off, none⟩ → ¬ domL L b := fun hx b off e hd => by
  cases xs with
  | nil => exact hx rfl
  | cons x xs =>
    obtain ⟨b', off', e', hc⟩ := hl hx
    rw [e] at e'
    obtain ⟨rfl, rfl⟩ : b = b' ∧ off = off' := by simpa using e'
    have hx' := hz x
    cases hcx : c x with
    | nil => rw [hcx] at hx'; simp at hx'; omega
    | cons v vs =>
      have := hc 0 x rfl 0 v (by rw [hcx]; rfl)
      exact hne hx b off e ((hw.own j _ hj b hd).2 (World.block_lt_of_cell? w0 _ this))
theorem ownNf {S : Nat → Prop} {w0 : World} {H : List Res} {w : World} {L : List Res} {ad : Option Addr} {cap e z len : Nat} {xs : List Value} (hw : Ok S w0 H w) (i j : Nat) (hi : H[i]? = some (ownd ad cap e z len xs)) (hj : H[j]? = some (Sx.star L)) (hij : i ≠ j) {k : List Int} : k ≠ [] → ∀ b off, ad = some ⟨b, off, none⟩ → ¬ domL L b := fun _ b off e hd => by
  subst e
  exact hw.sep i j _ _ hi hj hij b rfl hd
structure AH where
  k : Int
  c : Int
  ad : Option Addr
  cap : Nat
  data : List Int
  deriving Inhabited
@[reducible] def cAH (a : AH) : List Value := [.int .i64 a.k, .int .i64 a.c, .slice a.ad a.data.length a.cap]
theorem len_AH (a : AH) : (cAH a).length = 3 := rfl
instance : ZeroT Try.prog 63 (cAH ⟨0, 0, none, 0, []⟩) := ⟨by kernel_rfl⟩
def ActsH (w : World) (l : List AH) : Prop := ∀ a ∈ l, InL w a.ad 1 cU a.data ∧ a.data.length ≤ a.cap ∧ a.cap ≤ maxLen ∧ ∀ x ∈ a.data, 0 ≤ x ∧ x < 256
theorem long40 (ad : Option Addr) (cap : Nat) (l : List AH) (hs : l.length ≤ maxLen) (hd : ∀ a ∈ l, a.data.length ≤ maxLen) (w : World) (hl : InL w ad 3 cAH l) : Calls Try.prog 40 #[.slice ad l.length cap] w fun e w' => ∃ b : {b : Bool // b = false → l.length ≤ 400 ∧ ∀ a ∈ l, a.data.length ≤ 100}, e = .returned (.bool b.1) ∧ Grow w w' := by
  refine enter1 (S := fun _ => False) 20 Try.func40 rfl rfl rfl (Ok.start w) ?_
  have hmx : maxLen = 9223372036854775807 := rfl
  by_cases h4 : (l.length : Int) > 400
  case pos =>
    (repeat (first | ((refine (?_ : MX _ _ _ _ _ _ _ _ _ _ _)); first | refine mx_end ?_ | (refine mx_mv _ rfl rfl (by conv => {lhs; whnf}) ?_) | (refine mx_as _ rfl rfl (by conv => {lhs; whnf}) ?_) | (refine g_bin rfl ?_; ( (refine mx_cmpl .gtr rfl rfl rfl rfl rfl (by exact cmp_gt_t (by omega) ) ?_) ) ) | (refine g_bi .len rfl ?_; refine mx_len E rfl rfl rfl rfl ?_) ) | refine cw_seq ?_ | refine cw_line rfl ?_ | refine cw_cond_t rfl ?_ | refine cw_ret ?_ | refine pw_then ?_ | refine pw_then_r ?_ ))
    exact pw_ret rfl rfl rfl rfl fun w' hw => ⟨⟨true, by simp⟩, rfl, hw.keep.grow⟩
  (repeat (first | ((refine (?_ : MX _ _ _ _ _ _ _ _ _ _ _)); first | refine mx_end ?_ | (refine mx_mv _ rfl rfl (by conv => {lhs; whnf}) ?_) | (refine mx_as _ rfl rfl (by conv => {lhs; whnf}) ?_) | (refine g_bin rfl ?_; ( (refine mx_cmpl .gtr rfl rfl rfl rfl rfl (by exact cmp_gt_f (by omega) ) ?_) ) ) | (refine g_bi .len rfl ?_; refine mx_len E rfl rfl rfl rfl ?_) ) | refine cw_seq ?_ | refine cw_line rfl ?_ | refine cw_block ?_ | refine cw_cond_f rfl ?_ | refine cw_skip ?_ | refine pw_then ?_ ))
  refine cw_loop (fun i : Nat => [(3, .int .i64 i), (0, .slice ad l.length cap)]) (fun i => []) (fun i => i ≤ l.length ∧ ∀ a ∈ l.take i, a.data.length ≤ 100) (fun i => l.length - i) 0 ⟨Nat.zero_le _, by simp⟩ ⟨rfl, rfl, trivial⟩ (fun w h => h) ?_
  intro i jk ⟨hi, hall⟩
  by_cases h0 : (i : Int) < l.length
  case neg =>
    rw [List.take_of_length_le (by omega)] at hall
    (repeat (first | ((refine (?_ : MX _ _ _ _ _ _ _ _ _ _ _)); first | refine mx_end ?_ | (refine mx_mv _ rfl rfl (by conv => {lhs; whnf}) ?_) | (refine mx_as _ rfl rfl (by conv => {lhs; whnf}) ?_) | (refine g_bin rfl ?_; ( (refine mx_cmpl .lss rfl rfl rfl rfl rfl (by exact cmp_lt_f (by omega) ) ?_) ) ) | (refine g_bi .len rfl ?_; refine mx_len E rfl rfl rfl rfl ?_) ) | refine cw_seq ?_ | refine cw_line rfl ?_ | refine cw_cond_f rfl ?_ | refine cw_exit ?_ | refine cw_ret ?_ | refine pw_then ?_ | refine pw_then_x ?_ | refine pw_block_e ?_ ))
    exact pw_ret rfl rfl rfl rfl fun w' hw => ⟨⟨false, fun _ => ⟨by omega, hall⟩⟩, rfl, hw.keep.grow⟩
  case pos =>
    obtain ⟨a, hx⟩ := getElem_some (xs := l) (i := i) (by omega)
    obtain ⟨b4, off, e, hcc⟩ := inl_at hl hx
    subst e
    have hS : ¬ (fun _ : Nat => False) b4 := id
    have hc2 : w.cell? ⟨b4, off + i * 3 + 2, none⟩ = some (.slice a.ad a.data.length a.cap) := hcc 2 _ rfl
    have hda := hd a (List.mem_of_getElem? hx)
    by_cases h1 : (a.data.length : Int) > 100
    · (repeat (first | ((refine (?_ : MX _ _ _ _ _ _ _ _ _ _ _)); first | refine mx_end ?_ | (refine mx_mv _ rfl rfl (by conv => {lhs; whnf}) ?_) | (refine mx_as _ rfl rfl (by conv => {lhs; whnf}) ?_) | ( refine mx_fa E rfl rfl rfl rfl ?_) | (refine g_load rfl ?_; refine mx_old1 E rfl rfl rfl rfl rfl (by assumption) (by assumption) rfl ?_ ) | (refine g_bin rfl ?_; (first | (refine mx_cmpl .lss rfl rfl rfl rfl rfl (by exact cmp_lt_t (by omega) ) ?_) | (refine mx_cmpl .gtr rfl rfl rfl rfl rfl (by exact cmp_gt_t (by omega) ) ?_) ) ) | (refine g_ix rfl ?_; refine mx_ixsn E rfl rfl rfl rfl rfl rfl (by omega) rfl ?_ ) | (refine g_bi .len rfl ?_; refine mx_len E rfl rfl rfl rfl ?_) ) | refine cw_seq ?_ | refine cw_line rfl ?_ | refine cw_block ?_ | refine cw_cond_t rfl ?_ | refine cw_skip ?_ | refine cw_ret ?_ | refine pw_then ?_ | refine pw_then_r ?_ | refine pw_block_r ?_))
      exact pw_ret rfl rfl rfl rfl fun w' hw => ⟨⟨true, by simp⟩, rfl, hw.keep.grow⟩
    · (repeat (first | ((refine (?_ : MX _ _ _ _ _ _ _ _ _ _ _)); first | refine mx_end ?_ | (refine mx_mv _ rfl rfl (by conv => {lhs; whnf}) ?_) | (refine mx_as _ rfl rfl (by conv => {lhs; whnf}) ?_) | ( refine mx_fa E rfl rfl rfl rfl ?_) | (refine g_load rfl ?_; refine mx_old1 E rfl rfl rfl rfl rfl (by assumption) (by assumption) rfl ?_ ) | (refine g_bin rfl ?_; first | (first | (refine mx_cmpl .lss rfl rfl rfl rfl rfl (by exact cmp_lt_t (by omega) ) ?_) | (refine mx_cmpl .gtr rfl rfl rfl rfl rfl (by first | exact cmp_gt_t (by omega) | exact cmp_gt_f (by omega) ) ?_) ) | (refine mx_ar rfl rfl rfl rfl rfl rfl (IntWalk.i64_in _ (by omega)) rfl ?_ ) ) | (refine g_ix rfl ?_; refine mx_ixsn E rfl rfl rfl rfl rfl rfl (by omega) rfl ?_ ) | (refine g_bi .len rfl ?_; refine mx_len E rfl rfl rfl rfl ?_) ) | refine cw_seq ?_ | refine cw_line rfl ?_ | refine cw_block ?_ | refine cw_cond_f rfl ?_ | refine cw_cond_t rfl ?_ | refine cw_skip ?_ | refine pw_then ?_ | refine pw_block ?_ ))
      refine pw_round (i + 1) ⟨by omega, fun x hxm => ?_⟩ (by omega) ⟨rfl, rfl, trivial⟩ (fun w h => h)
      rw [List.take_add_one, hx] at hxm
      rcases List.mem_append.1 hxm with h | h
      · exact hall x h
      · obtain rfl : x = a := by simpa using h
        omega
/-! ### Both tables -/
structure HS where
  pl : List PLc
  dl : List DP
  deriving Inhabited
structure HI (kl mx : Nat) (q : HS) : Prop where
  wf : WfH kl mx q.pl
  rel : toP q.dl = nrm q.pl
  cm : cntH q.pl ≤ mx
  mP : mx < q.pl.length
theorem HI.len {kl mx : Nat} {q : HS} (h : HI kl mx q) : q.dl.length = q.pl.length := by
  have := congrArg List.length h.rel
  rwa [toP_len, nrm_len] at this
theorem WfE.of {kl mx : Nat} {pl : List PLc} {dl : List DP} (h : WfH kl mx pl) (hr : toP dl = nrm pl) : WfE kl mx dl := by
  have hlen : dl.length = pl.length := by
    have := congrArg List.length hr
    rwa [toP_len, nrm_len] at this
  refine ⟨by rw [hlen]; exact h.P0, by rw [hlen]; exact h.P1, h.k1, h.m1, fun d hd => ?_⟩
  have h1 : pP d ∈ toP dl := List.mem_map.2 ⟨d, hd, rfl⟩
  rw [hr] at h1
  obtain ⟨c, hc, e⟩ := List.mem_map.1 h1
  have h2 : (nrmP c).k.length ≤ kl := by
    unfold nrmP
    split
    · rw [(h.ok c hc).1]; exact Nat.le_refl _
    · exact Nat.zero_le _
  have h3 : d.k = (nrmP c).k := by rw [e]
  rw [h3]
  exact Nat.le_trans h2 h.k1
theorem HI.we {kl mx : Nat} {q : HS} (h : HI kl mx q) : WfE kl mx q.dl := WfE.of h.wf h.rel
theorem put_len (pl : List PLc) (kl mx : Nat) (k : List Int) (v : Int) : (putH pl kl mx k v).length = pl.length := by
  unfold putH
  split
  · exact setO_len _ _ _ _
  · rfl
theorem del_len (pl : List PLc) (kl : Nat) (k : List Int) : (delH pl kl k).length = pl.length := by
  unfold delH
  split
  · exact List.length_set
  · rfl
theorem frH_at {pl : List PLc} {k : List Int} {p : Nat} (h : frH pl k = some p) : ∃ c, pl[p]? = some c ∧ c.s ≠ 1 := by
  have h1 := List.find?_some h
  unfold freeH at h1
  cases hc : pl[p]? with
  | none => rw [hc] at h1; cases h1
  | some c => rw [hc] at h1; exact ⟨c, rfl, by simpa using h1⟩
theorem cnt_put {pl : List PLc} {kl mx : Nat} (k : List Int) (v : Int) (h : cntH pl ≤ mx) (hP : mx < pl.length) : cntH (putH pl kl mx k v) ≤ mx ∧ (hpE pl kl mx k = 0 → cntH (putH pl kl mx k v) = cntH pl + 1) := by
  unfold putH
  split
  · rename_i he
    have h1 := (hpE_0 he).2.2
    obtain ⟨p, hp⟩ := frH_some (pl := pl) (by omega) k
    rw [hp]
    obtain ⟨c, hc, hs⟩ := frH_at hp
    have h2 := cnt_set hc ⟨1, k, v⟩
    rw [if_neg hs, if_pos rfl] at h2
    show cntH (pl.set p ⟨1, k, v⟩) ≤ mx ∧ _
    exact ⟨by omega, fun _ => by show cntH (pl.set p ⟨1, k, v⟩) = _; omega⟩
  · rename_i he
    exact ⟨h, fun h' => absurd h' he⟩
theorem cnt_del {pl : List PLc} {kl : Nat} (k : List Int) : cntH (delH pl kl k) + (if (lookH pl kl k).isSome then 1 else 0) = cntH pl := by
  unfold delH
  cases hf : lookH pl kl k with
  | none => rfl
  | some p =>
    obtain ⟨_, _, c, hc, h1, _⟩ := lookH_some hf
    have hg : pl.getD p default = c := by simp [List.getD, hc]
    have h2 := cnt_set hc { c with s := 2 }
    rw [if_pos h1, if_neg (by simp)] at h2
    dsimp only [Option.isSome_some]
    rw [hg]
    simpa using h2
theorem HI.put {kl mx : Nat} {q : HS} (h : HI kl mx q) {k : List Int} (hk : BytK k) (v : Int) {d' : List DP} (h1 : toP d' = putH (toP q.dl) kl mx k v) : HI kl mx ⟨putH q.pl kl mx k v, d'⟩ :=
  ⟨h.wf.put k hk v, by rw [h1, h.rel, putH_nrm], (cnt_put k v h.cm h.mP).1, by rw [put_len]; exact h.mP⟩
theorem HI.del {kl mx : Nat} {q : HS} (h : HI kl mx q) (k : List Int) {d' : List DP} (h1 : toP d' = ddelP (toP q.dl) kl k) : HI kl mx ⟨delH q.pl kl k, d'⟩ :=
  ⟨h.wf.del k, by rw [h1, h.rel, ddelP_nrm], by have := cnt_del (pl := q.pl) (kl := kl) k; have := h.cm; show cntH (delH q.pl kl k) ≤ mx; omega, by show mx < (delH q.pl kl k).length; rw [del_len]; exact h.mP⟩
theorem HI.start (kl mx : Nat) (hk0 : 1 ≤ kl) (hk : kl ≤ 16) (h0 : 1 ≤ mx) (hm : mx ≤ 64) : HI kl mx ⟨noneH kl mx, dnone mx⟩ :=
  ⟨WfH.none kl mx hk0 hk h0 hm, dnone_toP kl mx, by show cntH (noneH kl mx) ≤ mx; rw [cnt_none]; omega, by show mx < (noneH kl mx).length; rw [len_none]; have := plcs_rng mx h0 hm; omega⟩
end Go.Proofs.Ytminmbkhlnaabaa
