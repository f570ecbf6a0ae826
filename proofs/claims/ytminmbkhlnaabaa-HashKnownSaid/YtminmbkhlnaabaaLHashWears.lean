/- The walk of the law HashWears: a table does not wear out. -/
import Derived.Test.YtminmbkhlnaabaaHm
set_option maxRecDepth 100000
set_option maxHeartbeats 8000000
set_option linter.unusedSimpArgs false
set_option linter.unusedVariables false
namespace Go.Proofs.Ytminmbkhlnaabaa
open Go Go.Sx Go.RowKit
def mone (k : List Int) : List Int → Option Int := mput (fun _ => none) k 77
theorem mone_back {one k : List Int} (h : k ≠ one) (v : Int) : mdel (mput (mone one) k v) k = mone one := by
  funext x
  unfold mdel mput mone mput
  by_cases e : x = k
  · subst e
    rw [if_pos rfl, if_neg h]
  · rw [if_neg e, if_neg e]
theorem mone_none {one k : List Int} (h : k ≠ one) : mone one k = none := if_neg h
theorem mone_self (one : List Int) : mone one one = some 77 := if_pos rfl
theorem GH.e0 {kl mx : Nat} {pl : List PLc} {m : List Int → Option Int} {n : Nat} (h : GH kl mx pl m n) {k : List Int} (hk : k.length = kl) (hm : m k = none) (hn : n ≠ mx) : hpE pl kl mx k = 0 := by
  rw [h.e, if_neg (fun h => h hk), hm, if_neg (by decide), if_neg hn]
theorem GH.e12 {kl mx : Nat} {pl : List PLc} {m : List Int → Option Int} {n : Nat} (h : GH kl mx pl m n) {k : List Int} (hk : k.length = kl) (hm : m k = none) (hn : n = mx) : hpE pl kl mx k = 12 ∧ ∀ v, putH pl kl mx k v = pl := by
  have e : hpE pl kl mx k = 12 := by rw [h.e, if_neg (fun h => h hk), hm, if_neg (by decide), if_pos hn]
  exact ⟨e, fun v => by unfold putH; rw [e, if_neg (by decide)]⟩
theorem GH.f1 {kl mx : Nat} {pl : List PLc} {m : List Int → Option Int} {n : Nat} (h : GH kl mx pl m n) {k : List Int} (hk : k.length = kl) {v : Int} (hm : m k = some v) : fdH pl kl k = (v, true) := by
  rw [h.find hk, hm]
def TextsH (w : World) (l : List TX) : Prop := ∀ t ∈ l, InL w t.ad 1 cU t.k ∧ t.k.length ≤ t.cap ∧ t.cap ≤ maxLen ∧ ∀ x ∈ t.k, 0 ≤ x ∧ x < 256
theorem byt2 {x y : Int} (hx : 0 ≤ x ∧ x < 256) (hy : 0 ≤ y ∧ y < 256) : BytK [x, y] := fun z hz => by
  simp at hz
  rcases hz with rfl | rfl <;> assumption
theorem lawHashWears (ad : Option Addr) (cap : Nat) (l : List TX) (ad1 : Option Addr) (cap1 : Nat) (st : List Int) (hst : BytK st) (w : World) (hl : InL w ad 1 cT l) (hc : l.length ≤ cap) (hm : cap ≤ maxLen) (ha : TextsH w l) (hl1 : InL w ad1 1 cU st) (hc1 : st.length ≤ cap1) (hm1 : cap1 ≤ maxLen) :
    Calls Try.prog 8 #[.slice ad l.length cap, .slice ad1 st.length cap1] w fun e w' => e = .returned (.bool true) ∧ Grow w w' := by
  have hmx : maxLen = 9223372036854775807 := rfl
  refine enter2 (S := fun _ => False) 144 Try.func8 rfl rfl rfl (Ok.start w) ?_
  (repeat (first | ((refine (?_ : MX _ _ _ _ _ _ _ _ _ _ _)); first | refine mx_end ?_ | (refine mx_as _ rfl rfl (by conv => {lhs; whnf}) ?_) ) | refine cw_seq ?_ | refine cw_line rfl ?_ | refine pw_then ?_ ))
  refine g_cf 34 rfl ?_
  refine a_callL rfl rfl rfl rfl Try.func34 rfl rfl rfl [] _ rfl (fun a : Nat × Nat × Nat × Nat => .pointer (some ⟨a.1, 0, none⟩)) (fun a => OH a.1 a.2.1 a.2.2.1 a.2.2.2 2 8 (noneH 2 8)) (fun w' hw _ => new34 2 8 w') (fun _ => rfl) (fun _ _ _ => trivial) (fun q => ?_)
  obtain ⟨bx, kb, sb, cb⟩ := q
  refine mx_weak (H' := [star (OH bx kb sb cb 2 8 (noneH 2 8))]) (fun w h => Ok.star h) (fun _ _ => trivial) ?_
  (repeat (first | ((refine (?_ : MX _ _ _ _ _ _ _ _ _ _ _)); first | refine mx_end ?_ | (refine mx_as _ rfl rfl (by conv => {lhs; whnf}) ?_) ) | refine pw_then ?_))
  refine cw_seq ?_; refine cw_line rfl ?_; (repeat (first | ((refine (?_ : MX _ _ _ _ _ _ _ _ _ _ _)); first | refine mx_end ?_ | (refine mx_as _ rfl rfl (by conv => {lhs; whnf}) ?_) | (refine g_bs rfl ?_; refine a_bsi E rfl rfl rfl rfl rfl (by (repeat (first | exact EvI.nil | (apply EvI.cons; rfl)))) (by rfl) (by rfl) (by rfl) rfl (fun _ => ?_)) ) | refine pw_then ?_))
  rename_i b2
  refine cw_mid (ι := {q : Int × Int // (0 ≤ q.1 ∧ q.1 < 256) ∧ (0 ≤ q.2 ∧ q.2 < 256)}) (fun q => [(5, .pointer (some ⟨bx, 0, none⟩)), (6, .slice (some ⟨b2, 0, none⟩) 2 2), (0, .slice ad l.length cap)]) (fun q => [row b2 5 [.int .u8 q.1.1, .int .u8 q.1.2], star (OH bx kb sb cb 2 8 (noneH 2 8))]) (fun _ => True) ?_ ?_
  · (repeat (first | ((refine (?_ : MX _ _ _ _ _ _ _ _ _ _ _)); first | refine mx_end ?_ | (refine mx_as _ rfl rfl (by conv => {lhs; whnf}) ?_) ) | refine cw_seq ?_ | refine cw_line rfl ?_ | refine cw_block ?_ | refine pw_then ?_ ))
    refine cw_loop (ι := Nat × Int × Int) (fun q => [(7, .int .i64 q.1), (5, .pointer (some ⟨bx, 0, none⟩)), (6, .slice (some ⟨b2, 0, none⟩) 2 2), (0, .slice ad l.length cap), (1, .slice ad1 st.length cap1)]) (fun q => [row b2 5 [.int .u8 q.2.1, .int .u8 q.2.2], star (OH bx kb sb cb 2 8 (noneH 2 8))]) (fun q => q.1 ≤ st.length ∧ q.1 ≤ 2 ∧ (0 ≤ q.2.1 ∧ q.2.1 < 256) ∧ (0 ≤ q.2.2 ∧ q.2.2 < 256)) (fun q => 2 - q.1) (0, 1, 1) ⟨Nat.zero_le _, Nat.zero_le _, by decide, by decide⟩ ⟨rfl, rfl, rfl, rfl, rfl, trivial⟩ (fun w h => h) ?_
    rintro ⟨i, x, y⟩ jk ⟨hi, hi2, hx, hy⟩
    dsimp only at hi hi2 hx hy ⊢
    by_cases hend : (i : Int) < st.length ∧ (i : Int) < 2
    case pos =>
      obtain ⟨h0, h1⟩ := hend
      obtain ⟨z, hz⟩ := getElem_some (xs := st) (i := i) (by omega)
      have hzb := hst z (List.mem_of_getElem? hz)
      obtain ⟨b4, off, e, hcc⟩ := inl_at hl1 hz
      subst e
      have hS : ¬ (fun _ : Nat => False) b4 := id
      have hc0 : w.cell? ⟨b4, off + i * 1, none⟩ = some (.int .u8 z) := hcc 0 _ rfl
      have hi01 : i = 0 ∨ i = 1 := by omega
      rcases hi01 with rfl | rfl
      · (repeat (first | ((refine (?_ : MX _ _ _ _ _ _ _ _ _ _ _)); first | refine mx_end ?_ | (refine mx_mv _ rfl rfl (by conv => {lhs; whnf}) ?_) | (refine mx_as _ rfl rfl (by conv => {lhs; whnf}) ?_) | (refine g_load rfl ?_; refine mx_old1 E rfl rfl rfl rfl rfl (by assumption) (by assumption) rfl ?_ ) | (refine g_bin rfl ?_; first | ( (refine mx_cmpl .lss rfl rfl rfl rfl rfl (by exact cmp_lt_t (by omega) ) ?_) ) | (refine mx_ar rfl rfl rfl rfl rfl rfl (IntWalk.i64_in _ (by omega)) rfl ?_ ) ) | (refine g_ix rfl ?_; refine mx_ixsn E rfl rfl rfl rfl rfl rfl (by omega) rfl ?_ ) | (refine g_bi .len rfl ?_; refine mx_len E rfl rfl rfl rfl ?_) | (refine g_pick rfl ?_; refine mx_and rfl rfl rfl rfl rfl rfl ?_ ) | (refine g_store rfl ?_; refine s_1 E rfl rfl rfl rfl rfl rfl rfl rfl (by exact sp0 ) rfl ?_) ) | refine cw_seq ?_ | refine cw_line rfl ?_ | refine cw_block ?_ | refine cw_cond_t rfl ?_ | refine cw_skip ?_ | refine pw_then ?_ | refine pw_block ?_ ))
        exact pw_round (1, z, y) ⟨by show 1 ≤ st.length; omega, by show 1 ≤ 2; omega, hzb, hy⟩ (by show 2 - 1 < 2 - 0; omega) ⟨rfl, rfl, rfl, rfl, rfl, trivial⟩ (fun w h => h)
      · (repeat (first | ((refine (?_ : MX _ _ _ _ _ _ _ _ _ _ _)); first | refine mx_end ?_ | (refine mx_mv _ rfl rfl (by conv => {lhs; whnf}) ?_) | (refine mx_as _ rfl rfl (by conv => {lhs; whnf}) ?_) | (refine g_load rfl ?_; refine mx_old1 E rfl rfl rfl rfl rfl (by assumption) (by assumption) rfl ?_ ) | (refine g_bin rfl ?_; first | ( (refine mx_cmpl .lss rfl rfl rfl rfl rfl (by exact cmp_lt_t (by omega) ) ?_) ) | (refine mx_ar rfl rfl rfl rfl rfl rfl (IntWalk.i64_in _ (by omega)) rfl ?_ ) ) | (refine g_ix rfl ?_; refine mx_ixsn E rfl rfl rfl rfl rfl rfl (by omega) rfl ?_ ) | (refine g_bi .len rfl ?_; refine mx_len E rfl rfl rfl rfl ?_) | (refine g_pick rfl ?_; refine mx_and rfl rfl rfl rfl rfl rfl ?_ ) | (refine g_store rfl ?_; refine s_1 E rfl rfl rfl rfl rfl rfl rfl rfl (by exact spS sp0 ) rfl ?_) ) | refine cw_seq ?_ | refine cw_line rfl ?_ | refine cw_block ?_ | refine cw_cond_t rfl ?_ | refine cw_skip ?_ | refine pw_then ?_ | refine pw_block ?_ ))
        exact pw_round (2, x, z) ⟨by show 2 ≤ st.length; omega, by show 2 ≤ 2; omega, hx, hzb⟩ (by show 2 - 2 < 2 - 1; omega) ⟨rfl, rfl, rfl, rfl, rfl, trivial⟩ (fun w h => h)
    have hE : ¬ (i : Int) < st.length ∨ ((i : Int) < st.length ∧ ¬ (i : Int) < 2) := by omega
    rcases hE with h0 | ⟨h0, h1⟩
    all_goals (
      (repeat (first | ((refine (?_ : MX _ _ _ _ _ _ _ _ _ _ _)); first | refine mx_end ?_ | (refine mx_mv _ rfl rfl (by conv => {lhs; whnf}) ?_) | (refine g_bin rfl ?_; ( (refine mx_cmpl .lss rfl rfl rfl rfl rfl (by first | exact cmp_lt_t (by omega) | exact cmp_lt_f (by omega) | rfl) ?_) ) ) | (refine g_bi .len rfl ?_; refine mx_len E rfl rfl rfl rfl ?_) | (refine mx_skip rfl rfl rfl ?_) | (refine g_pick rfl ?_; first | refine mx_andf rfl rfl rfl rfl rfl ?_ | refine mx_and rfl rfl rfl rfl rfl rfl ?_ ) ) | refine cw_seq ?_ | refine cw_line rfl ?_ | refine cw_cond_f rfl ?_ | refine cw_exit ?_ | refine pw_then ?_ | refine pw_then_x ?_ | refine pw_block_e ?_ ))
      exact pw_mid ⟨(x, y), hx, hy⟩ trivial ⟨rfl, rfl, rfl, trivial⟩ (fun w h => h))
  rintro ⟨⟨x, y⟩, hx, hy⟩ jk -
  dsimp only at hx hy ⊢
  have hG0 := GH.start 2 8 (by omega) (by omega) (by omega) (by omega)
  have hb1 := byt2 hx hy
  have hG1 : GH 2 8 (putH (noneH 2 8) 2 8 [x, y] 77) (mone [x, y]) 1 := hG0.put rfl hb1 rfl (by decide) 77
  have hE1 := hG0.e0 (k := [x, y]) rfl rfl (by decide)
  (repeat (first | ((refine (?_ : MX _ _ _ _ _ _ _ _ _ _ _)); (refine mx_mv _ rfl rfl (by conv => {lhs; whnf}) ?_) ) | refine cw_seq ?_ | refine cw_line rfl ?_ ))
  refine g_cf 35 rfl ?_; refine a_cou rfl rfl rfl rfl Try.func35 rfl rfl rfl (OH bx kb sb cb 2 8 (noneH 2 8)) (.int .i64 0) (OH bx kb sb cb 2 8 (putH (noneH 2 8) 2 8 [x, y] 77)) (fun w' hw h => put35e bx kb sb cb 2 8 (noneH 2 8) (putH (noneH 2 8) 2 8 [x, y] 77) 0 [x, y] 77 hE1 rfl hG0.wf (some ⟨b2, 0, none⟩) 2 2 hb1 rfl (by decide) w' h (row_in (c := cU) (xs := [x, y]) len_U (hw.holds 0 _ rfl)) (row_new hw 0 1 rfl rfl (by decide))) rfl (fun _ _ => trivial) ?_
  (repeat (first | ((refine (?_ : MX _ _ _ _ _ _ _ _ _ _ _)); first | refine mx_end ?_ | (refine mx_as _ rfl rfl (by conv => {lhs; whnf}) ?_) | (refine g_bin rfl ?_; ( (refine mx_cmpl .neq rfl rfl rfl rfl rfl (by exact cmp_ne_f (by omega) ) ?_) ) ) ) | refine cw_seq ?_ | refine cw_line rfl ?_ | refine cw_block ?_ | refine cw_cond_f rfl ?_ | refine cw_skip ?_ | refine pw_then ?_ ))
  generalize putH (noneH 2 8) 2 8 [x, y] 77 = pl1 at hG1 ⊢
  refine cw_loop (ι := Nat × List PLc) (fun q => [(8, .int .i64 q.1), (5, .pointer (some ⟨bx, 0, none⟩)), (6, .slice (some ⟨b2, 0, none⟩) 2 2), (0, .slice ad l.length cap)]) (fun q => [row b2 5 [.int .u8 x, .int .u8 y], star (OH bx kb sb cb 2 8 q.2)]) (fun q => q.1 ≤ 3 ∧ GH 2 8 q.2 (mone [x, y]) 1) (fun q => 3 - q.1) (0, pl1) ⟨Nat.zero_le _, hG1⟩ ⟨rfl, rfl, rfl, rfl, trivial⟩ (fun w h => h) ?_
  rintro ⟨tu, pl2⟩ jk2 ⟨htu, hG2⟩
  dsimp only at htu hG2 ⊢
  by_cases htu3 : (tu : Int) < 3
  case pos =>
    (repeat (first | ((refine (?_ : MX _ _ _ _ _ _ _ _ _ _ _)); first | refine mx_end ?_ | (refine mx_mv _ rfl rfl (by conv => {lhs; whnf}) ?_) | (refine mx_as _ rfl rfl (by conv => {lhs; whnf}) ?_) | (refine g_bin rfl ?_; ( (refine mx_cmpl .lss rfl rfl rfl rfl rfl (by exact cmp_lt_t (by omega) ) ?_) ) ) ) | refine cw_seq ?_ | refine cw_line rfl ?_ | refine cw_block ?_ | refine cw_cond_t rfl ?_ | refine cw_skip ?_ | refine pw_then ?_ ))
    refine cw_loop (ι := Nat × List PLc) (fun q => [(9, .int .i64 q.1), (8, .int .i64 tu), (5, .pointer (some ⟨bx, 0, none⟩)), (6, .slice (some ⟨b2, 0, none⟩) 2 2), (0, .slice ad l.length cap)]) (fun q => [row b2 5 [.int .u8 x, .int .u8 y], star (OH bx kb sb cb 2 8 q.2)]) (fun q => q.1 ≤ l.length ∧ q.1 ≤ 60 ∧ GH 2 8 q.2 (mone [x, y]) 1) (fun q => 60 - q.1) (0, pl2) ⟨Nat.zero_le _, Nat.zero_le _, hG2⟩ ⟨rfl, rfl, rfl, rfl, rfl, trivial⟩ (fun w h => h) ?_
    rintro ⟨i, pl3⟩ jk3 ⟨hi, hi2, hG3⟩
    dsimp only at hi hi2 hG3 ⊢
    by_cases hend : (i : Int) < l.length ∧ (i : Int) < 60
    case neg =>
      have hE : ¬ (i : Int) < l.length ∨ ((i : Int) < l.length ∧ ¬ (i : Int) < 60) := by omega
      rcases hE with h0 | ⟨h0, h1⟩
      all_goals (
        (repeat (first | ((refine (?_ : MX _ _ _ _ _ _ _ _ _ _ _)); first | refine mx_end ?_ | (refine mx_mv _ rfl rfl (by conv => {lhs; whnf}) ?_) | (refine mx_as _ rfl rfl (by conv => {lhs; whnf}) ?_) | (refine g_bin rfl ?_; first | ( (refine mx_cmpl .lss rfl rfl rfl rfl rfl (by first | exact cmp_lt_t (by omega) | exact cmp_lt_f (by omega) | rfl) ?_) ) | (refine mx_ar rfl rfl rfl rfl rfl rfl (IntWalk.i64_in _ (by omega)) rfl ?_ ) ) | (refine g_bi .len rfl ?_; refine mx_len E rfl rfl rfl rfl ?_) | (refine mx_skip rfl rfl rfl ?_) | (refine g_pick rfl ?_; first | refine mx_andf rfl rfl rfl rfl rfl ?_ | refine mx_and rfl rfl rfl rfl rfl rfl ?_ ) ) | refine cw_seq ?_ | refine cw_line rfl ?_ | refine cw_cond_f rfl ?_ | refine cw_exit ?_ | refine pw_then ?_ | refine pw_then_x ?_ | refine pw_block ?_ | refine pw_block_e ?_ ))
        exact pw_round (tu + 1, pl3) ⟨by show tu + 1 ≤ 3; omega, hG3⟩ (by show 3 - (tu + 1) < 3 - tu; omega) ⟨rfl, rfl, rfl, rfl, trivial⟩ (fun w h => h))
    obtain ⟨h0, h1⟩ := hend
    obtain ⟨t, ht⟩ := getElem_some (xs := l) (i := i) (by omega)
    obtain ⟨b4, off, e, hcc⟩ := inl_at hl ht
    subst e
    have hS : ¬ (fun _ : Nat => False) b4 := id
    have hc0 : w.cell? ⟨b4, off + i * 1, none⟩ = some (.slice t.ad t.k.length t.cap) := hcc 0 _ rfl
    obtain ⟨hd1, hd2, hd3, hd4⟩ := ha t (List.mem_of_getElem? ht)
    by_cases hlen : (t.k.length : Int) = 2
    case neg =>
      (repeat (first | ((refine (?_ : MX _ _ _ _ _ _ _ _ _ _ _)); first | refine mx_end ?_ | (refine mx_mv _ rfl rfl (by conv => {lhs; whnf}) ?_) | (refine mx_as _ rfl rfl (by conv => {lhs; whnf}) ?_) | (refine g_load rfl ?_; refine mx_old1 E rfl rfl rfl rfl rfl (by assumption) (by assumption) rfl ?_ ) | (refine g_bin rfl ?_; first | (first | (refine mx_cmpl .neq rfl rfl rfl rfl rfl (by exact cmp_ne_t (by omega) ) ?_) | (refine mx_cmpl .lss rfl rfl rfl rfl rfl (by exact cmp_lt_t (by omega) ) ?_) ) | (refine mx_ar rfl rfl rfl rfl rfl rfl (IntWalk.i64_in _ (by omega)) rfl ?_ ) ) | (refine g_ix rfl ?_; refine mx_ixsn E rfl rfl rfl rfl rfl rfl (by omega) rfl ?_ ) | (refine g_bi .len rfl ?_; refine mx_len E rfl rfl rfl rfl ?_) | (refine mx_skip rfl rfl rfl ?_) | (refine g_pick rfl ?_; first | refine mx_ort rfl rfl rfl rfl rfl ?_ | refine mx_and rfl rfl rfl rfl rfl rfl ?_ ) ) | refine cw_seq ?_ | refine cw_line rfl ?_ | refine cw_block ?_ | refine cw_cond_t rfl ?_ | refine cw_skip ?_ | refine cw_exit ?_ | refine pw_then ?_ | refine pw_then_x ?_ | refine pw_block_e ?_ ))
      exact pw_round (i + 1, pl3) ⟨by show i + 1 ≤ l.length; omega, by show i + 1 ≤ 60; omega, hG3⟩ (by show 60 - (i + 1) < 60 - i; omega) ⟨rfl, rfl, rfl, rfl, rfl, trivial⟩ (fun w h => h)
    have hlen2 : t.k.length = 2 := by omega
    by_cases hone : t.k = [x, y]
    case pos =>
      (repeat (first | ((refine (?_ : MX _ _ _ _ _ _ _ _ _ _ _)); first | refine mx_end ?_ | (refine mx_mv _ rfl rfl (by conv => {lhs; whnf}) ?_) | (refine g_load rfl ?_; refine mx_old1 E rfl rfl rfl rfl rfl (by assumption) (by assumption) rfl ?_ ) | (refine g_bin rfl ?_; (first | (refine mx_cmpl .neq rfl rfl rfl rfl rfl (by exact cmp_ne_f (by omega) ) ?_) | (refine mx_cmpl .lss rfl rfl rfl rfl rfl (by exact cmp_lt_t (by omega) ) ?_) ) ) | (refine g_ix rfl ?_; refine mx_ixsn E rfl rfl rfl rfl rfl rfl (by omega) rfl ?_ ) | (refine g_bi .len rfl ?_; refine mx_len E rfl rfl rfl rfl ?_) | (refine g_pick rfl ?_; refine mx_and rfl rfl rfl rfl rfl rfl ?_ ) ) | refine cw_seq ?_ | refine cw_line rfl ?_ | refine cw_block ?_ | refine cw_cond_t rfl ?_ | refine cw_skip ?_ | refine pw_then ?_ ))
      refine g_cf 36 rfl ?_
      refine a_callv rfl rfl rfl rfl Try.func36 rfl rfl rfl (.bool true) (fun w' hw => decide_eq_true hone ▸ sameB t.ad (some ⟨b2, 0, none⟩) t.k.length 2 t.cap 2 t.k [x, y] rfl rfl (by omega) w' (hd1.keep hw fun _ _ _ h => h) (row_in (c := cU) (xs := [x, y]) len_U (hw.holds 0 _ rfl))) rfl ?_
      (repeat (first | ((refine (?_ : MX _ _ _ _ _ _ _ _ _ _ _)); first | refine mx_end ?_ | (refine mx_mv _ rfl rfl (by conv => {lhs; whnf}) ?_) | (refine mx_as _ rfl rfl (by conv => {lhs; whnf}) ?_) | (refine g_bin rfl ?_; (refine mx_ar rfl rfl rfl rfl rfl rfl (IntWalk.i64_in _ (by omega)) rfl ?_ ) ) | (refine g_pick rfl ?_; refine mx_or rfl rfl rfl rfl rfl rfl ?_ ) ) | refine cw_line rfl ?_ | refine cw_cond_t rfl ?_ | refine cw_exit ?_ | refine pw_then ?_ | refine pw_then_x ?_ | refine pw_block_e ?_ ))
      exact pw_round (i + 1, pl3) ⟨by show i + 1 ≤ l.length; omega, by show i + 1 ≤ 60; omega, hG3⟩ (by show 60 - (i + 1) < 60 - i; omega) ⟨rfl, rfl, rfl, rfl, rfl, trivial⟩ (fun w h => h)
    have hE2 := hG3.e0 hlen2 (mone_none hone) (by decide)
    have hG4 : GH 2 8 (putH pl3 2 8 t.k i) (mput (mone [x, y]) t.k i) 2 := hG3.put hlen2 hd4 (mone_none hone) (by decide) i
    have hf4 : fdH (putH pl3 2 8 t.k i) 2 t.k = ((i : Int), true) := hG4.f1 hlen2 (if_pos rfl)
    have hG5 := (hG4.del hlen2 (v := (i : Int)) (if_pos rfl)).1
    rw [mone_back hone, show 2 - 1 = 1 from rfl] at hG5
    (repeat (first | ((refine (?_ : MX _ _ _ _ _ _ _ _ _ _ _)); first | refine mx_end ?_ | (refine mx_mv _ rfl rfl (by conv => {lhs; whnf}) ?_) | (refine g_load rfl ?_; refine mx_old1 E rfl rfl rfl rfl rfl (by assumption) (by assumption) rfl ?_ ) | (refine g_bin rfl ?_; (first | (refine mx_cmpl .neq rfl rfl rfl rfl rfl (by exact cmp_ne_f (by omega) ) ?_) | (refine mx_cmpl .lss rfl rfl rfl rfl rfl (by exact cmp_lt_t (by omega) ) ?_) ) ) | (refine g_ix rfl ?_; refine mx_ixsn E rfl rfl rfl rfl rfl rfl (by omega) rfl ?_ ) | (refine g_bi .len rfl ?_; refine mx_len E rfl rfl rfl rfl ?_) | (refine g_pick rfl ?_; refine mx_and rfl rfl rfl rfl rfl rfl ?_ ) ) | refine cw_seq ?_ | refine cw_line rfl ?_ | refine cw_block ?_ | refine cw_cond_t rfl ?_ | refine cw_skip ?_ | refine pw_then ?_ ))
    refine g_cf 36 rfl ?_
    refine a_callv rfl rfl rfl rfl Try.func36 rfl rfl rfl (.bool false) (fun w' hw => decide_eq_false hone ▸ sameB t.ad (some ⟨b2, 0, none⟩) t.k.length 2 t.cap 2 t.k [x, y] rfl rfl (by omega) w' (hd1.keep hw fun _ _ _ h => h) (row_in (c := cU) (xs := [x, y]) len_U (hw.holds 0 _ rfl))) rfl ?_
    (repeat (first | ((refine (?_ : MX _ _ _ _ _ _ _ _ _ _ _)); first | refine mx_end ?_ | (refine mx_mv _ rfl rfl (by conv => {lhs; whnf}) ?_) | (refine g_load rfl ?_; refine mx_old1 E rfl rfl rfl rfl rfl (by assumption) (by assumption) rfl ?_ ) | (refine g_ix rfl ?_; refine mx_ixsn E rfl rfl rfl rfl rfl rfl (by omega) rfl ?_ ) | (refine g_pick rfl ?_; refine mx_or rfl rfl rfl rfl rfl rfl ?_ ) ) | refine cw_seq ?_ | refine cw_line rfl ?_ | refine cw_cond_f rfl ?_ | refine cw_skip ?_ | refine pw_then ?_ ))
    refine g_cf 35 rfl ?_; refine a_cou rfl rfl rfl rfl Try.func35 rfl rfl rfl (OH bx kb sb cb 2 8 pl3) (.int .i64 0) (OH bx kb sb cb 2 8 (putH pl3 2 8 t.k i)) (fun w' hw h => put35e bx kb sb cb 2 8 pl3 (putH pl3 2 8 t.k i) 0 t.k i hE2 rfl hG3.wf t.ad t.k.length t.cap hd4 rfl (by omega) w' h (hd1.keep hw fun _ _ _ h => h) (oldNf hw 1 rfl len_U (by omega) hd1 fun _ _ _ _ h => h)) rfl (fun _ _ => trivial) ?_
    (repeat (first | ((refine (?_ : MX _ _ _ _ _ _ _ _ _ _ _)); first | refine mx_end ?_ | (refine mx_mv _ rfl rfl (by conv => {lhs; whnf}) ?_) | (refine mx_as _ rfl rfl (by conv => {lhs; whnf}) ?_) | (refine g_load rfl ?_; refine mx_old1 E rfl rfl rfl rfl rfl (by assumption) (by assumption) rfl ?_ ) | (refine g_ix rfl ?_; refine mx_ixsn E rfl rfl rfl rfl rfl rfl (by omega) rfl ?_ ) ) | refine cw_seq ?_ | refine cw_line rfl ?_ | refine pw_then ?_ ))
    refine g_cf 37 rfl ?_
    refine a_cou rfl rfl rfl rfl Try.func37 rfl rfl rfl (OH bx kb sb cb 2 8 (putH pl3 2 8 t.k i)) (.tuple #[.int .i64 i, .bool true]) (OH bx kb sb cb 2 8 (delH (putH pl3 2 8 t.k i) 2 t.k)) (fun w' hw h => del37e bx kb sb cb 2 8 (putH pl3 2 8 t.k i) (delH (putH pl3 2 8 t.k i) 2 t.k) i true t.k hf4 rfl hG4.wf t.ad t.k.length t.cap hd4 rfl (by omega) w' h (hd1.keep hw fun _ _ _ h => h) (oldNf hw 1 rfl len_U (by omega) hd1 fun _ _ _ _ h => h)) rfl (fun _ _ => trivial) ?_
    (repeat (first | ((refine (?_ : MX _ _ _ _ _ _ _ _ _ _ _)); first | refine mx_end ?_ | (refine mx_mv _ rfl rfl (by conv => {lhs; whnf}) ?_) | (refine mx_as _ rfl rfl (by conv => {lhs; whnf}) ?_) | (refine g_bin rfl ?_; ( (refine mx_cmpl .neq rfl rfl rfl rfl rfl (by exact cmp_ne_f (by omega) ) ?_) ) ) | (refine mx_not rfl rfl rfl ?_) | (refine mx_ex _ rfl rfl rfl (by conv => {lhs; whnf}) ?_) | (refine g_pick rfl ?_; refine mx_or rfl rfl rfl rfl rfl rfl ?_ ) ) | refine cw_seq ?_ | refine cw_line rfl ?_ | refine pw_then ?_ ))
    refine g_cf 38 rfl ?_
    refine a_callv rfl rfl rfl rfl Try.func38 rfl rfl rfl (.int .i64 1) (fun w' hw => by have h := len38 bx kb sb cb 2 8 (delH (putH pl3 2 8 t.k i) 2 t.k) w' (fun r hr => star_holds (hw.holds 1 _ rfl) hr); rwa [hG5.cnt] at h) rfl ?_
    (repeat (first | ((refine (?_ : MX _ _ _ _ _ _ _ _ _ _ _)); first | refine mx_end ?_ | (refine mx_mv _ rfl rfl (by conv => {lhs; whnf}) ?_) | (refine mx_as _ rfl rfl (by conv => {lhs; whnf}) ?_) | (refine g_bin rfl ?_; first | ( (refine mx_cmpl .neq rfl rfl rfl rfl rfl (by exact cmp_ne_f (by omega) ) ?_) ) | (refine mx_ar rfl rfl rfl rfl rfl rfl (IntWalk.i64_in _ (by omega)) rfl ?_ ) ) | (refine g_pick rfl ?_; refine mx_or rfl rfl rfl rfl rfl rfl ?_ ) ) | refine cw_line rfl ?_ | refine cw_cond_f rfl ?_ | refine cw_skip ?_ | refine pw_then ?_ | refine pw_block ?_ ))
    exact pw_round (i + 1, delH (putH pl3 2 8 t.k i) 2 t.k) ⟨by show i + 1 ≤ l.length; omega, by show i + 1 ≤ 60; omega, hG5⟩ (by show 60 - (i + 1) < 60 - i; omega) ⟨rfl, rfl, rfl, rfl, rfl, trivial⟩ (fun w h => h)
  obtain rfl : tu = 3 := by omega
  (repeat (first | ((refine (?_ : MX _ _ _ _ _ _ _ _ _ _ _)); first | refine mx_end ?_ | (refine mx_mv _ rfl rfl (by conv => {lhs; whnf}) ?_) | (refine mx_as _ rfl rfl (by conv => {lhs; whnf}) ?_) | (refine g_bin rfl ?_; ( (refine mx_cmpl .lss rfl rfl rfl rfl rfl (by exact cmp_lt_f (by omega) ) ?_) ) ) ) | refine cw_seq ?_ | refine cw_line rfl ?_ | refine cw_block ?_ | refine cw_cond_f rfl ?_ | refine cw_exit ?_ | refine pw_then ?_ | refine pw_then_x ?_ | refine pw_block_e ?_ ))
  refine cw_loop (ι := Nat × List PLc) (fun q => [(13, .int .i64 q.1), (5, .pointer (some ⟨bx, 0, none⟩)), (6, .slice (some ⟨b2, 0, none⟩) 2 2)]) (fun q => [row b2 5 [.int .u8 x, .int .u8 y], star (OH bx kb sb cb 2 8 q.2)]) (fun q => q.1 ≤ 7 ∧ ∃ m, GH 2 8 q.2 m (q.1 + 1) ∧ m [x, y] = some 77 ∧ ∀ z, (m z).isSome = true → z = [x, y] ∨ ∃ (j : Nat) (v : Int), j < q.1 ∧ z = [(j : Int), v]) (fun q => 7 - q.1) (0, pl2) ⟨Nat.zero_le _, mone [x, y], hG2, mone_self _, fun z hz => .inl (by
    by_cases e : z = [x, y]
    · exact e
    · rw [mone_none e] at hz; cases hz)⟩ ⟨rfl, rfl, rfl, trivial⟩ (fun w h => h) ?_
  rintro ⟨i, pl5⟩ jk5 ⟨hi, m, hG5, hm77, hmz⟩
  dsimp only at hi hG5 hm77 hmz ⊢
  by_cases hi7 : (i : Int) < 7
  case pos =>
    have hnew : ∀ c2 : Int, [(i : Int), c2] ≠ [x, y] → m [(i : Int), c2] = none := fun c2 hne => by
      cases hmm : m [(i : Int), c2] with
      | none => rfl
      | some v =>
        rcases hmz _ (by rw [hmm]; rfl) with h | ⟨j, v', hj, h⟩
        · exact absurd h hne
        · simp at h; omega
    have hstep : ∀ (c2 : Int) (hc2 : 0 ≤ c2 ∧ c2 < 256) (hne : [(i : Int), c2] ≠ [x, y]), i + 1 ≤ 7 ∧ ∃ m', GH 2 8 (putH pl5 2 8 [(i : Int), c2] i) m' (i + 1 + 1) ∧ m' [x, y] = some 77 ∧ ∀ z, (m' z).isSome = true → z = [x, y] ∨ ∃ (j : Nat) (v : Int), j < i + 1 ∧ z = [(j : Int), v] := fun c2 hc2 hne => by
      refine ⟨by omega, mput m [(i : Int), c2] i, hG5.put rfl (byt2 (by omega) hc2) (hnew c2 hne) (by omega) i, ?_, fun z hz => ?_⟩
      · unfold mput
        rw [if_neg (Ne.symm hne)]
        exact hm77
      · unfold mput at hz
        by_cases e : z = [(i : Int), c2]
        · exact .inr ⟨i, c2, by omega, e⟩
        · rw [if_neg e] at hz
          rcases hmz z hz with h | ⟨j, v', hj, h⟩
          · exact .inl h
          · exact .inr ⟨j, v', by omega, h⟩
    by_cases hsame : [(i : Int), 200] = [x, y]
    · have hne : [(i : Int), 201] ≠ [x, y] := fun h => by
        rw [← hsame] at h
        simp at h
      have hE5 := hG5.e0 rfl (hnew 201 hne) (by omega)
      (repeat (first | ((refine (?_ : MX _ _ _ _ _ _ _ _ _ _ _)); first | refine mx_end ?_ | (refine mx_mv _ rfl rfl (by conv => {lhs; whnf}) ?_) | (refine mx_as _ rfl rfl (by conv => {lhs; whnf}) ?_) | (refine g_bin rfl ?_; ( (refine mx_cmpl .lss rfl rfl rfl rfl rfl (by exact cmp_lt_t (by omega) ) ?_) ) ) | (refine g_bs rfl ?_; refine a_bsi E rfl rfl rfl rfl rfl (by (repeat (first | exact EvI.nil | (apply EvI.cons; rfl)))) (by rfl) (by rfl) (by rfl) rfl (fun _ => ?_)) | (refine g_conv rfl ?_; refine mx_cv E rfl rfl rfl rfl rfl rfl (IntWalk.u8_in _ (by omega)) rfl ?_) ) | refine cw_seq ?_ | refine cw_line rfl ?_ | refine cw_block ?_ | refine cw_cond_t rfl ?_ | refine cw_skip ?_ | refine pw_then ?_ ))
      rename_i b6
      refine g_cf 36 rfl ?_
      refine a_callv rfl rfl rfl rfl Try.func36 rfl rfl rfl (.bool true) (fun w' hw => decide_eq_true hsame ▸ sameB (some ⟨b6, 0, none⟩) (some ⟨b2, 0, none⟩) 2 2 2 2 [(i : Int), 200] [x, y] rfl rfl (by omega) w' (row_in (c := cU) (xs := [(i : Int), 200]) len_U (hw.holds 0 _ rfl)) (row_in (c := cU) (xs := [x, y]) len_U (hw.holds 1 _ rfl))) rfl ?_
      (repeat (first | ((refine (?_ : MX _ _ _ _ _ _ _ _ _ _ _)); first | refine mx_end ?_ | (refine mx_mv _ rfl rfl (by conv => {lhs; whnf}) ?_) | (refine g_ix rfl ?_; refine mx_ixsi E rfl rfl rfl rfl rfl rfl (by omega) (by omega) rfl ?_ ) | (refine g_store rfl ?_; refine s_1 E rfl rfl rfl rfl rfl rfl rfl rfl (by exact spS sp0 ) rfl ?_) ) | refine cw_seq ?_ | refine cw_line rfl ?_ | refine cw_cond_t rfl ?_ | refine pw_then ?_ ))
      refine g_cf 35 rfl ?_; refine a_cou rfl rfl rfl rfl Try.func35 rfl rfl rfl (OH bx kb sb cb 2 8 pl5) (.int .i64 0) (OH bx kb sb cb 2 8 (putH pl5 2 8 [(i : Int), 201] i)) (fun w' hw h => put35e bx kb sb cb 2 8 pl5 (putH pl5 2 8 [(i : Int), 201] i) 0 [(i : Int), 201] i hE5 rfl hG5.wf (some ⟨b6, 0, none⟩) 2 2 (byt2 (by omega) (by omega)) rfl (by decide) w' h (row_in (c := cU) (xs := [(i : Int), 201]) len_U (hw.holds 0 _ rfl)) (row_new hw 0 2 rfl rfl (by decide))) rfl (fun _ _ => trivial) ?_
      (repeat (first | ((refine (?_ : MX _ _ _ _ _ _ _ _ _ _ _)); first | refine mx_end ?_ | (refine mx_mv _ rfl rfl (by conv => {lhs; whnf}) ?_) | (refine mx_as _ rfl rfl (by conv => {lhs; whnf}) ?_) | (refine g_bin rfl ?_; first | ( (refine mx_cmpl .neq rfl rfl rfl rfl rfl (by exact cmp_ne_f (by omega) ) ?_) ) | (refine mx_ar rfl rfl rfl rfl rfl rfl (IntWalk.i64_in _ (by omega)) rfl ?_ ) ) ) | refine cw_line rfl ?_ | refine cw_cond_f rfl ?_ | refine cw_skip ?_ | refine pw_then ?_ | refine pw_block ?_ ))
      exact pw_round (i + 1, putH pl5 2 8 [(i : Int), 201] i) (hstep 201 (by omega) hne) (by show 7 - (i + 1) < 7 - i; omega) ⟨rfl, rfl, rfl, trivial⟩ (fun w h => h.pick [1, 2] (by simp) rfl)
    · have hE5 := hG5.e0 rfl (hnew 200 hsame) (by omega)
      (repeat (first | ((refine (?_ : MX _ _ _ _ _ _ _ _ _ _ _)); first | refine mx_end ?_ | (refine mx_mv _ rfl rfl (by conv => {lhs; whnf}) ?_) | (refine mx_as _ rfl rfl (by conv => {lhs; whnf}) ?_) | (refine g_bin rfl ?_; ( (refine mx_cmpl .lss rfl rfl rfl rfl rfl (by exact cmp_lt_t (by omega) ) ?_) ) ) | (refine g_bs rfl ?_; refine a_bsi E rfl rfl rfl rfl rfl (by (repeat (first | exact EvI.nil | (apply EvI.cons; rfl)))) (by rfl) (by rfl) (by rfl) rfl (fun _ => ?_)) | (refine g_conv rfl ?_; refine mx_cv E rfl rfl rfl rfl rfl rfl (IntWalk.u8_in _ (by omega)) rfl ?_) ) | refine cw_seq ?_ | refine cw_line rfl ?_ | refine cw_block ?_ | refine cw_cond_t rfl ?_ | refine cw_skip ?_ | refine pw_then ?_ ))
      rename_i b6
      refine g_cf 36 rfl ?_
      refine a_callv rfl rfl rfl rfl Try.func36 rfl rfl rfl (.bool false) (fun w' hw => decide_eq_false hsame ▸ sameB (some ⟨b6, 0, none⟩) (some ⟨b2, 0, none⟩) 2 2 2 2 [(i : Int), 200] [x, y] rfl rfl (by omega) w' (row_in (c := cU) (xs := [(i : Int), 200]) len_U (hw.holds 0 _ rfl)) (row_in (c := cU) (xs := [x, y]) len_U (hw.holds 1 _ rfl))) rfl ?_
      (repeat (first | ((refine (?_ : MX _ _ _ _ _ _ _ _ _ _ _)); first | refine mx_end ?_ | (refine mx_mv _ rfl rfl (by conv => {lhs; whnf}) ?_) ) | refine cw_seq ?_ | refine cw_line rfl ?_ | refine cw_cond_f rfl ?_ | refine cw_skip ?_ | refine pw_then ?_ ))
      refine g_cf 35 rfl ?_; refine a_cou rfl rfl rfl rfl Try.func35 rfl rfl rfl (OH bx kb sb cb 2 8 pl5) (.int .i64 0) (OH bx kb sb cb 2 8 (putH pl5 2 8 [(i : Int), 200] i)) (fun w' hw h => put35e bx kb sb cb 2 8 pl5 (putH pl5 2 8 [(i : Int), 200] i) 0 [(i : Int), 200] i hE5 rfl hG5.wf (some ⟨b6, 0, none⟩) 2 2 (byt2 (by omega) (by omega)) rfl (by decide) w' h (row_in (c := cU) (xs := [(i : Int), 200]) len_U (hw.holds 0 _ rfl)) (row_new hw 0 2 rfl rfl (by decide))) rfl (fun _ _ => trivial) ?_
      (repeat (first | ((refine (?_ : MX _ _ _ _ _ _ _ _ _ _ _)); first | refine mx_end ?_ | (refine mx_mv _ rfl rfl (by conv => {lhs; whnf}) ?_) | (refine mx_as _ rfl rfl (by conv => {lhs; whnf}) ?_) | (refine g_bin rfl ?_; first | ( (refine mx_cmpl .neq rfl rfl rfl rfl rfl (by exact cmp_ne_f (by omega) ) ?_) ) | (refine mx_ar rfl rfl rfl rfl rfl rfl (IntWalk.i64_in _ (by omega)) rfl ?_ ) ) ) | refine cw_line rfl ?_ | refine cw_cond_f rfl ?_ | refine cw_skip ?_ | refine pw_then ?_ | refine pw_block ?_ ))
      exact pw_round (i + 1, putH pl5 2 8 [(i : Int), 200] i) (hstep 200 (by omega) hsame) (by show 7 - (i + 1) < 7 - i; omega) ⟨rfl, rfl, rfl, trivial⟩ (fun w h => h.pick [1, 2] (by simp) rfl)
  obtain rfl : i = 7 := by omega
  have hlast : ∀ c2 : Int, [(9 : Int), c2] ≠ [x, y] → m [(9 : Int), c2] = none := fun c2 hne => by
    cases hmm : m [(9 : Int), c2] with
    | none => rfl
    | some v =>
      rcases hmz _ (by rw [hmm]; rfl) with h | ⟨j, v', hj, h⟩
      · exact absurd h hne
      · simp at h; omega
  have hf7 : fdH pl5 2 [x, y] = (77, true) := hG5.f1 rfl hm77
  by_cases hsame : [(9 : Int), 202] = [x, y]
  · have hne : [(9 : Int), 203] ≠ [x, y] := fun h => by
      rw [← hsame] at h
      simp at h
    obtain ⟨hE7, hP7⟩ := hG5.e12 (k := [(9 : Int), 203]) rfl (hlast 203 hne) rfl
    (repeat (first | ((refine (?_ : MX _ _ _ _ _ _ _ _ _ _ _)); first | refine mx_end ?_ | (refine mx_mv _ rfl rfl (by conv => {lhs; whnf}) ?_) | (refine mx_as _ rfl rfl (by conv => {lhs; whnf}) ?_) | (refine g_bin rfl ?_; ( (refine mx_cmpl .lss rfl rfl rfl rfl rfl (by exact cmp_lt_f (by omega) ) ?_) ) ) | (refine g_bs rfl ?_; refine a_bsi E rfl rfl rfl rfl rfl (by (repeat (first | exact EvI.nil | (apply EvI.cons; rfl)))) (by rfl) (by rfl) (by rfl) rfl (fun _ => ?_)) ) | refine cw_seq ?_ | refine cw_line rfl ?_ | refine cw_cond_f rfl ?_ | refine cw_exit ?_ | refine pw_then ?_ | refine pw_then_x ?_ | refine pw_block_e ?_ ))
    rename_i b6
    refine g_cf 36 rfl ?_
    refine a_callv rfl rfl rfl rfl Try.func36 rfl rfl rfl (.bool true) (fun w' hw => decide_eq_true hsame ▸ sameB (some ⟨b6, 0, none⟩) (some ⟨b2, 0, none⟩) 2 2 2 2 [(9 : Int), 202] [x, y] rfl rfl (by omega) w' (row_in (c := cU) (xs := [(9 : Int), 202]) len_U (hw.holds 0 _ rfl)) (row_in (c := cU) (xs := [x, y]) len_U (hw.holds 1 _ rfl))) rfl ?_
    (repeat (first | ((refine (?_ : MX _ _ _ _ _ _ _ _ _ _ _)); first | refine mx_end ?_ | (refine mx_mv _ rfl rfl (by conv => {lhs; whnf}) ?_) | (refine g_ix rfl ?_; refine mx_ixsi E rfl rfl rfl rfl rfl rfl (by omega) (by omega) rfl ?_ ) | (refine g_store rfl ?_; refine s_1 E rfl rfl rfl rfl rfl rfl rfl rfl (by exact spS sp0 ) rfl ?_) ) | refine cw_seq ?_ | refine cw_line rfl ?_ | refine cw_cond_t rfl ?_ | refine pw_then ?_ ))
    refine g_cf 39 rfl ?_
    refine a_callv rfl rfl rfl rfl Try.func39 rfl rfl rfl (.tuple #[.int .i64 77, .bool true]) (fun w' hw => find39e bx kb sb cb 2 8 pl5 77 true [x, y] hf7 hG5.wf (some ⟨b2, 0, none⟩) 2 2 hb1 rfl (by decide) w' (hw.holds 2 _ rfl) (row_in (c := cU) (xs := [x, y]) len_U (hw.holds 1 _ rfl))) rfl ?_
    (repeat (first | ((refine (?_ : MX _ _ _ _ _ _ _ _ _ _ _)); first | refine mx_end ?_ | (refine mx_mv _ rfl rfl (by conv => {lhs; whnf}) ?_) | (refine mx_as _ rfl rfl (by conv => {lhs; whnf}) ?_) | (refine g_bin rfl ?_; ((refine mx_cmpl .eql rfl rfl rfl rfl rfl (by exact cmp_eq_t (by omega) ) ?_) ) ) | (refine mx_ex _ rfl rfl rfl (by conv => {lhs; whnf}) ?_) | (refine g_pick rfl ?_; refine mx_and rfl rfl rfl rfl rfl rfl ?_ ) ) | refine cw_seq ?_ | refine cw_line rfl ?_ | refine pw_then ?_ ))
    refine g_cf 35 rfl ?_; refine a_cou rfl rfl rfl rfl Try.func35 rfl rfl rfl (OH bx kb sb cb 2 8 pl5) (.int .i64 12) (OH bx kb sb cb 2 8 pl5) (fun w' hw h => put35e bx kb sb cb 2 8 pl5 pl5 12 [(9 : Int), 203] 1 hE7 (hP7 1) hG5.wf (some ⟨b6, 0, none⟩) 2 2 (byt2 (by omega) (by omega)) rfl (by decide) w' h (row_in (c := cU) (xs := [(9 : Int), 203]) len_U (hw.holds 0 _ rfl)) (row_new hw 0 2 rfl rfl (by decide))) rfl (fun _ _ => trivial) ?_
    (repeat (((refine (?_ : MX _ _ _ _ _ _ _ _ _ _ _)); first | (refine mx_mv _ rfl rfl (by conv => {lhs; whnf}) ?_) | (refine g_bin rfl ?_; ((refine mx_cmpl .eql rfl rfl rfl rfl rfl (by exact cmp_eq_t (by omega) ) ?_) ) ) | (refine g_pick rfl ?_; refine mx_and rfl rfl rfl rfl rfl rfl ?_ ) ) ))
    refine g_cf 29 rfl ?_
    refine a_callv rfl rfl rfl rfl Try.func29 rfl rfl rfl (.bool true) (fun w' hw => works29 w') rfl ?_
    (repeat (first | ((refine (?_ : MX _ _ _ _ _ _ _ _ _ _ _)); first | refine mx_end ?_ | (refine mx_as _ rfl rfl (by conv => {lhs; whnf}) ?_) | (refine g_pick rfl ?_; refine mx_and rfl rfl rfl rfl rfl rfl ?_ ) ) | refine cw_ret ?_ | refine pw_then ?_ ))
    exact pw_ret rfl rfl rfl rfl fun w hw => ⟨rfl, hw.keep.grow⟩
  · obtain ⟨hE7, hP7⟩ := hG5.e12 (k := [(9 : Int), 202]) rfl (hlast 202 hsame) rfl
    (repeat (first | ((refine (?_ : MX _ _ _ _ _ _ _ _ _ _ _)); first | refine mx_end ?_ | (refine mx_mv _ rfl rfl (by conv => {lhs; whnf}) ?_) | (refine mx_as _ rfl rfl (by conv => {lhs; whnf}) ?_) | (refine g_bin rfl ?_; ( (refine mx_cmpl .lss rfl rfl rfl rfl rfl (by exact cmp_lt_f (by omega) ) ?_) ) ) | (refine g_bs rfl ?_; refine a_bsi E rfl rfl rfl rfl rfl (by (repeat (first | exact EvI.nil | (apply EvI.cons; rfl)))) (by rfl) (by rfl) (by rfl) rfl (fun _ => ?_)) ) | refine cw_seq ?_ | refine cw_line rfl ?_ | refine cw_cond_f rfl ?_ | refine cw_exit ?_ | refine pw_then ?_ | refine pw_then_x ?_ | refine pw_block_e ?_ ))
    rename_i b6
    refine g_cf 36 rfl ?_
    refine a_callv rfl rfl rfl rfl Try.func36 rfl rfl rfl (.bool false) (fun w' hw => decide_eq_false hsame ▸ sameB (some ⟨b6, 0, none⟩) (some ⟨b2, 0, none⟩) 2 2 2 2 [(9 : Int), 202] [x, y] rfl rfl (by omega) w' (row_in (c := cU) (xs := [(9 : Int), 202]) len_U (hw.holds 0 _ rfl)) (row_in (c := cU) (xs := [x, y]) len_U (hw.holds 1 _ rfl))) rfl ?_
    (repeat (first | ((refine (?_ : MX _ _ _ _ _ _ _ _ _ _ _)); first | refine mx_end ?_ | (refine mx_mv _ rfl rfl (by conv => {lhs; whnf}) ?_) ) | refine cw_seq ?_ | refine cw_line rfl ?_ | refine cw_cond_f rfl ?_ | refine cw_skip ?_ | refine pw_then ?_ ))
    refine g_cf 39 rfl ?_
    refine a_callv rfl rfl rfl rfl Try.func39 rfl rfl rfl (.tuple #[.int .i64 77, .bool true]) (fun w' hw => find39e bx kb sb cb 2 8 pl5 77 true [x, y] hf7 hG5.wf (some ⟨b2, 0, none⟩) 2 2 hb1 rfl (by decide) w' (hw.holds 2 _ rfl) (row_in (c := cU) (xs := [x, y]) len_U (hw.holds 1 _ rfl))) rfl ?_
    (repeat (first | ((refine (?_ : MX _ _ _ _ _ _ _ _ _ _ _)); first | refine mx_end ?_ | (refine mx_mv _ rfl rfl (by conv => {lhs; whnf}) ?_) | (refine mx_as _ rfl rfl (by conv => {lhs; whnf}) ?_) | (refine g_bin rfl ?_; ((refine mx_cmpl .eql rfl rfl rfl rfl rfl (by exact cmp_eq_t (by omega) ) ?_) ) ) | (refine mx_ex _ rfl rfl rfl (by conv => {lhs; whnf}) ?_) | (refine g_pick rfl ?_; refine mx_and rfl rfl rfl rfl rfl rfl ?_ ) ) | refine cw_seq ?_ | refine cw_line rfl ?_ | refine pw_then ?_ ))
    refine g_cf 35 rfl ?_; refine a_cou rfl rfl rfl rfl Try.func35 rfl rfl rfl (OH bx kb sb cb 2 8 pl5) (.int .i64 12) (OH bx kb sb cb 2 8 pl5) (fun w' hw h => put35e bx kb sb cb 2 8 pl5 pl5 12 [(9 : Int), 202] 1 hE7 (hP7 1) hG5.wf (some ⟨b6, 0, none⟩) 2 2 (byt2 (by omega) (by omega)) rfl (by decide) w' h (row_in (c := cU) (xs := [(9 : Int), 202]) len_U (hw.holds 0 _ rfl)) (row_new hw 0 2 rfl rfl (by decide))) rfl (fun _ _ => trivial) ?_
    (repeat (((refine (?_ : MX _ _ _ _ _ _ _ _ _ _ _)); first | (refine mx_mv _ rfl rfl (by conv => {lhs; whnf}) ?_) | (refine g_bin rfl ?_; ((refine mx_cmpl .eql rfl rfl rfl rfl rfl (by exact cmp_eq_t (by omega) ) ?_) ) ) | (refine g_pick rfl ?_; refine mx_and rfl rfl rfl rfl rfl rfl ?_ ) ) ))
    refine g_cf 29 rfl ?_
    refine a_callv rfl rfl rfl rfl Try.func29 rfl rfl rfl (.bool true) (fun w' hw => works29 w') rfl ?_
    (repeat (first | ((refine (?_ : MX _ _ _ _ _ _ _ _ _ _ _)); first | refine mx_end ?_ | (refine mx_as _ rfl rfl (by conv => {lhs; whnf}) ?_) | (refine g_pick rfl ?_; refine mx_and rfl rfl rfl rfl rfl rfl ?_ ) ) | refine cw_ret ?_ | refine pw_then ?_ ))
    exact pw_ret rfl rfl rfl rfl fun w hw => ⟨rfl, hw.keep.grow⟩
end Go.Proofs.Ytminmbkhlnaabaa
