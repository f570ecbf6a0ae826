/- Lists of bytes: held against one another, copied, lent, looked at again, written over; walked once each. -/
import Derived.Test.YtikdbgheefjpkaaEnv
import Derived.Test.YtikdbgheefjpkaaMo2
import Derived.Test.YtikdbgheefjpkaaBig
set_option maxRecDepth 100000
set_option maxHeartbeats 4000000
set_option linter.unusedSimpArgs false
set_option linter.unusedVariables false
namespace Go.Proofs.Ytikdbgheefjpkaa
open Go Go.Sx Go.RowKit
@[reducible] def cU (a : Int) : List Value := [.int .u8 a]
theorem len_U (x : Int) : (cU x).length = 1 := rfl
theorem one_U (xs : List Int) : (xs.flatMap cU).all (·.oneCell') = true := by
  rw [List.all_eq_true]
  intro x hx
  obtain ⟨a, _, h⟩ := List.mem_flatMap.1 hx
  simp at h
  subst h
  rfl
theorem flatU_len (xs : List Int) : (xs.flatMap cU).length = xs.length := by rw [flatMap_len len_U]; omega
def mkB (i : Int) : Int := IntKind.u8.wrap (201 + 7 * i)
theorem markB (i : Int) (h0 : 0 ≤ i) (h1 : i ≤ 200000000000000) (w : World) : Calls Try.prog 81 #[.int .i64 i] w fun e w' => e = .returned (.int .u8 (mkB i)) ∧ Grow w w' := by
  unfold mkB
  refine enter1 (S := fun _ => False) 7 Try.func81 rfl rfl rfl (Ok.start w) ?_
  refine cw_seq ?_; refine cw_line rfl ?_; (repeat (first | ((refine (?_ : MX _ _ _ _ _ _ _ _ _ _ _)); first | refine mx_end ?_ | (refine mx_as _ rfl rfl (by conv => {lhs; whnf}) ?_) ) | refine pw_then ?_))
  refine cw_seq ?_
  refine cw_line rfl ?_
  refine mx_mv _ rfl rfl (by conv => {lhs; whnf}) ?_
  refine mx_ar rfl rfl rfl rfl rfl rfl (IntWalk.i64_in _ (by omega)) rfl ?_
  refine mx_ar rfl rfl rfl rfl rfl rfl (IntWalk.i64_in _ (by omega)) rfl ?_
  refine mx_cv E rfl rfl rfl rfl rfl rfl rfl rfl ?_
  (repeat (first | ((refine (?_ : MX _ _ _ _ _ _ _ _ _ _ _)); first | refine mx_end ?_ | (refine mx_as _ rfl rfl (by conv => {lhs; whnf}) ?_) ) | refine cw_ret ?_ | refine pw_then ?_ ))
  exact pw_ret rfl rfl rfl rfl fun w hw => ⟨rfl, hw.keep.grow⟩
/-- What is read of a list at a place. -/
theorem inl_at {α : Type} {w : World} {ad : Option Addr} {z : Nat} {c : α → List Value} {xs : List α} (h : InL w ad z c xs) {i : Nat} {x : α} (hx : xs[i]? = some x) : ∃ b off, ad = some ⟨b, off, none⟩ ∧ ∀ (k : Nat) (v : Value), (c x)[k]? = some v → w.cell? ⟨b, off + i * z + k, none⟩ = some v := by
  obtain ⟨b, off, e, hc⟩ := h (by intro e; subst e; simp at hx)
  exact ⟨b, off, e, fun k v hk => hc i x hx k v hk⟩
theorem getElem_some {α : Type} {xs : List α} {i : Nat} (h : i < xs.length) : ∃ x, xs[i]? = some x := ⟨_, List.getElem?_eq_getElem h⟩
theorem same_step {xs ys : List Int} {i : Nat} {x y : Int} (hx : xs[i]? = some x) (hy : ys[i]? = some y) (h : xs.take i = ys.take i) : (x = y → xs.take (i + 1) = ys.take (i + 1)) ∧ (x ≠ y → xs ≠ ys) := by
  refine ⟨fun e => ?_, fun hne e => ?_⟩
  · subst e
    rw [List.take_add_one, List.take_add_one, h, hx, hy]
  · subst e
    rw [hx] at hy
    exact hne (Option.some.inj hy)
theorem sameB (ad ad' : Option Addr) (m m' cap cap' : Nat) (xs ys : List Int) (hm : xs.length = m) (hm' : ys.length = m') (hs : m ≤ 140737488355328) (w : World) (hl : InL w ad 1 cU xs) (hl' : InL w ad' 1 cU ys) :
    Calls Try.prog 80 #[.slice ad m cap, .slice ad' m' cap'] w fun e w' => e = .returned (.bool (decide (xs = ys))) ∧ Grow w w' := by
  refine enter2 (S := fun _ => False) 26 Try.func80 rfl rfl rfl (Ok.start w) ?_
  by_cases hne : m = m'
  case neg =>
    have e : decide (xs = ys) = false := decide_eq_false fun e => hne (by rw [← hm, ← hm', e])
    rw [e]
    (repeat (first | ((refine (?_ : MX _ _ _ _ _ _ _ _ _ _ _)); first | refine mx_end ?_ | (refine mx_mv _ rfl rfl (by conv => {lhs; whnf}) ?_) | (refine mx_as _ rfl rfl (by conv => {lhs; whnf}) ?_) | (refine g_bin rfl ?_; ( (refine mx_cmpl .neq rfl rfl rfl rfl rfl (by exact cmp_ne_t (by omega) ) ?_) ) ) | (refine g_bi .len rfl ?_; refine mx_len E rfl rfl rfl rfl ?_) ) | refine cw_seq ?_ | refine cw_line rfl ?_ | refine cw_cond_t rfl ?_ | refine cw_ret ?_ | refine pw_then ?_ | refine pw_then_r ?_ ))
    exact pw_ret rfl rfl rfl rfl fun w hw => ⟨rfl, hw.keep.grow⟩
  case pos =>
    (repeat (first | ((refine (?_ : MX _ _ _ _ _ _ _ _ _ _ _)); first | refine mx_end ?_ | (refine mx_mv _ rfl rfl (by conv => {lhs; whnf}) ?_) | (refine mx_as _ rfl rfl (by conv => {lhs; whnf}) ?_) | (refine g_bin rfl ?_; ( (refine mx_cmpl .neq rfl rfl rfl rfl rfl (by exact cmp_ne_f (by omega) ) ?_) ) ) | (refine g_bi .len rfl ?_; refine mx_len E rfl rfl rfl rfl ?_) ) | refine cw_seq ?_ | refine cw_line rfl ?_ | refine cw_block ?_ | refine cw_cond_f rfl ?_ | refine cw_skip ?_ | refine pw_then ?_ ))
    refine cw_loop (fun i : Nat => [(5, .int .i64 i), (0, .slice ad m cap), (1, .slice ad' m' cap')]) (fun i => []) (fun i => i ≤ m ∧ xs.take i = ys.take i) (fun i => m - i) 0 ⟨by omega, rfl⟩ ⟨rfl, rfl, rfl, trivial⟩ (fun w h => h) ?_
    intro i jk hi
    by_cases h0 : (i : Int) < m
    case neg =>
      have e : decide (xs = ys) = true := decide_eq_true (by
        have h1 := hi.2
        rwa [List.take_of_length_le (by omega), List.take_of_length_le (by omega)] at h1)
      rw [e]
      (repeat (first | ((refine (?_ : MX _ _ _ _ _ _ _ _ _ _ _)); first | refine mx_end ?_ | (refine mx_mv _ rfl rfl (by conv => {lhs; whnf}) ?_) | (refine mx_as _ rfl rfl (by conv => {lhs; whnf}) ?_) | (refine g_bin rfl ?_; ( (refine mx_cmpl .lss rfl rfl rfl rfl rfl (by exact cmp_lt_f (by omega) ) ?_) ) ) | (refine g_bi .len rfl ?_; refine mx_len E rfl rfl rfl rfl ?_) ) | refine cw_seq ?_ | refine cw_line rfl ?_ | refine cw_cond_f rfl ?_ | refine cw_exit ?_ | refine cw_ret ?_ | refine pw_then ?_ | refine pw_then_x ?_ | refine pw_block_e ?_ ))
      exact pw_ret rfl rfl rfl rfl fun w hw => ⟨rfl, hw.keep.grow⟩
    case pos =>
      obtain ⟨x, hx⟩ := getElem_some (xs := xs) (i := i) (by omega)
      obtain ⟨y, hy⟩ := getElem_some (xs := ys) (i := i) (by omega)
      obtain ⟨b4, off, e, hcc⟩ := inl_at hl hx
      obtain ⟨b5, off', e', hcc'⟩ := inl_at hl' hy
      subst e e'
      have hS : ¬ (fun _ : Nat => False) b4 := id
      have hS' : ¬ (fun _ : Nat => False) b5 := id
      have hc0 : w.cell? ⟨b4, off + i * 1, none⟩ = some (.int .u8 x) := hcc 0 _ rfl
      have hc1 : w.cell? ⟨b5, off' + i * 1, none⟩ = some (.int .u8 y) := hcc' 0 _ rfl
      obtain ⟨st1, st2⟩ := same_step hx hy hi.2
      by_cases hxy : x = y
      case neg =>
        have e : decide (xs = ys) = false := decide_eq_false (st2 hxy)
        rw [e]
        (repeat (first | ((refine (?_ : MX _ _ _ _ _ _ _ _ _ _ _)); first | refine mx_end ?_ | (refine mx_mv _ rfl rfl (by conv => {lhs; whnf}) ?_) | (refine mx_as _ rfl rfl (by conv => {lhs; whnf}) ?_) | (refine g_load rfl ?_; refine mx_old1 E rfl rfl rfl rfl rfl (by assumption) (by assumption) rfl ?_ ) | (refine g_bin rfl ?_; (first | (refine mx_cmpl .neq rfl rfl rfl rfl rfl (by exact cmp_ne_t (by omega) ) ?_) | (refine mx_cmpl .lss rfl rfl rfl rfl rfl (by exact cmp_lt_t (by omega) ) ?_) ) ) | (refine g_ix rfl ?_; refine mx_ixsn E rfl rfl rfl rfl rfl rfl (by omega) rfl ?_ ) | (refine g_bi .len rfl ?_; refine mx_len E rfl rfl rfl rfl ?_) ) | refine cw_seq ?_ | refine cw_line rfl ?_ | (refine cw_drawq mixed rfl (by kernel_rfl) rfl ?_) | refine cw_block ?_ | refine cw_cond_t rfl ?_ | refine cw_skip ?_ | refine cw_ret ?_ | refine pw_then ?_ | refine pw_then_r ?_ | refine pw_block_r ?_))
        exact pw_ret rfl rfl rfl rfl fun w hw => ⟨rfl, hw.keep.grow⟩
      case pos =>
        (repeat (first | ((refine (?_ : MX _ _ _ _ _ _ _ _ _ _ _)); first | refine mx_end ?_ | (refine mx_mv _ rfl rfl (by conv => {lhs; whnf}) ?_) | (refine mx_as _ rfl rfl (by conv => {lhs; whnf}) ?_) | (refine g_load rfl ?_; refine mx_old1 E rfl rfl rfl rfl rfl (by assumption) (by assumption) rfl ?_ ) | (refine g_bin rfl ?_; first | (first | (refine mx_cmpl .neq rfl rfl rfl rfl rfl (by exact cmp_ne_f (by omega) ) ?_) | (refine mx_cmpl .lss rfl rfl rfl rfl rfl (by exact cmp_lt_t (by omega) ) ?_) ) | (refine mx_ar rfl rfl rfl rfl rfl rfl (IntWalk.i64_in _ (by omega)) rfl ?_ ) ) | (refine g_ix rfl ?_; refine mx_ixsn E rfl rfl rfl rfl rfl rfl (by omega) rfl ?_ ) | (refine g_bi .len rfl ?_; refine mx_len E rfl rfl rfl rfl ?_) ) | refine cw_seq ?_ | refine cw_line rfl ?_ | (refine cw_drawq mixed rfl (by kernel_rfl) rfl ?_) | refine cw_block ?_ | refine cw_cond_f rfl ?_ | refine cw_cond_t rfl ?_ | refine cw_skip ?_ | refine pw_then ?_ | refine pw_block ?_ ))
        refine pw_round (i + 1) ⟨by omega, st1 hxy⟩ (by omega) ⟨rfl, rfl, rfl, trivial⟩ (fun w h => h)

theorem own_lt {w : World} {ad : Option Addr} {cap e z len : Nat} {xs : List Value} (h : (ownd ad cap e z len xs).holds w) : ∀ b, (ownd ad cap e z len xs).dom b → b < w.heap.size := fun b hb => by
  have hb : (Value.slice ad len cap).ownBlock = some b := hb
  rcases h.2 with ⟨hv, hn⟩ | ⟨g, c, cur, hv, hbg, hg, _⟩
  · rw [hv] at hb; simp [Value.ownBlock] at hb
  · rw [hv] at hb
    simp [Value.ownBlock] at hb
    subst hb
    exact (Array.getElem?_eq_some_iff.1 hg).1
theorem take_flat (xs : List Int) {i : Nat} {x : Int} (hx : xs[i]? = some x) : (xs.take i).flatMap cU ++ [.int .u8 x] = (xs.take (i + 1)).flatMap cU := by
  rw [List.take_add_one, hx, List.flatMap_append]
  rfl
theorem one_src {w : World} {b T : Nat} {x : Int} (h : (row b T ([x].flatMap (cK .u8))).holds w) : Src w (some ⟨b, 0, none⟩) [.int .u8 x] := (row_in (c := cU) (xs := [x]) len_U h).src len_U
theorem copyB (ad : Option Addr) (m cap : Nat) (xs : List Int) (hm : xs.length = m) (hs : m ≤ 140737488355328) (w : World) (hl : InL w ad 1 cU xs) :
    Calls Try.prog 50 #[.slice ad m cap] w fun e w' => ∃ a : Option Addr × Nat, e = .returned (.slice a.1 m a.2) ∧ Grow w w' ∧ (ownd a.1 a.2 5 1 m (xs.flatMap cU)).holds w' ∧ ∀ b, (ownd a.1 a.2 5 1 m (xs.flatMap cU)).dom b → b < w'.heap.size ∧ ¬ b < w.heap.size := by
  refine enter1 (S := fun _ => False) 19 Try.func50 rfl rfl rfl (Ok.start w) ?_
  (repeat (first | ((refine (?_ : MX _ _ _ _ _ _ _ _ _ _ _)); first | refine mx_end ?_ | (refine mx_as _ rfl rfl (by conv => {lhs; whnf}) ?_) ) | refine cw_seq ?_ | refine cw_line rfl ?_ | refine cw_block ?_ | refine pw_then ?_ ))
  refine cw_loop (ι := Nat × Option Addr × Nat) (fun p => [(4, .int .i64 p.1), (3, .slice p.2.1 p.1 p.2.2), (0, .slice ad m cap)]) (fun p => [ownd p.2.1 p.2.2 5 1 p.1 ((xs.take p.1).flatMap cU)]) (fun p => p.1 ≤ m) (fun p => m - p.1) (0, none, 0) (by simp) ⟨rfl, rfl, rfl, trivial⟩ (fun w h => h.own_nil 5 1) ?_
  rintro ⟨i, a1, c1⟩ jk hi
  dsimp only at hi ⊢
  by_cases h0 : (i : Int) < m
  case neg =>
    obtain rfl : i = m := by omega
    have e : xs.take i = xs := List.take_of_length_le (by omega)
    rw [e]
    (repeat (first | ((refine (?_ : MX _ _ _ _ _ _ _ _ _ _ _)); first | refine mx_end ?_ | (refine mx_mv _ rfl rfl (by conv => {lhs; whnf}) ?_) | (refine mx_as _ rfl rfl (by conv => {lhs; whnf}) ?_) | (refine g_bin rfl ?_; ( (refine mx_cmpl .lss rfl rfl rfl rfl rfl (by exact cmp_lt_f (by omega) ) ?_) ) ) | (refine g_bi .len rfl ?_; refine mx_len E rfl rfl rfl rfl ?_) ) | refine cw_seq ?_ | refine cw_line rfl ?_ | refine cw_cond_f rfl ?_ | refine cw_exit ?_ | refine cw_ret ?_ | refine pw_then ?_ | refine pw_then_x ?_ | refine pw_block_e ?_ ))
    exact pw_ret rfl rfl rfl rfl fun w' hw => ⟨(a1, c1), rfl, hw.keep.grow, hw.holds 0 _ rfl, fun b hb => hw.fresh 0 rfl b hb⟩
  case pos =>
    obtain ⟨x, hx⟩ := getElem_some (xs := xs) (i := i) (by omega)
    obtain ⟨b4, off, e, hcc⟩ := inl_at hl hx
    subst e
    have hS : ¬ (fun _ : Nat => False) b4 := id
    have hc0 : w.cell? ⟨b4, off + i * 1, none⟩ = some (.int .u8 x) := hcc 0 _ rfl
    (repeat (first | ((refine (?_ : MX _ _ _ _ _ _ _ _ _ _ _)); first | refine mx_end ?_ | (refine mx_mv _ rfl rfl (by conv => {lhs; whnf}) ?_) | (refine g_load rfl ?_; refine mx_old1 E rfl rfl rfl rfl rfl (by assumption) (by assumption) rfl ?_ ) | (refine g_bin rfl ?_; ( (refine mx_cmpl .lss rfl rfl rfl rfl rfl (by exact cmp_lt_t (by omega) ) ?_) ) ) | (refine g_ix rfl ?_; refine mx_ixsn E rfl rfl rfl rfl rfl rfl (by omega) rfl ?_ ) | (refine g_bi .len rfl ?_; refine mx_len E rfl rfl rfl rfl ?_) | (refine g_bs rfl ?_; refine a_bsi E rfl rfl rfl rfl rfl (by (repeat (first | exact EvI.nil | (apply EvI.cons; rfl)))) (by rfl) (by rfl) (by rfl) rfl (fun _ => ?_)) ) | refine cw_seq ?_ | refine cw_line rfl ?_ | refine cw_block ?_ | refine cw_cond_t rfl ?_ | refine cw_skip ?_ | refine pw_then ?_ ))
    refine g_bi .append rfl ?_
    refine a_appB E rfl rfl rfl rfl rfl rfl rfl rfl [.int .u8 x] rfl (fun w hw => one_src (hw.holds 0 _ rfl)) rfl (B := 1) (by kernel_rfl) rfl (by omega) rfl (fun _ _ _ _ => trivial) (fun a2 c2 => ?_)
    rw [take_flat xs hx]
    (repeat (first | ((refine (?_ : MX _ _ _ _ _ _ _ _ _ _ _)); first | refine mx_end ?_ | (refine mx_mv _ rfl rfl (by conv => {lhs; whnf}) ?_) | (refine mx_as _ rfl rfl (by conv => {lhs; whnf}) ?_) | (refine g_bin rfl ?_; (refine mx_ar rfl rfl rfl rfl rfl rfl (IntWalk.i64_in _ (by omega)) rfl ?_ ) ) ) | refine cw_line rfl ?_ | refine pw_then ?_ | refine pw_block ?_ ))
    refine pw_round (i + 1, a2, c2) (by show i + 1 ≤ m; omega) (by show m - (i + 1) < m - i; omega) ⟨rfl, rfl, rfl, trivial⟩ (fun w h => h.only 1 rfl)
/-- n marks. -/
def mksB (n : Nat) : List Int := (List.range n).map fun i : Nat => mkB (i : Int)
theorem mksB_len (n : Nat) : (mksB n).length = n := by simp [mksB]
theorem mksB_succ (n : Nat) : mksB (n + 1) = mksB n ++ [mkB n] := by simp [mksB, List.range_succ]
theorem mksB_at (n i : Nat) (h : i < n) : (mksB n)[i]? = some (mkB i) := by simp [mksB, h]
theorem app_flat (xs : List Int) (x : Int) : xs.flatMap cU ++ [.int .u8 x] = (xs ++ [x]).flatMap cU := by
  rw [List.flatMap_append]
  rfl
/-- What n bytes are that were written over. -/
def splB (n : Nat) : List Int := (List.range n).map fun i : Nat => mkB ((i : Int) + 7)
theorem splB_len (n : Nat) : (splB n).length = n := by simp [splB]
theorem splB_succ (n : Nat) : splB (n + 1) = splB n ++ [mkB ((n : Int) + 7)] := by simp [splB, List.range_succ]
/-- A block of which n bytes from a place on were written over. -/
def spoil (vs : List Value) (off n : Nat) : List Value := splice vs off ((splB n).flatMap cU)
theorem spoil_zero (vs : List Value) (off : Nat) : spoil vs off 0 = vs := by simp [spoil, splB, splice]
theorem sp_spl (vs : List Value) (off : Nat) {i : Nat} (hm : off + i + 1 ≤ vs.length) : Sp (spoil vs off i) (off + i * 1) [.int .u8 (mkB ((i : Int) + 7))] (spoil vs off (i + 1)) := by
  have hl : (spoil vs off i).length = vs.length := by simp only [spoil, splice, List.length_append, List.length_take, List.length_drop, flatU_len, splB_len]; omega
  refine ⟨by rw [hl]; simp; omega, ?_⟩
  apply List.ext_getElem?
  intro k
  have h1 : off + ((splB i).flatMap cU).length ≤ vs.length := by rw [flatU_len, splB_len]; omega
  have h2 : off + ((splB (i + 1)).flatMap cU).length ≤ vs.length := by rw [flatU_len, splB_len]; omega
  rw [splice_get (by rw [hl]; simp; omega)]
  unfold spoil
  rw [splice_get h1, splice_get h2, flatU_len, flatU_len, splB_len, splB_len]
  simp only [List.length_singleton, Nat.mul_one]
  by_cases c1 : k < off
  · rw [if_pos (by omega), if_pos c1, if_pos c1]
  · by_cases c2 : k < off + i
    · rw [if_pos (by omega), if_neg c1, if_pos c2, if_neg c1, if_pos (by omega), splB_succ, List.flatMap_append, List.getElem?_append_left (by rw [flatU_len, splB_len]; omega)]
    · by_cases c3 : k < off + i + 1
      · obtain rfl : k = off + i := by omega
        rw [if_neg (by omega), if_pos (by omega), if_neg c1, if_pos (by omega), splB_succ, List.flatMap_append, List.getElem?_append_right (by rw [flatU_len, splB_len]; omega), flatU_len, splB_len]
        simp
      · rw [if_neg (by omega), if_neg (by omega), if_neg c1, if_neg c2, if_neg c1, if_neg (by omega)]
attribute [irreducible] spoil
theorem spoilR (b off m cap T : Nat) (vs : List Value) (hm : off + m ≤ vs.length) (hs : m ≤ 140737488355328) (w : World) (h : (row b T vs).holds w) : Calls Try.prog 58 #[.slice (some ⟨b, off, none⟩) m cap] w fun e w' => e = .returned (.tuple #[]) ∧ Chg (row b T vs).dom w w' ∧ (row b T (spoil vs off m)).holds w' := by
  refine enter1 15 Try.func58 rfl rfl rfl (Ok.one h (row_lt h)) ?_
  (repeat (first | ((refine (?_ : MX _ _ _ _ _ _ _ _ _ _ _)); first | refine mx_end ?_ | (refine mx_as _ rfl rfl (by conv => {lhs; whnf}) ?_) ) | refine cw_seq ?_ | refine cw_line rfl ?_ | refine cw_block ?_ | refine pw_then ?_ ))
  refine cw_loop (fun i : Nat => [(2, .int .i64 i), (0, .slice (some ⟨b, off, none⟩) m cap)]) (fun i => [row b T (spoil vs off i)]) (fun i => i ≤ m) (fun i => m - i) 0 (by omega) ⟨rfl, rfl, trivial⟩ (fun w h => by rw [spoil_zero]; exact h) ?_
  intro i jk hi
  by_cases h0 : (i : Int) < m
  case neg =>
    obtain rfl : i = m := by omega
    (repeat (first | ((refine (?_ : MX _ _ _ _ _ _ _ _ _ _ _)); first | refine mx_end ?_ | (refine mx_mv _ rfl rfl (by conv => {lhs; whnf}) ?_) | (refine g_bin rfl ?_; ( (refine mx_cmpl .lss rfl rfl rfl rfl rfl (by exact cmp_lt_f (by omega) ) ?_) ) ) | (refine g_bi .len rfl ?_; refine mx_len E rfl rfl rfl rfl ?_) ) | refine cw_seq ?_ | refine cw_line rfl ?_ | refine cw_cond_f rfl ?_ | refine cw_exit ?_ | refine pw_then ?_ | refine pw_then_x ?_ | refine pw_block_e ?_ ))
    exact pw_ret0 rfl rfl fun w h => ⟨rfl, h.keep, h.holds 0 _ rfl⟩
  case pos =>
    have hi' : i < m := by omega
    (repeat (first | ((refine (?_ : MX _ _ _ _ _ _ _ _ _ _ _)); first | refine mx_end ?_ | (refine mx_mv _ rfl rfl (by conv => {lhs; whnf}) ?_) | (refine mx_as _ rfl rfl (by conv => {lhs; whnf}) ?_) | (refine g_bin rfl ?_; first | ( (refine mx_cmpl .lss rfl rfl rfl rfl rfl (by exact cmp_lt_t (by omega) ) ?_) ) | (refine mx_ar rfl rfl rfl rfl rfl rfl (IntWalk.i64_in _ (by omega)) rfl ?_ ) ) | (refine g_ix rfl ?_; refine mx_ixsn E rfl rfl rfl rfl rfl rfl (by omega) rfl ?_ ) | (refine g_bi .len rfl ?_; refine mx_len E rfl rfl rfl rfl ?_) | (refine g_store rfl ?_; refine s_1 E rfl rfl rfl rfl rfl rfl rfl rfl (by exact sp_spl _ _ (by omega) ) rfl ?_) | (refine g_call rfl ?_; (refine g_cf 81 rfl ?_; refine mx_call rfl rfl rfl Try.func81 rfl rfl rfl _ (fun w => markB _ (by omega) (by omega) w) rfl ?_) )) | refine cw_seq ?_ | refine cw_line rfl ?_ | refine cw_block ?_ | refine cw_cond_t rfl ?_ | refine cw_skip ?_ | refine pw_then ?_ | refine pw_block ?_ ))
    refine pw_round (i + 1) (by omega) (by omega) ⟨rfl, rfl, trivial⟩ (fun w h => h)
theorem spoil0 (ad : Option Addr) (cap : Nat) (w : World) : Calls Try.prog 58 #[.slice ad 0 cap] w fun e w' => e = .returned (.tuple #[]) ∧ Grow w w' := by
  refine enter1 (S := fun _ => False) 15 Try.func58 rfl rfl rfl (Ok.start w) ?_
  (repeat (first | ((refine (?_ : MX _ _ _ _ _ _ _ _ _ _ _)); first | refine mx_end ?_ | (refine mx_as _ rfl rfl (by conv => {lhs; whnf}) ?_) ) | refine cw_seq ?_ | refine cw_line rfl ?_ | refine cw_block ?_ | refine pw_then ?_ ))
  refine cw_loop (fun i : Nat => [(2, .int .i64 (0 : Nat)), (0, .slice ad 0 cap)]) (fun i => []) (fun i => True) (fun i => i) 0 trivial ⟨rfl, rfl, trivial⟩ (fun w h => h) ?_
  intro i jk hi
  (repeat (first | ((refine (?_ : MX _ _ _ _ _ _ _ _ _ _ _)); first | refine mx_end ?_ | (refine mx_mv _ rfl rfl (by conv => {lhs; whnf}) ?_) | (refine g_bin rfl ?_; ( (refine mx_cmpl .lss rfl rfl rfl rfl rfl (by exact cmp_lt_f (by omega) ) ?_) ) ) | (refine g_bi .len rfl ?_; refine mx_len E rfl rfl rfl rfl ?_) ) | refine cw_seq ?_ | refine cw_line rfl ?_ | refine cw_cond_f rfl ?_ | refine cw_exit ?_ | refine pw_then ?_ | refine pw_then_x ?_ | refine pw_block_e ?_ ))
  exact pw_ret0 rfl rfl fun w h => ⟨rfl, h.keep.grow⟩
theorem spoil_at {vs rest : List Value} {m : Nat} (h : vs.length = m) : spoil (vs ++ rest) 0 m = (splB m).flatMap cU ++ rest := by
  unfold spoil splice
  rw [List.take_zero, List.nil_append, Nat.zero_add, flatU_len, splB_len, List.drop_left' h]
/-- Of a list with room of its own. -/
theorem spoilB (ad : Option Addr) (m cap : Nat) (xs : List Value) (hs : m ≤ 140737488355328) (w : World) (h : (ownd ad cap 5 1 m xs).holds w) : Calls Try.prog 58 #[.slice ad m cap] w fun e w' => e = .returned (.tuple #[]) ∧ Chg (ownd ad cap 5 1 m xs).dom w w' ∧ (ownd ad cap 5 1 m ((splB m).flatMap cU)).holds w' := by
  by_cases hm : m = 0
  · subst hm
    obtain rfl : xs = [] := List.eq_nil_of_length_eq_zero (by simpa using (own_at h).1)
    exact (spoil0 ad cap w).mono fun e w' ⟨h1, h2⟩ => ⟨h1, Chg.of_grow h2, (ownd ad cap 5 1 0 []).loc w w' (fun b hb => h2.block b (own_lt h b hb)) h⟩
  · obtain ⟨b, rfl, _⟩ := (own_at h).2.1 (by omega)
    obtain ⟨rest, h1, h2, h3, h4, h5⟩ := own_open h
    refine (spoilR b 0 m cap 5 (xs ++ rest) (by rw [h2]; omega) hs w h5).mono fun e w' ⟨r1, r2, r3⟩ => ⟨r1, r2.mono fun k _ hk => (by obtain rfl : k = b := hk; rfl), ?_⟩
    rw [spoil_at (by rw [h1]; omega)] at r3
    exact own_close (by rw [flatU_len, splB_len]; omega) (by rw [List.length_append, flatU_len, splB_len, ← h2, List.length_append, h1]; omega) h3 h4 r3
end Go.Proofs.Ytikdbgheefjpkaa
