/- More of layer 13: the document's bytes of a stack, and numbers of bytes; walked. -/
import Derived.Test.YtdimcafdmaidpaaMn
set_option maxRecDepth 100000
set_option maxHeartbeats 8000000
set_option linter.unusedSimpArgs false
set_option linter.unusedVariables false
namespace Go.Proofs.Ytdimcafdmaidpaa
open Go Go.Sx Go.RowKit
theorem rd_cSk (s : SL) : (cS s)[0]? = some (.int .i64 s.v.k) := by
  have := (vw_SV' s).get (j := 0) (rd_Vk s.v)
  exact this
theorem rd_cSa (s : SL) : (cS s)[11]? = some (.int .u8 s.a) := (vw_Sa s).get (j := 0) rfl
/-- Bytes and masks of bytes. -/
def FrOk (f : Fr) : Prop := ∀ i, i < 64 → (0 ≤ (f.S i).a ∧ (f.S i).a < 256) ∧ ∀ k, k < 8 → 0 ≤ (f.S i).b k ∧ (f.S i).b k < 256
theorem quo8 (at0 : Int) (p : Nat) (hp : at0 + 512 = p) (hs : p ≤ 1000000) : IntKind.i64.wrap ((at0 + 512).tdiv 8) = ((p / 8 : Nat) : Int) := by
  rw [hp, IntWalk.i64_quo _ _ (by omega)]; omega
theorem rem8 (at0 : Int) (p : Nat) (hp : at0 + 512 = p) : (at0 + 512).tmod 8 = ((p % 8 : Nat) : Int) := by
  rw [hp, IntWalk.rem_in _ _ (by omega)]; omega
theorem div_nonneg2 (a : Int) (k : Nat) (h : 0 ≤ a) : 0 ≤ a / 2 ^ k := Int.ediv_nonneg h (Int.le_of_lt (Int.pow_pos (by decide)))
theorem written79 (b : Nat) (f : Fr) (hf : FrOk f) (at0 : Int) (p : Nat) (hp : at0 + 512 = p) (hs : p < 512) (w : World) (h : (row b 31 (cF f)).holds w) :
    Calls Try.prog 79 #[.pointer (some ⟨b, 0, none⟩), .int .i64 at0] w fun e w' => e = .returned (.bool (rdb f p)) ∧ Grow w w' := by
  have h8 : p % 8 < 8 := Nat.mod_lt _ (by decide)
  have h64 : p / 8 < 64 := by omega
  have hq := quo8 at0 p hp (by omega)
  have hr := rem8 at0 p hp
  have hsh := shr8 (f.S (p / 8)).a (p % 8) h8
  have hnn := div_nonneg2 (f.S (p / 8)).a (p % 8) (hf _ h64).1.1
  refine enter2 (S := fun _ => False) 29 Try.func79 rfl rfl rfl (Ok.start w) ?_
  have hS0 : ¬ (fun _ : Nat => False) b := id
  unfold rdb
  by_cases hk : (f.S (p / 8)).v.k = 0
  case neg =>
    rw [decide_eq_false hk]
    (repeat (first | ((refine (?_ : MX _ _ _ _ _ _ _ _ _ _ _)); first | refine mx_end ?_ | (refine mx_mv _ rfl rfl (by conv => {lhs; whnf}) ?_) | (refine mx_as _ rfl rfl (by conv => {lhs; whnf}) ?_) | (first | refine mx_fa0 E rfl rfl rfl rfl ?_ | refine mx_fa E rfl rfl rfl rfl ?_) | (refine g_load rfl ?_; first | refine mx_get E rfl rfl rfl rfl rfl (by exact rd_cSk _ ) rfl ?_ | refine mx_orown E rfl rfl rfl rfl rfl (by assumption) (by assumption) (by first | exact vr_F _ | exact vr_S _ (by omega) ) rfl ?_ ) | (refine g_bin rfl ?_; first | ((refine mx_cmpl .eql rfl rfl rfl rfl rfl (by first | exact cmp_eq_t (by omega) | exact cmp_eq_f (by omega) | rfl) ?_) ) | (refine mx_ar rfl rfl rfl rfl rfl rfl (IntWalk.i64_in _ (by omega)) rfl ?_ ) | refine mx_dv rfl rfl rfl rfl rfl (by decide) (congrArg some (by assumption)) rfl rfl ?_ ) | (refine g_ix rfl ?_; refine mx_ixan E rfl rfl rfl rfl rfl rfl (by omega) rfl ?_ ) | (refine mx_nc rfl rfl rfl ?_) | (refine mx_skip rfl rfl rfl ?_) | (refine g_pick rfl ?_; refine mx_andf rfl rfl rfl rfl rfl ?_ ) | (refine g_store rfl ?_; refine s_l E rfl rfl rfl rfl rfl rfl rfl (by exact Sp.all (by simp only [len_F, len_V, len_S]) ) rfl ?_ ) | (refine a_new rfl rfl rfl rfl rfl (fun _ => ?_)) ) | refine cw_seq ?_ | refine cw_line rfl ?_ | refine cw_ret ?_ | refine pw_then ?_ ))
    exact pw_ret rfl rfl rfl rfl fun w hw => ⟨rfl, hw.keep.grow⟩
  case pos =>
    rw [decide_eq_true hk]
    cases hbb : hb (f.S (p / 8)).a (p % 8) with
    | true =>
      have htm : ((f.S (p / 8)).a / 2 ^ (p % 8)).tmod 2 = 1 := by rw [IntWalk.rem_in _ _ hnn, bit_eq _ _ h8, hbb]; rfl
      (repeat (first | ((refine (?_ : MX _ _ _ _ _ _ _ _ _ _ _)); first | refine mx_end ?_ | (refine mx_mv _ rfl rfl (by conv => {lhs; whnf}) ?_) | (refine mx_as _ rfl rfl (by conv => {lhs; whnf}) ?_) | (first | refine mx_fa0 E rfl rfl rfl rfl ?_ | refine mx_fa E rfl rfl rfl rfl ?_) | (refine g_load rfl ?_; first | refine mx_get E rfl rfl rfl rfl rfl (by first | exact rd_cSk _ | exact rd_cSa _ ) rfl ?_ | refine mx_orown E rfl rfl rfl rfl rfl (by assumption) (by assumption) (by exact vr_S _ (by omega) ) rfl ?_ ) | (refine g_bin rfl ?_; first | ((refine mx_cmpl .eql rfl rfl rfl rfl rfl (by exact cmp_eq_t (by omega) ) ?_) ) | (refine mx_ar rfl rfl rfl rfl rfl rfl (IntWalk.i64_in _ (by omega)) rfl ?_ ) | refine mx_dv rfl rfl rfl rfl rfl (by decide) (congrArg some (by assumption)) rfl rfl ?_ | refine mx_sh rfl rfl rfl rfl rfl (by omega) (congrArg some (by assumption)) rfl rfl ?_ ) | (refine g_ix rfl ?_; refine mx_ixan E rfl rfl rfl rfl rfl rfl (by omega) rfl ?_ ) | (refine mx_nc rfl rfl rfl ?_) | (refine g_pick rfl ?_; refine mx_and rfl rfl rfl rfl rfl rfl ?_ ) | (refine g_store rfl ?_; refine s_l E rfl rfl rfl rfl rfl rfl rfl (by exact Sp.all (by simp only [len_F, len_V, len_S]) ) rfl ?_ ) | (refine a_new rfl rfl rfl rfl rfl (fun _ => ?_)) | (refine g_conv rfl ?_; refine mx_cv E rfl rfl rfl rfl rfl rfl (IntWalk.u64_in _ (by omega)) rfl ?_ ) ) | refine cw_seq ?_ | refine cw_line rfl ?_ | refine cw_ret ?_ | refine pw_then ?_ ))
      exact pw_ret rfl rfl rfl rfl fun w hw => ⟨rfl, hw.keep.grow⟩
    | false =>
      have htm : ((f.S (p / 8)).a / 2 ^ (p % 8)).tmod 2 = 0 := by rw [IntWalk.rem_in _ _ hnn, bit_eq _ _ h8, hbb]; rfl
      (repeat (first | ((refine (?_ : MX _ _ _ _ _ _ _ _ _ _ _)); first | refine mx_end ?_ | (refine mx_mv _ rfl rfl (by conv => {lhs; whnf}) ?_) | (refine mx_as _ rfl rfl (by conv => {lhs; whnf}) ?_) | (first | refine mx_fa0 E rfl rfl rfl rfl ?_ | refine mx_fa E rfl rfl rfl rfl ?_) | (refine g_load rfl ?_; first | refine mx_get E rfl rfl rfl rfl rfl (by first | exact rd_cSk _ | exact rd_cSa _ ) rfl ?_ | refine mx_orown E rfl rfl rfl rfl rfl (by assumption) (by assumption) (by exact vr_S _ (by omega) ) rfl ?_ ) | (refine g_bin rfl ?_; first | ((refine mx_cmpl .eql rfl rfl rfl rfl rfl (by first | exact cmp_eq_t (by omega) | exact cmp_eq_f (by omega) ) ?_) ) | (refine mx_ar rfl rfl rfl rfl rfl rfl (IntWalk.i64_in _ (by omega)) rfl ?_ ) | refine mx_dv rfl rfl rfl rfl rfl (by decide) (congrArg some (by assumption)) rfl rfl ?_ | refine mx_sh rfl rfl rfl rfl rfl (by omega) (congrArg some (by assumption)) rfl rfl ?_ ) | (refine g_ix rfl ?_; refine mx_ixan E rfl rfl rfl rfl rfl rfl (by omega) rfl ?_ ) | (refine mx_nc rfl rfl rfl ?_) | (refine g_pick rfl ?_; refine mx_and rfl rfl rfl rfl rfl rfl ?_ ) | (refine g_store rfl ?_; refine s_l E rfl rfl rfl rfl rfl rfl rfl (by exact Sp.all (by simp only [len_F, len_V, len_S]) ) rfl ?_ ) | (refine a_new rfl rfl rfl rfl rfl (fun _ => ?_)) | (refine g_conv rfl ?_; refine mx_cv E rfl rfl rfl rfl rfl rfl (IntWalk.u64_in _ (by omega)) rfl ?_ ) ) | refine cw_seq ?_ | refine cw_line rfl ?_ | refine cw_ret ?_ | refine pw_then ?_ ))
      exact pw_ret rfl rfl rfl rfl fun w hw => ⟨rfl, hw.keep.grow⟩
theorem gath71s (b : Nat) (f : Fr) (hf : FrOk f) (off : Int) (p n : Nat) (hp : off + 512 = p) (hs : p + n ≤ 512) (cs : List Int) (hg : gat f p n = some cs) (w : World) (h : (row b 31 (cF f)).holds w) :
    Calls Try.prog 71 #[.pointer (some ⟨b, 0, none⟩), .int .i64 off, .int .i64 n] w fun e w' => ∃ a : Option Addr × Nat, e = .returned (.tuple #[.slice a.1 n a.2, .bool true]) ∧ Grow w w' ∧ (ownd a.1 a.2 5 1 n (cs.flatMap cU)).holds w' ∧ ∀ b, (ownd a.1 a.2 5 1 n (cs.flatMap cU)).dom b → b < w'.heap.size ∧ ¬ b < w.heap.size := by
  have hcl := gat_len hg
  refine enter3 (S := fun _ => False) 39 Try.func71 rfl rfl rfl (Ok.start w) ?_
  have hS0 : ¬ (fun _ : Nat => False) b := id
  (repeat (first | ((refine (?_ : MX _ _ _ _ _ _ _ _ _ _ _)); first | refine mx_end ?_ | (refine mx_mv _ rfl rfl (by conv => {lhs; whnf}) ?_) | (refine mx_as _ rfl rfl (by conv => {lhs; whnf}) ?_) ) | refine cw_seq ?_ | refine cw_line rfl ?_ | refine cw_block ?_ | refine pw_then ?_ ))
  refine cw_loop (ι := Nat × Option Addr × Nat) (fun q => [(9, .int .i64 (off + q.1)), (8, .slice q.2.1 q.1 q.2.2), (0, .pointer (some ⟨b, 0, none⟩)), (1, .int .i64 off), (2, .int .i64 n)]) (fun q => [ownd q.2.1 q.2.2 5 1 q.1 ((cs.take q.1).flatMap cU)]) (fun q => q.1 ≤ n) (fun q => n - q.1) (0, none, 0) (by simp) ⟨by show Value.int .i64 off = Value.int .i64 (off + ((0 : Nat) : Int)); congr 1; omega, rfl, rfl, rfl, rfl, trivial⟩ (fun w h => h.own_nil 5 1) ?_
  rintro ⟨i, a1, c1⟩ jk hi
  dsimp only at hi ⊢
  by_cases h0 : i < n
  case neg =>
    obtain rfl : i = n := by omega
    rw [List.take_of_length_le (by omega)]
    (repeat (first | ((refine (?_ : MX _ _ _ _ _ _ _ _ _ _ _)); first | refine mx_end ?_ | (refine mx_mv _ rfl rfl (by conv => {lhs; whnf}) ?_) | (refine mx_as _ rfl rfl (by conv => {lhs; whnf}) ?_) | (refine g_bin rfl ?_; first | ( (refine mx_cmpl .lss rfl rfl rfl rfl rfl (by first | exact cmp_lt_f (by omega) | rfl) ?_) ) | (refine mx_ar rfl rfl rfl rfl rfl rfl (IntWalk.i64_in _ (by omega)) rfl ?_ ) ) ) | refine cw_seq ?_ | refine cw_line rfl ?_ | refine cw_cond_f rfl ?_ | refine cw_exit ?_ | refine cw_ret ?_ | refine pw_then ?_ | refine pw_then_x ?_ | refine pw_block_e ?_ ))
    exact pw_rets rfl [_, _] ⟨rfl, rfl, trivial⟩ rfl fun w' hw => ⟨(a1, c1), rfl, hw.keep.grow, hw.holds 0 _ rfl, fun b hb => hw.fresh 0 rfl b hb⟩
  case pos =>
    obtain ⟨g1, g2, g3⟩ := gat_some hg i h0
    have h8 : (p + i) % 8 < 8 := Nat.mod_lt _ (by decide)
    have h64 : (p + i) / 8 < 64 := by omega
    have hq := quo8 (off + (i : Int)) (p + i) (by omega) (by omega)
    have hr := rem8 (off + (i : Int)) (p + i) (by omega)
    have e1 : cs.take i ++ [bya f (p + i)] = cs.take (i + 1) := by rw [List.take_add_one, g3]; rfl
    (repeat (first | ((refine (?_ : MX _ _ _ _ _ _ _ _ _ _ _)); first | refine mx_end ?_ | (refine mx_mv _ rfl rfl (by conv => {lhs; whnf}) ?_) | (refine g_bin rfl ?_; first | ( (refine mx_cmpl .lss rfl rfl rfl rfl rfl (by first | exact cmp_lt_t (by omega) | rfl) ?_) ) | (refine mx_ar rfl rfl rfl rfl rfl rfl (IntWalk.i64_in _ (by omega)) rfl ?_ ) ) ) | refine cw_seq ?_ | refine cw_line rfl ?_ | refine cw_block ?_ | refine cw_cond_t rfl ?_ | refine cw_skip ?_ | refine pw_then ?_ ))
    refine g_cf 79 rfl ?_
    refine a_callv rfl rfl rfl rfl Try.func79 rfl rfl rfl (.bool true) (fun w' hw => g1 ▸ written79 b f hf (off + (i : Int)) (p + i) (by omega) (by omega) w' (hw.orow h hS0)) rfl ?_
    (repeat (first | ((refine (?_ : MX _ _ _ _ _ _ _ _ _ _ _)); first | refine mx_end ?_ | (refine mx_mv _ rfl rfl (by conv => {lhs; whnf}) ?_) | ( refine mx_fa E rfl rfl rfl rfl ?_) | (refine g_load rfl ?_; refine mx_orow E rfl rfl rfl rfl rfl (by assumption) (by assumption) (by exact rd_Sb _ (by omega) (by omega) ) rfl ?_ ) | (refine g_bin rfl ?_; first | (refine mx_ar rfl rfl rfl rfl rfl rfl (IntWalk.i64_in _ (by omega)) rfl ?_ ) | refine mx_dv rfl rfl rfl rfl rfl (by decide) (congrArg some (by assumption)) rfl rfl ?_ ) | (refine g_ix rfl ?_; refine mx_ixan E rfl rfl rfl rfl rfl rfl (by omega) rfl ?_ ) | (refine mx_nc rfl rfl rfl ?_) | (refine mx_not rfl rfl rfl ?_) | (refine g_bs rfl ?_; refine a_bsi E rfl rfl rfl rfl rfl (by (repeat (first | exact EvI.nil | (apply EvI.cons; rfl)))) (by rfl) (by rfl) (by rfl) rfl (fun _ => ?_)) ) | refine cw_line rfl ?_ | refine cw_cond_f rfl ?_ | refine cw_skip ?_ | refine pw_then ?_ ))
    refine g_bi .append rfl ?_
    refine a_app E rfl rfl rfl rfl rfl rfl rfl rfl [.int .u8 (bya f (p + i))] rfl (fun w hw => one_src (hw.holds 0 _ rfl)) rfl (by omega) rfl (fun _ _ _ _ => trivial) (fun a2 c2 => ?_)
    rw [app_flat, e1]
    (repeat (first | ((refine (?_ : MX _ _ _ _ _ _ _ _ _ _ _)); first | refine mx_end ?_ | (refine mx_mv _ rfl rfl (by conv => {lhs; whnf}) ?_) | (refine mx_as _ rfl rfl (by conv => {lhs; whnf}) ?_) | (refine g_bin rfl ?_; (refine mx_ar rfl rfl rfl rfl rfl rfl (IntWalk.i64_in _ (by omega)) rfl ?_ ) ) ) | refine cw_line rfl ?_ | refine pw_then ?_ | refine pw_block ?_ ))
    refine pw_round (i + 1, a2, c2) (by show i + 1 ≤ n; omega) (by show n - (i + 1) < n - i; omega) ⟨by show Value.int .i64 (off + (i : Int) + 1) = Value.int .i64 (off + ((i + 1 : Nat) : Int)); congr 1; omega, rfl, rfl, rfl, rfl, trivial⟩ (fun w h => h.only 1 rfl)
theorem gath71n (b : Nat) (f : Fr) (hf : FrOk f) (off : Int) (p n : Nat) (hp : off + 512 = p) (hs : p + n ≤ 512) (hg : gat f p n = none) (w : World) (h : (row b 31 (cF f)).holds w) :
    Calls Try.prog 71 #[.pointer (some ⟨b, 0, none⟩), .int .i64 off, .int .i64 n] w fun e w' => e = .returned (.tuple #[.slice none 0 0, .bool false]) ∧ Grow w w' := by
  obtain ⟨j, hj, hj1, hj2⟩ := gat_none hg
  refine enter3 (S := fun _ => False) 39 Try.func71 rfl rfl rfl (Ok.start w) ?_
  have hS0 : ¬ (fun _ : Nat => False) b := id
  (repeat (first | ((refine (?_ : MX _ _ _ _ _ _ _ _ _ _ _)); first | refine mx_end ?_ | (refine mx_mv _ rfl rfl (by conv => {lhs; whnf}) ?_) | (refine mx_as _ rfl rfl (by conv => {lhs; whnf}) ?_) ) | refine cw_seq ?_ | refine cw_line rfl ?_ | refine cw_block ?_ | refine pw_then ?_ ))
  refine cw_loop (ι := Nat × Option Addr × Nat × List Value) (fun q => [(9, .int .i64 (off + q.1)), (8, .slice q.2.1 q.1 q.2.2.1), (0, .pointer (some ⟨b, 0, none⟩)), (1, .int .i64 off), (2, .int .i64 n)]) (fun q => [ownd q.2.1 q.2.2.1 5 1 q.1 q.2.2.2]) (fun q => q.1 ≤ j) (fun q => j - q.1) (0, none, 0, []) (by simp) ⟨by show Value.int .i64 off = Value.int .i64 (off + ((0 : Nat) : Int)); congr 1; omega, rfl, rfl, rfl, rfl, trivial⟩ (fun w h => h.own_nil 5 1) ?_
  rintro ⟨i, a1, c1, xs⟩ jk hi
  dsimp only at hi ⊢
  have h8 : (p + i) % 8 < 8 := Nat.mod_lt _ (by decide)
  have h64 : (p + i) / 8 < 64 := by omega
  have hq := quo8 (off + (i : Int)) (p + i) (by omega) (by omega)
  have hr := rem8 (off + (i : Int)) (p + i) (by omega)
  by_cases h0 : i < j
  case neg =>
    obtain rfl : i = j := by omega
    (repeat (first | ((refine (?_ : MX _ _ _ _ _ _ _ _ _ _ _)); first | refine mx_end ?_ | (refine mx_mv _ rfl rfl (by conv => {lhs; whnf}) ?_) | (refine g_bin rfl ?_; first | ( (refine mx_cmpl .lss rfl rfl rfl rfl rfl (by first | exact cmp_lt_t (by omega) | rfl) ?_) ) | (refine mx_ar rfl rfl rfl rfl rfl rfl (IntWalk.i64_in _ (by omega)) rfl ?_ ) ) ) | refine cw_seq ?_ | refine cw_line rfl ?_ | refine cw_block ?_ | refine cw_cond_t rfl ?_ | refine cw_skip ?_ | refine pw_then ?_ ))
    refine g_cf 79 rfl ?_
    refine a_callv rfl rfl rfl rfl Try.func79 rfl rfl rfl (.bool false) (fun w' hw => hj2 ▸ written79 b f hf (off + (i : Int)) (p + i) (by omega) (by omega) w' (hw.orow h hS0)) rfl ?_
    (repeat (first | ((refine (?_ : MX _ _ _ _ _ _ _ _ _ _ _)); first | refine mx_end ?_ | (refine mx_as _ rfl rfl (by conv => {lhs; whnf}) ?_) | (refine mx_not rfl rfl rfl ?_) ) | refine cw_seq ?_ | refine cw_line rfl ?_ | refine cw_cond_t rfl ?_ | refine cw_ret ?_ | refine pw_then ?_ | refine pw_then_r ?_ | refine pw_block_r ?_))
    exact pw_rets rfl [_, _] ⟨rfl, rfl, trivial⟩ rfl fun w' hw => ⟨rfl, hw.keep.grow⟩
  case pos =>
    have g1 := hj1 i h0
    (repeat (first | ((refine (?_ : MX _ _ _ _ _ _ _ _ _ _ _)); first | refine mx_end ?_ | (refine mx_mv _ rfl rfl (by conv => {lhs; whnf}) ?_) | (refine g_bin rfl ?_; first | ( (refine mx_cmpl .lss rfl rfl rfl rfl rfl (by first | exact cmp_lt_t (by omega) | rfl) ?_) ) | (refine mx_ar rfl rfl rfl rfl rfl rfl (IntWalk.i64_in _ (by omega)) rfl ?_ ) ) ) | refine cw_seq ?_ | refine cw_line rfl ?_ | refine cw_block ?_ | refine cw_cond_t rfl ?_ | refine cw_skip ?_ | refine pw_then ?_ ))
    refine g_cf 79 rfl ?_
    refine a_callv rfl rfl rfl rfl Try.func79 rfl rfl rfl (.bool true) (fun w' hw => g1 ▸ written79 b f hf (off + (i : Int)) (p + i) (by omega) (by omega) w' (hw.orow h hS0)) rfl ?_
    (repeat (first | ((refine (?_ : MX _ _ _ _ _ _ _ _ _ _ _)); first | refine mx_end ?_ | (refine mx_mv _ rfl rfl (by conv => {lhs; whnf}) ?_) | ( refine mx_fa E rfl rfl rfl rfl ?_) | (refine g_load rfl ?_; refine mx_orow E rfl rfl rfl rfl rfl (by assumption) (by assumption) (by exact rd_Sb _ (by omega) (by omega) ) rfl ?_ ) | (refine g_bin rfl ?_; first | (refine mx_ar rfl rfl rfl rfl rfl rfl (IntWalk.i64_in _ (by omega)) rfl ?_ ) | refine mx_dv rfl rfl rfl rfl rfl (by decide) (congrArg some (by assumption)) rfl rfl ?_ ) | (refine g_ix rfl ?_; refine mx_ixan E rfl rfl rfl rfl rfl rfl (by omega) rfl ?_ ) | (refine mx_nc rfl rfl rfl ?_) | (refine mx_not rfl rfl rfl ?_) | (refine g_bs rfl ?_; refine a_bsi E rfl rfl rfl rfl rfl (by (repeat (first | exact EvI.nil | (apply EvI.cons; rfl)))) (by rfl) (by rfl) (by rfl) rfl (fun _ => ?_)) ) | refine cw_line rfl ?_ | refine cw_cond_f rfl ?_ | refine cw_skip ?_ | refine pw_then ?_ ))
    refine g_bi .append rfl ?_
    refine a_app E rfl rfl rfl rfl rfl rfl rfl rfl [.int .u8 (bya f (p + i))] rfl (fun w hw => one_src (hw.holds 0 _ rfl)) rfl (by omega) rfl (fun _ _ _ _ => trivial) (fun a2 c2 => ?_)
    (repeat (first | ((refine (?_ : MX _ _ _ _ _ _ _ _ _ _ _)); first | refine mx_end ?_ | (refine mx_mv _ rfl rfl (by conv => {lhs; whnf}) ?_) | (refine mx_as _ rfl rfl (by conv => {lhs; whnf}) ?_) | (refine g_bin rfl ?_; (refine mx_ar rfl rfl rfl rfl rfl rfl (IntWalk.i64_in _ (by omega)) rfl ?_ ) ) ) | refine cw_line rfl ?_ | refine pw_then ?_ | refine pw_block ?_ ))
    refine pw_round (i + 1, a2, c2, xs ++ [.int .u8 (bya f (p + i))]) (by show i + 1 ≤ j; omega) (by show j - (i + 1) < j - i; omega) ⟨by show Value.int .i64 (off + (i : Int) + 1) = Value.int .i64 (off + ((i + 1 : Nat) : Int)); congr 1; omega, rfl, rfl, rfl, rfl, trivial⟩ (fun w h => h.only 1 rfl)
theorem lay73 (b : Nat) (f : Fr) (at0 : Int) (p : Nat) (hp : at0 + 512 = p) (hs : p < 512) (c : Int) (w : World) (h : (row b 31 (cF f)).holds w) :
    Calls Try.prog 73 #[.pointer (some ⟨b, 0, none⟩), .int .i64 at0, .int .u8 c] w fun e w' => e = .returned (.tuple #[]) ∧ Chg (row b 31 (cF f)).dom w w' ∧ (row b 31 (cF (lay1 f p c))).holds w' := by
  have h8 : p % 8 < 8 := Nat.mod_lt _ (by decide)
  have h64 : p / 8 < 64 := by omega
  have hq := quo8 at0 p hp (by omega)
  have hr := rem8 at0 p hp
  have hsh := shl1 (p % 8) h8
  refine enter3 43 Try.func73 rfl rfl rfl (Ok.one h (row_lt h)) ?_
  unfold lay1
  by_cases hk : (f.S (p / 8)).v.k = 0
  case neg =>
    rw [if_neg hk]
    (repeat (first | ((refine (?_ : MX _ _ _ _ _ _ _ _ _ _ _)); first | refine mx_end ?_ | (refine mx_mv _ rfl rfl (by conv => {lhs; whnf}) ?_) | (refine mx_as _ rfl rfl (by conv => {lhs; whnf}) ?_) | (first | refine mx_fa0 E rfl rfl rfl rfl ?_ | refine mx_fa E rfl rfl rfl rfl ?_) | (refine g_load rfl ?_; first | refine mx_get E rfl rfl rfl rfl rfl (by first | exact rd_Sk _ (by omega) | exact rd_cSk _ | exact rd_cSa _ ) rfl ?_ | refine mx_getn E rfl rfl rfl rfl rfl (by exact vr_S _ (by omega) ) rfl ?_ ) | (refine g_bin rfl ?_; first | ( (refine mx_cmpl .neq rfl rfl rfl rfl rfl (by exact cmp_ne_t (by omega) ) ?_) ) | (refine mx_ar rfl rfl rfl rfl rfl rfl (IntWalk.i64_in _ (by omega)) rfl ?_ ) | refine mx_dv rfl rfl rfl rfl rfl (by decide) (congrArg some (by assumption)) rfl rfl ?_ | refine mx_bit rfl rfl rfl rfl rfl rfl rfl rfl ?_ | refine mx_sh rfl rfl rfl rfl rfl (by omega) (congrArg some (by assumption)) rfl rfl ?_ ) | (refine g_ix rfl ?_; refine mx_ixan E rfl rfl rfl rfl rfl rfl (by omega) rfl ?_ ) | (refine mx_nc rfl rfl rfl ?_) | (refine g_store rfl ?_; first | refine s_l E rfl rfl rfl rfl rfl rfl rfl (by exact Sp.all (by simp only [len_F, len_V, len_S]) ) rfl ?_ | refine s_1 E rfl rfl rfl rfl rfl rfl rfl rfl (by first | exact sp_Sb1 _ (by omega) _ | exact sp_Sa1 _ _ ) rfl ?_) | (refine g_build rfl ?_; refine mx_build rfl rfl rfl rfl b28_0 rfl ?_ ) | (refine a_new rfl rfl rfl rfl rfl (fun _ => ?_)) | (refine g_conv rfl ?_; refine mx_cv E rfl rfl rfl rfl rfl rfl (IntWalk.u64_in _ (by omega)) rfl ?_ ) ) | refine cw_seq ?_ | refine cw_line rfl ?_ | refine cw_cond_t rfl ?_ | refine pw_then ?_ ))
    refine cw_drawm [0, 1, 2, 3, 4, 5, 6, 7, 8] (fun i => Nat.beq i 8) _ mixed (by kernel_rfl) (fun w h => h.only 0 rfl) ?_
    (repeat (((refine (?_ : MX _ _ _ _ _ _ _ _ _ _ _)); first | refine mx_end ?_ | (refine mx_mv _ rfl rfl (by conv => {lhs; whnf}) ?_) | ( refine mx_fa E rfl rfl rfl rfl ?_) | (refine g_load rfl ?_; refine mx_getn E rfl rfl rfl rfl rfl (by exact vr_S' _ ) rfl ?_ ) | (refine g_bin rfl ?_; first | (refine mx_ar rfl rfl rfl rfl rfl rfl (IntWalk.i64_in _ (by omega)) rfl ?_ ) | refine mx_dv rfl rfl rfl rfl rfl (by decide) (congrArg some (by assumption)) rfl rfl ?_ ) | (refine g_ix rfl ?_; refine mx_ixan E rfl rfl rfl rfl rfl rfl (by omega) rfl ?_ ) | (refine mx_nc rfl rfl rfl ?_) | (refine g_store rfl ?_; refine s_l E rfl rfl rfl rfl rfl rfl rfl (by exact sp_S _ (by omega) _ ) rfl ?_ ) ) ))
    exact pw_ret0 rfl rfl fun w h => ⟨rfl, h.keep, h.holds 1 _ rfl⟩
  case pos =>
    rw [if_pos hk]
    (repeat (first | ((refine (?_ : MX _ _ _ _ _ _ _ _ _ _ _)); first | refine mx_end ?_ | (refine mx_mv _ rfl rfl (by conv => {lhs; whnf}) ?_) | (refine mx_as _ rfl rfl (by conv => {lhs; whnf}) ?_) | (first | refine mx_fa0 E rfl rfl rfl rfl ?_ | refine mx_fa E rfl rfl rfl rfl ?_) | (refine g_load rfl ?_; first | refine mx_get E rfl rfl rfl rfl rfl (by first | exact rd_Sk _ (by omega) | exact rd_cSk _ | exact rd_cSa _ ) rfl ?_ | refine mx_getn E rfl rfl rfl rfl rfl (by exact vr_S _ (by omega) ) rfl ?_ ) | (refine g_bin rfl ?_; first | ( (refine mx_cmpl .neq rfl rfl rfl rfl rfl (by exact cmp_ne_f (by omega) ) ?_) ) | (refine mx_ar rfl rfl rfl rfl rfl rfl (IntWalk.i64_in _ (by omega)) rfl ?_ ) | refine mx_dv rfl rfl rfl rfl rfl (by decide) (congrArg some (by assumption)) rfl rfl ?_ | refine mx_bit rfl rfl rfl rfl rfl rfl rfl rfl ?_ | refine mx_sh rfl rfl rfl rfl rfl (by omega) (congrArg some (by assumption)) rfl rfl ?_ ) | (refine g_ix rfl ?_; refine mx_ixan E rfl rfl rfl rfl rfl rfl (by omega) rfl ?_ ) | (refine mx_nc rfl rfl rfl ?_) | (refine g_store rfl ?_; first | refine s_l E rfl rfl rfl rfl rfl rfl rfl (by exact Sp.all (by simp only [len_F, len_V, len_S]) ) rfl ?_ | refine s_1 E rfl rfl rfl rfl rfl rfl rfl rfl (by first | exact sp_Sb1 _ (by omega) _ | exact sp_Sa1 _ _ ) rfl ?_) | (refine a_new rfl rfl rfl rfl rfl (fun _ => ?_)) | (refine g_conv rfl ?_; refine mx_cv E rfl rfl rfl rfl rfl rfl (IntWalk.u64_in _ (by omega)) rfl ?_ ) ) | refine cw_seq ?_ | refine cw_line rfl ?_ | refine cw_cond_f rfl ?_ | refine cw_skip ?_ | refine pw_then ?_ ))
    refine cw_drawm [0, 1, 2, 3, 4, 5, 6, 7, 8] (fun i => Nat.beq i 8) _ mixed (by kernel_rfl) (fun w h => h.only 0 rfl) ?_
    (repeat (((refine (?_ : MX _ _ _ _ _ _ _ _ _ _ _)); first | refine mx_end ?_ | (refine mx_mv _ rfl rfl (by conv => {lhs; whnf}) ?_) | ( refine mx_fa E rfl rfl rfl rfl ?_) | (refine g_load rfl ?_; refine mx_getn E rfl rfl rfl rfl rfl (by exact vr_S' _ ) rfl ?_ ) | (refine g_bin rfl ?_; first | (refine mx_ar rfl rfl rfl rfl rfl rfl (IntWalk.i64_in _ (by omega)) rfl ?_ ) | refine mx_dv rfl rfl rfl rfl rfl (by decide) (congrArg some (by assumption)) rfl rfl ?_ ) | (refine g_ix rfl ?_; refine mx_ixan E rfl rfl rfl rfl rfl rfl (by omega) rfl ?_ ) | (refine mx_nc rfl rfl rfl ?_) | (refine g_store rfl ?_; refine s_l E rfl rfl rfl rfl rfl rfl rfl (by exact sp_S _ (by omega) _ ) rfl ?_ ) ) ))
    exact pw_ret0 rfl rfl fun w h => ⟨rfl, h.keep, h.holds 1 _ rfl⟩
theorem ipow_le (x : Nat) (hx : 0 < x) {a b : Nat} (h : a ≤ b) : (x : Int) ^ a ≤ (x : Int) ^ b := by
  have := Nat.pow_le_pow_right hx h
  exact_mod_cast this
theorem take_byts {cs : List Int} (h : Byts cs) (i : Nat) : Byts (cs.take i) := fun c hc => h c (List.mem_of_mem_take hc)
theorem drop_byts {cs : List Int} (h : Byts cs) (i : Nat) : Byts (cs.drop i) := fun c hc => h c (List.mem_of_mem_drop hc)
theorem pow256 (n : Nat) : (256 : Int) ^ n = 2 ^ (8 * n) := by
  rw [Int.pow_mul]
  rfl
theorem num_step (cs : List Int) (hb : Byts cs) (h8 : cs.length ≤ 8) {i : Nat} {c : Int} (hx : cs[i]? = some c) :
    IntKind.u64.wrap (c * 2 ^ (min ((8 : Int) * (i : Int)).toNat IntKind.u64.bits)) = 2 ^ (8 * i) * c ∧ IntKind.u64.wrap ((BitVec.ofInt IntKind.u64.bits (numB (cs.take i))) ||| (BitVec.ofInt IntKind.u64.bits (2 ^ (8 * i) * c))).toNat = numB (cs.take (i + 1)) := by
  have hi := (List.getElem?_eq_some_iff.1 hx).1
  have hc := hb c (List.mem_of_getElem? hx)
  have hbd := numB_bd (cs.take i) (take_byts hb i)
  have hl : (cs.take i).length = i := by rw [List.length_take]; omega
  rw [hl, pow256] at hbd
  have hall := numB_bd (cs.take (i + 1)) (take_byts hb (i + 1))
  have hl1 : (cs.take (i + 1)).length = i + 1 := by rw [List.length_take]; omega
  have hsn : numB (cs.take (i + 1)) = numB (cs.take i) + 2 ^ (8 * i) * c := by
    rw [List.take_add_one, hx]
    show numB (cs.take i ++ [c]) = _
    rw [numB_snoc, hl, pow256]
  rw [hl1, pow256] at hall
  have hp : (2 : Int) ^ (8 * (i + 1)) ≤ 2 ^ 64 := ipow_le 2 (by decide) (by omega)
  have e64 : (2 : Int) ^ 64 = 18446744073709551616 := rfl
  have hnn : 0 ≤ (2 : Int) ^ (8 * i) * c := Int.mul_nonneg (Int.le_of_lt (Int.pow_pos (by decide))) hc.1
  refine ⟨?_, ?_⟩
  · have e : min ((8 : Int) * (i : Int)).toNat IntKind.u64.bits = 8 * i := by
      show min ((8 : Int) * (i : Int)).toNat 64 = 8 * i
      omega
    rw [e, Int.mul_comm]
    exact IntWalk.u64_in _ (by omega)
  · rw [or_add .u64 (.inl rfl) (8 * i) _ c hbd.1 hbd.2 hc.1 (by show _ < (2 : Int) ^ 64; omega), hsn]
theorem number68 (ad : Option Addr) (m cap : Nat) (cs : List Int) (hm : cs.length = m) (h8 : m ≤ 8) (hb : Byts cs) (w : World) (hl : InL w ad 1 cU cs) :
    Calls Try.prog 68 #[.slice ad m cap] w fun e w' => e = .returned (.int .u64 (numB cs)) ∧ Grow w w' := by
  refine enter1 (S := fun _ => False) 22 Try.func68 rfl rfl rfl (Ok.start w) ?_
  (repeat (first | ((refine (?_ : MX _ _ _ _ _ _ _ _ _ _ _)); first | refine mx_end ?_ | (refine mx_mv _ rfl rfl (by conv => {lhs; whnf}) ?_) | (refine mx_as _ rfl rfl (by conv => {lhs; whnf}) ?_) | (refine g_bi .len rfl ?_; refine mx_len E rfl rfl rfl rfl ?_) ) | refine cw_seq ?_ | refine cw_line rfl ?_ | refine cw_block ?_ | refine pw_then ?_ ))
  refine cw_loop (fun i : Nat => [(8, .int .i64 i), (7, .int .i64 m), (6, .slice ad m cap), (3, .int .u64 (numB (cs.take i)))]) (fun i => []) (fun i => i ≤ m) (fun i => m - i) 0 (by omega) ⟨rfl, rfl, rfl, rfl, trivial⟩ (fun w h => h) ?_
  intro i jk hi
  by_cases h0 : (i : Int) < m
  case neg =>
    obtain rfl : i = m := by omega
    rw [List.take_of_length_le (by omega)]
    (repeat (first | ((refine (?_ : MX _ _ _ _ _ _ _ _ _ _ _)); first | refine mx_end ?_ | (refine mx_mv _ rfl rfl (by conv => {lhs; whnf}) ?_) | (refine mx_as _ rfl rfl (by conv => {lhs; whnf}) ?_) | (refine g_bin rfl ?_; ( (refine mx_cmpl .lss rfl rfl rfl rfl rfl (by exact cmp_lt_f (by omega) ) ?_) ) ) ) | refine cw_seq ?_ | refine cw_line rfl ?_ | refine cw_cond_f rfl ?_ | refine cw_exit ?_ | refine cw_ret ?_ | refine pw_then ?_ | refine pw_then_x ?_ | refine pw_block_e ?_ ))
    exact pw_ret rfl rfl rfl rfl fun w hw => ⟨rfl, hw.keep.grow⟩
  case pos =>
    obtain ⟨x, hx⟩ := getElem_some (xs := cs) (i := i) (by omega)
    obtain ⟨b4, o4, e, hcc⟩ := inl_at hl hx
    subst e
    have hS : ¬ (fun _ : Nat => False) b4 := id
    have hc0 : w.cell? ⟨b4, o4 + i * 1, none⟩ = some (.int .u8 x) := hcc 0 _ rfl
    have hxb := hb x (List.mem_of_getElem? hx)
    obtain ⟨n1, n2⟩ := num_step cs hb (by omega) hx
    (repeat (first | ((refine (?_ : MX _ _ _ _ _ _ _ _ _ _ _)); first | refine mx_end ?_ | (refine mx_mv _ rfl rfl (by conv => {lhs; whnf}) ?_) | (refine mx_as _ rfl rfl (by conv => {lhs; whnf}) ?_) | (refine g_load rfl ?_; refine mx_old1 E rfl rfl rfl rfl rfl (by assumption) (by assumption) rfl ?_ ) | (refine g_bin rfl ?_; first | ( (refine mx_cmpl .lss rfl rfl rfl rfl rfl (by exact cmp_lt_t (by omega) ) ?_) ) | (refine mx_ar rfl rfl rfl rfl rfl rfl (IntWalk.i64_in _ (by omega)) rfl ?_ ) | refine mx_bit rfl rfl rfl rfl rfl (congrArg some (by assumption)) rfl rfl ?_ | refine mx_sh rfl rfl rfl rfl rfl (by omega) (congrArg some (by assumption)) rfl rfl ?_ ) | (refine g_ix rfl ?_; refine mx_ixsn E rfl rfl rfl rfl rfl rfl (by omega) rfl ?_ ) | (refine g_conv rfl ?_; refine mx_cv E rfl rfl rfl rfl rfl rfl (IntWalk.u64_in _ (by omega)) rfl ?_ ) ) | refine cw_seq ?_ | refine cw_line rfl ?_ | refine cw_block ?_ | refine cw_cond_t rfl ?_ | refine cw_skip ?_ | refine pw_then ?_ | refine pw_block ?_ ))
    refine pw_round (i + 1) (by omega) (by omega) ⟨rfl, rfl, rfl, rfl, trivial⟩ (fun w h => h)
theorem number72 (ad : Option Addr) (m cap : Nat) (cs : List Int) (hm : cs.length = m) (h8 : m ≤ 8) (hb : Byts cs) (w : World) (hl : InL w ad 1 cU cs) :
    Calls Try.prog 72 #[.slice ad m cap] w fun e w' => e = .returned (.int .u64 (numB cs)) ∧ Grow w w' := by
  refine enter1 (S := fun _ => False) 21 Try.func72 rfl rfl rfl (Ok.start w) ?_
  (repeat (first | ((refine (?_ : MX _ _ _ _ _ _ _ _ _ _ _)); first | refine mx_end ?_ | (refine mx_mv _ rfl rfl (by conv => {lhs; whnf}) ?_) | (refine mx_as _ rfl rfl (by conv => {lhs; whnf}) ?_) | (refine g_bin rfl ?_; (refine mx_ar rfl rfl rfl rfl rfl rfl (IntWalk.i64_in _ (by omega)) rfl ?_ ) ) | (refine g_bi .len rfl ?_; refine mx_len E rfl rfl rfl rfl ?_) ) | refine cw_seq ?_ | refine cw_line rfl ?_ | refine cw_block ?_ | refine pw_then ?_ ))
  refine cw_loop (fun j : Nat => [(4, .int .i64 ((j : Int) - 1)), (3, .int .u64 (numB (cs.drop j))), (0, .slice ad m cap)]) (fun i => []) (fun j => j ≤ m) (fun j => j) m (by omega) ⟨rfl, by rw [List.drop_of_length_le (by omega)]; rfl, rfl, trivial⟩ (fun w h => h) ?_
  intro j jk hj
  by_cases h0 : j = 0
  case pos =>
    subst h0
    rw [List.drop_zero]
    (repeat (first | ((refine (?_ : MX _ _ _ _ _ _ _ _ _ _ _)); first | refine mx_end ?_ | (refine mx_mv _ rfl rfl (by conv => {lhs; whnf}) ?_) | (refine mx_as _ rfl rfl (by conv => {lhs; whnf}) ?_) | (refine g_bin rfl ?_; ( (refine mx_cmpl .geq rfl rfl rfl rfl rfl (by exact cmp_ge_f (by omega) ) ?_)) ) ) | refine cw_seq ?_ | refine cw_line rfl ?_ | refine cw_cond_f rfl ?_ | refine cw_exit ?_ | refine cw_ret ?_ | refine pw_then ?_ | refine pw_then_x ?_ | refine pw_block_e ?_ ))
    exact pw_ret rfl rfl rfl rfl fun w hw => ⟨rfl, hw.keep.grow⟩
  case neg =>
    obtain ⟨x, hx⟩ := getElem_some (xs := cs) (i := j - 1) (by omega)
    obtain ⟨b4, o4, e, hcc⟩ := inl_at hl hx
    subst e
    have hS : ¬ (fun _ : Nat => False) b4 := id
    have e1 : ((j : Int) - 1).toNat = j - 1 := by omega
    have hc0 : w.cell? ⟨b4, o4 + ((j : Int) - 1).toNat * 1, none⟩ = some (.int .u8 x) := by rw [e1]; exact hcc 0 _ rfl
    have hxb := hb x (List.mem_of_getElem? hx)
    have hbd := numB_bd (cs.drop j) (drop_byts hb j)
    have hp : (256 : Int) ^ (cs.drop j).length ≤ 256 ^ 7 := ipow_le 256 (by decide) (by rw [List.length_drop]; omega)
    have e7 : (256 : Int) ^ 7 = 72057594037927936 := rfl
    have hst : numB (cs.drop j) * 256 + x = numB (cs.drop (j - 1)) := by
      obtain ⟨hlt, hxx⟩ := List.getElem?_eq_some_iff.1 hx
      rw [List.drop_eq_getElem_cons (i := j - 1) hlt, hxx]
      have e2 : j - 1 + 1 = j := by omega
      rw [e2]
      simp only [numB]
      omega
    (repeat (first | ((refine (?_ : MX _ _ _ _ _ _ _ _ _ _ _)); first | refine mx_end ?_ | (refine mx_mv _ rfl rfl (by conv => {lhs; whnf}) ?_) | (refine mx_as _ rfl rfl (by conv => {lhs; whnf}) ?_) | (refine g_load rfl ?_; refine mx_old1 E rfl rfl rfl rfl rfl (by assumption) (by assumption) rfl ?_ ) | (refine g_bin rfl ?_; first | ( (refine mx_cmpl .geq rfl rfl rfl rfl rfl (by exact cmp_ge_t (by omega) ) ?_)) | (first | refine mx_ar rfl rfl rfl rfl rfl rfl (IntWalk.i64_in _ (by omega)) rfl ?_ | refine mx_ar rfl rfl rfl rfl rfl rfl (IntWalk.u64_in _ (by omega)) rfl ?_ ) ) | (refine g_ix rfl ?_; refine mx_ixsi E rfl rfl rfl rfl rfl rfl (by omega) (by omega) rfl ?_ ) | (refine g_conv rfl ?_; refine mx_cv E rfl rfl rfl rfl rfl rfl (IntWalk.u64_in _ (by omega)) rfl ?_ ) ) | refine cw_seq ?_ | refine cw_line rfl ?_ | refine cw_block ?_ | refine cw_cond_t rfl ?_ | refine cw_skip ?_ | refine pw_then ?_ | refine pw_block ?_ ))
    refine pw_round (j - 1) (by omega) (by omega) ⟨by show Value.int .i64 ((j : Int) - 1 - 1) = Value.int .i64 (((j - 1 : Nat) : Int) - 1); congr 1; omega, by rw [← hst]; rfl, rfl, trivial⟩ (fun w h => h)
end Go.Proofs.Ytdimcafdmaidpaa
