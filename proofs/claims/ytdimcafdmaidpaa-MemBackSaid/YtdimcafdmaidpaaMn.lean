/- Bytes that are laid on a stack and read off it; numbers of bytes; walked. -/
import Derived.Test.YtdimcafdmaidpaaMm
set_option maxRecDepth 100000
set_option maxHeartbeats 8000000
set_option linter.unusedSimpArgs false
set_option linter.unusedVariables false
namespace Go.Proofs.Ytdimcafdmaidpaa
open Go Go.Sx Go.RowKit
def ORB (a : Int) (k : Nat) : Int := IntKind.u8.wrap ((BitVec.ofInt IntKind.u8.bits a) ||| (BitVec.ofInt IntKind.u8.bits (2 ^ k))).toNat
def lay1 (f : Fr) (p : Nat) (c : Int) : Fr := f.setS (p / 8) (((if (f.S (p / 8)).v.k = 0 then f.S (p / 8) else SL.o).setB (p % 8) c).setA (ORB (if (f.S (p / 8)).v.k = 0 then f.S (p / 8) else SL.o).a (p % 8)))
def layN (f : Fr) (p : Nat) : List Int → Fr
  | [] => f
  | c :: cs => layN (lay1 f p c) (p + 1) cs
theorem layN_snoc : ∀ (cs : List Int) (f : Fr) (p : Nat) (c : Int), layN f p (cs ++ [c]) = lay1 (layN f p cs) (p + cs.length) c
  | [], f, p, c => rfl
  | d :: cs, f, p, c => by
    simp only [List.cons_append, layN, layN_snoc cs, List.length_cons]
    congr 1
    omega
theorem layN_step (f : Fr) (p : Nat) (cs : List Int) {i : Nat} {c : Int} (h : cs[i]? = some c) : lay1 (layN f p (cs.take i)) (p + i) c = layN f p (cs.take (i + 1)) := by
  have hl : i < cs.length := (List.getElem?_eq_some_iff.1 h).1
  rw [List.take_add_one, h]
  show _ = layN f p (cs.take i ++ [c])
  rw [layN_snoc, List.length_take, Nat.min_eq_left (by omega)]
theorem setS_at (f : Fr) (i : Nat) (s : SL) : (f.setS i s).S i = s := by simp [Fr.setS, fset_same]
theorem setS_setS (f : Fr) (i : Nat) (s t : SL) : (f.setS i s).setS i t = f.setS i t := by
  simp only [Fr.setS, Fr.mk.injEq, true_and]
  funext j
  unfold fset
  split <;> rfl
theorem shl1 (k : Nat) (hk : k < 8) : IntKind.u8.wrap (1 * 2 ^ (min ((k : Int)).toNat IntKind.u8.bits)) = 2 ^ k := by
  have : ∀ k : Nat, k < 8 → IntKind.u8.wrap (1 * 2 ^ (min ((k : Int)).toNat IntKind.u8.bits)) = 2 ^ k := by decide
  exact this k hk
theorem lay65 (b : Nat) (f : Fr) (off : Int) (p : Nat) (hp : off + 512 = p) (ad : Option Addr) (m cap : Nat) (cs : List Int) (hm : cs.length = m) (hs : p + m ≤ 512) (w : World) (h : (row b 31 (cF f)).holds w) (hl : InL w ad 1 cU cs) (hne : cs ≠ [] → ∀ b' off, ad = some ⟨b', off, none⟩ → b' ≠ b) :
    Calls Try.prog 65 #[.pointer (some ⟨b, 0, none⟩), .int .i64 off, .slice ad m cap] w fun e w' => e = .returned (.tuple #[]) ∧ Chg (row b 31 (cF f)).dom w w' ∧ (row b 31 (cF (layN f p cs))).holds w' := by
  refine enter3 55 Try.func65 rfl rfl rfl (Ok.one h (row_lt h)) ?_
  (repeat (first | ((refine (?_ : MX _ _ _ _ _ _ _ _ _ _ _)); first | refine mx_end ?_ | (refine mx_mv _ rfl rfl (by conv => {lhs; whnf}) ?_) | (refine g_bi .len rfl ?_; refine mx_len E rfl rfl rfl rfl ?_) ) | refine cw_seq ?_ | refine cw_line rfl ?_ | refine cw_block ?_ | refine pw_then ?_ ))
  refine cw_loop (fun i : Nat => [(13, .int .i64 i), (12, .int .i64 m), (11, .slice ad m cap), (0, .pointer (some ⟨b, 0, none⟩)), (1, .int .i64 off)]) (fun i => [row b 31 (cF (layN f p (cs.take i)))]) (fun i => i ≤ m) (fun i => m - i) 0 (by omega) ⟨rfl, rfl, rfl, rfl, rfl, trivial⟩ (fun w h => h) ?_
  intro i jk hi
  by_cases h0 : (i : Int) < m
  case neg =>
    obtain rfl : i = m := by omega
    rw [List.take_of_length_le (by omega)]
    (repeat (first | ((refine (?_ : MX _ _ _ _ _ _ _ _ _ _ _)); first | refine mx_end ?_ | (refine g_bin rfl ?_; ( (refine mx_cmpl .lss rfl rfl rfl rfl rfl (by exact cmp_lt_f (by omega) ) ?_) ) ) ) | refine cw_seq ?_ | refine cw_line rfl ?_ | refine cw_cond_f rfl ?_ | refine cw_exit ?_ | refine pw_then ?_ | refine pw_then_x ?_ | refine pw_block_e ?_ ))
    exact pw_ret0 rfl rfl fun w h => ⟨rfl, h.keep, h.holds 0 _ rfl⟩
  case pos =>
    obtain ⟨x, hx⟩ := getElem_some (xs := cs) (i := i) (by omega)
    obtain ⟨b4, o4, e, hcc⟩ := inl_at hl hx
    subst e
    have hS : ¬ (row b 31 (cF f)).dom b4 := fun e => hne (by intro e; subst e; simp at hx) b4 o4 rfl e
    have hc0 : w.cell? ⟨b4, o4 + i * 1, none⟩ = some (.int .u8 x) := hcc 0 _ rfl
    have hst := layN_step f p cs hx
    generalize layN f p (cs.take i) = g at *
    have h8 : (p + i) % 8 < 8 := Nat.mod_lt _ (by decide)
    have h64 : (p + i) / 8 < 64 := by omega
    have hsh := shl1 ((p + i) % 8) h8
    (repeat (first | ((refine (?_ : MX _ _ _ _ _ _ _ _ _ _ _)); first | refine mx_end ?_ | (refine mx_mv _ rfl rfl (by conv => {lhs; whnf}) ?_) | (refine mx_as _ rfl rfl (by conv => {lhs; whnf}) ?_) | (refine g_load rfl ?_; refine mx_old1 E rfl rfl rfl rfl rfl (by assumption) (by assumption) rfl ?_ ) | (refine g_bin rfl ?_; first | ( (refine mx_cmpl .lss rfl rfl rfl rfl rfl (by exact cmp_lt_t (by omega) ) ?_) ) | (refine mx_ar rfl rfl rfl rfl rfl rfl (IntWalk.i64_in _ (by omega)) rfl ?_ ) ) | (refine g_ix rfl ?_; refine mx_ixsn E rfl rfl rfl rfl rfl rfl (by omega) rfl ?_ ) ) | refine cw_seq ?_ | refine cw_line rfl ?_ | refine cw_block ?_ | refine cw_cond_t rfl ?_ | refine cw_skip ?_ | refine pw_then ?_ ))
    refine g_cf 78 rfl ?_; refine mx_call rfl rfl rfl Try.func78 rfl rfl rfl _ (fun w => place78 (off + (i : Int)) (p + i) (by omega) (by omega) w) rfl ?_
    unfold lay1 at hst
    by_cases hk : (g.S ((p + i) / 8)).v.k = 0
    case pos =>
      rw [if_pos hk] at hst
      (repeat (first | ((refine (?_ : MX _ _ _ _ _ _ _ _ _ _ _)); first | refine mx_end ?_ | (refine mx_mv _ rfl rfl (by conv => {lhs; whnf}) ?_) | (refine mx_as _ rfl rfl (by conv => {lhs; whnf}) ?_) | (first | refine mx_fa0 E rfl rfl rfl rfl ?_ | refine mx_fa E rfl rfl rfl rfl ?_) | (refine g_load rfl ?_; refine mx_get E rfl rfl rfl rfl rfl (by exact rd_Sk _ (by omega) ) rfl ?_ ) | (refine g_bin rfl ?_; ( (refine mx_cmpl .neq rfl rfl rfl rfl rfl (by exact cmp_ne_f (by omega) ) ?_) ) ) | (refine g_ix rfl ?_; refine mx_ixan E rfl rfl rfl rfl rfl rfl (by omega) rfl ?_ ) | (refine mx_nc rfl rfl rfl ?_) | (refine mx_ex _ rfl rfl rfl (by conv => {lhs; whnf}) ?_) | (refine g_store rfl ?_; refine s_1 E rfl rfl rfl rfl rfl rfl rfl rfl (by exact sp_Sb _ (by omega) (by omega) _ ) rfl ?_) ) | refine cw_seq ?_ | refine cw_line rfl ?_ | refine cw_cond_f rfl ?_ | refine cw_skip ?_ | refine pw_then ?_ ))
      refine cw_drawm [0, 1, 2, 4, 5, 3, 6, 7, 8, 9] (fun i => or (Nat.beq i 3) (Nat.beq i 9)) _ mixed (by kernel_rfl) (fun w h => h.nil) ?_
      (repeat (first | ((refine (?_ : MX _ _ _ _ _ _ _ _ _ _ _)); first | refine mx_end ?_ | (refine mx_mv _ rfl rfl (by conv => {lhs; whnf}) ?_) | ( refine mx_fa E rfl rfl rfl rfl ?_) | (refine g_load rfl ?_; refine mx_geta E rfl rfl rfl rfl rfl rfl (by exact rd_Sa _ (by omega) ) rfl ?_ ) | (refine g_bin rfl ?_; first | (refine mx_ar rfl rfl rfl rfl rfl rfl (IntWalk.i64_in _ (by omega)) rfl ?_ ) | refine mx_bit rfl rfl rfl rfl rfl rfl rfl rfl ?_ | refine mx_sh rfl rfl rfl rfl rfl (by omega) (congrArg some (by assumption)) rfl rfl ?_ ) | (refine mx_nc rfl rfl rfl ?_) | (refine g_store rfl ?_; refine s_1 E rfl rfl rfl rfl rfl rfl rfl rfl (by exact sp_Sa _ (by omega) _ ) rfl ?_) ) | refine cw_line rfl ?_ | refine pw_then ?_ | refine pw_block ?_ ))
      refine pw_round (i + 1) (by omega) (by omega) ⟨rfl, rfl, rfl, rfl, rfl, trivial⟩ (fun w h => ?_)
      rw [setS_at, setS_setS] at h
      rw [← hst]
      exact h
    case neg =>
      rw [if_neg hk] at hst
      (repeat (first | ((refine (?_ : MX _ _ _ _ _ _ _ _ _ _ _)); first | refine mx_end ?_ | (refine mx_mv _ rfl rfl (by conv => {lhs; whnf}) ?_) | (refine mx_as _ rfl rfl (by conv => {lhs; whnf}) ?_) | (first | refine mx_fa0 E rfl rfl rfl rfl ?_ | refine mx_fa E rfl rfl rfl rfl ?_) | (refine g_load rfl ?_; refine mx_get E rfl rfl rfl rfl rfl (by exact rd_Sk _ (by omega) ) rfl ?_ ) | (refine g_bin rfl ?_; ( (refine mx_cmpl .neq rfl rfl rfl rfl rfl (by exact cmp_ne_t (by omega) ) ?_) ) ) | (refine g_ix rfl ?_; refine mx_ixan E rfl rfl rfl rfl rfl rfl (by omega) rfl ?_ ) | (refine mx_nc rfl rfl rfl ?_) | (refine mx_ex _ rfl rfl rfl (by conv => {lhs; whnf}) ?_) | (refine g_store rfl ?_; first | refine s_l E rfl rfl rfl rfl rfl rfl rfl (by exact sp_S _ (by omega) _ ) rfl ?_ | refine s_1 E rfl rfl rfl rfl rfl rfl rfl rfl (by exact sp_Sb _ (by omega) (by omega) _ ) rfl ?_) | (refine g_build rfl ?_; refine mx_build rfl rfl rfl rfl b28_0 rfl ?_ ) ) | refine cw_seq ?_ | refine cw_line rfl ?_ | refine cw_cond_t rfl ?_ | refine pw_then ?_ ))
      refine cw_drawm [0, 1, 2, 4, 5, 3, 6, 7, 8, 9] (fun i => or (Nat.beq i 3) (Nat.beq i 9)) _ mixed (by kernel_rfl) (fun w h => h.nil) ?_
      (repeat (first | ((refine (?_ : MX _ _ _ _ _ _ _ _ _ _ _)); first | refine mx_end ?_ | (refine mx_mv _ rfl rfl (by conv => {lhs; whnf}) ?_) | ( refine mx_fa E rfl rfl rfl rfl ?_) | (refine g_load rfl ?_; refine mx_geta E rfl rfl rfl rfl rfl rfl (by exact rd_Sa _ (by omega) ) rfl ?_ ) | (refine g_bin rfl ?_; first | (refine mx_ar rfl rfl rfl rfl rfl rfl (IntWalk.i64_in _ (by omega)) rfl ?_ ) | refine mx_bit rfl rfl rfl rfl rfl rfl rfl rfl ?_ | refine mx_sh rfl rfl rfl rfl rfl (by omega) (congrArg some (by assumption)) rfl rfl ?_ ) | (refine mx_nc rfl rfl rfl ?_) | (refine g_store rfl ?_; refine s_1 E rfl rfl rfl rfl rfl rfl rfl rfl (by exact sp_Sa _ (by omega) _ ) rfl ?_) ) | refine cw_line rfl ?_ | refine pw_then ?_ | refine pw_block ?_ ))
      refine pw_round (i + 1) (by omega) (by omega) ⟨rfl, rfl, rfl, rfl, rfl, trivial⟩ (fun w h => ?_)
      rw [setS_at, setS_setS, setS_at, setS_setS] at h
      rw [← hst]
      exact h

def hb (a : Int) (k : Nat) : Bool := decide ((a / 2 ^ k) % 2 = 1)
theorem and1 (q : Int) : IntKind.u8.wrap ((BitVec.ofInt IntKind.u8.bits q) &&& (BitVec.ofInt IntKind.u8.bits 1)).toNat = q % 2 := by
  have h1 : ((BitVec.ofInt IntKind.u8.bits q) &&& (BitVec.ofInt IntKind.u8.bits 1)).toNat = (BitVec.ofInt 8 q).toNat % 2 := by
    rw [BitVec.toNat_and]
    have : (BitVec.ofInt IntKind.u8.bits 1).toNat = 2 ^ 1 - 1 := by decide
    rw [this, Nat.and_two_pow_sub_one_eq_mod]
    rfl
  rw [h1, BitVec.toNat_ofInt]
  have h2 : ((q % ((2 ^ 8 : Nat) : Int)).toNat % 2 : Nat) = (q % 2).toNat := by
    have e : (q % 2) = (q % ((2 ^ 8 : Nat) : Int)) % 2 := by omega
    rw [e]
    have : 0 ≤ q % ((2 ^ 8 : Nat) : Int) := Int.emod_nonneg _ (by decide)
    omega
  rw [h2]
  exact (IntWalk.u8_in _ (by omega)).trans (by omega)
theorem shr8 (a : Int) (k : Nat) (hk : k < 8) : a.fdiv (2 ^ (min ((k : Int)).toNat IntKind.u8.bits)) = a / 2 ^ k := by
  have e : min ((k : Int)).toNat IntKind.u8.bits = k := by
    show min ((k : Int)).toNat 8 = k
    omega
  rw [e, Int.fdiv_eq_ediv_of_nonneg _ (Int.le_of_lt (Int.pow_pos (by decide)))]
def rdb (f : Fr) (p : Nat) : Bool := decide ((f.S (p / 8)).v.k = 0) && hb (f.S (p / 8)).a (p % 8)
def bya (f : Fr) (p : Nat) : Int := (f.S (p / 8)).b (p % 8)
/-- n bytes from a place on, where each was written. -/
def gat (f : Fr) (p : Nat) : Nat → Option (List Int)
  | 0 => some []
  | n + 1 => match gat f p n with
    | some l => if rdb f (p + n) = true then some (l ++ [bya f (p + n)]) else none
    | none => none
theorem gat_len {f : Fr} {p : Nat} : ∀ {n : Nat} {l : List Int}, gat f p n = some l → l.length = n
  | 0, l, h => by simp [gat] at h; simp [← h]
  | n + 1, l, h => by
    simp only [gat] at h
    cases hg : gat f p n with
    | none => simp [hg] at h
    | some l' =>
      simp only [hg] at h
      split at h
      · simp at h; subst h; simp [gat_len hg]
      · cases h
theorem gat_some {f : Fr} {p n : Nat} {l : List Int} (h : gat f p n = some l) : ∀ i, i < n → rdb f (p + i) = true ∧ gat f p i = some (l.take i) ∧ l[i]? = some (bya f (p + i)) := by
  induction n generalizing l with
  | zero => intro i hi; omega
  | succ n ih =>
    intro i hi
    have hl := gat_len h
    simp only [gat] at h
    cases hg : gat f p n with
    | none => simp [hg] at h
    | some l' =>
      simp only [hg] at h
      split at h
      · rename_i hr
        simp at h
        have hl' := gat_len hg
        subst h
        by_cases e : i = n
        · subst e
          refine ⟨hr, ?_, ?_⟩
          · rw [List.take_left' hl']; exact hg
          · rw [List.getElem?_append_right (by omega), hl']; simp
        · obtain ⟨h1, h2, h3⟩ := ih hg i (by omega)
          refine ⟨h1, ?_, ?_⟩
          · rw [List.take_append_of_le_length (by omega)]; exact h2
          · rw [List.getElem?_append_left (by omega)]; exact h3
      · cases h
/-- Where it stops. -/
theorem gat_none {f : Fr} {p n : Nat} (h : gat f p n = none) : ∃ j, j < n ∧ (∀ i, i < j → rdb f (p + i) = true) ∧ rdb f (p + j) = false := by
  induction n with
  | zero => simp [gat] at h
  | succ n ih =>
    simp only [gat] at h
    cases hg : gat f p n with
    | none =>
      obtain ⟨j, h1, h2, h3⟩ := ih hg
      exact ⟨j, by omega, h2, h3⟩
    | some l' =>
      simp only [hg] at h
      split at h
      · cases h
      · rename_i hr
        exact ⟨n, by omega, fun i hi => (gat_some hg i hi).1, by simpa using hr⟩
theorem row_ownd {S : Nat → Prop} {w0 w : World} {H : List Res} {b e cap : Nat} {vs : List Value} (hc : vs.length = cap) (hm : cap ≤ maxLen) (h : Ok S w0 (row b e vs :: H) w) : Ok S w0 (ownd (some ⟨b, 0, none⟩) cap e 1 0 [] :: H) w :=
  ok_close (xs := []) (rest := vs) 0 rfl rfl (by simp; omega) (by omega) hm h
/-- A test of a bit, as it comes. -/
theorem bit_eq (a : Int) (k : Nat) (hk : k < 8) : (a / 2 ^ k) % 2 = if hb a k = true then 1 else 0 := by
  unfold hb
  by_cases h : (a / 2 ^ k) % 2 = 1
  · simp [h]
  · have := Int.emod_two_eq (a / 2 ^ k)
    simp [h]
    omega
theorem read67s (b : Nat) (f : Fr) (off : Int) (p n : Nat) (hp : off + 512 = p) (hs : p + n ≤ 512) (cs : List Int) (hg : gat f p n = some cs) (w : World) (h : (row b 31 (cF f)).holds w) :
    Calls Try.prog 67 #[.pointer (some ⟨b, 0, none⟩), .int .i64 off, .int .i64 n] w fun e w' => ∃ a : Option Addr × Nat, e = .returned (.tuple #[.slice a.1 n a.2, .int .i64 0]) ∧ Grow w w' ∧ (ownd a.1 a.2 5 1 n (cs.flatMap cU)).holds w' ∧ ∀ b, (ownd a.1 a.2 5 1 n (cs.flatMap cU)).dom b → b < w'.heap.size ∧ ¬ b < w.heap.size := by
  have hmx : maxLen = 9223372036854775807 := rfl
  have hcl := gat_len hg
  refine enter3 (S := fun _ => False) 59 Try.func67 rfl rfl rfl (Ok.start w) ?_
  have hS0 : ¬ (fun _ : Nat => False) b := id
  (repeat (first | ((refine (?_ : MX _ _ _ _ _ _ _ _ _ _ _)); first | refine mx_end ?_ | (refine mx_mv _ rfl rfl (by conv => {lhs; whnf}) ?_) | (refine mx_as _ rfl rfl (by conv => {lhs; whnf}) ?_) ) | refine cw_seq ?_ | refine cw_line rfl ?_ | refine pw_then ?_ ))
  refine a_make (p := 0) (c := n) E rfl rfl rfl rfl rfl rfl rfl (by omega) (by omega) rfl (fun b2 => ?_)
  refine mx_weak (H' := [ownd (some ⟨b2, 0, none⟩) n 5 1 0 []]) (fun w h => row_ownd (by rw [tab_length (z := 1) (fun _ => rfl)]; omega) (by omega) h) (fun _ _ => trivial) ?_
  (repeat (first | ((refine (?_ : MX _ _ _ _ _ _ _ _ _ _ _)); first | refine mx_end ?_ | (refine mx_mv _ rfl rfl (by conv => {lhs; whnf}) ?_) | (refine mx_as _ rfl rfl (by conv => {lhs; whnf}) ?_) ) | refine cw_seq ?_ | refine cw_line rfl ?_ | refine cw_block ?_ | refine pw_then ?_ ))
  refine cw_loop (ι := Nat × Option Addr × Nat) (fun q => [(9, .int .i64 (off + q.1)), (8, .slice q.2.1 q.1 q.2.2), (0, .pointer (some ⟨b, 0, none⟩)), (1, .int .i64 off), (2, .int .i64 n)]) (fun q => [ownd q.2.1 q.2.2 5 1 q.1 ((cs.take q.1).flatMap cU)]) (fun q => q.1 ≤ n) (fun q => n - q.1) (0, some ⟨b2, 0, none⟩, n) (by simp) ⟨by show Value.int .i64 off = Value.int .i64 (off + ((0 : Nat) : Int)); congr 1; omega, rfl, rfl, rfl, rfl, trivial⟩ (fun w h => h) ?_
  rintro ⟨i, a1, c1⟩ jk hi
  dsimp only at hi ⊢
  by_cases h0 : i < n
  case neg =>
    obtain rfl : i = n := by omega
    rw [List.take_of_length_le (by omega)]
    (repeat (first | ((refine (?_ : MX _ _ _ _ _ _ _ _ _ _ _)); first | refine mx_end ?_ | (refine mx_mv _ rfl rfl (by conv => {lhs; whnf}) ?_) | (refine mx_as _ rfl rfl (by conv => {lhs; whnf}) ?_) | (refine g_bin rfl ?_; first | ( (refine mx_cmpl .lss rfl rfl rfl rfl rfl (by first | exact cmp_lt_f (by omega) | rfl) ?_) ) | (refine mx_ar rfl rfl rfl rfl rfl rfl (IntWalk.i64_in _ (by omega)) rfl ?_ ) ) ) | refine cw_seq ?_ | refine cw_line rfl ?_ | refine cw_cond_f rfl ?_ | refine cw_exit ?_ | refine cw_ret ?_ | refine pw_then ?_ | refine pw_then_x ?_ | refine pw_block_e ?_ ))
    exact pw_rets rfl [_, _] ⟨rfl, rfl, trivial⟩ rfl fun w' hw => ⟨(a1, c1), rfl, hw.keep.grow, hw.holds 0 _ rfl, fun b hb => hw.fresh 0 rfl b hb⟩
  case pos =>
    obtain ⟨g1, g2, g3⟩ := gat_some hg i h0
    unfold rdb at g1
    simp only [Bool.and_eq_true, decide_eq_true_eq] at g1
    have h8 : (p + i) % 8 < 8 := Nat.mod_lt _ (by decide)
    have h64 : (p + i) / 8 < 64 := by omega
    have hsh := shr8 (f.S ((p + i) / 8)).a ((p + i) % 8) h8
    have han : IntKind.u8.wrap ((BitVec.ofInt IntKind.u8.bits ((f.S ((p + i) / 8)).a / 2 ^ ((p + i) % 8))) &&& (BitVec.ofInt IntKind.u8.bits 1)).toNat = 1 := by rw [and1, bit_eq _ _ h8, g1.2]; rfl
    have e1 : cs.take i ++ [bya f (p + i)] = cs.take (i + 1) := by rw [List.take_add_one, g3]; rfl
    (repeat (first | ((refine (?_ : MX _ _ _ _ _ _ _ _ _ _ _)); first | refine mx_end ?_ | (refine mx_mv _ rfl rfl (by conv => {lhs; whnf}) ?_) | (refine g_bin rfl ?_; first | ( (refine mx_cmpl .lss rfl rfl rfl rfl rfl (by first | exact cmp_lt_t (by omega) | rfl) ?_) ) | (refine mx_ar rfl rfl rfl rfl rfl rfl (IntWalk.i64_in _ (by omega)) rfl ?_ ) ) ) | refine cw_seq ?_ | refine cw_line rfl ?_ | refine cw_block ?_ | refine cw_cond_t rfl ?_ | refine cw_skip ?_ | refine pw_then ?_ ))
    refine g_cf 78 rfl ?_; refine mx_call rfl rfl rfl Try.func78 rfl rfl rfl _ (fun w => place78 (off + (i : Int)) (p + i) (by omega) (by omega) w) rfl ?_
    (repeat (first | ((refine (?_ : MX _ _ _ _ _ _ _ _ _ _ _)); first | refine mx_end ?_ | (refine mx_mv _ rfl rfl (by conv => {lhs; whnf}) ?_) | (refine mx_as _ rfl rfl (by conv => {lhs; whnf}) ?_) | (first | refine mx_fa0 E rfl rfl rfl rfl ?_ | refine mx_fa E rfl rfl rfl rfl ?_) | (refine g_load rfl ?_; refine mx_orow E rfl rfl rfl rfl rfl (by assumption) (by assumption) (by first | exact rd_Sk _ (by omega) | exact rd_Sb _ (by omega) (by omega) | exact rd_Sa _ (by omega) ) rfl ?_ ) | (refine g_bin rfl ?_; first | (first | (refine mx_cmpl .eql rfl rfl rfl rfl rfl (by first | exact cmp_eq_t (by omega) | exact cmp_eq_f (by omega) ) ?_) | (refine mx_cmpl .neq rfl rfl rfl rfl rfl (by exact cmp_ne_f (by omega) ) ?_) ) | refine mx_bit rfl rfl rfl rfl rfl (congrArg some (by assumption)) rfl rfl ?_ | refine mx_sh rfl rfl rfl rfl rfl (by omega) (congrArg some (by assumption)) rfl rfl ?_ ) | (refine g_ix rfl ?_; refine mx_ixan E rfl rfl rfl rfl rfl rfl (by omega) rfl ?_ ) | (refine mx_nc rfl rfl rfl ?_) | (refine mx_ex _ rfl rfl rfl (by conv => {lhs; whnf}) ?_) | (refine g_pick rfl ?_; refine mx_or rfl rfl rfl rfl rfl rfl ?_ ) | (refine g_bs rfl ?_; refine a_bsi E rfl rfl rfl rfl rfl (by (repeat (first | exact EvI.nil | (apply EvI.cons; rfl)))) (by rfl) (by rfl) (by rfl) rfl (fun _ => ?_)) ) | refine cw_seq ?_ | refine cw_line rfl ?_ | refine cw_cond_f rfl ?_ | refine cw_skip ?_ | refine pw_then ?_ ))
    refine g_bi .append rfl ?_
    refine a_app E rfl rfl rfl rfl rfl rfl rfl rfl [.int .u8 (bya f (p + i))] rfl (fun w hw => one_src (hw.holds 0 _ rfl)) rfl (by omega) rfl (fun _ _ _ _ => trivial) (fun a2 c2 => ?_)
    rw [app_flat, e1]
    (repeat (first | ((refine (?_ : MX _ _ _ _ _ _ _ _ _ _ _)); first | refine mx_end ?_ | (refine mx_mv _ rfl rfl (by conv => {lhs; whnf}) ?_) | (refine mx_as _ rfl rfl (by conv => {lhs; whnf}) ?_) | (refine g_bin rfl ?_; (refine mx_ar rfl rfl rfl rfl rfl rfl (IntWalk.i64_in _ (by omega)) rfl ?_ ) ) ) | refine cw_line rfl ?_ | refine pw_then ?_ | refine pw_block ?_ ))
    refine pw_round (i + 1, a2, c2) (by show i + 1 ≤ n; omega) (by show n - (i + 1) < n - i; omega) ⟨by show Value.int .i64 (off + (i : Int) + 1) = Value.int .i64 (off + ((i + 1 : Nat) : Int)); congr 1; omega, rfl, rfl, rfl, rfl, trivial⟩ (fun w h => h.only 1 rfl)
theorem read67n (b : Nat) (f : Fr) (off : Int) (p n : Nat) (hp : off + 512 = p) (hs : p + n ≤ 512) (hg : gat f p n = none) (w : World) (h : (row b 31 (cF f)).holds w) :
    Calls Try.prog 67 #[.pointer (some ⟨b, 0, none⟩), .int .i64 off, .int .i64 n] w fun e w' => e = .returned (.tuple #[.slice none 0 0, .int .i64 26]) ∧ Grow w w' := by
  have hmx : maxLen = 9223372036854775807 := rfl
  obtain ⟨j, hj, hj1, hj2⟩ := gat_none hg
  refine enter3 (S := fun _ => False) 59 Try.func67 rfl rfl rfl (Ok.start w) ?_
  have hS0 : ¬ (fun _ : Nat => False) b := id
  (repeat (first | ((refine (?_ : MX _ _ _ _ _ _ _ _ _ _ _)); first | refine mx_end ?_ | (refine mx_mv _ rfl rfl (by conv => {lhs; whnf}) ?_) | (refine mx_as _ rfl rfl (by conv => {lhs; whnf}) ?_) ) | refine cw_seq ?_ | refine cw_line rfl ?_ | refine pw_then ?_ ))
  refine a_make (p := 0) (c := n) E rfl rfl rfl rfl rfl rfl rfl (by omega) (by omega) rfl (fun b2 => ?_)
  refine mx_weak (H' := [ownd (some ⟨b2, 0, none⟩) n 5 1 0 []]) (fun w h => row_ownd (by rw [tab_length (z := 1) (fun _ => rfl)]; omega) (by omega) h) (fun _ _ => trivial) ?_
  (repeat (first | ((refine (?_ : MX _ _ _ _ _ _ _ _ _ _ _)); first | refine mx_end ?_ | (refine mx_mv _ rfl rfl (by conv => {lhs; whnf}) ?_) | (refine mx_as _ rfl rfl (by conv => {lhs; whnf}) ?_) ) | refine cw_seq ?_ | refine cw_line rfl ?_ | refine cw_block ?_ | refine pw_then ?_ ))
  refine cw_loop (ι := Nat × Option Addr × Nat × List Value) (fun q => [(9, .int .i64 (off + q.1)), (8, .slice q.2.1 q.1 q.2.2.1), (0, .pointer (some ⟨b, 0, none⟩)), (1, .int .i64 off), (2, .int .i64 n)]) (fun q => [ownd q.2.1 q.2.2.1 5 1 q.1 q.2.2.2]) (fun q => q.1 ≤ j) (fun q => j - q.1) (0, some ⟨b2, 0, none⟩, n, []) (by simp) ⟨by show Value.int .i64 off = Value.int .i64 (off + ((0 : Nat) : Int)); congr 1; omega, rfl, rfl, rfl, rfl, trivial⟩ (fun w h => h) ?_
  rintro ⟨i, a1, c1, xs⟩ jk hi
  dsimp only at hi ⊢
  have h8 : (p + i) % 8 < 8 := Nat.mod_lt _ (by decide)
  have h64 : (p + i) / 8 < 64 := by omega
  have hsh := shr8 (f.S ((p + i) / 8)).a ((p + i) % 8) h8
  by_cases h0 : i < j
  case neg =>
    obtain rfl : i = j := by omega
    unfold rdb at hj2
    (repeat (first | ((refine (?_ : MX _ _ _ _ _ _ _ _ _ _ _)); first | refine mx_end ?_ | (refine mx_mv _ rfl rfl (by conv => {lhs; whnf}) ?_) | (refine g_bin rfl ?_; first | ( (refine mx_cmpl .lss rfl rfl rfl rfl rfl (by first | exact cmp_lt_t (by omega) | rfl) ?_) ) | (refine mx_ar rfl rfl rfl rfl rfl rfl (IntWalk.i64_in _ (by omega)) rfl ?_ ) ) ) | refine cw_seq ?_ | refine cw_line rfl ?_ | refine cw_block ?_ | refine cw_cond_t rfl ?_ | refine cw_skip ?_ | refine pw_then ?_ ))
    refine g_cf 78 rfl ?_; refine mx_call rfl rfl rfl Try.func78 rfl rfl rfl _ (fun w => place78 (off + (i : Int)) (p + i) (by omega) (by omega) w) rfl ?_
    by_cases hk : (f.S ((p + i) / 8)).v.k = 0
    case pos =>
      have hb0 : hb (f.S ((p + i) / 8)).a ((p + i) % 8) = false := by simpa [hk] using hj2
      have han : IntKind.u8.wrap ((BitVec.ofInt IntKind.u8.bits ((f.S ((p + i) / 8)).a / 2 ^ ((p + i) % 8))) &&& (BitVec.ofInt IntKind.u8.bits 1)).toNat = 0 := by rw [and1, bit_eq _ _ h8, hb0]; rfl
      (repeat (first | ((refine (?_ : MX _ _ _ _ _ _ _ _ _ _ _)); first | refine mx_end ?_ | (refine mx_mv _ rfl rfl (by conv => {lhs; whnf}) ?_) | (refine mx_as _ rfl rfl (by conv => {lhs; whnf}) ?_) | (first | refine mx_fa0 E rfl rfl rfl rfl ?_ | refine mx_fa E rfl rfl rfl rfl ?_) | (refine g_load rfl ?_; refine mx_orow E rfl rfl rfl rfl rfl (by assumption) (by assumption) (by first | exact rd_Sk _ (by omega) | exact rd_Sa _ (by omega) ) rfl ?_ ) | (refine g_bin rfl ?_; first | (first | (refine mx_cmpl .eql rfl rfl rfl rfl rfl (by exact cmp_eq_t (by omega) ) ?_) | (refine mx_cmpl .neq rfl rfl rfl rfl rfl (by exact cmp_ne_f (by omega) ) ?_) ) | refine mx_bit rfl rfl rfl rfl rfl (congrArg some (by assumption)) rfl rfl ?_ | refine mx_sh rfl rfl rfl rfl rfl (by omega) (congrArg some (by assumption)) rfl rfl ?_ ) | (refine g_ix rfl ?_; refine mx_ixan E rfl rfl rfl rfl rfl rfl (by omega) rfl ?_ ) | (refine mx_nc rfl rfl rfl ?_) | (refine mx_ex _ rfl rfl rfl (by conv => {lhs; whnf}) ?_) | (refine g_pick rfl ?_; refine mx_or rfl rfl rfl rfl rfl rfl ?_ ) ) | refine cw_seq ?_ | refine cw_line rfl ?_ | refine cw_cond_t rfl ?_ | refine cw_ret ?_ | refine pw_then ?_ | refine pw_then_r ?_ | refine pw_block_r ?_))
      exact pw_rets rfl [_, _] ⟨rfl, rfl, trivial⟩ rfl fun w' hw => ⟨rfl, hw.keep.grow⟩
    case neg =>
      (repeat (first | ((refine (?_ : MX _ _ _ _ _ _ _ _ _ _ _)); first | refine mx_end ?_ | (refine mx_mv _ rfl rfl (by conv => {lhs; whnf}) ?_) | (refine mx_as _ rfl rfl (by conv => {lhs; whnf}) ?_) | (first | refine mx_fa0 E rfl rfl rfl rfl ?_ | refine mx_fa E rfl rfl rfl rfl ?_) | (refine g_load rfl ?_; refine mx_orow E rfl rfl rfl rfl rfl (by assumption) (by assumption) (by first | exact rd_prog _ | exact rd_Sk _ (by omega) ) rfl ?_ ) | (refine g_bin rfl ?_; ( (refine mx_cmpl .neq rfl rfl rfl rfl rfl (by exact cmp_ne_t (by omega) ) ?_) ) ) | (refine g_ix rfl ?_; refine mx_ixan E rfl rfl rfl rfl rfl rfl (by omega) rfl ?_ ) | (refine mx_nc rfl rfl rfl ?_) | (refine mx_ex _ rfl rfl rfl (by conv => {lhs; whnf}) ?_) | (refine mx_skip rfl rfl rfl ?_) | (refine g_pick rfl ?_; refine mx_ort rfl rfl rfl rfl rfl ?_ ) ) | refine cw_seq ?_ | refine cw_line rfl ?_ | refine cw_cond_t rfl ?_ | refine cw_ret ?_ | refine pw_then ?_ | refine pw_then_r ?_ | refine pw_block_r ?_))
      exact pw_rets rfl [_, _] ⟨rfl, rfl, trivial⟩ rfl fun w' hw => ⟨rfl, hw.keep.grow⟩
  case pos =>
    have g1 := hj1 i h0
    unfold rdb at g1
    simp only [Bool.and_eq_true, decide_eq_true_eq] at g1
    have han : IntKind.u8.wrap ((BitVec.ofInt IntKind.u8.bits ((f.S ((p + i) / 8)).a / 2 ^ ((p + i) % 8))) &&& (BitVec.ofInt IntKind.u8.bits 1)).toNat = 1 := by rw [and1, bit_eq _ _ h8, g1.2]; rfl
    (repeat (first | ((refine (?_ : MX _ _ _ _ _ _ _ _ _ _ _)); first | refine mx_end ?_ | (refine mx_mv _ rfl rfl (by conv => {lhs; whnf}) ?_) | (refine g_bin rfl ?_; first | ( (refine mx_cmpl .lss rfl rfl rfl rfl rfl (by first | exact cmp_lt_t (by omega) | rfl) ?_) ) | (refine mx_ar rfl rfl rfl rfl rfl rfl (IntWalk.i64_in _ (by omega)) rfl ?_ ) ) ) | refine cw_seq ?_ | refine cw_line rfl ?_ | refine cw_block ?_ | refine cw_cond_t rfl ?_ | refine cw_skip ?_ | refine pw_then ?_ ))
    refine g_cf 78 rfl ?_; refine mx_call rfl rfl rfl Try.func78 rfl rfl rfl _ (fun w => place78 (off + (i : Int)) (p + i) (by omega) (by omega) w) rfl ?_
    (repeat (first | ((refine (?_ : MX _ _ _ _ _ _ _ _ _ _ _)); first | refine mx_end ?_ | (refine mx_mv _ rfl rfl (by conv => {lhs; whnf}) ?_) | (refine mx_as _ rfl rfl (by conv => {lhs; whnf}) ?_) | (first | refine mx_fa0 E rfl rfl rfl rfl ?_ | refine mx_fa E rfl rfl rfl rfl ?_) | (refine g_load rfl ?_; refine mx_orow E rfl rfl rfl rfl rfl (by assumption) (by assumption) (by first | exact rd_Sk _ (by omega) | exact rd_Sb _ (by omega) (by omega) | exact rd_Sa _ (by omega) ) rfl ?_ ) | (refine g_bin rfl ?_; first | (first | (refine mx_cmpl .eql rfl rfl rfl rfl rfl (by first | exact cmp_eq_t (by omega) | exact cmp_eq_f (by omega) ) ?_) | (refine mx_cmpl .neq rfl rfl rfl rfl rfl (by exact cmp_ne_f (by omega) ) ?_) ) | refine mx_bit rfl rfl rfl rfl rfl (congrArg some (by assumption)) rfl rfl ?_ | refine mx_sh rfl rfl rfl rfl rfl (by omega) (congrArg some (by assumption)) rfl rfl ?_ ) | (refine g_ix rfl ?_; refine mx_ixan E rfl rfl rfl rfl rfl rfl (by omega) rfl ?_ ) | (refine mx_nc rfl rfl rfl ?_) | (refine mx_ex _ rfl rfl rfl (by conv => {lhs; whnf}) ?_) | (refine g_pick rfl ?_; refine mx_or rfl rfl rfl rfl rfl rfl ?_ ) | (refine g_bs rfl ?_; refine a_bsi E rfl rfl rfl rfl rfl (by (repeat (first | exact EvI.nil | (apply EvI.cons; rfl)))) (by rfl) (by rfl) (by rfl) rfl (fun _ => ?_)) ) | refine cw_seq ?_ | refine cw_line rfl ?_ | refine cw_cond_f rfl ?_ | refine cw_skip ?_ | refine pw_then ?_ ))
    refine g_bi .append rfl ?_
    refine a_app E rfl rfl rfl rfl rfl rfl rfl rfl [.int .u8 (bya f (p + i))] rfl (fun w hw => one_src (hw.holds 0 _ rfl)) rfl (by omega) rfl (fun _ _ _ _ => trivial) (fun a2 c2 => ?_)
    (repeat (first | ((refine (?_ : MX _ _ _ _ _ _ _ _ _ _ _)); first | refine mx_end ?_ | (refine mx_mv _ rfl rfl (by conv => {lhs; whnf}) ?_) | (refine mx_as _ rfl rfl (by conv => {lhs; whnf}) ?_) | (refine g_bin rfl ?_; (refine mx_ar rfl rfl rfl rfl rfl rfl (IntWalk.i64_in _ (by omega)) rfl ?_ ) ) ) | refine cw_line rfl ?_ | refine pw_then ?_ | refine pw_block ?_ ))
    refine pw_round (i + 1, a2, c2, xs ++ [.int .u8 (bya f (p + i))]) (by show i + 1 ≤ j; omega) (by show j - (i + 1) < j - i; omega) ⟨by show Value.int .i64 (off + (i : Int) + 1) = Value.int .i64 (off + ((i + 1 : Nat) : Int)); congr 1; omega, rfl, rfl, rfl, rfl, trivial⟩ (fun w h => h.only 1 rfl)
end Go.Proofs.Ytdimcafdmaidpaa
