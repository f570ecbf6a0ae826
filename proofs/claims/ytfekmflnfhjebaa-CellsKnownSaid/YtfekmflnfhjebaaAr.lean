/- Maps by places over the program's cells: made, asked; walked once each. -/
import Derived.Test.YtfekmflnfhjebaaCg
set_option maxRecDepth 100000
set_option maxHeartbeats 8000000
set_option linter.unusedSimpArgs false
set_option linter.unusedVariables false
namespace Go.Proofs.Ytfekmflnfhjebaa
open Go Go.Sx Go.RowKit
theorem b85 (ad : Option Addr) (len cap : Nat) : Blt Try.prog 85 [(0, .slice ad len cap)] [.slice ad len cap] := ⟨by kernel_rfl⟩
instance : ZeroT Try.prog 3 [.int .i64 0] := ⟨by kernel_rfl⟩
instance : ZeroT Try.prog 5 [.int .u8 0] := ⟨by kernel_rfl⟩
def AV (L n : Nat) : List Value := (List.range n).map fun j => .int .i64 ((L + j + 1 : Nat) : Int)
def arV (L n i : Nat) : List Value := AV L i ++ List.replicate (n - i) (.int .i64 0)
theorem AV_len (L n : Nat) : (AV L n).length = n := by simp [AV]
theorem AV_s (L n : Nat) : AV L (n + 1) = AV L n ++ [.int .i64 ((L + n + 1 : Nat) : Int)] := by simp [AV, List.range_succ]
theorem AV_at {L n i : Nat} (h : i < n) : (AV L n)[i]? = some (.int .i64 ((L + i + 1 : Nat) : Int)) := by simp [AV, h]
theorem arV_all (L n : Nat) : arV L n n = AV L n := by simp [arV]
theorem sp_av {L n i : Nat} (h : i < n) : Sp (arV L n i) (0 + i * 1) [.int .i64 ((L + i + 1 : Nat) : Int)] (arV L n (i + 1)) := by
  unfold arV
  rw [AV_s, List.append_assoc, show n - i = (n - (i + 1)) + 1 by omega, List.replicate_succ]
  have := Sp.right (AV L i) (sp0 (a := Value.int .i64 0) (v := .int .i64 ((L + i + 1 : Nat) : Int)) (l := List.replicate (n - (i + 1)) (Value.int .i64 0)))
  rw [AV_len] at this
  rw [show 0 + i * 1 = i + 0 by omega]
  exact this
theorem tab_rep (v : Value) : ∀ n : Nat, tab n (fun _ => [v]) = List.replicate n v := by
  intro n
  induction n with
  | zero => rfl
  | succ n ih => rw [tab_succ, ih, ← List.replicate_succ']
theorem rep_U (n : Nat) : (List.replicate n (0 : Int)).flatMap cU = List.replicate n (.int .u8 0) := by
  induction n with
  | zero => rfl
  | succ n ih => rw [List.replicate_succ, List.flatMap_cons, ih]; rfl
@[reducible] def nPC (n : Nat) (a : Nat × Option Addr × Nat) (bs : List Int) : PC := ⟨(n : Int), a.1, a.2.1, a.2.2, bs, 0, Bt.o, false⟩
theorem make45n (bx r L : Nat) (cs : List PC) (ad : Option Addr) (m cap : Nat) (xs : List Int) (hm : xs.length = m) (hmc : m ≤ cap) (hs : m ≤ 1000000000) (hl1 : L ≤ 100000) (hn : ∀ c ∈ cs, c.id ≠ ((L + 1 : Nat) : Int)) (w : World) (h0 : Ok (domL (OC bx r L cs)) w (OC bx r L cs) w) (hl : InL w ad 1 cU xs) (hne : xs ≠ [] → ∀ b off, ad = some ⟨b, off, none⟩ → ¬ domL (OC bx r L cs) b) :
    Calls Try.prog 45 #[.pointer (some ⟨bx, 0, none⟩), .slice ad m cap] w fun e w' => ∃ a : Nat × Option Addr × Nat, e = .returned (.int .i64 ((L + 1 : Nat) : Int)) ∧ Ok (domL (OC bx r L cs)) w (OC bx r ((L + 1 : Nat) : Int) (cs ++ [⟨((L + 1 : Nat) : Int), a.1, a.2.1, a.2.2, xs.take 64, 0, Bt.o, false⟩])) w' :=
  make45 bx r L cs ad m cap xs hm hmc hs (by omega) (by omega) hn w h0 hl hne
/-- New cells, of noughts. -/
def NC (L K i : Nat) (nc : List PC) : Prop := nc.length = i ∧ ∀ j c, nc[j]? = some c → c.id = ((L + j + 1 : Nat) : Int) ∧ c.bs = List.replicate K 0 ∧ c.dr = false ∧ c.wr = 0 ∧ c.bt = Bt.o
theorem NC.app {L K i : Nat} {nc : List PC} (h : NC L K i nc) {c : PC} (h1 : c.id = ((L + i + 1 : Nat) : Int)) (h2 : c.bs = List.replicate K 0) (h3 : c.dr = false) (h4 : c.wr = 0) (h5 : c.bt = Bt.o) : NC L K (i + 1) (nc ++ [c]) := by
  refine ⟨by simp [h.1], fun j c' hj => ?_⟩
  by_cases hjl : j < nc.length
  · rw [List.getElem?_append_left hjl] at hj
    exact h.2 j c' hj
  · rw [List.getElem?_append_right (by omega)] at hj
    have hj0 : j - nc.length = 0 := by
      have := (List.getElem?_eq_some_iff.1 hj).1
      simp at this
      omega
    rw [hj0] at hj
    obtain rfl : c = c' := by simpa using hj
    obtain rfl : j = i := by have := h.1; omega
    exact ⟨h1, h2, h3, h4, h5⟩
def OA (ax ab L n : Nat) : List Res := [row ax 85 [.slice (some ⟨ab, 0, none⟩) n n], row ab 3 (AV L n)]
theorem new29 (bx r L : Nat) (cs : List PC) (most size : Int) (N K : Nat) (hN : max 1 (min most 64) = (N : Int)) (hK : max 1 (min size 64) = (K : Int)) (hL : L ≤ 10000) (hid : ∀ c ∈ cs, c.id ≤ L) (w : World) (h0 : Ok (domL (OC bx r L cs)) w (OC bx r L cs) w) :
    Calls Try.prog 29 #[.pointer (some ⟨bx, 0, none⟩), .int .i64 most, .int .i64 size] w fun e w' => ∃ a : (Nat × Nat) × {nc : List PC // NC L K N nc}, e = .returned (.pointer (some ⟨a.1.1, 0, none⟩)) ∧ Ok (domL (OC bx r L cs)) w (OA a.1.1 a.1.2 L N ++ OC bx r ((L + N : Nat) : Int) (cs ++ a.2.1)) w' := by
  refine enter3 (S := domL (OC bx r L cs)) (H := OC bx r L cs) 39 Try.func29 rfl rfl rfl h0 ?_
  have hN64 : N ≤ 64 := by omega
  have hK64 : K ≤ 64 := by omega
  (repeat (first | ((refine (?_ : MX _ _ _ _ _ _ _ _ _ _ _)); first | refine mx_end ?_ | (refine mx_mv _ rfl rfl (by conv => {lhs; whnf}) ?_) | (refine mx_as _ rfl rfl (by conv => {lhs; whnf}) ?_) | (first | (refine g_bi .max rfl ?_; refine mx_maxi rfl rfl rfl rfl rfl (by with_reducible assumption) rfl ?_) | (refine g_bi .min rfl ?_; refine mx_mini rfl rfl rfl rfl rfl rfl rfl ?_)) ) | refine cw_seq ?_ | refine cw_line rfl ?_ | refine pw_then ?_ ))
  refine a_make E rfl rfl rfl rfl rfl rfl rfl (by omega) (by omega) rfl (fun ab => ?_)
  (repeat (first | ((refine (?_ : MX _ _ _ _ _ _ _ _ _ _ _)); first | refine mx_end ?_ | (refine mx_mv _ rfl rfl (by conv => {lhs; whnf}) ?_) | (refine mx_as _ rfl rfl (by conv => {lhs; whnf}) ?_) | (refine g_build rfl ?_; refine mx_build rfl rfl rfl rfl (b85 _ _ _) rfl ?_) | (refine g_box rfl ?_; refine a_boxl rfl rfl rfl rfl rfl rfl (fun _ => ?_) ) | (first | (refine g_bi .max rfl ?_; refine mx_maxi rfl rfl rfl rfl rfl (by with_reducible assumption) rfl ?_) | (refine g_bi .min rfl ?_; refine mx_mini rfl rfl rfl rfl rfl rfl rfl ?_)) ) | refine cw_seq ?_ | refine cw_line rfl ?_ | refine pw_then ?_ ))
  rename_i ax
  refine a_make E rfl rfl rfl rfl rfl rfl rfl (by omega) (by omega) rfl (fun nb => ?_)
  (repeat (first | ((refine (?_ : MX _ _ _ _ _ _ _ _ _ _ _)); first | refine mx_end ?_ | (refine mx_mv _ rfl rfl (by conv => {lhs; whnf}) ?_) | (refine mx_as _ rfl rfl (by conv => {lhs; whnf}) ?_) | (refine mx_fa0 E rfl rfl rfl rfl ?_ ) | (refine g_load rfl ?_; refine mx_get E rfl rfl rfl rfl rfl (by rfl) rfl ?_ ) | (refine mx_nc rfl rfl rfl ?_) | (refine g_bi .len rfl ?_; refine mx_len E rfl rfl rfl rfl ?_) ) | refine cw_seq ?_ | refine cw_line rfl ?_ | refine cw_block ?_ | refine pw_then ?_ ))
  refine cw_weak (H' := [row nb 5 ((List.replicate K (0 : Int)).flatMap cU), row ax 85 [.slice (some ⟨ab, 0, none⟩) N N], row ab 3 (arV L N 0), star (OC bx r ((L + 0 : Nat) : Int) (cs ++ []))]) (fun w h => by
    rw [rep_U, ← tab_rep]
    have e : arV L N 0 = tab N (fun _ => [.int .i64 0]) := by rw [tab_rep]; simp [arV, AV]
    rw [e, List.append_nil]
    have h1 : Ok _ _ (OC bx r L cs ++ [row nb 5 (tab K fun _ => [.int .u8 0]), row ax 85 [.slice (some ⟨ab, 0, none⟩) N N], row ab 3 (tab N fun _ => [.int .i64 0])]) w := h.pick [3, 4, 5, 0, 1, 2] (by simp) rfl
    exact (Ok.star h1).pick [1, 2, 3, 0] (by simp) rfl) ?_
  refine cw_loop (ι := Nat × List PC) (fun p => [(25, .int .i64 p.1), (24, .int .i64 N), (8, .slice (some ⟨nb, 0, none⟩) K K), (7, .pointer (some ⟨ax, 0, none⟩)), (0, .pointer (some ⟨bx, 0, none⟩))]) (fun p => [row nb 5 ((List.replicate K (0 : Int)).flatMap cU), row ax 85 [.slice (some ⟨ab, 0, none⟩) N N], row ab 3 (arV L N p.1), star (OC bx r ((L + p.1 : Nat) : Int) (cs ++ p.2))]) (fun p => p.1 ≤ N ∧ NC L K p.1 p.2) (fun p => N - p.1) (0, []) ⟨by show 0 ≤ N; omega, rfl, fun j c hj => by simp at hj⟩ ⟨rfl, rfl, rfl, rfl, rfl, trivial⟩ (fun w h => h) ?_
  rintro ⟨i, nc⟩ jk ⟨hi, hnc⟩
  dsimp only at hi hnc ⊢
  by_cases hiN : (i : Int) < N
  case neg =>
    obtain rfl : i = N := by omega
    (repeat (first | ((refine (?_ : MX _ _ _ _ _ _ _ _ _ _ _)); first | refine mx_end ?_ | (refine mx_mv _ rfl rfl (by conv => {lhs; whnf}) ?_) | (refine mx_as _ rfl rfl (by conv => {lhs; whnf}) ?_) | (refine g_bin rfl ?_; ( (refine mx_cmpl .lss rfl rfl rfl rfl rfl (by exact cmp_lt_f (by omega) ) ?_) ) ) ) | refine cw_seq ?_ | refine cw_line rfl ?_ | refine cw_cond_f rfl ?_ | refine cw_exit ?_ | refine cw_ret ?_ | refine pw_then ?_ | refine pw_then_x ?_ | refine pw_block_e ?_ ))
    refine pw_ret rfl rfl rfl rfl fun w' hw => ⟨((ax, ab), ⟨nc, hnc⟩), rfl, ?_⟩
    have h1 : Ok _ _ (star (OC bx r ((L + i : Nat) : Int) (cs ++ nc)) :: [row ax 85 [.slice (some ⟨ab, 0, none⟩) i i], row ab 3 (arV L i i)]) w' := hw.pick [3, 1, 2] (by simp) rfl
    rw [arV_all] at h1
    exact (Ok.unstar h1).pick [3, 4, 0, 1, 2] (by simp) rfl
  case pos =>
    have hiN2 : i < N := by omega
    (repeat (first | ((refine (?_ : MX _ _ _ _ _ _ _ _ _ _ _)); first | refine mx_end ?_ | (refine mx_mv _ rfl rfl (by conv => {lhs; whnf}) ?_) | (refine mx_as _ rfl rfl (by conv => {lhs; whnf}) ?_) | (refine g_bin rfl ?_; ( (refine mx_cmpl .lss rfl rfl rfl rfl rfl (by exact cmp_lt_t (by omega) ) ?_) ) ) ) | refine cw_seq ?_ | refine cw_line rfl ?_ | refine cw_block ?_ | refine cw_cond_t rfl ?_ | refine cw_skip ?_ | refine pw_then ?_ ))
    refine cw_drawm [0, 1, 2, 3, 4, 5, 6, 7, 8, 9] (fun i => or (Nat.beq i 7) (Nat.beq i 9)) [row ax 85 [.slice (some ⟨ab, 0, none⟩) N N]] mixed (by kernel_rfl) (fun w h => h.only 1 rfl) ?_
    (repeat (((refine (?_ : MX _ _ _ _ _ _ _ _ _ _ _)); first | (refine mx_mv _ rfl rfl (by conv => {lhs; whnf}) ?_) | (refine mx_fa0 E rfl rfl rfl rfl ?_ ) | (refine g_load rfl ?_; refine mx_get E rfl rfl rfl rfl rfl (by rfl) rfl ?_ ) | (refine mx_nc rfl rfl rfl ?_) ) ))
    refine g_cf 45 rfl ?_
    refine a_callo rfl rfl rfl rfl Try.func45 rfl rfl rfl 3 rfl (fun a : Nat × Option Addr × Nat => .int .i64 ((L + i + 1 : Nat) : Int)) (fun a => []) (fun a => OC bx r ((L + i + 1 : Nat) : Int) ((cs ++ nc) ++ [nPC (L + i + 1) a (List.replicate K 0)])) (fun w' hw h => by
      have h45 := make45n bx r (L + i) (cs ++ nc) (some ⟨nb, 0, none⟩) K K (List.replicate K 0) (by simp) (by omega) (by omega) (by omega) (fun c hc => by
        rcases List.mem_append.1 hc with hc | hc
        · have := hid c hc
          omega
        · obtain ⟨j, hj⟩ := List.mem_iff_getElem?.1 hc
          have h1 := (hnc.2 j c hj).1
          have h2 := (List.getElem?_eq_some_iff.1 hj).1
          have h3 := hnc.1
          omega) w' h (row_in len_U (hw.holds 0 _ rfl)) (row_new hw 0 3 rfl rfl (by decide))
      rw [List.take_of_length_le (by simp; omega)] at h45
      exact h45) (fun _ => rfl) (fun a w h => h.only 1 rfl) (fun a => ?_)
    refine mx_weak (H' := [row nb 5 ((List.replicate K (0 : Int)).flatMap cU), row ax 85 [.slice (some ⟨ab, 0, none⟩) N N], row ab 3 (arV L N i), star (OC bx r ((L + i + 1 : Nat) : Int) ((cs ++ nc) ++ [nPC (L + i + 1) a (List.replicate K 0)]))]) (fun w h => h) (fun w h => h.only 1 rfl) ?_
    (repeat (first | ((refine (?_ : MX _ _ _ _ _ _ _ _ _ _ _)); first | refine mx_end ?_ | (refine mx_mv _ rfl rfl (by conv => {lhs; whnf}) ?_) | (refine g_bin rfl ?_; (refine mx_ar rfl rfl rfl rfl rfl rfl (IntWalk.i64_in _ (by omega)) rfl ?_ ) ) | (refine g_ix rfl ?_; refine mx_ixsn E rfl rfl rfl rfl rfl rfl (by omega) rfl ?_ ) | (refine g_store rfl ?_; refine s_1 E rfl rfl rfl rfl rfl rfl rfl rfl (by exact sp_av (by omega) ) rfl ?_) ) | refine cw_line rfl ?_ | refine pw_then ?_ | refine pw_block ?_ ))
    refine pw_round (i + 1, nc ++ [nPC (L + i + 1) a (List.replicate K 0)]) ⟨hiN2, hnc.app rfl rfl rfl rfl rfl⟩ (by show N - (i + 1) < N - i; omega) ⟨rfl, rfl, rfl, rfl, rfl, trivial⟩ (fun w h => ?_)
    rw [← List.append_assoc]
    exact h
theorem len31 (ax ab L n : Nat) (w : World) (h1 : (row ax 85 [.slice (some ⟨ab, 0, none⟩) n n]).holds w) : Calls Try.prog 31 #[.pointer (some ⟨ax, 0, none⟩)] w fun e w' => e = .returned (.int .i64 n) ∧ Grow w w' := by
  refine enter1 (S := fun _ => False) 8 Try.func31 rfl rfl rfl (Ok.start w) ?_
  have hS : ¬ (fun _ : Nat => False) ax := id
  (repeat (first | ((refine (?_ : MX _ _ _ _ _ _ _ _ _ _ _)); first | refine mx_end ?_ | (refine mx_mv _ rfl rfl (by conv => {lhs; whnf}) ?_) | (refine mx_as _ rfl rfl (by conv => {lhs; whnf}) ?_) | (refine mx_fa0 E rfl rfl rfl rfl ?_ ) | (refine g_load rfl ?_; refine mx_orow E rfl rfl rfl rfl rfl (by assumption) (by assumption) (by rfl) rfl ?_ ) | (refine mx_nc rfl rfl rfl ?_) | (refine g_bi .len rfl ?_; refine mx_len E rfl rfl rfl rfl ?_) ) | refine cw_seq ?_ | refine cw_line rfl ?_ | refine cw_ret ?_ | refine pw_then ?_ ))
  exact pw_ret rfl rfl rfl rfl fun w hw => ⟨rfl, hw.keep.grow⟩
theorem cell35n (ax ab L n : Nat) (k : Int) (hk : k < 0 ∨ (n : Int) ≤ k) (w : World) (h1 : (row ax 85 [.slice (some ⟨ab, 0, none⟩) n n]).holds w) : Calls Try.prog 35 #[.pointer (some ⟨ax, 0, none⟩), .int .i64 k] w fun e w' => e = .returned (.tuple #[.int .i64 0, .bool false]) ∧ Grow w w' := by
  refine enter2 (S := fun _ => False) 24 Try.func35 rfl rfl rfl (Ok.start w) ?_
  have hS : ¬ (fun _ : Nat => False) ax := id
  by_cases hk0 : k < 0
  · (repeat (first | ((refine (?_ : MX _ _ _ _ _ _ _ _ _ _ _)); first | refine mx_end ?_ | (refine mx_mv _ rfl rfl (by conv => {lhs; whnf}) ?_) | (refine mx_as _ rfl rfl (by conv => {lhs; whnf}) ?_) | (refine g_bin rfl ?_; ( (refine mx_cmpl .lss rfl rfl rfl rfl rfl (by exact cmp_lt_t (by omega) ) ?_) ) ) | (refine mx_skip rfl rfl rfl ?_) | (refine g_pick rfl ?_; refine mx_ort rfl rfl rfl rfl rfl ?_ ) ) | refine cw_seq ?_ | refine cw_line rfl ?_ | refine cw_cond_t rfl ?_ | refine cw_ret ?_ | refine pw_then ?_ | refine pw_then_r ?_ ))
    exact pw_rets rfl [_, _] ⟨rfl, rfl, trivial⟩ rfl fun w hw => ⟨rfl, hw.keep.grow⟩
  · (repeat (first | ((refine (?_ : MX _ _ _ _ _ _ _ _ _ _ _)); first | refine mx_end ?_ | (refine mx_mv _ rfl rfl (by conv => {lhs; whnf}) ?_) | (refine mx_as _ rfl rfl (by conv => {lhs; whnf}) ?_) | (refine mx_fa0 E rfl rfl rfl rfl ?_ ) | (refine g_load rfl ?_; refine mx_orow E rfl rfl rfl rfl rfl (by assumption) (by assumption) (by rfl) rfl ?_ ) | (refine g_bin rfl ?_; (first | (refine mx_cmpl .lss rfl rfl rfl rfl rfl (by first | exact cmp_lt_f (by omega) | rfl) ?_) | (refine mx_cmpl .geq rfl rfl rfl rfl rfl (by exact cmp_ge_t (by omega) ) ?_)) ) | (refine mx_nc rfl rfl rfl ?_) | (refine g_bi .len rfl ?_; refine mx_len E rfl rfl rfl rfl ?_) | (refine g_pick rfl ?_; refine mx_or rfl rfl rfl rfl rfl rfl ?_ ) ) | refine cw_seq ?_ | refine cw_line rfl ?_ | refine cw_cond_t rfl ?_ | refine cw_ret ?_ | refine pw_then ?_ | refine pw_then_r ?_ ))
    exact pw_rets rfl [_, _] ⟨rfl, rfl, trivial⟩ rfl fun w hw => ⟨rfl, hw.keep.grow⟩
theorem cell35y (ax ab L n : Nat) (k : Nat) (hk : k < n) (w : World) (h1 : (row ax 85 [.slice (some ⟨ab, 0, none⟩) n n]).holds w) (h2 : (row ab 3 (AV L n)).holds w) : Calls Try.prog 35 #[.pointer (some ⟨ax, 0, none⟩), .int .i64 k] w fun e w' => e = .returned (.tuple #[.int .i64 ((L + k + 1 : Nat) : Int), .bool true]) ∧ Grow w w' := by
  refine enter2 (S := fun _ => False) 24 Try.func35 rfl rfl rfl (Ok.start w) ?_
  have hS : ¬ (fun _ : Nat => False) ax := id
  have hSb : ¬ (fun _ : Nat => False) ab := id
  have hat : (AV L n)[0 + k * 1]? = some (.int .i64 ((L + k + 1 : Nat) : Int)) := by rw [Nat.zero_add, Nat.mul_one]; exact AV_at hk
  (repeat (first | ((refine (?_ : MX _ _ _ _ _ _ _ _ _ _ _)); first | refine mx_end ?_ | (refine mx_mv _ rfl rfl (by conv => {lhs; whnf}) ?_) | (refine mx_as _ rfl rfl (by conv => {lhs; whnf}) ?_) | (refine mx_fa0 E rfl rfl rfl rfl ?_ ) | (refine g_load rfl ?_; refine mx_orow E rfl rfl rfl rfl rfl (by assumption) (by assumption) (by first | assumption | rfl) rfl ?_ ) | (refine g_bin rfl ?_; (first | (refine mx_cmpl .lss rfl rfl rfl rfl rfl (by first | exact cmp_lt_f (by omega) | rfl) ?_) | (refine mx_cmpl .geq rfl rfl rfl rfl rfl (by exact cmp_ge_f (by omega) ) ?_)) ) | (refine g_ix rfl ?_; refine mx_ixsn E rfl rfl rfl rfl rfl rfl (by omega) rfl ?_ ) | (refine mx_nc rfl rfl rfl ?_) | (refine g_bi .len rfl ?_; refine mx_len E rfl rfl rfl rfl ?_) | (refine g_pick rfl ?_; refine mx_or rfl rfl rfl rfl rfl rfl ?_ ) ) | refine cw_seq ?_ | refine cw_line rfl ?_ | refine cw_cond_f rfl ?_ | refine cw_skip ?_ | refine cw_ret ?_ | refine pw_then ?_ ))
  exact pw_rets rfl [_, _] ⟨rfl, rfl, trivial⟩ rfl fun w hw => ⟨rfl, hw.keep.grow⟩
end Go.Proofs.Ytfekmflnfhjebaa
