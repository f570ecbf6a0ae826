/- Lists of ints and events written over. -/
import Derived.Test.YtikdbgheefjpkaaKa
set_option maxRecDepth 100000
set_option maxHeartbeats 8000000
set_option linter.unusedSimpArgs false
set_option linter.unusedVariables false
namespace Go.Proofs.Ytikdbgheefjpkaa
open Go Go.Sx Go.RowKit
@[reducible] def spEv (i : Int) : EV := ⟨⟨i, 0, 0, 0, []⟩, none, 0⟩
theorem b49s (i : Int) : Blt Try.prog 49 [(0, .int .i64 i)] (cEV (spEv i)) := ⟨by kernel_rfl⟩
theorem splice_len {vs us : List Value} {off : Nat} (h : off + us.length ≤ vs.length) : (splice vs off us).length = vs.length := by
  unfold splice
  simp
  omega
theorem sp_any {vs us : List Value} {off : Nat} (h : off + us.length ≤ vs.length) : Sp vs off us (splice vs off us) := ⟨h, rfl⟩
theorem mark56 (i : Int) (h0 : 0 ≤ i) (h1 : i ≤ 2000000) (w : World) : Calls Try.prog 56 #[.int .i64 i] w fun e w' => e = .returned (.int .i64 (7001 + 13 * i)) ∧ Grow w w' := by
  refine enter1 (S := fun _ => False) 6 Try.func56 rfl rfl rfl (Ok.start w) ?_
  (repeat (first | ((refine (?_ : MX _ _ _ _ _ _ _ _ _ _ _)); first | refine mx_end ?_ | (refine mx_mv _ rfl rfl (by conv => {lhs; whnf}) ?_) | (refine mx_as _ rfl rfl (by conv => {lhs; whnf}) ?_) | (refine g_bin rfl ?_; ( refine mx_ar rfl rfl rfl rfl rfl rfl (IntWalk.i64_in _ (by omega)) rfl ?_ ) ) ) | refine cw_seq ?_ | refine cw_line rfl ?_ | refine cw_ret ?_ | refine pw_then ?_ ))
  exact pw_ret rfl rfl rfl rfl fun w hw => ⟨rfl, hw.keep.grow⟩
theorem spoilI23 (ad : Option Addr) (cap n : Nat) (xs : List Value) (hn : n ≤ 1000000) (w : World) (h0 : Ok (domL [ownd ad cap 3 1 n xs]) w [ownd ad cap 3 1 n xs] w) :
    Calls Try.prog 23 #[.slice ad n cap] w fun e w' => ∃ u : Unit, e = .returned (.tuple #[]) ∧ Ok (domL [ownd ad cap 3 1 n xs]) w [] w' := by
  refine enter1 (S := domL [ownd ad cap 3 1 n xs]) (H := [ownd ad cap 3 1 n xs]) 15 Try.func23 rfl rfl rfl h0 ?_
  by_cases hz : n = 0
  · subst hz
    (repeat (first | ((refine (?_ : MX _ _ _ _ _ _ _ _ _ _ _)); first | refine mx_end ?_ | (refine mx_as _ rfl rfl (by conv => {lhs; whnf}) ?_) ) | refine cw_seq ?_ | refine cw_line rfl ?_ | refine cw_block ?_ | refine pw_then ?_ ))
    refine cw_loop (fun i : Nat => [(2, .int .i64 i), (0, .slice ad 0 cap)]) (fun i => []) (fun i => i ≤ 1000) (fun i => 0) 0 (Nat.zero_le _) ⟨rfl, rfl, trivial⟩ (fun w h => h.nil) ?_
    intro i jk hi
    have hne : ¬ ((i : Int) < (0 : Nat)) := by omega
    (repeat (first | ((refine (?_ : MX _ _ _ _ _ _ _ _ _ _ _)); first | refine mx_end ?_ | (refine mx_mv _ rfl rfl (by conv => {lhs; whnf}) ?_) | (refine g_bin rfl ?_; ( (refine mx_cmpl .lss rfl rfl rfl rfl rfl (by exact cmp_lt_f (by omega) ) ?_) ) ) | (refine g_bi .len rfl ?_; refine mx_len E rfl rfl rfl rfl ?_) ) | refine cw_seq ?_ | refine cw_line rfl ?_ | refine cw_cond_f rfl ?_ | refine cw_exit ?_ | refine pw_then ?_ | refine pw_then_x ?_ | refine pw_block_e ?_ ))
    exact pw_ret0 rfl rfl fun w' hw => ⟨(), rfl, hw⟩
  refine cw_know (p := ∃ b, ad = some ⟨b, 0, none⟩) (fun w hw => by obtain ⟨b, e, _⟩ := (own_at (hw.holds 0 _ rfl)).2.1 (by omega); exact ⟨b, e⟩) (fun hb => ?_)
  obtain ⟨b, rfl⟩ := hb
  refine cw_ex (fun rest => [row b 3 (xs ++ rest)]) _ (fun w hw => (ok_open 0 rfl hw).imp fun rest h => ⟨h.1, h.2⟩) (fun rest he => ?_)
  obtain ⟨e1, e2, e3, e4⟩ := he
  (repeat (first | ((refine (?_ : MX _ _ _ _ _ _ _ _ _ _ _)); first | refine mx_end ?_ | (refine mx_as _ rfl rfl (by conv => {lhs; whnf}) ?_) ) | refine cw_seq ?_ | refine cw_line rfl ?_ | refine cw_block ?_ | refine pw_then ?_ ))
  refine cw_loop (ι := Nat × List Value) (fun q => [(2, .int .i64 q.1), (0, .slice (some ⟨b, 0, none⟩) n cap)]) (fun q => [row b 3 q.2]) (fun q => q.1 ≤ n ∧ q.2.length = cap * 1) (fun q => n - q.1) (0, xs ++ rest) ⟨Nat.zero_le _, e2⟩ ⟨rfl, rfl, trivial⟩ (fun w h => h) ?_
  rintro ⟨i, vs⟩ jk ⟨hi, hv⟩
  dsimp only at hi hv ⊢
  by_cases h1 : (i : Int) < n
  case neg =>
    (repeat (first | ((refine (?_ : MX _ _ _ _ _ _ _ _ _ _ _)); first | refine mx_end ?_ | (refine mx_mv _ rfl rfl (by conv => {lhs; whnf}) ?_) | (refine g_bin rfl ?_; ( (refine mx_cmpl .lss rfl rfl rfl rfl rfl (by exact cmp_lt_f (by omega) ) ?_) ) ) | (refine g_bi .len rfl ?_; refine mx_len E rfl rfl rfl rfl ?_) ) | refine cw_seq ?_ | refine cw_line rfl ?_ | refine cw_cond_f rfl ?_ | refine cw_exit ?_ | refine pw_then ?_ | refine pw_then_x ?_ | refine pw_block_e ?_ ))
    exact pw_ret0 rfl rfl fun w' hw => ⟨(), rfl, hw.nil⟩
  (repeat (first | ((refine (?_ : MX _ _ _ _ _ _ _ _ _ _ _)); first | refine mx_end ?_ | (refine mx_mv _ rfl rfl (by conv => {lhs; whnf}) ?_) | (refine g_bin rfl ?_; first | ( (refine mx_cmpl .lss rfl rfl rfl rfl rfl (by exact cmp_lt_t (by omega) ) ?_) ) | ( refine mx_ar rfl rfl rfl rfl rfl rfl (IntWalk.i64_in _ (by omega)) rfl ?_ ) ) | (refine g_bi .len rfl ?_; refine mx_len E rfl rfl rfl rfl ?_) ) | refine cw_seq ?_ | refine cw_line rfl ?_ | refine cw_block ?_ | refine cw_cond_t rfl ?_ | refine cw_skip ?_ | refine pw_then ?_ ))
  refine g_cf 56 rfl ?_
  refine a_callv rfl rfl rfl rfl Try.func56 rfl rfl rfl (.int .i64 (7001 + 13 * ((i : Int) + 7))) (fun w' hw => mark56 ((i : Int) + 7) (by omega) (by omega) w') rfl ?_
  have hsp : Sp vs (0 + i * 1) [.int .i64 (7001 + 13 * ((i : Int) + 7))] (splice vs (0 + i * 1) [.int .i64 (7001 + 13 * ((i : Int) + 7))]) := sp_any (by simp; omega)
  have hv2 : (splice vs (0 + i * 1) [.int .i64 (7001 + 13 * ((i : Int) + 7))]).length = cap * 1 := by rw [splice_len (by simp; omega)]; exact hv
  (repeat (first | ((refine (?_ : MX _ _ _ _ _ _ _ _ _ _ _)); first | refine mx_end ?_ | (refine mx_mv _ rfl rfl (by conv => {lhs; whnf}) ?_) | (refine mx_as _ rfl rfl (by conv => {lhs; whnf}) ?_) | (refine g_bin rfl ?_; ( refine mx_ar rfl rfl rfl rfl rfl rfl (IntWalk.i64_in _ (by omega)) rfl ?_ ) ) | (refine g_ix rfl ?_; refine mx_ixsn E rfl rfl rfl rfl rfl rfl (by omega) rfl ?_ ) | (refine g_store rfl ?_; refine s_1 E rfl rfl rfl rfl rfl rfl rfl rfl (by assumption ) rfl ?_) ) | refine cw_line rfl ?_ | refine pw_then ?_ | refine pw_block ?_ ))
  exact pw_round (i + 1, splice vs (0 + i * 1) [.int .i64 (7001 + 13 * ((i : Int) + 7))]) ⟨by show i + 1 ≤ n; omega, hv2⟩ (by show n - (i + 1) < n - i; omega) ⟨rfl, rfl, trivial⟩ (fun w h => h)
theorem allK_cons {S : Nat → Prop} {w0 w : World} {H : List Res} {l : List EV} {x : EV} (h : Ok S w0 (allK (x :: l) :: H) w) : Ok S w0 (ownd x.ka x.kc 5 1 x.v.key.length (x.v.key.flatMap cU) :: allK l :: H) w := by
  have h1 : Ok S w0 (ownd x.ka x.kc 5 1 x.v.key.length (x.v.key.flatMap cU) :: (l.flatMap RK ++ H)) w := Ok.unstar h
  have h2 : Ok S w0 (l.flatMap RK ++ (ownd x.ka x.kc 5 1 x.v.key.length (x.v.key.flatMap cU) :: H)) w := h1.perm List.perm_middle.symm
  have h3 : Ok S w0 (allK l :: (ownd x.ka x.kc 5 1 x.v.key.length (x.v.key.flatMap cU) :: H)) w := Ok.star h2
  exact h3.perm (List.Perm.swap _ _ _)
theorem spoilE25 (ad : Option Addr) (cap : Nat) (xs : List EV) (hn : xs.length ≤ 1000) (hk : ∀ x ∈ xs, x.v.key.length ≤ 140737488355328) (w : World) (h0 : Ok (domL [ownd ad cap 49 5 xs.length (xs.flatMap cEV), allK xs]) w [ownd ad cap 49 5 xs.length (xs.flatMap cEV), allK xs] w) :
    Calls Try.prog 25 #[.slice ad xs.length cap] w fun e w' => ∃ u : Unit, e = .returned (.tuple #[]) ∧ Ok (domL [ownd ad cap 49 5 xs.length (xs.flatMap cEV), allK xs]) w [] w' := by
  refine enter1 (S := domL [ownd ad cap 49 5 xs.length (xs.flatMap cEV), allK xs]) (H := [ownd ad cap 49 5 xs.length (xs.flatMap cEV), allK xs]) 21 Try.func25 rfl rfl rfl h0 ?_
  by_cases hz : xs.length = 0
  · (repeat (first | ((refine (?_ : MX _ _ _ _ _ _ _ _ _ _ _)); first | refine mx_end ?_ | (refine mx_as _ rfl rfl (by conv => {lhs; whnf}) ?_) ) | refine cw_seq ?_ | refine cw_line rfl ?_ | refine cw_block ?_ | refine pw_then ?_ ))
    refine cw_loop (fun i : Nat => [(2, .int .i64 i), (0, .slice ad xs.length cap)]) (fun i => []) (fun i => i ≤ 1000) (fun i => 0) 0 (Nat.zero_le _) ⟨rfl, rfl, trivial⟩ (fun w h => h.nil) ?_
    intro i jk hi
    have hne : ¬ ((i : Int) < xs.length) := by omega
    (repeat (first | ((refine (?_ : MX _ _ _ _ _ _ _ _ _ _ _)); first | refine mx_end ?_ | (refine mx_mv _ rfl rfl (by conv => {lhs; whnf}) ?_) | (refine g_bin rfl ?_; ( (refine mx_cmpl .lss rfl rfl rfl rfl rfl (by exact cmp_lt_f (by omega) ) ?_) ) ) | (refine g_bi .len rfl ?_; refine mx_len E rfl rfl rfl rfl ?_) ) | refine cw_seq ?_ | refine cw_line rfl ?_ | refine cw_cond_f rfl ?_ | refine cw_exit ?_ | refine pw_then ?_ | refine pw_then_x ?_ | refine pw_block_e ?_ ))
    exact pw_ret0 rfl rfl fun w' hw => ⟨(), rfl, hw⟩
  refine cw_know (p := ∃ b, ad = some ⟨b, 0, none⟩) (fun w hw => by obtain ⟨b, e, _⟩ := (own_at (hw.holds 0 _ rfl)).2.1 (by omega); exact ⟨b, e⟩) (fun hb => ?_)
  obtain ⟨b, rfl⟩ := hb
  refine cw_ex (fun rest => [row b 49 (xs.flatMap cEV ++ rest), allK xs]) _ (fun w hw => (ok_open 0 rfl hw).imp fun rest h => ⟨h.1, h.2⟩) (fun rest he => ?_)
  (repeat (first | ((refine (?_ : MX _ _ _ _ _ _ _ _ _ _ _)); first | refine mx_end ?_ | (refine mx_as _ rfl rfl (by conv => {lhs; whnf}) ?_) ) | refine cw_seq ?_ | refine cw_line rfl ?_ | refine cw_block ?_ | refine pw_then ?_ ))
  refine cw_loop (ι := Nat × List EV) (fun q => [(2, .int .i64 q.1), (0, .slice (some ⟨b, 0, none⟩) xs.length cap)]) (fun q => [row b 49 ((q.2 ++ xs.drop q.1).flatMap cEV ++ rest), allK (xs.drop q.1)]) (fun q => q.1 ≤ xs.length ∧ q.2.length = q.1) (fun q => xs.length - q.1) (0, []) ⟨Nat.zero_le _, rfl⟩ ⟨rfl, rfl, trivial⟩ (fun w h => h) ?_
  rintro ⟨i, dn⟩ jk ⟨hi, hdl⟩
  dsimp only at hi hdl ⊢
  by_cases h1 : (i : Int) < xs.length
  case neg =>
    (repeat (first | ((refine (?_ : MX _ _ _ _ _ _ _ _ _ _ _)); first | refine mx_end ?_ | (refine mx_mv _ rfl rfl (by conv => {lhs; whnf}) ?_) | (refine g_bin rfl ?_; ( (refine mx_cmpl .lss rfl rfl rfl rfl rfl (by exact cmp_lt_f (by omega) ) ?_) ) ) | (refine g_bi .len rfl ?_; refine mx_len E rfl rfl rfl rfl ?_) ) | refine cw_seq ?_ | refine cw_line rfl ?_ | refine cw_cond_f rfl ?_ | refine cw_exit ?_ | refine pw_then ?_ | refine pw_then_x ?_ | refine pw_block_e ?_ ))
    exact pw_ret0 rfl rfl fun w' hw => ⟨(), rfl, hw.nil⟩
  obtain ⟨x, hx⟩ := getElem_some (xs := xs) (i := i) (by omega)
  have hdr : xs.drop i = x :: xs.drop (i + 1) := by
    rw [List.drop_eq_getElem_cons (by omega)]
    congr 1
    exact (List.getElem?_eq_some_iff.1 hx).2
  have hkx := hk x (List.mem_of_getElem? hx)
  rw [hdr]
  generalize htl : xs.drop (i + 1) = tl
  have hrk : ((dn ++ x :: tl).flatMap cEV ++ rest)[0 + i * 5 + 4]? = some (.slice x.ka x.v.key.length x.kc) := rd_at len_EV (xs := dn ++ x :: tl) (j := dn.length) (x := x) (by simp) (show 4 < 5 by omega) rfl rest (by omega)
  have hsp : Sp ((dn ++ x :: tl).flatMap cEV ++ rest) (0 + i * 5) (cEV (spEv (90 + (i : Int)))) ((dn ++ spEv (90 + (i : Int)) :: tl).flatMap cEV ++ rest) := by
    have h2 := sp_at len_EV (xs := dn ++ x :: tl) (j := dn.length) (x := x) (x' := spEv (90 + (i : Int))) (by simp) (o := 0) (us := cEV (spEv (90 + (i : Int)))) (Sp.all (by rfl)) rest (p := 0 + i * 5) (by omega)
    rwa [set_cat] at h2
  refine cw_weak (H' := [ownd x.ka x.kc 5 1 x.v.key.length (x.v.key.flatMap cU), allK tl, row b 49 ((dn ++ x :: tl).flatMap cEV ++ rest)]) (fun w1 h => allK_cons (h.pick [1, 0] (by simp) rfl)) ?_
  (repeat (first | ((refine (?_ : MX _ _ _ _ _ _ _ _ _ _ _)); first | refine mx_end ?_ | (refine mx_mv _ rfl rfl (by conv => {lhs; whnf}) ?_) | ( refine mx_fa E rfl rfl rfl rfl ?_) | (refine g_load rfl ?_; refine mx_get E rfl rfl rfl rfl rfl (by assumption ) rfl ?_ ) | (refine g_bin rfl ?_; ( (refine mx_cmpl .lss rfl rfl rfl rfl rfl (by exact cmp_lt_t (by omega) ) ?_) ) ) | (refine g_ix rfl ?_; refine mx_ixsn E rfl rfl rfl rfl rfl rfl (by omega) rfl ?_ ) | (refine g_bi .len rfl ?_; refine mx_len E rfl rfl rfl rfl ?_) ) | refine cw_seq ?_ | refine cw_line rfl ?_ | refine cw_block ?_ | refine cw_cond_t rfl ?_ | refine cw_skip ?_ | refine pw_then ?_ ))
  refine g_cf 58 rfl ?_
  refine a_callu rfl rfl rfl rfl Try.func58 rfl rfl rfl (ownd x.ka x.kc 5 1 x.v.key.length ((splB x.v.key.length).flatMap cU)) up0 rfl (.tuple #[]) (fun w' hw h => spoilB x.ka x.v.key.length x.kc _ (by omega) w' h) rfl (fun _ _ => trivial) ?_
  (repeat (first | ((refine (?_ : MX _ _ _ _ _ _ _ _ _ _ _)); first | refine mx_end ?_ | (refine mx_mv _ rfl rfl (by conv => {lhs; whnf}) ?_) | (refine mx_as _ rfl rfl (by conv => {lhs; whnf}) ?_) | (refine g_bin rfl ?_; ( refine mx_ar rfl rfl rfl rfl rfl rfl (IntWalk.i64_in _ (by omega)) rfl ?_ ) ) | (refine g_ix rfl ?_; refine mx_ixsn E rfl rfl rfl rfl rfl rfl (by omega) rfl ?_ ) | (refine g_store rfl ?_; refine s_l E rfl rfl rfl rfl rfl rfl rfl (by assumption ) rfl ?_ ) | (refine g_build rfl ?_; refine mx_build rfl rfl rfl rfl (b49s _) rfl ?_) ) | refine cw_line rfl ?_ | refine pw_then ?_ | refine pw_block ?_ ))
  have hcat : dn ++ spEv (90 + (i : Int)) :: tl = (dn ++ [spEv (90 + (i : Int))]) ++ xs.drop (i + 1) := by rw [htl]; simp
  rw [hcat]
  exact pw_round (i + 1, dn ++ [spEv (90 + (i : Int))]) ⟨by show i + 1 ≤ xs.length; omega, by simp [hdl]⟩ (by show xs.length - (i + 1) < xs.length - i; omega) ⟨rfl, rfl, trivial⟩ (fun w h => by
    rw [← htl] at h
    exact h.pick [2, 1] (by simp) rfl)
end Go.Proofs.Ytikdbgheefjpkaa
