/- The document's cells: made, told; walked once each. -/
import Derived.Test.YtfekmflnfhjebaaCg
set_option maxRecDepth 100000
set_option maxHeartbeats 8000000
set_option linter.unusedSimpArgs false
set_option linter.unusedVariables false
namespace Go.Proofs.Ytfekmflnfhjebaa
open Go Go.Sx Go.RowKit
structure MC where
  ba : Option Addr
  cap : Nat
  bs : List Int
  wr : Nat
  ta : Option Addr
  tc : Nat
  ts : List Int
  gone : Bool
  swept : Bool
  deriving Inhabited
@[reducible] def cMC (m : MC) : List Value := [.slice m.ba m.bs.length m.cap, .int .i64 m.wr, .slice m.ta m.ts.length m.tc, .bool m.gone, .bool m.swept]
def RM (m : MC) : List Res := [ownd m.ba m.cap 5 1 m.bs.length (m.bs.flatMap cU), ownd m.ta m.tc 3 1 m.ts.length (m.ts.flatMap cI)]
def allM (ms : List MC) : Res := star (ms.flatMap RM)
def OM (mx : Nat) (ma : Option Addr) (mc : Nat) (ms : List MC) : List Res := [row mx 78 [.slice ma ms.length mc], ownd ma mc 89 5 ms.length (ms.flatMap cMC), allM ms]
theorem b78_0 : Blt Try.prog 78 [] [.slice none 0 0] := ⟨by kernel_rfl⟩
theorem b89 (ad : Option Addr) (m c : Nat) : Blt Try.prog 89 [(2, .agg #[.slice ad m c])] [.slice none 0 0, .int .i64 0, .slice ad m c, .bool false, .bool false] := ⟨by kernel_rfl⟩
instance : ZeroT Try.prog 89 [.slice none 0 0, .int .i64 0, .slice none 0 0, .bool false, .bool false] := ⟨by kernel_rfl⟩
theorem len_MC (m : MC) : (cMC m).length = 5 := rfl
theorem beat21 (w : World) : Calls Try.prog 21 #[] w fun e w' => e = .returned (.agg #[.slice none 0 0]) ∧ Grow w w' := by
  refine enter0 (S := fun _ => False) 2 Try.func21 rfl rfl rfl (Ok.start w) ?_
  (repeat (first | ((refine (?_ : MX _ _ _ _ _ _ _ _ _ _ _)); first | refine mx_end ?_ | (refine g_store rfl ?_; refine s_l E rfl rfl rfl rfl rfl rfl rfl (by exact Sp.all rfl ) rfl ?_ ) | (refine g_build rfl ?_; refine mx_build rfl rfl rfl rfl b33_0 rfl ?_ ) | (refine a_new rfl rfl rfl rfl rfl (fun _ => ?_)) ) | refine cw_seq ?_ | refine cw_line rfl ?_ | refine cw_ret ?_ | refine pw_then ?_ ))
  exact pw_retc E (j := 0) rfl rfl rfl rfl rfl rfl fun w hw => ⟨rfl, hw.keep.grow⟩
theorem new28 (w : World) : Calls Try.prog 28 #[] w fun e w' => ∃ a : Nat, e = .returned (.pointer (some ⟨a, 0, none⟩)) ∧ Ok (domL []) w (OM a none 0 []) w' := by
  refine enter0 (S := domL []) 3 Try.func28 rfl rfl rfl (Ok.start w) ?_
  (repeat (first | ((refine (?_ : MX _ _ _ _ _ _ _ _ _ _ _)); first | refine mx_end ?_ | (refine mx_as _ rfl rfl (by conv => {lhs; whnf}) ?_) | (refine g_build rfl ?_; refine mx_build rfl rfl rfl rfl b78_0 rfl ?_ ) | (refine g_box rfl ?_; refine a_boxl rfl rfl rfl rfl rfl rfl (fun _ => ?_) ) ) | refine cw_seq ?_ | refine cw_line rfl ?_ | refine cw_ret ?_ | refine pw_then ?_ ))
  refine pw_ret rfl rfl rfl rfl fun w' hw => ⟨_, rfl, ?_⟩
  have h2 := Ok.star (L := []) (hw.own_nil 89 5)
  exact h2.pick [2, 1, 0] (by simp) rfl
theorem star_snoc {S : Nat → Prop} {w0 w : World} {L1 L2 H : List Res} (h : Ok S w0 (L2 ++ star L1 :: H) w) : Ok S w0 (star (L1 ++ L2) :: H) w := by
  have h1 : Ok S w0 (star L1 :: (L2 ++ H)) w := h.perm (List.perm_middle)
  have h2 := Ok.unstar h1
  rw [← List.append_assoc] at h2
  exact Ok.star h2
theorem allM_snoc {S : Nat → Prop} {w0 w : World} {H : List Res} {ms : List MC} {m : MC} (h : Ok S w0 (ownd m.ba m.cap 5 1 m.bs.length (m.bs.flatMap cU) :: ownd m.ta m.tc 3 1 m.ts.length (m.ts.flatMap cI) :: allM ms :: H) w) : Ok S w0 (allM (ms ++ [m]) :: H) w := by
  have h1 := star_snoc (L1 := ms.flatMap RM) (L2 := RM m) (H := H) h
  unfold allM
  rw [List.flatMap_append]
  simpa [RM] using h1
@[reducible] def nMC (a : Option Addr × Nat) (bs : List Int) : MC := ⟨a.1, a.2, bs, 0, none, 0, [], false, false⟩
theorem one_MC (m : MC) : (cMC m).all (·.oneCell') = true := rfl
theorem make_end {S : Nat → Prop} {w0 w : World} {ms : List MC} {mx : Nat} {a2 : Option Addr} {c2 : Nat} (xs : List Int) (a1 : Option Addr) (c1 i : Nat) (hti : xs.take i = xs.take 64) (hl64 : i = (xs.take 64).length) (h : Ok S w0 [ownd a1 c1 5 1 i ((xs.take i).flatMap cU), ownd none 0 3 1 0 [], allM ms, row mx 78 [.slice a2 (ms.length + 1) c2], ownd a2 c2 89 5 (ms.length + 1) (ms.flatMap cMC ++ [.slice a1 i c1, .int .i64 0, .slice none 0 0, .bool false, .bool false])] w) :
    Ok S w0 (OM mx a2 c2 (ms ++ [nMC (a1, c1) (xs.take 64)])) w := by
  rw [hti] at h
  subst hl64
  have h1 := allM_snoc (m := nMC (a1, c1) (xs.take 64)) h
  have e2 : (ms ++ [nMC (a1, c1) (xs.take 64)]).length = ms.length + 1 := by simp
  have e3 : (ms ++ [nMC (a1, c1) (xs.take 64)]).flatMap cMC = ms.flatMap cMC ++ cMC (nMC (a1, c1) (xs.take 64)) := by rw [List.flatMap_append]; rfl
  unfold OM
  rw [e2, e3]
  exact h1.pick [1, 2, 0] (by simp) rfl
theorem make60 (mx : Nat) (ma : Option Addr) (mc : Nat) (ms : List MC) (hml : ms.length ≤ 100000) (ad : Option Addr) (m cap : Nat) (xs : List Int) (hm : xs.length = m) (w : World) (h0 : Ok (domL (OM mx ma mc ms)) w (OM mx ma mc ms) w) (hl : InL w ad 1 cU xs) (hne : xs ≠ [] → ∀ b off, ad = some ⟨b, off, none⟩ → ¬ domL (OM mx ma mc ms) b) :
    Calls Try.prog 60 #[.pointer (some ⟨mx, 0, none⟩), .slice ad m cap] w fun e w' => ∃ a : (Option Addr × Nat) × Option Addr × Nat, e = .returned (.int .i64 ((ms.length + 1 : Nat) : Int)) ∧ Ok (domL (OM mx ma mc ms)) w (OM mx a.1.1 a.1.2 (ms ++ [nMC a.2 (xs.take 64)])) w' := by
  refine enter2 (S := domL (OM mx ma mc ms)) (H := OM mx ma mc ms) 43 Try.func60 rfl rfl rfl h0 ?_
  (repeat (first | ((refine (?_ : MX _ _ _ _ _ _ _ _ _ _ _)); first | refine mx_end ?_ | (refine mx_as _ rfl rfl (by conv => {lhs; whnf}) ?_) ) | refine cw_seq ?_ | refine cw_line rfl ?_ | refine pw_then ?_ ))
  refine g_cf 21 rfl ?_; refine mx_call rfl rfl rfl Try.func21 rfl rfl rfl _ (fun w => beat21 w) rfl ?_
  (repeat (first | ((refine (?_ : MX _ _ _ _ _ _ _ _ _ _ _)); first | refine mx_end ?_ | (refine mx_as _ rfl rfl (by conv => {lhs; whnf}) ?_) | (refine g_store rfl ?_; refine s_l E rfl rfl rfl rfl rfl rfl rfl (by exact Sp.all rfl ) rfl ?_ ) | (refine g_build rfl ?_; refine mx_build rfl rfl rfl rfl (b89 _ _ _) rfl ?_) | (refine a_new rfl rfl rfl rfl rfl (fun _ => ?_)) ) | refine cw_seq ?_ | refine cw_line rfl ?_ | refine cw_block ?_ | refine pw_then ?_ ))
  rename_i xb
  refine cw_loop (ι := Nat × Option Addr × Nat) (fun p => [(6, .int .i64 p.1), (5, .pointer (some ⟨xb, 0, none⟩)), (1, .slice ad m cap), (0, .pointer (some ⟨mx, 0, none⟩))]) (fun p => [ownd p.2.1 p.2.2 5 1 p.1 ((xs.take p.1).flatMap cU), row xb 89 [.slice p.2.1 p.1 p.2.2, .int .i64 0, .slice none 0 0, .bool false, .bool false], row mx 78 [.slice ma ms.length mc], ownd ma mc 89 5 ms.length (ms.flatMap cMC), allM ms]) (fun p => p.1 ≤ m ∧ p.1 ≤ 64) (fun p => 64 - p.1) (0, none, 0) ⟨by show 0 ≤ m; omega, by show 0 ≤ 64; omega⟩ ⟨rfl, rfl, rfl, rfl, trivial⟩ (fun w h => h.own_nil _ _) ?_
  rintro ⟨i, a1, c1⟩ jk ⟨hi, hi64⟩
  dsimp only at hi hi64 ⊢
  by_cases hb : (i : Int) < m ∧ (i : Int) < 64
  case pos =>
    obtain ⟨him, hi6⟩ := hb
    obtain ⟨x, hx⟩ := getElem_some (xs := xs) (i := i) (by omega)
    obtain ⟨b4, off, e, hcc⟩ := inl_at hl hx
    subst e
    have hS : ¬ domL (OM mx ma mc ms) b4 := hne (fun e => by subst e; simp at hx) b4 off rfl
    have hc0 : w.cell? ⟨b4, off + i * 1, none⟩ = some (.int .u8 x) := hcc 0 _ rfl
    (repeat (first | ((refine (?_ : MX _ _ _ _ _ _ _ _ _ _ _)); first | refine mx_end ?_ | (refine mx_mv _ rfl rfl (by conv => {lhs; whnf}) ?_) | (refine g_bin rfl ?_; ( (refine mx_cmpl .lss rfl rfl rfl rfl rfl (by exact cmp_lt_t (by omega) ) ?_) ) ) | (refine g_bi .len rfl ?_; refine mx_len E rfl rfl rfl rfl ?_) | (refine g_pick rfl ?_; refine mx_and rfl rfl rfl rfl rfl rfl ?_ ) ) | refine cw_seq ?_ | refine cw_line rfl ?_ | refine cw_block ?_ | refine cw_cond_t rfl ?_ | refine cw_skip ?_ | refine pw_then ?_ ))
    refine cw_bar [0, 1, 2, 3, 4, 5, 6, 7, 8] 9 [] (fun i => Nat.ble 6 i) [row xb 89 [.slice a1 i c1, .int .i64 0, .slice none 0 0, .bool false, .bool false]] (fun _ => True) mixed (by kernel_rfl) (fun w h => h.only 1 rfl) ?_
    (repeat (((refine (?_ : MX _ _ _ _ _ _ _ _ _ _ _)); first | (refine mx_mv _ rfl rfl (by conv => {lhs; whnf}) ?_) | (refine mx_fa0 E rfl rfl rfl rfl ?_ ) | (refine g_load rfl ?_; first | refine mx_get E rfl rfl rfl rfl rfl (by rfl) rfl ?_ | refine mx_old1 E rfl rfl rfl rfl rfl (by assumption) (by assumption) rfl ?_ ) | (refine g_ix rfl ?_; refine mx_ixsn E rfl rfl rfl rfl rfl rfl (by omega) rfl ?_ ) | (refine g_bs rfl ?_; refine a_bsi E rfl rfl rfl rfl rfl (by (repeat (first | exact EvI.nil | (apply EvI.cons; rfl)))) (by rfl) (by rfl) (by rfl) rfl (fun _ => ?_)) ) ))
    rename_i b9
    refine g_bi .append rfl ?_
    refine a_app E rfl rfl rfl rfl rfl rfl rfl rfl [.int .u8 x] rfl (fun w hw => fun _ => ⟨b9, 0, rfl, fun j u hj => by rw [add_at, Nat.zero_add]; exact row_cell (hw.holds 0 _ rfl) hj⟩) rfl (by omega) rfl (fun _ _ w h => h.only 2 rfl) (fun a2 c2 => ?_)
    have e1 : (xs.take i).flatMap cU ++ [.int .u8 x] = (xs.take (i + 1)).flatMap cU := by
      rw [List.take_add_one, hx, List.flatMap_append]
      rfl
    rw [e1]
    (repeat (((refine (?_ : MX _ _ _ _ _ _ _ _ _ _ _)); (refine mx_fa0 E rfl rfl rfl rfl ?_ ) ) ))
    refine mx_bar (fun _ _ => trivial) ?_
    (repeat (first | ((refine (?_ : MX _ _ _ _ _ _ _ _ _ _ _)); first | refine mx_end ?_ | (refine mx_mv _ rfl rfl (by conv => {lhs; whnf}) ?_) | (refine mx_as _ rfl rfl (by conv => {lhs; whnf}) ?_) | (refine g_bin rfl ?_; (refine mx_ar rfl rfl rfl rfl rfl rfl (IntWalk.i64_in _ (by omega)) rfl ?_ ) ) | (refine g_store rfl ?_; refine s_1 E rfl rfl rfl rfl rfl rfl rfl rfl (by exact sp0 ) rfl ?_) ) | refine cw_line rfl ?_ | refine pw_then ?_ | refine pw_block ?_ ))
    exact pw_round (i + 1, a2, c2) ⟨by show i + 1 ≤ m; omega, by show i + 1 ≤ 64; omega⟩ (by show 64 - (i + 1) < 64 - i; omega) ⟨rfl, rfl, rfl, rfl, trivial⟩ (fun w h => h.pick [1, 2, 3, 4, 5] (by simp) rfl)
  by_cases him : (i : Int) < m
  all_goals (
    have hti : xs.take i = xs.take 64 := by
      first
        | (have e : i = 64 := by omega
           rw [e])
        | (rw [List.take_of_length_le (by omega), List.take_of_length_le (by omega)])
    have hl64 : i = (xs.take 64).length := by rw [List.length_take]; omega
    (repeat (first | ((refine (?_ : MX _ _ _ _ _ _ _ _ _ _ _)); first | refine mx_end ?_ | (refine mx_mv _ rfl rfl (by conv => {lhs; whnf}) ?_) | (refine g_bin rfl ?_; ( (refine mx_cmpl .lss rfl rfl rfl rfl rfl (by first | exact cmp_lt_t (by omega) | exact cmp_lt_f (by omega) | rfl) ?_) ) ) | (refine g_bi .len rfl ?_; refine mx_len E rfl rfl rfl rfl ?_) | (refine mx_skip rfl rfl rfl ?_) | (refine g_pick rfl ?_; first | refine mx_andf rfl rfl rfl rfl rfl ?_ | refine mx_and rfl rfl rfl rfl rfl rfl ?_ ) ) | refine cw_seq ?_ | refine cw_line rfl ?_ | refine cw_cond_f rfl ?_ | refine cw_exit ?_ | refine pw_then ?_ | refine pw_then_x ?_ | refine pw_block_e ?_ ))
    refine cw_bar [0, 1, 2, 3, 4, 5, 6, 7, 8, 9] 10 [] (fun i => Nat.ble 6 i) [row mx 78 [.slice ma ms.length mc], row xb 89 [.slice a1 i c1, .int .i64 0, .slice none 0 0, .bool false, .bool false]] (fun _ => True) mixed (by kernel_rfl) (fun w h => h.pick [2, 1] (by simp) rfl) ?_
    (repeat (((refine (?_ : MX _ _ _ _ _ _ _ _ _ _ _)); first | (refine mx_mv _ rfl rfl (by conv => {lhs; whnf}) ?_) | (refine mx_fa0 E rfl rfl rfl rfl ?_ ) | (refine g_load rfl ?_; first | refine mx_get E rfl rfl rfl rfl rfl (by rfl) rfl ?_ | refine mx_getn E rfl rfl rfl rfl rfl (by exact Vr.all rfl ) rfl ?_ ) | (refine mx_nc rfl rfl rfl ?_) ) ))
    refine g_bs rfl ?_
    refine a_bslice1 E rfl rfl rfl rfl (us := [.slice a1 i c1, .int .i64 0, .slice none 0 0, .bool false, .bool false]) rfl rfl rfl rfl rfl rfl (fun b9 => ?_)
    refine g_bi .append rfl ?_
    refine a_app E rfl rfl rfl rfl rfl rfl rfl rfl [.slice a1 i c1, .int .i64 0, .slice none 0 0, .bool false, .bool false] rfl (fun w hw => fun _ => ⟨b9, 0, rfl, fun j u hj => by rw [add_at, Nat.zero_add]; exact row_cell (hw.holds 0 _ rfl) hj⟩) rfl (by omega) rfl (fun _ _ w h => h.pick [3, 2] (by simp) rfl) (fun a2 c2 => ?_)
    (repeat (((refine (?_ : MX _ _ _ _ _ _ _ _ _ _ _)); first | (refine mx_fa0 E rfl rfl rfl rfl ?_ ) | (refine mx_nc rfl rfl rfl ?_) ) ))
    refine mx_bar (fun _ _ => trivial) ?_
    (repeat (first | ((refine (?_ : MX _ _ _ _ _ _ _ _ _ _ _)); first | refine mx_end ?_ | (refine mx_mv _ rfl rfl (by conv => {lhs; whnf}) ?_) | (refine mx_as _ rfl rfl (by conv => {lhs; whnf}) ?_) | (refine mx_fa0 E rfl rfl rfl rfl ?_ ) | (refine g_load rfl ?_; refine mx_get E rfl rfl rfl rfl rfl (by rfl) rfl ?_ ) | (refine mx_nc rfl rfl rfl ?_) | (refine g_bi .len rfl ?_; refine mx_len E rfl rfl rfl rfl ?_) | (refine g_store rfl ?_; refine s_1 E rfl rfl rfl rfl rfl rfl rfl rfl (by exact sp0 ) rfl ?_) ) | refine cw_seq ?_ | refine cw_line rfl ?_ | refine cw_ret ?_ | refine pw_then ?_ ))
    refine pw_ret rfl rfl rfl rfl fun w' hw => ⟨((a2, c2), (a1, c1)), rfl, ?_⟩
    have h1 : Ok (domL (OM mx ma mc ms)) w [ownd a1 c1 5 1 i ((xs.take i).flatMap cU), allM ms, row mx 78 [.slice a2 (ms.length + 1) c2], ownd a2 c2 89 5 (ms.length + 1) (ms.flatMap cMC ++ [.slice a1 i c1, .int .i64 0, .slice none 0 0, .bool false, .bool false])] w' := hw.pick [1, 5, 3, 4] (by simp) rfl
    have h2 := (h1.own_nil 3 1).pick (H' := [ownd a1 c1 5 1 i ((xs.take i).flatMap cU), ownd none 0 3 1 0 [], allM ms, row mx 78 [.slice a2 (ms.length + 1) c2], ownd a2 c2 89 5 (ms.length + 1) (ms.flatMap cMC ++ [.slice a1 i c1, .int .i64 0, .slice none 0 0, .bool false, .bool false])]) [1, 0, 2, 3, 4] (by simp) rfl
    exact make_end xs a1 c1 i hti hl64 h2)
end Go.Proofs.Ytfekmflnfhjebaa
