/- The chapter's example of layer 13; picking; numbers by their lowest bytes. -/
import Derived.Test.YtdimcafdmaidpaaMl
set_option maxRecDepth 100000
set_option maxHeartbeats 8000000
set_option linter.unusedSimpArgs false
set_option linter.unusedVariables false
namespace Go.Proofs.Ytdimcafdmaidpaa
open Go Go.Sx Go.RowKit
theorem frok_o : FrOk Fr.o := fun i _ => ⟨⟨by show (0 : Int) ≤ 0; omega, by show (0 : Int) < 256; omega⟩, fun k _ => ⟨by show (0 : Int) ≤ 0; omega, by show (0 : Int) < 256; omega⟩⟩
theorem frok_setS {f : Fr} (h : FrOk f) (i : Nat) (s : SL) (ha : 0 ≤ s.a ∧ s.a < 256) (hb : ∀ k, k < 8 → 0 ≤ s.b k ∧ s.b k < 256) : FrOk (f.setS i s) := fun j hj => by
  by_cases e : j = i
  · subst e; rw [setS_at]; exact ⟨ha, hb⟩
  · have : (f.setS i s).S j = f.S j := by simp [Fr.setS, fset, e]
    rw [this]; exact h j hj
theorem u8_bd (a : Int) : 0 ≤ IntKind.u8.wrap a ∧ IntKind.u8.wrap a < 256 := by rw [IntKind.wrap_u8]; omega
theorem frok_lay1 {f : Fr} (h : FrOk f) {p : Nat} (hp : p < 512) (c : Int) (hc : 0 ≤ c ∧ c < 256) : FrOk (lay1 f p c) := by
  unfold lay1
  refine frok_setS h _ _ (u8_bd _) fun k hk => ?_
  have hb : ∀ k, k < 8 → 0 ≤ (if (f.S (p / 8)).v.k = 0 then f.S (p / 8) else SL.o).b k ∧ (if (f.S (p / 8)).v.k = 0 then f.S (p / 8) else SL.o).b k < 256 := fun k hk => by
    split
    · exact (h _ (by omega)).2 k hk
    · exact ⟨by show (0 : Int) ≤ 0; omega, by show (0 : Int) < 256; omega⟩
  simp only [SL.setA, SL.setB, fset]
  split
  · exact hc
  · exact hb k hk
theorem frok_layN : ∀ (cs : List Int) {f : Fr} {p : Nat}, FrOk f → p + cs.length ≤ 512 → Byts cs → FrOk (layN f p cs)
  | [], f, p, h, _, _ => h
  | c :: cs, f, p, h, hp, hb => by
    simp only [List.length_cons] at hp
    exact frok_layN cs (frok_lay1 h (by omega) c (hb c (by simp))) (by omega) fun x hx => hb x (List.mem_cons_of_mem _ hx)
theorem byts_byts (n : Int) (m : Nat) : Byts (byts n m) := fun c hc => by
  obtain ⟨i, _, rfl⟩ := List.mem_map.1 hc
  exact u8_bd _
theorem frok_st {f : Fr} (h : FrOk f) (off size : Int) (v : V3) : FrOk (stR f off size v).2 := by
  unfold stR
  split
  · exact h
  · split
    · rename_i hok
      obtain ⟨p, m, _, _, hpm, _, _, _, _, e1, e2⟩ := ldOk_spec hok
      rw [e1, e2]
      split
      · exact frok_layN _ h (by rw [byts_len]; exact hpm) (byts_byts _ _)
      · split
        · exact frok_setS h _ _ ⟨by show (0 : Int) ≤ 0; omega, by show (0 : Int) < 256; omega⟩ fun k _ => ⟨by show (0 : Int) ≤ 0; omega, by show (0 : Int) < 256; omega⟩
        · exact h
    · exact h
theorem frok_fi {f : Fr} (h : FrOk f) (off : Int) (cs : List Int) (hb : Byts cs) : FrOk (fiR f off cs).2 := by
  unfold fiR
  split
  · rename_i hok
    obtain ⟨p, m, _, hm, hpm, _, _, e1, e2⟩ := byOk_spec hok
    rw [e1]
    exact frok_layN _ h (by omega) hb
  · exact h
theorem known29 (w : World) : Calls Try.prog 29 #[] w fun e w' => e = .returned (.bool true) ∧ Grow w w' := by
  refine enter0 (S := fun _ => False) 70 Try.func29 rfl rfl rfl (Ok.start w) ?_
  (repeat (first | ((refine (?_ : MX _ _ _ _ _ _ _ _ _ _ _)); first | refine mx_end ?_ | (refine mx_as _ rfl rfl (by conv => {lhs; whnf}) ?_) | (refine g_bs rfl ?_; refine a_bsi E rfl rfl rfl rfl rfl (by (repeat (first | exact EvI.nil | (apply EvI.cons; rfl)))) (by rfl) (by rfl) (by rfl) rfl (fun _ => ?_)) ) | refine cw_seq ?_ | refine cw_line rfl ?_ | refine pw_then ?_ ))
  rename_i b0
  refine g_cf 44 rfl ?_
  refine a_callL rfl rfl rfl rfl Try.func44 rfl rfl rfl [] _ rfl (fun a : Nat × Nat => .tuple #[.pointer (some ⟨a.1, 0, none⟩), .int .i64 0]) (fun a => [row a.1 98 (hdr a.2 (64 + 3) (64 + 3) 64), row a.2 5 (List.flatMap cU (zer 64 ++ [1, 2, 3]) ++ ([] : List Value))]) (fun w' hw _ => new44s _ 3 3 [1, 2, 3] rfl (by omega) w' (row_in (c := cU) (xs := [1, 2, 3]) len_U (hw.holds 0 _ rfl))) (fun _ => rfl) (fun _ _ _ => trivial) (fun a => ?_)
  obtain ⟨bp, bd⟩ := a
  have hbt : Byts (zer 64 ++ [1, 2, 3]) := by unfold Byts; decide
  have e1 : ldP (zer 64 ++ [1, 2, 3]) 64 1 2 = (770, true) := by decide
  have e2 : ldP (zer 64 ++ [1, 2, 3]) 64 2 2 = (0, false) := by decide
  dsimp only [List.cons_append, List.nil_append]
  (repeat (first | ((refine (?_ : MX _ _ _ _ _ _ _ _ _ _ _)); first | refine mx_end ?_ | (refine mx_mv _ rfl rfl (by conv => {lhs; whnf}) ?_) | (refine mx_as _ rfl rfl (by conv => {lhs; whnf}) ?_) | (refine g_bin rfl ?_; ( (refine mx_cmpl .neq rfl rfl rfl rfl rfl (by first | exact cmp_ne_f (by omega) | rfl) ?_) ) ) | (refine mx_ex _ rfl rfl rfl (by conv => {lhs; whnf}) ?_) | (refine g_pick rfl ?_; refine mx_or rfl rfl rfl rfl rfl rfl ?_ ) | (refine mx_nilp rfl rfl false rfl (by kernel_rfl) rfl rfl rfl rfl ?_ ) ) | refine cw_seq ?_ | refine cw_line rfl ?_ | refine cw_cond_f rfl ?_ | refine cw_skip ?_ | refine pw_then ?_ ))
  refine g_cf 46 rfl ?_
  refine a_callv rfl rfl rfl rfl Try.func46 rfl rfl rfl (.tuple #[.int .u64 770, .bool true]) (fun w' hw => by
    have := load46 bp bd (64 + 3) (64 + 3) 64 (zer 64 ++ [1, 2, 3]) [] hbt rfl (by omega) (by omega) (by omega) 1 2 w' (hw.holds 0 _ rfl) (hw.holds 1 _ rfl)
    rwa [e1] at this) rfl ?_
  (repeat (first | ((refine (?_ : MX _ _ _ _ _ _ _ _ _ _ _)); first | refine mx_end ?_ | (refine mx_mv _ rfl rfl (by conv => {lhs; whnf}) ?_) | (refine mx_as _ rfl rfl (by conv => {lhs; whnf}) ?_) | (refine mx_ex _ rfl rfl rfl (by conv => {lhs; whnf}) ?_) ) | refine cw_seq ?_ | refine cw_line rfl ?_ | refine pw_then ?_ ))
  refine g_cf 46 rfl ?_
  refine a_callv rfl rfl rfl rfl Try.func46 rfl rfl rfl (.tuple #[.int .u64 0, .bool false]) (fun w' hw => by
    have := load46 bp bd (64 + 3) (64 + 3) 64 (zer 64 ++ [1, 2, 3]) [] hbt rfl (by omega) (by omega) (by omega) 2 2 w' (hw.holds 0 _ rfl) (hw.holds 1 _ rfl)
    rwa [e2] at this) rfl ?_
  (repeat (first | ((refine (?_ : MX _ _ _ _ _ _ _ _ _ _ _)); first | refine mx_end ?_ | (refine mx_mv _ rfl rfl (by conv => {lhs; whnf}) ?_) | (refine mx_as _ rfl rfl (by conv => {lhs; whnf}) ?_) | (refine mx_ex _ rfl rfl rfl (by conv => {lhs; whnf}) ?_) | (refine a_new rfl rfl rfl rfl rfl (fun _ => ?_)) | (refine g_call rfl ?_; (refine g_cf 57 rfl ?_; refine mx_call rfl rfl rfl Try.func57 rfl rfl rfl _ (fun w => ctx57 w) rfl ?_) )) | refine cw_seq ?_ | refine cw_line rfl ?_ | refine pw_then ?_ ))
  rename_i bf
  refine g_cf 28 rfl ?_
  have s1 : stR Fr.o (-8) 8 ⟨5, 0, 0⟩ = (0, Fr.o.setS 63 ⟨⟨5, 0, 0⟩, fun _ => 0, 0⟩) := rfl
  refine a_callr rfl rfl rfl rfl Try.func28 rfl rfl rfl bf (cF (stR Fr.o (-8) 8 ⟨5, 0, 0⟩).2) (.int .i64 (stR Fr.o (-8) 8 ⟨5, 0, 0⟩).1) (fun w' hw h => store28 bf Fr.o (-8) 8 ⟨5, 0, 0⟩ w' h) rfl ?_
  have hf1 := frok_st frok_o (-8) 8 ⟨5, 0, 0⟩
  generalize hq : stR Fr.o (-8) 8 ⟨5, 0, 0⟩ = q at *
  have hq1 : q.1 = 0 := by rw [s1]
  have hl1 : ldR q.2 (-8) 8 = (⟨5, 0, 0⟩, 0) := by rw [s1]; rfl
  have hl2 : ldR q.2 (-8) 4 = (V3.o, 26) := by rw [s1]; rfl
  rw [hq1]
  (repeat (first | ((refine (?_ : MX _ _ _ _ _ _ _ _ _ _ _)); first | refine mx_end ?_ | (refine mx_as _ rfl rfl (by conv => {lhs; whnf}) ?_) ) | refine cw_seq ?_ | refine cw_line rfl ?_ | refine pw_then ?_ ))
  refine g_cf 30 rfl ?_
  refine a_callv rfl rfl rfl rfl Try.func30 rfl rfl rfl (.tuple #[.agg (cV ⟨5, 0, 0⟩).toArray, .int .i64 0]) (fun w' hw => by
    have := load30 bf q.2 hf1 (-8) 8 w' (hw.holds 0 _ rfl)
    rwa [hl1] at this) rfl ?_
  (repeat (first | ((refine (?_ : MX _ _ _ _ _ _ _ _ _ _ _)); first | refine mx_end ?_ | (refine mx_mv _ rfl rfl (by conv => {lhs; whnf}) ?_) | (refine mx_as _ rfl rfl (by conv => {lhs; whnf}) ?_) | (refine mx_ex _ rfl rfl rfl (by conv => {lhs; whnf}) ?_) | (refine g_store rfl ?_; refine s_l E rfl rfl rfl rfl rfl rfl rfl (by exact Sp.all (by simp only [len_F, len_V, len_S]) ) rfl ?_ ) | (refine a_new rfl rfl rfl rfl rfl (fun _ => ?_)) ) | refine cw_seq ?_ | refine cw_line rfl ?_ | refine pw_then ?_ ))
  refine g_cf 30 rfl ?_
  refine a_callv rfl rfl rfl rfl Try.func30 rfl rfl rfl (.tuple #[.agg (cV V3.o).toArray, .int .i64 26]) (fun w' hw => by
    have := load30 bf q.2 hf1 (-8) 4 w' (hw.holds 1 _ rfl)
    rwa [hl2] at this) rfl ?_
  (repeat (first | ((refine (?_ : MX _ _ _ _ _ _ _ _ _ _ _)); first | refine mx_end ?_ | (refine mx_mv _ rfl rfl (by conv => {lhs; whnf}) ?_) | (refine mx_as _ rfl rfl (by conv => {lhs; whnf}) ?_) | (refine g_load rfl ?_; refine mx_getn E rfl rfl rfl rfl rfl (by exact vr_V _ ) rfl ?_ ) | (refine g_bin rfl ?_; first | ((refine mx_cmpl .eql rfl rfl rfl rfl rfl (by exact cmp_eq_t (by omega) ) ?_) ) | (refine mx_eqs rfl rfl rfl rfl rfl rfl ?_ ) ) | (refine mx_not rfl rfl rfl ?_) | (refine mx_ex _ rfl rfl rfl (by conv => {lhs; whnf}) ?_) | (refine g_pick rfl ?_; refine mx_and rfl rfl rfl rfl rfl rfl ?_ ) | (refine g_store rfl ?_; refine s_l E rfl rfl rfl rfl rfl rfl rfl (by exact Sp.all (by simp only [len_F, len_V, len_S]) ) rfl ?_ ) | (refine a_new rfl rfl rfl rfl rfl (fun _ => ?_)) | (refine g_call rfl ?_; (refine g_cf 57 rfl ?_; refine mx_call rfl rfl rfl Try.func57 rfl rfl rfl _ (fun w => ctx57 w) rfl ?_) )) | refine cw_seq ?_ | (refine cw_drawq mixed rfl (by kernel_rfl) rfl ?_) | refine cw_ret ?_ | refine pw_then ?_ ))
  exact pw_ret rfl rfl rfl rfl fun w hw => ⟨rfl, hw.keep.grow⟩
theorem pick27 (k n : Int) (h0 : 1 ≤ n) (h1 : n ≤ 1000000000) (w : World) : Calls Try.prog 27 #[.int .i64 k, .int .i64 n] w fun e w' => e = .returned (.int .i64 (k % n)) ∧ Grow w w' := by
  have ht := Int.tmod_lt_of_pos k (show 0 < n by omega)
  have ht2 := Int.tmod_lt_of_pos (-k) (show 0 < n by omega)
  rw [Int.neg_tmod] at ht2
  refine enter2 (S := fun _ => False) 16 Try.func27 rfl rfl rfl (Ok.start w) ?_
  refine cw_seq ?_; refine cw_line rfl ?_; (repeat (first | ((refine (?_ : MX _ _ _ _ _ _ _ _ _ _ _)); first | refine mx_end ?_ | (refine mx_as _ rfl rfl (by conv => {lhs; whnf}) ?_) ) | refine pw_then ?_))
  refine cw_seq ?_
  refine cw_seq ?_; refine cw_line rfl ?_; (repeat (first | ((refine (?_ : MX _ _ _ _ _ _ _ _ _ _ _)); first | refine mx_end ?_ | (refine mx_mv _ rfl rfl (by conv => {lhs; whnf}) ?_) | (refine g_bin rfl ?_; ( (refine mx_cmpl .lss rfl rfl rfl rfl rfl (by exact cmp_lt_f (by omega) ) ?_) ) ) ) | refine pw_then ?_))
  refine cw_cond_f rfl ?_
  refine cw_skip ?_
  refine pw_then ?_
  refine cw_seq ?_
  refine cw_line rfl ?_
  refine mx_mv _ rfl rfl (by conv => {lhs; whnf}) ?_
  refine mx_mv _ rfl rfl (by conv => {lhs; whnf}) ?_
  refine mx_dv rfl rfl rfl rfl rfl (by omega) rfl rfl rfl ?_
  by_cases hn : k.tmod n < 0
  · have e : k.tmod n + n = k % n := by
      have h2 := Int.emod_add_mul_ediv k n
      have h3 := Int.tmod_add_mul_tdiv k n
      have h4 := Int.emod_nonneg k (show n ≠ 0 by omega)
      have h5 := Int.emod_lt_of_pos k (show 0 < n by omega)
      exact (Int.emod_emod_of_dvd k (Int.dvd_refl n)).symm.trans (by
        have e6 : k % n = (k.tmod n + n) % n := by
          rw [Int.add_emod_right]
          conv => lhs; rw [← h3]
          rw [Int.add_mul_emod_self_left]
        rw [e6, Int.emod_emod_of_dvd _ (Int.dvd_refl n)]
        exact Int.emod_eq_of_lt (by omega) (by omega)) |>.symm
    (repeat (first | ((refine (?_ : MX _ _ _ _ _ _ _ _ _ _ _)); first | refine mx_end ?_ | (refine mx_mv _ rfl rfl (by conv => {lhs; whnf}) ?_) | (refine mx_as _ rfl rfl (by conv => {lhs; whnf}) ?_) | (refine g_bin rfl ?_; first | ( (refine mx_cmpl .lss rfl rfl rfl rfl rfl (by exact cmp_lt_t (by omega) ) ?_) ) | (refine mx_ar rfl rfl rfl rfl rfl rfl (IntWalk.i64_in _ (by omega)) rfl ?_ ) ) ) | refine cw_seq ?_ | refine cw_line rfl ?_ | refine cw_cond_t rfl ?_ | refine cw_ret ?_ | refine pw_then ?_ ))
    rw [e]
    exact pw_ret rfl rfl rfl rfl fun w hw => ⟨rfl, hw.keep.grow⟩
  · have e : k.tmod n = k % n := by
      have h3 := Int.tmod_add_mul_tdiv k n
      have e6 : k % n = k.tmod n % n := by
        conv => lhs; rw [← h3]
        rw [Int.add_mul_emod_self_left]
      rw [e6]
      exact (Int.emod_eq_of_lt (by omega) (by omega)).symm
    (repeat (first | ((refine (?_ : MX _ _ _ _ _ _ _ _ _ _ _)); first | refine mx_end ?_ | (refine mx_mv _ rfl rfl (by conv => {lhs; whnf}) ?_) | (refine mx_as _ rfl rfl (by conv => {lhs; whnf}) ?_) | (refine g_bin rfl ?_; ( (refine mx_cmpl .lss rfl rfl rfl rfl rfl (by exact cmp_lt_f (by omega) ) ?_) ) ) ) | refine cw_seq ?_ | refine cw_line rfl ?_ | refine cw_cond_f rfl ?_ | refine cw_skip ?_ | refine cw_ret ?_ | refine pw_then ?_ ))
    rw [e]
    exact pw_ret rfl rfl rfl rfl fun w hw => ⟨rfl, hw.keep.grow⟩
end Go.Proofs.Ytdimcafdmaidpaa
