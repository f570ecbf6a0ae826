/- The program's map of which the key goes that was used longest ago: looked at, found, put, taken away. -/
import Derived.Test.YtminmbkhlnaabaaLr2
set_option maxRecDepth 100000
set_option maxHeartbeats 8000000
set_option linter.unusedSimpArgs false
set_option linter.unusedVariables false
namespace Go.Proofs.Ytminmbkhlnaabaa
open Go Go.Sx Go.RowKit
theorem oix_some (i : Nat) : oix (some i) = (i : Int) := rfl
theorem oix_none : oix none = -1 := rfl
def peekR (k : List Int) (rows : List RW) : Int × Bool := match fidx (plk k) rows 0 with
  | some i => ((rows.getD i default).c, true)
  | none => (0, false)
def delR (k : List Int) (rows : List RW) : List RW := match fidx (plk k) rows 0 with
  | some i => rows.eraseIdx i
  | none => rows
def findR (k : List Int) (rows : List RW) : List RW := match fidx (plk k) rows 0 with
  | some i => rows.getD i default :: rows.eraseIdx i
  | none => rows
section
variable (bx : Nat) (key most : Int) (ra : Option Addr) (rc : Nat) (rows : List RW) (hs : rows.length ≤ 100000) (hR : ∀ r ∈ rows, BytR r) (ad : Option Addr) (m cap : Nat) (k : List Int) (hk : ∀ x ∈ k, 0 ≤ x ∧ x < 256) (hm : k.length = m)
theorem peek16 (hs : rows.length ≤ 100000) (hR : ∀ r ∈ rows, BytR r) (hk : ∀ x ∈ k, 0 ≤ x ∧ x < 256) (hm : k.length = m) (w : World) (h1 : (row bx 73 (hdL key most ra rows.length rc)).holds w) (h2 : InL w ra 2 cR rows) (hl : InL w ad 1 cU k) :
    Calls Try.prog 16 #[.pointer (some ⟨bx, 0, none⟩), .slice ad m cap] w fun e w' => e = .returned (.tuple #[.int .i64 (peekR k rows).1, .bool (peekR k rows).2]) ∧ Grow w w' := by
  refine enter2 (S := fun _ => False) 20 Try.func16 rfl rfl rfl (Ok.start w) ?_
  have hS : ¬ (fun _ : Nat => False) bx := id
  (repeat (first | ((refine (?_ : MX _ _ _ _ _ _ _ _ _ _ _)); first | refine mx_end ?_ | (refine mx_mv _ rfl rfl (by conv => {lhs; whnf}) ?_) | (refine mx_as _ rfl rfl (by conv => {lhs; whnf}) ?_) ) | refine cw_seq ?_ | refine cw_line rfl ?_ | refine pw_then ?_ ))
  refine g_cf 52 rfl ?_
  refine a_callv rfl rfl rfl rfl Try.func52 rfl rfl rfl (.int .i64 (oix (fidx (plk k) rows 0))) (fun w' hw => at52 bx key most ra rc rows (by omega) hR ad m cap k hk hm w' (hw.orow h1 id) (h2.keep hw fun _ _ _ h => h) (hl.keep hw fun _ _ _ h => h)) rfl ?_
  unfold peekR
  cases hf : fidx (plk k) rows 0 with
  | none =>
    rw [oix_none]
    dsimp only
    (repeat (first | ((refine (?_ : MX _ _ _ _ _ _ _ _ _ _ _)); first | refine mx_end ?_ | (refine mx_mv _ rfl rfl (by conv => {lhs; whnf}) ?_) | (refine mx_as _ rfl rfl (by conv => {lhs; whnf}) ?_) | (refine g_bin rfl ?_; ( (refine mx_cmpl .geq rfl rfl rfl rfl rfl (by exact cmp_ge_f (by omega) ) ?_)) ) ) | refine cw_seq ?_ | refine cw_line rfl ?_ | refine cw_cond_f rfl ?_ | refine cw_skip ?_ | refine cw_ret ?_ | refine pw_then ?_ ))
    exact pw_rets rfl [_, _] ⟨rfl, rfl, trivial⟩ rfl fun w hw => ⟨rfl, hw.keep.grow⟩
  | some i =>
    rw [oix_some]
    dsimp only
    obtain ⟨_, hi, r, hx, _⟩ := fidx_le hf
    rw [Nat.sub_zero] at hi hx
    have hg : rows.getD i default = r := by simp [List.getD, hx]
    rw [hg]
    obtain ⟨b4, off, e, hcc⟩ := inl_at h2 hx
    subst e
    have hS4 : ¬ (fun _ : Nat => False) b4 := id
    have hc0 : w.cell? ⟨b4, off + i * 2 + 1, none⟩ = some (.int .i64 r.c) := hcc 1 _ rfl
    (repeat (first | ((refine (?_ : MX _ _ _ _ _ _ _ _ _ _ _)); first | refine mx_end ?_ | (refine mx_mv _ rfl rfl (by conv => {lhs; whnf}) ?_) | (refine mx_as _ rfl rfl (by conv => {lhs; whnf}) ?_) | ( refine mx_fa E rfl rfl rfl rfl ?_) | (refine g_load rfl ?_; first | refine mx_old1 E rfl rfl rfl rfl rfl (by assumption) (by assumption) rfl ?_ | refine mx_orow E rfl rfl rfl rfl rfl (by assumption) (by assumption) (by rfl) rfl ?_ ) | (refine g_bin rfl ?_; ( (refine mx_cmpl .geq rfl rfl rfl rfl rfl (by exact cmp_ge_t (by omega) ) ?_)) ) | (refine g_ix rfl ?_; refine mx_ixsn E rfl rfl rfl rfl rfl rfl (by omega) rfl ?_ ) | (refine mx_nc rfl rfl rfl ?_) ) | refine cw_seq ?_ | refine cw_line rfl ?_ | refine cw_cond_t rfl ?_ | refine cw_ret ?_ | refine pw_then ?_ | refine pw_then_r ?_ ))
    exact pw_rets rfl [_, _] ⟨rfl, rfl, trivial⟩ rfl fun w hw => ⟨rfl, hw.keep.grow⟩
theorem del21 (hs : rows.length ≤ 100000) (hR : ∀ r ∈ rows, BytR r) (hk : ∀ x ∈ k, 0 ≤ x ∧ x < 256) (hm : k.length = m) (w : World) (h0 : Ok (domL (OL bx key most ra rc rows)) w (OL bx key most ra rc rows) w) (hl : InL w ad 1 cU k) (hne : k ≠ [] → ∀ b off, ad = some ⟨b, off, none⟩ → ¬ domL (OL bx key most ra rc rows) b) :
    Calls Try.prog 21 #[.pointer (some ⟨bx, 0, none⟩), .slice ad m cap] w fun e w' => ∃ a : Option Addr × Nat, e = .returned (.tuple #[.int .i64 (peekR k rows).1, .bool (peekR k rows).2]) ∧ Ok (domL (OL bx key most ra rc rows)) w (OL bx key most a.1 a.2 (delR k rows)) w' := by
  refine enter2 (S := domL (OL bx key most ra rc rows)) (H := [row bx 73 (hdL key most ra rows.length rc), rdR ra rows.length rc (rows.flatMap cR)]) 16 Try.func21 rfl rfl rfl h0 ?_
  (repeat (first | ((refine (?_ : MX _ _ _ _ _ _ _ _ _ _ _)); first | refine mx_end ?_ | (refine mx_mv _ rfl rfl (by conv => {lhs; whnf}) ?_) | (refine mx_as _ rfl rfl (by conv => {lhs; whnf}) ?_) ) | refine cw_seq ?_ | refine cw_line rfl ?_ | refine pw_then ?_ ))
  refine g_cf 52 rfl ?_; refine a_callv rfl rfl rfl rfl Try.func52 rfl rfl rfl (.int .i64 (oix (fidx (plk k) rows 0))) (fun w' hw => at52 bx key most ra rc rows (by omega) hR ad m cap k hk hm w' (hw.holds 0 _ rfl) (src_inl len_R (by omega) (hw.holds 1 _ rfl).1) (hl.keep' hw hne)) rfl ?_
  unfold peekR delR
  cases hf : fidx (plk k) rows 0 with
  | none =>
    rw [oix_none]
    dsimp only
    (repeat (first | ((refine (?_ : MX _ _ _ _ _ _ _ _ _ _ _)); first | refine mx_end ?_ | (refine mx_mv _ rfl rfl (by conv => {lhs; whnf}) ?_) | (refine mx_as _ rfl rfl (by conv => {lhs; whnf}) ?_) | (refine g_bin rfl ?_; ( (refine mx_cmpl .lss rfl rfl rfl rfl rfl (by exact cmp_lt_t (by omega) ) ?_) ) ) ) | refine cw_seq ?_ | refine cw_line rfl ?_ | refine cw_cond_t rfl ?_ | refine cw_ret ?_ | refine pw_then ?_ | refine pw_then_r ?_ ))
    exact pw_rets rfl [_, _] ⟨rfl, rfl, trivial⟩ rfl fun w hw => ⟨(ra, rc), rfl, hw⟩
  | some i =>
    rw [oix_some]
    dsimp only
    obtain ⟨_, hi, r, hx, _⟩ := fidx_le hf
    rw [Nat.sub_zero] at hi hx
    have hg : rows.getD i default = r := by simp [List.getD, hx]
    rw [hg]
    (repeat (first | ((refine (?_ : MX _ _ _ _ _ _ _ _ _ _ _)); first | refine mx_end ?_ | (refine mx_mv _ rfl rfl (by conv => {lhs; whnf}) ?_) | (refine mx_as _ rfl rfl (by conv => {lhs; whnf}) ?_) | (refine g_bin rfl ?_; ( (refine mx_cmpl .lss rfl rfl rfl rfl rfl (by exact cmp_lt_f (by omega) ) ?_) ) ) ) | refine cw_seq ?_ | refine cw_line rfl ?_ | refine cw_cond_f rfl ?_ | refine cw_skip ?_ | refine pw_then ?_ ))
    refine g_cf 53 rfl ?_
    refine a_calls rfl rfl rfl rfl Try.func53 rfl rfl rfl (OL bx key most ra rc rows) [] (fun w h => by simpa [OL] using h) (fun a : Option Addr × Nat => .agg (cR r).toArray) (fun a => OL bx key most a.1 a.2 (rows.eraseIdx i)) (fun w' hw h => out53 bx key most ra rc rows (by omega) i r hx w' h) (fun _ => rfl) (fun _ _ _ => trivial) (fun a => ?_)
    (repeat (first | ((refine (?_ : MX _ _ _ _ _ _ _ _ _ _ _)); first | refine mx_end ?_ | (refine mx_as _ rfl rfl (by conv => {lhs; whnf}) ?_) | (refine mx_fld (off := 1) rfl rfl rfl rfl (by kernel_rfl) rfl rfl ?_ ) ) | refine cw_ret ?_ | refine pw_then ?_ ))
    exact pw_rets rfl [_, _] ⟨rfl, rfl, trivial⟩ rfl fun w hw => ⟨a, rfl, by simpa using hw⟩
theorem find14 (hs : rows.length ≤ 100000) (hR : ∀ r ∈ rows, BytR r) (hk : ∀ x ∈ k, 0 ≤ x ∧ x < 256) (hm : k.length = m) (w : World) (h0 : Ok (domL (OL bx key most ra rc rows)) w (OL bx key most ra rc rows) w) (hl : InL w ad 1 cU k) (hne : k ≠ [] → ∀ b off, ad = some ⟨b, off, none⟩ → ¬ domL (OL bx key most ra rc rows) b) :
    Calls Try.prog 14 #[.pointer (some ⟨bx, 0, none⟩), .slice ad m cap] w fun e w' => ∃ a : Option Addr × Nat, e = .returned (.tuple #[.int .i64 (peekR k rows).1, .bool (peekR k rows).2]) ∧ Ok (domL (OL bx key most ra rc rows)) w (OL bx key most a.1 a.2 (findR k rows)) w' := by
  refine enter2 (S := domL (OL bx key most ra rc rows)) (H := [row bx 73 (hdL key most ra rows.length rc), rdR ra rows.length rc (rows.flatMap cR)]) 24 Try.func14 rfl rfl rfl h0 ?_
  (repeat (first | ((refine (?_ : MX _ _ _ _ _ _ _ _ _ _ _)); first | refine mx_end ?_ | (refine mx_mv _ rfl rfl (by conv => {lhs; whnf}) ?_) | (refine mx_as _ rfl rfl (by conv => {lhs; whnf}) ?_) ) | refine cw_seq ?_ | refine cw_line rfl ?_ | refine pw_then ?_ ))
  refine g_cf 52 rfl ?_; refine a_callv rfl rfl rfl rfl Try.func52 rfl rfl rfl (.int .i64 (oix (fidx (plk k) rows 0))) (fun w' hw => at52 bx key most ra rc rows (by omega) hR ad m cap k hk hm w' (hw.holds 0 _ rfl) (src_inl len_R (by omega) (hw.holds 1 _ rfl).1) (hl.keep' hw hne)) rfl ?_
  unfold peekR findR
  cases hf : fidx (plk k) rows 0 with
  | none =>
    rw [oix_none]
    dsimp only
    (repeat (first | ((refine (?_ : MX _ _ _ _ _ _ _ _ _ _ _)); first | refine mx_end ?_ | (refine mx_mv _ rfl rfl (by conv => {lhs; whnf}) ?_) | (refine mx_as _ rfl rfl (by conv => {lhs; whnf}) ?_) | (refine g_bin rfl ?_; ( (refine mx_cmpl .lss rfl rfl rfl rfl rfl (by exact cmp_lt_t (by omega) ) ?_) ) ) ) | refine cw_seq ?_ | refine cw_line rfl ?_ | refine cw_cond_t rfl ?_ | refine cw_ret ?_ | refine pw_then ?_ | refine pw_then_r ?_ ))
    exact pw_rets rfl [_, _] ⟨rfl, rfl, trivial⟩ rfl fun w hw => ⟨(ra, rc), rfl, hw⟩
  | some i =>
    rw [oix_some]
    dsimp only
    obtain ⟨_, hi, r, hx, _⟩ := fidx_le hf
    rw [Nat.sub_zero] at hi hx
    have hg : rows.getD i default = r := by simp [List.getD, hx]
    rw [hg]
    (repeat (first | ((refine (?_ : MX _ _ _ _ _ _ _ _ _ _ _)); first | refine mx_end ?_ | (refine mx_mv _ rfl rfl (by conv => {lhs; whnf}) ?_) | (refine mx_as _ rfl rfl (by conv => {lhs; whnf}) ?_) | (refine g_bin rfl ?_; ( (refine mx_cmpl .lss rfl rfl rfl rfl rfl (by exact cmp_lt_f (by omega) ) ?_) ) ) ) | refine cw_seq ?_ | refine cw_line rfl ?_ | refine cw_cond_f rfl ?_ | refine cw_skip ?_ | refine pw_then ?_ ))
    refine g_cf 53 rfl ?_
    refine a_calls rfl rfl rfl rfl Try.func53 rfl rfl rfl (OL bx key most ra rc rows) [] (fun w h => by simpa [OL] using h) (fun a : Option Addr × Nat => .agg (cR r).toArray) (fun a => OL bx key most a.1 a.2 (rows.eraseIdx i)) (fun w' hw h => out53 bx key most ra rc rows (by omega) i r hx w' h) (fun _ => rfl) (fun _ _ _ => trivial) (fun a => ?_)
    obtain ⟨ra1, rc1⟩ := a
    (repeat (first | ((refine (?_ : MX _ _ _ _ _ _ _ _ _ _ _)); first | refine mx_end ?_ | (refine mx_mv _ rfl rfl (by conv => {lhs; whnf}) ?_) | (refine mx_as _ rfl rfl (by conv => {lhs; whnf}) ?_) | (first | refine mx_fa0 E rfl rfl rfl rfl ?_ | refine mx_fa E rfl rfl rfl rfl ?_) | (refine g_load rfl ?_; first | refine mx_get E rfl rfl rfl rfl rfl (by first | assumption | rfl) rfl ?_ | refine mx_getn E rfl rfl rfl rfl rfl (by first | exact Vr.all rfl | exact ⟨⟨rfl⟩, rfl⟩) rfl ?_ | refine mx_oldn E rfl rfl rfl rfl rfl (by assumption) (by assumption) (rfl) rfl ?_ | refine mx_old1 E rfl rfl rfl rfl rfl (by assumption) (by assumption) rfl ?_ | refine mx_orow E rfl rfl rfl rfl rfl (by assumption) (by assumption) (by first | assumption | rfl) rfl ?_ | refine mx_orown E rfl rfl rfl rfl rfl (by assumption) (by assumption) (by first | exact Vr.all rfl | exact ⟨⟨rfl⟩, rfl⟩) rfl ?_ | refine mx_geta E rfl rfl rfl rfl rfl rfl (by first | assumption | rfl) rfl ?_ | refine mx_getna E rfl rfl rfl rfl rfl rfl (by first | exact Vr.all rfl | exact ⟨⟨rfl⟩, rfl⟩) rfl ?_) | (refine g_bin rfl ?_; first | (first | (refine mx_cmpl .eql rfl rfl rfl rfl rfl (by first | exact cmp_eq_t (by omega) | exact cmp_eq_f (by omega) | rfl) ?_) | (refine mx_cmpl .neq rfl rfl rfl rfl rfl (by first | exact cmp_ne_t (by omega) | exact cmp_ne_f (by omega) | rfl) ?_) | (refine mx_cmpl .lss rfl rfl rfl rfl rfl (by first | exact cmp_lt_t (by omega) | exact cmp_lt_f (by omega) | rfl) ?_) | (refine mx_cmpl .leq rfl rfl rfl rfl rfl (by first | exact cmp_le_t (by omega) | exact cmp_le_f (by omega) | rfl) ?_) | (refine mx_cmpl .gtr rfl rfl rfl rfl rfl (by first | exact cmp_gt_t (by omega) | exact cmp_gt_f (by omega) | rfl) ?_) | (refine mx_cmpl .geq rfl rfl rfl rfl rfl (by first | exact cmp_ge_t (by omega) | exact cmp_ge_f (by omega) | rfl) ?_)) | (first | refine mx_ar rfl rfl rfl rfl rfl rfl ((IntWalk.i64_in _ (by omega)).trans (by with_reducible assumption)) rfl ?_ | refine mx_ar rfl rfl rfl rfl rfl rfl (IntWalk.i64_in _ (by omega)) rfl ?_) | (first | refine mx_eqs rfl rfl rfl rfl rfl rfl ?_ | refine mx_nes rfl rfl rfl rfl rfl rfl ?_ | refine mx_eq rfl rfl rfl rfl rfl rfl ?_ | refine mx_ne rfl rfl rfl rfl rfl rfl ?_) | refine mx_bsame E rfl rfl rfl rfl rfl rfl rfl ?_ | refine mx_bnsame E rfl rfl rfl rfl rfl rfl rfl ?_ | refine mx_beq E rfl rfl rfl rfl rfl rfl rfl ?_ | refine mx_bne E rfl rfl rfl rfl rfl rfl rfl ?_ | refine mx_dv rfl rfl rfl rfl rfl (by decide) (congrArg some (by assumption)) rfl rfl ?_ | refine mx_dv rfl rfl rfl rfl rfl (by decide) rfl rfl rfl ?_ | refine mx_bit rfl rfl rfl rfl rfl (congrArg some (by assumption)) rfl rfl ?_ | refine mx_bit rfl rfl rfl rfl rfl rfl rfl rfl ?_ | refine mx_sh rfl rfl rfl rfl rfl (by omega) (congrArg some (by assumption)) rfl rfl ?_ | refine mx_sh rfl rfl rfl rfl rfl (by omega) rfl rfl rfl ?_) | (refine g_ix rfl ?_; first | refine mx_ixan E rfl rfl rfl rfl rfl rfl (by omega) rfl ?_ | refine mx_ixsn E rfl rfl rfl rfl rfl rfl (by omega) rfl ?_ | refine mx_ixsi E rfl rfl rfl rfl rfl rfl (by omega) (by omega) rfl ?_ | refine mx_ixa E rfl rfl rfl rfl rfl rfl (by omega) (by omega) rfl rfl ?_) | (refine mx_nc rfl rfl rfl ?_) | (refine g_bi .len rfl ?_; refine mx_len E rfl rfl rfl rfl ?_) | (refine mx_not rfl rfl rfl ?_) | (refine mx_ex _ rfl rfl rfl (by conv => {lhs; whnf}) ?_) | (refine mx_skip rfl rfl rfl ?_) | (refine g_pick rfl ?_; first | refine mx_andf rfl rfl rfl rfl rfl ?_ | refine mx_ort rfl rfl rfl rfl rfl ?_ | refine mx_and rfl rfl rfl rfl rfl rfl ?_ | refine mx_or rfl rfl rfl rfl rfl rfl ?_ | refine mx_pickt _ rfl rfl rfl rfl (by conv => {lhs; whnf}) rfl ?_ | refine mx_pickf _ rfl rfl rfl rfl (by conv => {lhs; whnf}) rfl ?_) | (refine g_store rfl ?_; first | refine s_l E rfl rfl rfl rfl rfl rfl rfl (by first | exact Sp.all rfl | exact Sp.lit rfl rfl) rfl ?_ | refine s_1 E rfl rfl rfl rfl rfl rfl rfl rfl (by first | exact sp0 | exact spS sp0 | exact spS (spS sp0) | exact Sp.lit rfl rfl) rfl ?_) | (refine g_build rfl ?_; first | refine mx_build rfl rfl rfl rfl (b73 _ _) rfl ?_ | refine mx_build rfl rfl rfl rfl (b76 _ _) rfl ?_) | (refine a_new rfl rfl rfl rfl rfl (fun _ => ?_)) | (refine g_box rfl ?_; first | refine a_boxl rfl rfl rfl rfl rfl rfl (fun _ => ?_) | refine a_box1 rfl rfl rfl rfl rfl rfl rfl (fun _ => ?_)) | (first | refine mx_indexn E rfl rfl rfl rfl rfl rfl rfl rfl (by omega) (by first | exact vr_RR _ (by omega)) rfl ?_ | refine mx_index E rfl rfl rfl rfl rfl rfl rfl rfl (by omega) (by omega) (by first | exact vr_RR _ (by omega)) rfl ?_) | (refine g_bs rfl ?_; first | refine a_bs0 E rfl rfl rfl rfl rfl rfl (fun _ => ?_) | refine a_bsi E rfl rfl rfl rfl rfl (by (repeat (first | exact EvI.nil | (apply EvI.cons; rfl)))) (by rfl) (by rfl) (by rfl) rfl (fun _ => ?_)) | (refine g_conv rfl ?_; first | refine mx_cv E rfl rfl rfl rfl rfl rfl (by assumption) rfl ?_ | refine mx_cv E rfl rfl rfl rfl rfl rfl (IntWalk.i64_in _ (by omega)) rfl ?_ | refine mx_cv E rfl rfl rfl rfl rfl rfl (IntWalk.u64_in _ (by omega)) rfl ?_ | refine mx_cv E rfl rfl rfl rfl rfl rfl (IntWalk.u8_in _ (by omega)) rfl ?_ | refine mx_cv E rfl rfl rfl rfl rfl rfl rfl rfl ?_) | (first | (refine g_bi .max rfl ?_; refine mx_maxi rfl rfl rfl rfl rfl rfl rfl ?_) | (refine g_bi .min rfl ?_; refine mx_mini rfl rfl rfl rfl rfl rfl rfl ?_)) | (first | refine mx_fld (off := 1) rfl rfl rfl rfl (by kernel_rfl) rfl rfl ?_ | refine mx_fn rfl rfl rfl rfl rfl rfl ?_ | refine mx_streq rfl rfl rfl rfl rfl rfl ?_ | refine mx_slice3 E rfl rfl rfl rfl rfl rfl rfl (by omega) (by omega) rfl ?_) | (fail)) | refine cw_seq ?_ | refine cw_line rfl ?_ | (refine cw_drawq mixed rfl (by kernel_rfl) rfl ?_) | refine cw_block ?_ | refine cw_cond_f rfl ?_ | refine cw_cond_t rfl ?_ | refine cw_skip ?_ | refine cw_exit ?_ | refine cw_ret ?_ | refine pw_then ?_ | refine pw_then_x ?_ | refine pw_then_r ?_ | refine pw_block ?_ | refine pw_block_e ?_ | refine pw_block_n rfl ?_ | refine pw_block_r ?_))
    refine g_cf 54 rfl ?_
    refine a_calls rfl rfl rfl rfl Try.func54 rfl rfl rfl (OL bx key most ra1 rc1 (rows.eraseIdx i)) [] (fun w h => by simpa [OL] using h) (fun a : Option Addr × Nat => .tuple #[]) (fun a => OL bx key most a.1 a.2 (r :: rows.eraseIdx i)) (fun w' hw h => first54 bx key most ra1 rc1 (rows.eraseIdx i) (by rw [List.length_eraseIdx]; split <;> omega) r w' h) (fun _ => rfl) (fun _ _ _ => trivial) (fun a => ?_)
    obtain ⟨ra2, rc2⟩ := a
    (repeat (first | ((refine (?_ : MX _ _ _ _ _ _ _ _ _ _ _)); refine mx_end ?_ ) | refine pw_then ?_))
    refine cw_weak (H' := [row bx 73 (hdL key most ra2 (r :: rows.eraseIdx i).length rc2), rdR ra2 (r :: rows.eraseIdx i).length rc2 ((r :: rows.eraseIdx i).flatMap cR)]) (fun w h => by simpa [OL] using h) ?_
    refine cw_know (p := ∃ b off, ra2 = some ⟨b, off, none⟩) (fun w hw => by
      obtain ⟨b, off, e, _⟩ := (hw.holds 1 _ rfl).1 (by simp)
      exact ⟨b, off, e⟩) (fun ⟨b6, off6, e⟩ => ?_)
    subst e
    have hlen : 0 < (r :: rows.eraseIdx i).length := by simp
    (repeat (first | ((refine (?_ : MX _ _ _ _ _ _ _ _ _ _ _)); first | (refine mx_mv _ rfl rfl (by conv => {lhs; whnf}) ?_) | ( refine mx_fa E rfl rfl rfl rfl ?_) | (refine g_load rfl ?_; refine mx_get E rfl rfl rfl rfl rfl (by rfl) rfl ?_ ) | (refine g_ix rfl ?_; refine mx_ixsn E rfl rfl rfl rfl rfl rfl (by omega) rfl ?_ ) | (refine mx_nc rfl rfl rfl ?_) ) | refine cw_seq ?_ | refine cw_line rfl ?_ ))
    refine g_load rfl ?_
    refine a_load1 E rfl rfl rfl rfl rfl rfl (v := .int .i64 r.c) (fun w hw => by
      have h := src_inl (xs := r :: rows.eraseIdx i) len_R (by omega) (hw.holds 1 _ rfl).1
      obtain ⟨b, off, e, hcc⟩ := inl_at h (i := 0) rfl
      obtain ⟨rfl, rfl⟩ : b6 = b ∧ off6 = off := by simpa using e
      exact hcc 1 _ rfl) rfl ?_
    (repeat (first | ((refine (?_ : MX _ _ _ _ _ _ _ _ _ _ _)); first | refine mx_end ?_ | (refine mx_as _ rfl rfl (by conv => {lhs; whnf}) ?_) ) | refine cw_ret ?_ | refine pw_then ?_ ))
    exact pw_rets rfl [_, _] ⟨rfl, rfl, trivial⟩ rfl fun w hw => ⟨(_, rc2), rfl, hw⟩
theorem len19 (w : World) (hs : rows.length ≤ 100000) (h1 : (row bx 73 (hdL key most ra rows.length rc)).holds w) : Calls Try.prog 19 #[.pointer (some ⟨bx, 0, none⟩)] w fun e w' => e = .returned (.int .i64 rows.length) ∧ Grow w w' := by
  refine enter1 (S := fun _ => False) 8 Try.func19 rfl rfl rfl (Ok.start w) ?_
  have hS : ¬ (fun _ : Nat => False) bx := id
  (repeat (first | ((refine (?_ : MX _ _ _ _ _ _ _ _ _ _ _)); first | refine mx_end ?_ | (refine mx_mv _ rfl rfl (by conv => {lhs; whnf}) ?_) | (refine mx_as _ rfl rfl (by conv => {lhs; whnf}) ?_) | ( refine mx_fa E rfl rfl rfl rfl ?_) | (refine g_load rfl ?_; refine mx_orow E rfl rfl rfl rfl rfl (by assumption) (by assumption) (by rfl) rfl ?_ ) | (refine mx_nc rfl rfl rfl ?_) | (refine g_bi .len rfl ?_; refine mx_len E rfl rfl rfl rfl ?_) ) | refine cw_seq ?_ | refine cw_line rfl ?_ | refine cw_ret ?_ | refine pw_then ?_ ))
  exact pw_ret rfl rfl rfl rfl fun w hw => ⟨rfl, hw.keep.grow⟩
end
end Go.Proofs.Ytminmbkhlnaabaa
