/- What goes ran no more often than what is kept: the walk of the law CacheLeast. -/
import Derived.Test.YtikdbgheefjpkaaQm
set_option maxRecDepth 100000
set_option maxHeartbeats 8000000
set_option linter.unusedSimpArgs false
set_option linter.unusedVariables false
namespace Go.Proofs.Ytikdbgheefjpkaa
open Go Go.Sx Go.RowKit
theorem putV_mem {x v : VC} {L : List VC} (h : v ∈ putV x L) : v ∈ L ∨ v = x := by
  unfold putV at h
  split at h
  · obtain ⟨y, hy, rfl⟩ := List.mem_map.1 h
    split
    · exact .inr rfl
    · exact .inl hy
  · rcases List.mem_append.1 h with h | h
    · exact .inl h
    · exact .inr (by simpa using h)
theorem putC_sub {r : Int → Int} {m : Int} {x : VC} {L : List VC} {gone : List Int} {L' : List VC} (h : putC m r x L = (gone, L')) {n : Nat} (hk : OkC L n) (hx : OkF x) (hw : wfI x.prog) : OkC L' (n + 1) ∧ ∀ v ∈ L', v ∈ L ∨ v = x := by
  unfold putC at h
  split at h
  · obtain ⟨rfl, rfl⟩ := Prod.mk.inj h
    exact ⟨(hk.del _).le (by omega), fun v hv => .inl (List.mem_filter.1 hv).1⟩
  · split at h
    · obtain ⟨rfl, rfl⟩ := Prod.mk.inj h
      exact ⟨hk.put hx hw, fun v hv => putV_mem hv⟩
    · obtain ⟨rfl, rfl⟩ := Prod.mk.inj h
      exact ⟨(hk.put hx hw).del _, fun v hv => putV_mem (List.mem_filter.1 hv).1⟩
def Z256 : List Int := List.replicate 256 0
instance : ZeroT Try.prog 54 (Z256.flatMap cI) := ⟨by kernel_rfl⟩
instance : Cl (Z256.flatMap cI) 256 := ⟨by kernel_rfl, by kernel_rfl⟩
theorem res_ok {r : Int → Int} {m : Int} {k : Nat} : ∀ (n : Nat) (L : List VC), OkC L k → OkC (resV r m n L).2 k ∧ ∀ v ∈ (resV r m n L).2, v ∈ L
  | 0, L, h => ⟨h, fun v hv => hv⟩
  | n + 1, L, h => by
    unfold resV
    split
    · have h2 := res_ok (r := r) (m := m) n (delV (evV r (progsL L)) L) (h.del _)
      exact ⟨h2.1, fun v hv => (List.mem_filter.1 (h2.2 v hv)).1⟩
    · exact ⟨h, fun v hv => hv⟩
theorem rel36 {RL : List Int} {rs : List (Int × Int)} (ir : ∀ p : Nat, p < 256 → RL[p]? = some (runs p rs)) {a b : Int} (ha : 0 ≤ a ∧ a ≤ 255) (hb : 0 ≤ b ∧ b ≤ 255) (h : Ahd (fun q => runs q rs) a b) : ∀ x y, RL[a.toNat]? = some x → RL[b.toNat]? = some y → x < y ∨ (x = y ∧ a ≤ b) := by
  intro x y hx hy
  rw [ir _ (by omega), Int.toNat_of_nonneg ha.1] at hx
  rw [ir _ (by omega), Int.toNat_of_nonneg hb.1] at hy
  obtain rfl := Option.some.inj hx
  obtain rfl := Option.some.inj hy
  exact h
theorem b54z : Blt Try.prog 54 [] (Z256.flatMap cI) := ⟨by kernel_rfl⟩
structure LI where
  i : Nat
  fs : List CD
  rs : List (Int × Int)
  RL : List Int
structure LO (M : Int) (q : LI) : Prop where
  i : q.i ≤ 200
  k : OkC (q.fs.map CD.vc) q.i
  n : (q.rs.map Prod.fst).Nodup
  l : q.RL.length = 256
  r : ∀ p : Nat, p < 256 → q.RL[p]? = some (runs p q.rs)
  b : ∀ p, 0 ≤ runs p q.rs ∧ runs p q.rs ≤ q.i
  m : ((q.fs.map CD.vc).length : Int) ≤ M
  p : ∀ v ∈ q.fs.map CD.vc, 0 ≤ v.prog ∧ v.prog ≤ 255
theorem LO.mem {M : Int} {q : LI} (h : LO M q) {b : Int} (hb : b ∈ progsL (q.fs.map CD.vc)) : 0 ≤ b ∧ b ≤ 255 := by
  obtain ⟨v, hv, rfl⟩ := List.mem_map.1 (progs_mem'.1 hb)
  exact h.p v hv
theorem lawCacheLeast (m0 : Int) (ad : Option Addr) (cap : Nat) (bs : List Int) (less : Int) (w : World) (hl : InL w ad 1 cU bs) (hp : ∀ b ∈ bs, 0 ≤ b ∧ b < 256) :
    Calls Try.prog 7 #[.int .i64 m0, .slice ad bs.length cap, .int .i64 less] w fun e w' => e = .returned (.bool true) ∧ Grow w w' := by
  refine enter3 (S := fun _ => False) 109 Try.func7 rfl rfl rfl (Ok.start w) ?_
  obtain ⟨M, hM⟩ : ∃ M, max 0 m0 = M := ⟨_, rfl⟩
  have hM0 : 0 ≤ M := by omega
  (repeat (first | ((refine (?_ : MX _ _ _ _ _ _ _ _ _ _ _)); first | refine mx_end ?_ | (refine mx_mv _ rfl rfl (by conv => {lhs; whnf}) ?_) | (refine mx_as _ rfl rfl (by conv => {lhs; whnf}) ?_) ) | refine cw_seq ?_ | refine cw_line rfl ?_ | refine pw_then ?_ ))
  refine g_cf 32 rfl ?_
  refine a_callL rfl rfl rfl rfl Try.func32 rfl rfl rfl [] _ rfl (fun a : Nat × Nat × Nat => .pointer (some ⟨a.1, 0, none⟩)) (fun a => OCc a.1 a.2.1 a.2.2 M [] []) (fun w' hw _ => new32 m0 M hM w') (fun _ => rfl) (fun _ _ _ => trivial) (fun qn => ?_)
  obtain ⟨bx, fm, rm⟩ := qn
  refine mx_weak (H' := [star (OCc bx fm rm M [] [])]) (fun w h => Ok.star (H := []) h) (fun _ _ => trivial) ?_
  (repeat (first | ((refine (?_ : MX _ _ _ _ _ _ _ _ _ _ _)); first | refine mx_end ?_ | (refine mx_mv _ rfl rfl (by conv => {lhs; whnf}) ?_) | (refine mx_as _ rfl rfl (by conv => {lhs; whnf}) ?_) | (refine g_store rfl ?_; refine s_l E rfl rfl rfl rfl rfl rfl rfl (by exact Sp.all rfl ) rfl ?_ ) | (refine g_build rfl ?_; refine mx_build rfl rfl rfl rfl b54z rfl ?_ ) | (refine a_new rfl rfl rfl rfl rfl (fun _ => ?_)) | ((refine g_bi .max rfl ?_; refine mx_maxi rfl rfl rfl rfl rfl rfl rfl ?_) ) ) | refine cw_seq ?_ | refine cw_line rfl ?_ | refine cw_block ?_ | refine pw_then ?_ ))
  rw [hM]
  have hspZ : Sp (Z256.flatMap cI) 0 (Z256.flatMap cI) (Z256.flatMap cI) := Sp.all rfl
  (repeat (first | ((refine (?_ : MX _ _ _ _ _ _ _ _ _ _ _)); first | refine mx_end ?_ | (refine mx_mv _ rfl rfl (by conv => {lhs; whnf}) ?_) | (refine mx_as _ rfl rfl (by conv => {lhs; whnf}) ?_) | (first | refine mx_fa0 E rfl rfl rfl rfl ?_ | refine mx_fa E rfl rfl rfl rfl ?_) | (refine g_load rfl ?_; first | refine mx_get E rfl rfl rfl rfl rfl (by first | assumption | rfl) rfl ?_ | refine mx_getn E rfl rfl rfl rfl rfl (by first | assumption | exact Vr.all rfl | exact ⟨⟨rfl⟩, rfl⟩) rfl ?_ | refine mx_oldn E rfl rfl rfl rfl rfl (by assumption) (by assumption) (rfl) rfl ?_ | refine mx_old1 E rfl rfl rfl rfl rfl (by assumption) (by assumption) rfl ?_ | refine mx_orow E rfl rfl rfl rfl rfl (by assumption) (by assumption) (by first | assumption | rfl) rfl ?_ | refine mx_orown E rfl rfl rfl rfl rfl (by assumption) (by assumption) (by first | assumption | exact Vr.all rfl | exact ⟨⟨rfl⟩, rfl⟩) rfl ?_ | refine mx_geta E rfl rfl rfl rfl rfl rfl (by first | assumption | rfl) rfl ?_ | refine mx_getna E rfl rfl rfl rfl rfl rfl (by first | assumption | exact Vr.all rfl | exact ⟨⟨rfl⟩, rfl⟩) rfl ?_) | (refine g_bin rfl ?_; first | (first | (refine mx_cmpl .eql rfl rfl rfl rfl rfl (by first | exact cmp_eq_t (by omega) | exact cmp_eq_f (by omega) | rfl) ?_) | (refine mx_cmpl .neq rfl rfl rfl rfl rfl (by first | exact cmp_ne_t (by omega) | exact cmp_ne_f (by omega) | rfl) ?_) | (refine mx_cmpl .lss rfl rfl rfl rfl rfl (by first | exact cmp_lt_t (by omega) | exact cmp_lt_f (by omega) | rfl) ?_) | (refine mx_cmpl .leq rfl rfl rfl rfl rfl (by first | exact cmp_le_t (by omega) | exact cmp_le_f (by omega) | rfl) ?_) | (refine mx_cmpl .gtr rfl rfl rfl rfl rfl (by first | exact cmp_gt_t (by omega) | exact cmp_gt_f (by omega) | rfl) ?_) | (refine mx_cmpl .geq rfl rfl rfl rfl rfl (by first | exact cmp_ge_t (by omega) | exact cmp_ge_f (by omega) | rfl) ?_)) | (first | refine mx_ar rfl rfl rfl rfl rfl rfl ((IntWalk.i64_in _ (by omega)).trans (by with_reducible assumption)) rfl ?_ | refine mx_ar rfl rfl rfl rfl rfl rfl (IntWalk.i64_in _ (by omega)) rfl ?_ | refine mx_ar rfl rfl rfl rfl rfl rfl (by with_reducible assumption) rfl ?_) | (first | refine mx_eqs rfl rfl rfl rfl rfl rfl ?_ | refine mx_nes rfl rfl rfl rfl rfl rfl ?_ | refine mx_eq rfl rfl rfl rfl rfl rfl ?_ | refine mx_ne rfl rfl rfl rfl rfl rfl ?_) | refine mx_bsame E rfl rfl rfl rfl rfl rfl rfl ?_ | refine mx_bnsame E rfl rfl rfl rfl rfl rfl rfl ?_ | refine mx_beq E rfl rfl rfl rfl rfl rfl rfl ?_ | refine mx_bne E rfl rfl rfl rfl rfl rfl rfl ?_ | refine mx_dv rfl rfl rfl rfl rfl (by decide) (congrArg some (by assumption)) rfl rfl ?_ | refine mx_dv rfl rfl rfl rfl rfl (by decide) rfl rfl rfl ?_ | refine mx_bit rfl rfl rfl rfl rfl (congrArg some (by assumption)) rfl rfl ?_ | refine mx_bit rfl rfl rfl rfl rfl rfl rfl rfl ?_ | refine mx_sh rfl rfl rfl rfl rfl (by omega) (congrArg some (by assumption)) rfl rfl ?_ | refine mx_sh rfl rfl rfl rfl rfl (by omega) rfl rfl rfl ?_) | (refine g_ix rfl ?_; first | refine mx_ixan E rfl rfl rfl rfl rfl rfl (by omega) rfl ?_ | refine mx_ixsn E rfl rfl rfl rfl rfl rfl (by omega) rfl ?_ | refine mx_ixsi E rfl rfl rfl rfl rfl rfl (by omega) (by omega) rfl ?_ | refine mx_ixa E rfl rfl rfl rfl rfl rfl (by omega) (by omega) rfl rfl ?_) | (refine mx_nc rfl rfl rfl ?_) | (refine g_bi .len rfl ?_; refine mx_len E rfl rfl rfl rfl ?_) | (refine mx_not rfl rfl rfl ?_) | (refine mx_ex _ rfl rfl rfl (by conv => {lhs; whnf}) ?_) | (refine mx_skip rfl rfl rfl ?_) | (refine g_pick rfl ?_; first | refine mx_andf rfl rfl rfl rfl rfl ?_ | refine mx_ort rfl rfl rfl rfl rfl ?_ | refine mx_and rfl rfl rfl rfl rfl rfl ?_ | refine mx_or rfl rfl rfl rfl rfl rfl ?_ | refine mx_pickt _ rfl rfl rfl rfl (by conv => {lhs; whnf}) rfl ?_ | refine mx_pickf _ rfl rfl rfl rfl (by conv => {lhs; whnf}) rfl ?_) | (refine g_store rfl ?_; first | refine s_l E rfl rfl rfl rfl rfl rfl rfl (by first | assumption | exact Sp.all rfl | exact Sp.lit rfl rfl) rfl ?_ | refine s_1 E rfl rfl rfl rfl rfl rfl rfl rfl (by first | assumption | exact sp0 | exact spS sp0 | exact spS (spS sp0) | exact Sp.lit rfl rfl) rfl ?_) | (refine g_build rfl ?_; first | refine mx_build rfl rfl rfl rfl b54z rfl ?_ | refine mx_build rfl rfl rfl rfl (b59p _) rfl ?_ | refine mx_build rfl rfl rfl rfl (b96 _ _ _) rfl ?_) | (refine a_new rfl rfl rfl rfl rfl (fun _ => ?_)) | (refine g_box rfl ?_; first | refine a_boxl rfl rfl rfl rfl rfl rfl (fun _ => ?_) | refine a_box1 rfl rfl rfl rfl rfl rfl rfl (fun _ => ?_)) | (first | refine mx_indexn E rfl rfl rfl rfl rfl rfl rfl rfl (by omega) (by first | exact vr_RR _ (by omega)) rfl ?_ | refine mx_index E rfl rfl rfl rfl rfl rfl rfl rfl (by omega) (by omega) (by first | exact vr_RR _ (by omega)) rfl ?_) | (refine g_bs rfl ?_; first | refine a_bs0 E rfl rfl rfl rfl rfl rfl (fun _ => ?_) | refine a_bsi E rfl rfl rfl rfl rfl (by (repeat (first | exact EvI.nil | (apply EvI.cons; rfl)))) (by rfl) (by rfl) (by rfl) rfl (fun _ => ?_)) | (refine g_conv rfl ?_; first | refine mx_cv E rfl rfl rfl rfl rfl rfl (by assumption) rfl ?_ | refine mx_cv E rfl rfl rfl rfl rfl rfl (IntWalk.i64_in _ (by omega)) rfl ?_ | refine mx_cv E rfl rfl rfl rfl rfl rfl (IntWalk.u64_in _ (by omega)) rfl ?_ | refine mx_cv E rfl rfl rfl rfl rfl rfl (IntWalk.u8_in _ (by omega)) rfl ?_ | refine mx_cv E rfl rfl rfl rfl rfl rfl rfl rfl ?_) | (first | (refine g_bi .max rfl ?_; refine mx_maxi rfl rfl rfl rfl rfl rfl rfl ?_) | (refine g_bi .min rfl ?_; refine mx_mini rfl rfl rfl rfl rfl rfl rfl ?_)) | (first | refine mx_nilp rfl rfl false rfl (by kernel_rfl) rfl rfl rfl rfl ?_ | (refine g_bi .len rfl ?_; refine mx_mlen mt93 rfl rfl rfl rfl rfl ?_) | refine mx_look mt93 rfl rfl rfl rfl rfl (by with_reducible assumption) rfl ?_ | refine mx_look1 mt94 rfl rfl rfl rfl rfl (by with_reducible assumption) rfl ?_ | refine mx_fn rfl rfl rfl rfl rfl rfl ?_) | (fail)) | refine cw_seq ?_ | refine cw_line rfl ?_ | (fail) | refine cw_block ?_ | refine cw_cond_f rfl ?_ | refine cw_cond_t rfl ?_ | refine cw_skip ?_ | refine cw_exit ?_ | refine cw_ret ?_ | refine pw_then ?_ | refine pw_then_x ?_ | refine pw_then_r ?_ | refine pw_block ?_ | refine pw_block_e ?_ | refine pw_block_n rfl ?_ | refine pw_block_r ?_))
  rename_i b8
  refine cw_loop (ι := LI) (fun q => [(9, .int .i64 q.i), (8, .pointer (some ⟨b8, 0, none⟩)), (7, .pointer (some ⟨bx, 0, none⟩)), (0, .int .i64 M), (1, .slice ad bs.length cap), (2, .int .i64 less)]) (fun q => [row b8 54 (q.RL.flatMap cI), star (OCc bx fm rm M q.fs q.rs)]) (fun q => q.i ≤ bs.length ∧ LO M q) (fun q => bs.length - q.i) ⟨0, [], [], Z256⟩ ⟨Nat.zero_le _, ⟨by decide, OkC.nil, by simp, by simp [Z256], fun p hp => by
    show Z256[p]? = some 0
    unfold Z256
    rw [List.getElem?_replicate, if_pos hp], fun p => ⟨Int.le_refl _, Int.le_refl _⟩, by simpa using hM0, fun v hv => by cases hv⟩⟩ ⟨rfl, rfl, rfl, rfl, rfl, rfl, trivial⟩ (fun w h => h) ?_
  rintro ⟨i, fs, rs, RL⟩ jk ⟨hi, hI⟩
  dsimp only at hi ⊢
  obtain ⟨i200, ik, inn, il, ir, ib, im, ip⟩ := id hI
  dsimp only at i200 ik inn il ir ib im ip
  have hvr : Vr (RL.flatMap cI) 0 256 (RL.flatMap cI) := Vr.all (by rw [flatMap_len len_I, il])
  by_cases hend : (i : Int) < bs.length ∧ (i : Int) < 200
  case neg =>
    have hk' : OkC (fs.map CD.vc) 1000 := ik.le (by omega)
    have hb' : ∀ q, 0 ≤ runs q rs ∧ runs q rs ≤ 1000000 := fun q => by have := ib q; omega
    have hfl : (fs.map CD.vc).length = fs.length := List.length_map ..
    obtain ⟨M2, hM2⟩ : ∃ M2, max 0 less = M2 := ⟨_, rfl⟩
    obtain ⟨P, hP⟩ : ∃ P, progsL (fs.map CD.vc) = P := ⟨_, rfl⟩
    obtain ⟨G, L2, hres⟩ : ∃ G L2, resV (fun q => runs q rs) M2 fs.length (fs.map CD.vc) = (G, L2) := ⟨_, _, rfl⟩
    have hsp := res_spec (r := fun q => runs q rs) (m := M2) (by omega) fs.length (fs.map CD.vc) hfl ik.nd
    rw [hres] at hsp
    obtain ⟨⟨s1, s2⟩, ⟨s3, s4⟩, s5, s6⟩ := hsp
    dsimp only at s1 s2 s3 s4 s5 s6
    obtain ⟨K, hK⟩ : ∃ K, progsL L2 = K := ⟨_, rfl⟩
    have hPl : P.length = fs.length := by rw [← hP, progs_len, hfl]
    have hKl : K.length = L2.length := by rw [← hK, progs_len]
    rw [hK] at s4 s5
    have hfsl := ik.len
    have hE : ¬ (i : Int) < bs.length ∨ ((i : Int) < bs.length ∧ ¬ (i : Int) < 200) := by omega
    rcases hE with h0 | ⟨h0, h1⟩
    all_goals (
      (repeat (first | ((refine (?_ : MX _ _ _ _ _ _ _ _ _ _ _)); first | refine mx_end ?_ | (refine mx_mv _ rfl rfl (by conv => {lhs; whnf}) ?_) | (refine g_bin rfl ?_; ( (refine mx_cmpl .lss rfl rfl rfl rfl rfl (by first | exact cmp_lt_t (by omega) | exact cmp_lt_f (by omega) | rfl) ?_) ) ) | (refine g_bi .len rfl ?_; refine mx_len E rfl rfl rfl rfl ?_) | (refine mx_skip rfl rfl rfl ?_) | (refine g_pick rfl ?_; first | refine mx_andf rfl rfl rfl rfl rfl ?_ | refine mx_and rfl rfl rfl rfl rfl rfl ?_ ) ) | refine cw_seq ?_ | refine cw_line rfl ?_ | refine cw_cond_f rfl ?_ | refine cw_exit ?_ | refine pw_then ?_ | refine pw_then_x ?_ | refine pw_block_e ?_ ))
      refine g_cf 35 rfl ?_; refine a_co1 rfl rfl rfl rfl Try.func35 rfl rfl rfl (OCc bx fm rm M fs rs) (fun a : Option Addr × Nat => .slice a.1 (P : List Int).length a.2) (fun a => ownd a.1 a.2 3 1 (P : List Int).length ((P : List Int).flatMap cI)) (fun _ => OCc bx fm rm M fs rs) (fun w' hw h => progs35 bx fm rm M fs rs hk' P (hP) w' h) (fun _ => rfl) (fun _ _ _ => trivial) (fun qp => ?_)
      obtain ⟨a1, c1⟩ := qp
      refine mx_weak (H' := [row b8 54 (RL.flatMap cI), star (OCc bx fm rm M fs rs)]) (fun w h => h.pick [1, 2] (by simp) rfl) (fun _ _ => trivial) ?_
      (repeat (first | ((refine (?_ : MX _ _ _ _ _ _ _ _ _ _ _)); first | refine mx_end ?_ | (refine mx_mv _ rfl rfl (by conv => {lhs; whnf}) ?_) | (refine mx_as _ rfl rfl (by conv => {lhs; whnf}) ?_) ) | refine cw_seq ?_ | refine cw_line rfl ?_ | refine pw_then ?_ ))
      refine g_cf 37 rfl ?_; refine a_co1 rfl rfl rfl rfl Try.func37 rfl rfl rfl (OCc bx fm rm M fs rs) (fun a : (Option Addr × Nat) × {fs' : List CD // fs'.map CD.vc = L2} => .slice a.1.1 (G : List Int).length a.1.2) (fun a => ownd a.1.1 a.1.2 3 1 (G : List Int).length ((G : List Int).flatMap cI)) (fun a => OCc bx fm rm M2 a.2.1 rs) (fun w' hw h => resize37 bx fm rm M fs rs hk' hb' less M2 (by assumption ) G L2 (hres) w' h) (fun _ => rfl) (fun _ _ _ => trivial) (fun qp => ?_)
      obtain ⟨⟨a2, c2⟩, ⟨f2, g2⟩⟩ := qp
      have hk2 : OkC (f2.map CD.vc) 1000 := by
        have h3 := (res_ok (r := fun q => runs q rs) (m := M2) fs.length (fs.map CD.vc) hk').1
        rw [hres] at h3
        rw [g2]; exact h3
      have hK2 : progsL (f2.map CD.vc) = K := by rw [g2]; exact hK
      refine mx_weak (H' := [ownd a2 c2 3 1 G.length (G.flatMap cI), row b8 54 (RL.flatMap cI), star (OCc bx fm rm M2 f2 rs)]) (fun w h => h) (fun _ _ => trivial) ?_
      (repeat (first | ((refine (?_ : MX _ _ _ _ _ _ _ _ _ _ _)); first | refine mx_end ?_ | (refine mx_mv _ rfl rfl (by conv => {lhs; whnf}) ?_) | (refine mx_as _ rfl rfl (by conv => {lhs; whnf}) ?_) ) | refine cw_seq ?_ | refine cw_line rfl ?_ | refine pw_then ?_ ))
      refine g_cf 35 rfl ?_; refine a_co1 rfl rfl rfl rfl Try.func35 rfl rfl rfl (OCc bx fm rm M2 f2 rs) (fun a : Option Addr × Nat => .slice a.1 (K : List Int).length a.2) (fun a => ownd a.1 a.2 3 1 (K : List Int).length ((K : List Int).flatMap cI)) (fun _ => OCc bx fm rm M2 f2 rs) (fun w' hw h => progs35 bx fm rm M2 f2 rs hk2 K (hK2) w' h) (fun _ => rfl) (fun _ _ _ => trivial) (fun qp => ?_)
      obtain ⟨a3, c3⟩ := qp
      refine mx_weak (H' := [ownd a3 c3 3 1 K.length (K.flatMap cI), ownd a2 c2 3 1 G.length (G.flatMap cI), row b8 54 (RL.flatMap cI)]) (fun w h => h.pick [0, 1, 2] (by simp) rfl) (fun _ _ => trivial) ?_
      (repeat (first | ((refine (?_ : MX _ _ _ _ _ _ _ _ _ _ _)); first | refine mx_end ?_ | (refine mx_mv _ rfl rfl (by conv => {lhs; whnf}) ?_) | (refine mx_as _ rfl rfl (by conv => {lhs; whnf}) ?_) | (refine g_load rfl ?_; refine mx_getn E rfl rfl rfl rfl rfl (by assumption ) rfl ?_ ) | (refine g_bin rfl ?_; first | ((refine mx_cmpl .eql rfl rfl rfl rfl rfl (by exact cmp_eq_t (by omega) ) ?_) ) | ( refine mx_ar rfl rfl rfl rfl rfl rfl (IntWalk.i64_in _ (by omega)) rfl ?_ ) ) | (refine g_bi .len rfl ?_; refine mx_len E rfl rfl rfl rfl ?_) | (refine g_pick rfl ?_; refine mx_and rfl rfl rfl rfl rfl rfl ?_ ) | (first | (refine g_bi .max rfl ?_; refine mx_maxi rfl rfl rfl rfl rfl rfl rfl ?_) | (refine g_bi .min rfl ?_; refine mx_mini rfl rfl rfl rfl rfl rfl rfl ?_)) ) | refine cw_seq ?_ | refine cw_line rfl ?_ | refine pw_then ?_ ))
      refine g_cf 36 rfl ?_
      refine a_callv rfl rfl rfl rfl Try.func36 rfl rfl rfl (.bool true) (fun w' hw => right36 a2 a3 c2 c3 G K RL il (-1) (by omega) (by omega) (fun a hA => hI.mem (s3 a hA)) (fun b hB => hI.mem (s4 b hB)) (fun a hA b hB _ _ => rel36 ir (hI.mem (s3 a hA)) (hI.mem (s4 b hB)) (s5 a hA b hB)) w' (own_in len_I (hw.holds 1 _ rfl) (Nat.le_refl _)) (own_in len_I (hw.holds 0 _ rfl) (Nat.le_refl _))) rfl ?_
      (repeat (((refine (?_ : MX _ _ _ _ _ _ _ _ _ _ _)); first | (refine mx_mv _ rfl rfl (by conv => {lhs; whnf}) ?_) | (refine g_pick rfl ?_; refine mx_and rfl rfl rfl rfl rfl rfl ?_ ) ) ))
      refine g_cf 38 rfl ?_
      refine a_callv rfl rfl rfl rfl Try.func38 rfl rfl rfl (.bool true) (fun w' hw => known38 w') rfl ?_
      (repeat (first | ((refine (?_ : MX _ _ _ _ _ _ _ _ _ _ _)); first | refine mx_end ?_ | (refine mx_as _ rfl rfl (by conv => {lhs; whnf}) ?_) | (refine g_pick rfl ?_; refine mx_and rfl rfl rfl rfl rfl rfl ?_ ) ) | refine cw_ret ?_ | refine pw_then ?_ ))
      exact pw_ret rfl rfl rfl rfl fun w hw => ⟨rfl, hw.keep.grow⟩)
  obtain ⟨b, hb⟩ := getElem_some (xs := bs) (i := i) (by omega)
  have hbr := hp b (List.mem_of_getElem? hb)
  obtain ⟨nb, rfl⟩ : ∃ n : Nat, b = (n : Int) := ⟨b.toNat, by omega⟩
  obtain ⟨b4, off, e, hcc⟩ := inl_at hl hb
  subst e
  have hS : ¬ (fun _ : Nat => False) b4 := id
  have hc0 : w.cell? ⟨b4, off + i * 1, none⟩ = some (.int .u8 nb) := hcc 0 _ rfl
  have hx := ir nb (by omega)
  obtain ⟨x, hxe⟩ : ∃ x, runs nb rs = x := ⟨_, rfl⟩
  obtain ⟨x1, hx1⟩ : ∃ x1, x + 1 = x1 := ⟨_, rfl⟩
  have hxb := ib nb
  rw [hxe] at hx hxb
  have hrx : (RL.flatMap cI)[0 + nb * 1]? = some (.int .i64 x) := by
    have := rd_at len_I hx (o := 0) (show 0 < 1 by omega) rfl [] (p := 0 + nb * 1) (by omega)
    rwa [List.append_nil] at this
  obtain ⟨RL1, hRL1⟩ : ∃ RL1, RL.set nb x1 = RL1 := ⟨_, rfl⟩
  have hspx : Sp (RL.flatMap cI) (0 + nb * 1) [.int .i64 x1] (RL1.flatMap cI) := by
    have := sp_at (c := cI) len_I hx (x' := x1) (o := 0) (us := [.int .i64 x1]) sp0 [] (p := 0 + nb * 1) (by omega)
    rwa [List.append_nil, List.append_nil, hRL1] at this
  have hl1 : RL1.length = 256 := by rw [← hRL1, List.length_set, il]
  have hx1' : RL1[nb]? = some x1 := by rw [← hRL1, List.getElem?_set_self (by omega)]
  have hrx1 : (RL1.flatMap cI)[0 + nb * 1]? = some (.int .i64 x1) := by
    have := rd_at len_I hx1' (o := 0) (show 0 < 1 by omega) rfl [] (p := 0 + nb * 1) (by omega)
    rwa [List.append_nil] at this
  have hvr1 : Vr (RL1.flatMap cI) 0 256 (RL1.flatMap cI) := Vr.all (by rw [flatMap_len len_I, hl1])
  (repeat (first | ((refine (?_ : MX _ _ _ _ _ _ _ _ _ _ _)); first | refine mx_end ?_ | (refine mx_mv _ rfl rfl (by conv => {lhs; whnf}) ?_) | (refine mx_as _ rfl rfl (by conv => {lhs; whnf}) ?_) | (refine g_load rfl ?_; first | refine mx_get E rfl rfl rfl rfl rfl (by assumption ) rfl ?_ | refine mx_old1 E rfl rfl rfl rfl rfl (by assumption) (by assumption) rfl ?_ ) | (refine g_bin rfl ?_; first | ( (refine mx_cmpl .lss rfl rfl rfl rfl rfl (by first | exact cmp_lt_t (by omega) | exact cmp_lt_f (by omega) ) ?_) ) | (refine mx_ar rfl rfl rfl rfl rfl rfl ((IntWalk.i64_in _ (by omega)).trans (by with_reducible assumption)) rfl ?_ ) ) | (refine g_ix rfl ?_; first | refine mx_ixan E rfl rfl rfl rfl rfl rfl (by omega) rfl ?_ | refine mx_ixsn E rfl rfl rfl rfl rfl rfl (by omega) rfl ?_ ) | (refine g_bi .len rfl ?_; refine mx_len E rfl rfl rfl rfl ?_) | (refine g_pick rfl ?_; refine mx_and rfl rfl rfl rfl rfl rfl ?_ ) | (refine g_store rfl ?_; refine s_1 E rfl rfl rfl rfl rfl rfl rfl rfl (by assumption ) rfl ?_) | (refine g_conv rfl ?_; refine mx_cv E rfl rfl rfl rfl rfl rfl (IntWalk.i64_in _ (by omega)) rfl ?_ ) ) | refine cw_seq ?_ | refine cw_line rfl ?_ | refine cw_block ?_ | refine cw_cond_t rfl ?_ | refine cw_skip ?_ | refine pw_then ?_ ))
  refine cw_drawm [0, 1, 3, 4, 5, 2, 6] (fun i => Nat.beq i 2) [row b8 54 (RL1.flatMap cI)] mixed (by kernel_rfl) (fun w h => h.only 0 rfl) ?_
  (repeat (((refine (?_ : MX _ _ _ _ _ _ _ _ _ _ _)); first | (refine mx_mv _ rfl rfl (by conv => {lhs; whnf}) ?_) | (refine g_load rfl ?_; refine mx_get E rfl rfl rfl rfl rfl (by assumption ) rfl ?_ ) | (refine g_ix rfl ?_; refine mx_ixan E rfl rfl rfl rfl rfl rfl (by omega) rfl ?_ ) ) ))
  refine g_cf 33 rfl ?_
  refine a_co0 rfl rfl rfl rfl Try.func33 rfl rfl rfl (OCc bx fm rm M fs rs) (fun a : {rs' : List (Int × Int) // (rs'.map Prod.fst).Nodup ∧ ∀ q, runs q rs' = if q = (nb : Int) then runs (nb : Int) rs + 1 else runs q rs} => .int .i64 x1) (fun a => OCc bx fm rm M fs a.1) (fun w' hw h => run33 bx fm rm M fs rs inn (nb : Int) (by rw [hxe]; omega) x1 (by rw [hxe]; exact hx1) w' h) (fun _ => rfl) (fun _ _ h => h.only 0 rfl) (fun qr => ?_)
  obtain ⟨rs1, n1, hr1⟩ := qr
  dsimp only
  have ir1 : ∀ p : Nat, p < 256 → RL1[p]? = some (runs p rs1) := fun p hp => by
    rw [hr1 p, hxe, hx1, ← hRL1]
    by_cases e : p = nb
    · subst e
      rw [if_pos rfl, List.getElem?_set_self (by omega)]
    · rw [if_neg (by omega), List.getElem?_set_ne (by omega)]
      exact ir p hp
  have ib1 : ∀ p, 0 ≤ runs p rs1 ∧ runs p rs1 ≤ ((i + 1 : Nat) : Int) := fun p => by
    rw [hr1 p, hxe]
    have := ib p
    split <;> omega
  obtain ⟨T, hT⟩ : ∃ T, (nb : Int).tmod 2 = T := ⟨_, rfl⟩
  by_cases hT1 : T = 1
  · (repeat (first | ((refine (?_ : MX _ _ _ _ _ _ _ _ _ _ _)); first | refine mx_end ?_ | (refine mx_mv _ rfl rfl (by conv => {lhs; whnf}) ?_) | (refine mx_as _ rfl rfl (by conv => {lhs; whnf}) ?_) | (refine g_bin rfl ?_; first | (first | (refine mx_cmpl .eql rfl rfl rfl rfl rfl (by exact cmp_eq_t (by omega) ) ?_) | (refine mx_cmpl .neq rfl rfl rfl rfl rfl (by exact cmp_ne_f (by omega) ) ?_) ) | ( refine mx_ar rfl rfl rfl rfl rfl rfl (IntWalk.i64_in _ (by omega)) rfl ?_ ) | refine mx_dv rfl rfl rfl rfl rfl (by decide) (congrArg some (by assumption)) rfl rfl ?_ ) ) | refine cw_seq ?_ | refine cw_line rfl ?_ | refine cw_cond_f rfl ?_ | refine cw_cond_t rfl ?_ | refine cw_skip ?_ | refine cw_exit ?_ | refine pw_then ?_ | refine pw_then_x ?_ | refine pw_block_e ?_ ))
    exact pw_round ⟨i + 1, fs, rs1, RL1⟩ ⟨by show i + 1 ≤ bs.length; omega, ⟨by show i + 1 ≤ 200; omega, ik.le (Nat.le_succ _), n1, hl1, ir1, ib1, im, ip⟩⟩ (by show bs.length - (i + 1) < bs.length - i; omega) ⟨rfl, rfl, rfl, rfl, rfl, rfl, trivial⟩ (fun w h => h.pick [0, 1] (by simp) rfl)
  obtain ⟨G, L2, hput⟩ : ∃ G L2, putC M (fun q => runs q rs1) (pC nb).vc (fs.map CD.vc) = (G, L2) := ⟨_, _, rfl⟩
  obtain ⟨⟨s1, s2⟩, ⟨s3, s4⟩, s5⟩ := put_spec (r := fun q => runs q rs1) hM0 ik.nd im G L2 hput
  obtain ⟨u1, u2⟩ := putC_sub hput ik (okF_pv (nb : Int)) (wfI_of (p := (nb : Int)) (by omega) (by omega))
  have hG1 : (G.length : Int) ≤ 1 := by omega
  have hk998 : OkC (fs.map CD.vc) 998 := ik.le (by omega)
  have hb1 : ∀ q, 0 ≤ runs q rs1 ∧ runs q rs1 ≤ 1000000 := fun q => by have := ib1 q; omega
  obtain ⟨P, hP⟩ : ∃ P, progsL L2 = P := ⟨_, rfl⟩
  have hPl : P.length = L2.length := by rw [← hP, progs_len]
  have hL2 := u1.len
  rw [hP] at s4 s5
  have hgm : ∀ a ∈ G, 0 ≤ a ∧ a ≤ 255 := fun a hA => by
    rcases s3 a hA with h | h
    · exact hI.mem h
    · rw [h]; show (0 : Int) ≤ nb ∧ (nb : Int) ≤ 255; omega
  have hpm : ∀ a ∈ P, 0 ≤ a ∧ a ≤ 255 := fun a hA => by
    rcases s4 a hA with h | h
    · exact hI.mem h
    · rw [h]; show (0 : Int) ≤ nb ∧ (nb : Int) ≤ 255; omega
  (repeat (first | ((refine (?_ : MX _ _ _ _ _ _ _ _ _ _ _)); first | refine mx_end ?_ | (refine mx_mv _ rfl rfl (by conv => {lhs; whnf}) ?_) | (refine g_bin rfl ?_; first | (first | (refine mx_cmpl .eql rfl rfl rfl rfl rfl (by first | exact cmp_eq_t (by omega) | exact cmp_eq_f (by omega) ) ?_) | (refine mx_cmpl .neq rfl rfl rfl rfl rfl (by first | exact cmp_ne_t (by omega) | exact cmp_ne_f (by omega) ) ?_) ) | refine mx_dv rfl rfl rfl rfl rfl (by decide) (congrArg some (by assumption)) rfl rfl ?_ ) | (refine g_build rfl ?_; refine mx_build rfl rfl rfl rfl (b59p _) rfl ?_ ) ) | refine cw_seq ?_ | refine cw_line rfl ?_ | refine cw_cond_f rfl ?_ | refine cw_skip ?_ | refine pw_then ?_ ))
  refine g_cf 34 rfl ?_; refine a_co1 rfl rfl rfl rfl Try.func34 rfl rfl rfl (OCc bx fm rm M fs rs1) (fun a : (Option Addr × Nat) × {fs' : List CD // fs'.map CD.vc = L2} => .slice a.1.1 (G : List Int).length a.1.2) (fun a => ownd a.1.1 a.1.2 3 1 (G : List Int).length ((G : List Int).flatMap cI)) (fun a => OCc bx fm rm M a.2.1 rs1) (fun w' hw h => put34 bx fm rm M (by omega) fs rs1 hk998 hb1 (pC (nb : Int)) (okF_pv (nb : Int)) (wfI_of (p := (nb : Int)) (by omega) (by omega)) G L2 (hput) w' (fun w2 _ => rd_pC (nb : Int) w2) h) (fun _ => rfl) (fun _ _ _ => trivial) (fun qp => ?_)
  obtain ⟨⟨a1, c1⟩, ⟨f1, g1⟩⟩ := qp
  have hk1 : OkC (f1.map CD.vc) 1000 := by rw [g1]; exact u1.le (by omega)
  have hP1 : progsL (f1.map CD.vc) = P := by rw [g1]; exact hP
  refine mx_weak (H' := [ownd a1 c1 3 1 G.length (G.flatMap cI), row b8 54 (RL1.flatMap cI), star (OCc bx fm rm M f1 rs1)]) (fun w h => h) (fun _ _ => trivial) ?_
  (repeat (first | ((refine (?_ : MX _ _ _ _ _ _ _ _ _ _ _)); first | refine mx_end ?_ | (refine mx_mv _ rfl rfl (by conv => {lhs; whnf}) ?_) | (refine mx_as _ rfl rfl (by conv => {lhs; whnf}) ?_) ) | refine cw_seq ?_ | refine cw_line rfl ?_ | refine pw_then ?_ ))
  refine g_cf 35 rfl ?_; refine a_co1 rfl rfl rfl rfl Try.func35 rfl rfl rfl (OCc bx fm rm M f1 rs1) (fun a : Option Addr × Nat => .slice a.1 (P : List Int).length a.2) (fun a => ownd a.1 a.2 3 1 (P : List Int).length ((P : List Int).flatMap cI)) (fun _ => OCc bx fm rm M f1 rs1) (fun w' hw h => progs35 bx fm rm M f1 rs1 hk1 P (hP1) w' h) (fun _ => rfl) (fun _ _ _ => trivial) (fun qp => ?_)
  obtain ⟨a2, c2⟩ := qp
  refine mx_weak (H' := [ownd a2 c2 3 1 P.length (P.flatMap cI), ownd a1 c1 3 1 G.length (G.flatMap cI), row b8 54 (RL1.flatMap cI), star (OCc bx fm rm M f1 rs1)]) (fun w h => h) (fun _ _ => trivial) ?_
  (repeat (first | ((refine (?_ : MX _ _ _ _ _ _ _ _ _ _ _)); first | refine mx_end ?_ | (refine mx_mv _ rfl rfl (by conv => {lhs; whnf}) ?_) | (refine mx_as _ rfl rfl (by conv => {lhs; whnf}) ?_) | (refine g_load rfl ?_; refine mx_getn E rfl rfl rfl rfl rfl (by assumption ) rfl ?_ ) | (refine g_bin rfl ?_; ( (refine mx_cmpl .gtr rfl rfl rfl rfl rfl (by exact cmp_gt_f (by omega) ) ?_) ) ) | (refine g_bi .len rfl ?_; refine mx_len E rfl rfl rfl rfl ?_) | (refine g_pick rfl ?_; refine mx_or rfl rfl rfl rfl rfl rfl ?_ ) ) | refine cw_seq ?_ | refine cw_line rfl ?_ | refine pw_then ?_ ))
  refine g_cf 36 rfl ?_
  refine a_callv rfl rfl rfl rfl Try.func36 rfl rfl rfl (.bool true) (fun w' hw => right36 a1 a2 c1 c2 G P RL1 hl1 nb (by omega) (by omega) hgm hpm (fun a hA b hB h1 h2 => rel36 ir1 (hgm a hA) (hpm b hB) (s5 a hA b hB h1 h2)) w' (own_in len_I (hw.holds 1 _ rfl) (Nat.le_refl _)) (own_in len_I (hw.holds 0 _ rfl) (Nat.le_refl _))) rfl ?_
  (repeat (first | ((refine (?_ : MX _ _ _ _ _ _ _ _ _ _ _)); first | refine mx_end ?_ | (refine mx_mv _ rfl rfl (by conv => {lhs; whnf}) ?_) | (refine mx_as _ rfl rfl (by conv => {lhs; whnf}) ?_) | (refine g_bin rfl ?_; ( refine mx_ar rfl rfl rfl rfl rfl rfl (IntWalk.i64_in _ (by omega)) rfl ?_ ) ) | (refine mx_not rfl rfl rfl ?_) | (refine g_pick rfl ?_; refine mx_or rfl rfl rfl rfl rfl rfl ?_ ) ) | refine cw_line rfl ?_ | refine cw_cond_f rfl ?_ | refine cw_skip ?_ | refine pw_then ?_ | refine pw_block ?_ ))
  exact pw_round ⟨i + 1, f1, rs1, RL1⟩ ⟨by show i + 1 ≤ bs.length; omega, ⟨by show i + 1 ≤ 200; omega, by rw [g1]; exact u1, n1, hl1, ir1, ib1, by rw [g1]; exact s1, fun v hv => by
    rw [g1] at hv
    rcases u2 v hv with h | h
    · exact ip v h
    · rw [h]; show (0 : Int) ≤ nb ∧ (nb : Int) ≤ 255; omega⟩⟩ (by show bs.length - (i + 1) < bs.length - i; omega) ⟨rfl, rfl, rfl, rfl, rfl, rfl, trivial⟩ (fun w h => h.pick [2, 3] (by simp) rfl)
end Go.Proofs.Ytikdbgheefjpkaa
