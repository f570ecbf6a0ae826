/- Loads and stores on a stack: of the program and of the document; walked. -/
import Derived.Test.YtdimcafdmaidpaaMp
set_option maxRecDepth 100000
set_option maxHeartbeats 8000000
set_option linter.unusedSimpArgs false
set_option linter.unusedVariables false
namespace Go.Proofs.Ytdimcafdmaidpaa
open Go Go.Sx Go.RowKit
theorem sized63v (n : Int) (v : Bool) (hv : sizedB n = v) (w : World) : Calls Try.prog 63 #[.int .i64 n] w fun e w' => e = .returned (.bool v) ∧ Grow w w' := hv ▸ sized63 n w
theorem sized69v (n : Int) (v : Bool) (hv : sizedB n = v) (w : World) : Calls Try.prog 69 #[.int .i64 n] w fun e w' => e = .returned (.bool v) ∧ Grow w w' := hv ▸ sized69 n w
theorem on64v (off n : Int) (v : Bool) (hv : onB off n = v) (w : World) : Calls Try.prog 64 #[.int .i64 off, .int .i64 n] w fun e w' => e = .returned (.bool v) ∧ Grow w w' := hv ▸ on64 off n w
theorem part70v (off n : Int) (v : Bool) (hv : onB off n = v) (w : World) : Calls Try.prog 70 #[.int .i64 off, .int .i64 n] w fun e w' => e = .returned (.bool v) ∧ Grow w w' := hv ▸ part70 off n w
theorem whole66v (b : Nat) (at0 size : Int) (p : Nat) (hp : at0 + 512 = p) (hs : p < 512) (hw : size = 8 ∧ p % 8 = 0) (w : World) : Calls Try.prog 66 #[.pointer (some ⟨b, 0, none⟩), .int .i64 at0, .int .i64 size] w fun e w' => e = .returned (.pointer (some ⟨b, 36 + p / 8 * 12, none⟩)) ∧ Grow w w' := by
  have := whole66 b at0 size p hp hs w
  rwa [if_pos hw] at this
theorem whole66w (b : Nat) (at0 size : Int) (p : Nat) (hp : at0 + 512 = p) (hs : p < 512) (hw : ¬ (size = 8 ∧ p % 8 = 0)) (w : World) : Calls Try.prog 66 #[.pointer (some ⟨b, 0, none⟩), .int .i64 at0, .int .i64 size] w fun e w' => e = .returned (.pointer none) ∧ Grow w w' := by
  have := whole66 b at0 size p hp hs w
  rwa [if_neg hw] at this
/-- Two results, the first one in memory. -/
theorem pw_retcs {n : Nat} {st : Slots} {S : Nat → Prop} {w0 : World} {H : List Res} {P : Program} (E : Env P) {fn : Func} {e : Exit} {R : Ending → World → Prop} (hn : (match e with | .normal | .ret => true | _ => false) = true) {p ty t : Nat} (hr : fn.results = #[.cell p ty, .tmp t]) {b : Nat} (hp : ev n st (.tmp p) = .pointer (some ⟨b, 0, none⟩)) {m : Nat} (ht : at0 E.agg ty = some m) {j T : Nat} {vs : List Value} (hj : H[j]? = some (row b T vs)) (hl : vs.length = m) {v : Value} (hv : ev n st (.tmp t) = v)
    (h : ∀ w, Ok S w0 H w → R (.returned (.tuple #[.agg vs.toArray, v])) w) : PW (bodyPost P fn R) e n st S w0 H := by
  refine pw_rets (st := st) hn [.agg vs.toArray, v] ?_ rfl h
  rw [hr]
  refine ⟨⟨⟨b, 0, none⟩, hp, fun w hw => ?_⟩, hv, trivial⟩
  have h1 := E.agg_load ht ⟨b, 0, none⟩ vs hl (hw.at' j hj (Vw.all vs))
  simpa [Instr.loadAt, Instr.sureAddr] using h1
theorem mx_slice_ato {P : Program} {ops : List Oper} {C : World → Prop} {anc : Nat → Bool} {R : Act → (World → Prop) → Prop} {n : Nat} {st : Slots} {i : Nat} {l : List Nat} {o : Oper} {S : Nat → Prop} {w0 : World} {H : List Res} {d : Tmp} (E : Env P) (ho : nthO ops i = some o) (hg : gd ops.toArray n st o = true) {t : TypeId} {x : Operand} {hi : Operand} (hop : o.op = .slice t x none (some hi) none) {b off : Nat} (hx : ev n st x = .pointer (some ⟨b, off, none⟩)) {kh : IntKind} {q : Int} (hhi : ev n st hi = .int kh q) {m z : Nat} (ht : at1 E.ar t = some (m, z)) (h1 : 0 ≤ q) (h2 : q ≤ m) (h3 : 0 < m)
    (hd : o.dst = some d) (h : MX P ops C anc R l n ((d, .slice (some ⟨b, off, none⟩) q.toNat m) :: st) S w0 H) : MX P ops C anc R (i :: l) n st S w0 H := by
  refine mx_val ho hg (.slice (some ⟨b, off, none⟩) q.toNat m) (fun w => ?_) (by rw [hd]; rfl) h
  obtain ⟨e, hu, ii, hi, hz⟩ := E.ar_spec ht
  have e1 : (q.toNat : Int) = q := Int.toNat_of_nonneg (by omega)
  have e2 : ¬ m = 0 := by omega
  simp [execOp, hop, hx, hhi, Instr.sliceAt, run_underlying hu, Instr.sureAddr, Instr.sliceBounds, run_sliceBound, sizeOf, typeInfo, hi, hz, h1, h2, e1, e2, Addr.add_lit]
attribute [instance] ze26
def ldOk (off size : Int) : Bool := sizedB size && onB off size
theorem gat_byts {f : Fr} (hf : FrOk f) {p n : Nat} (hs : p + n ≤ 512) {cs : List Int} (hg : gat f p n = some cs) : Byts cs := fun c hc => by
  obtain ⟨i, hi⟩ := List.getElem?_of_mem hc
  have hil : i < n := by have := (List.getElem?_eq_some_iff.1 hi).1; rwa [gat_len hg] at this
  have h3 := (gat_some hg i hil).2.2
  rw [hi] at h3
  obtain rfl := Option.some.inj h3
  exact (hf _ (by omega)).2 _ (Nat.mod_lt _ (by decide))
/-- What a load tells. -/
def ldR (f : Fr) (off size : Int) : V3 × Int :=
  if ldOk off size = true then
    if size = 8 ∧ (off + 512).toNat % 8 = 0 ∧ (f.S ((off + 512).toNat / 8)).v.k ≠ 0 then ((f.S ((off + 512).toNat / 8)).v, 0)
    else match gat f (off + 512).toNat size.toNat with
      | some cs => (⟨1, numB cs, 0⟩, 0)
      | none => (V3.o, 26)
  else (V3.o, 22)
theorem ldOk_spec {off size : Int} (h : ldOk off size = true) : ∃ p n : Nat, off + 512 = p ∧ size = n ∧ p + n ≤ 512 ∧ n ≤ 8 ∧ 1 ≤ n ∧ sizedB size = true ∧ onB off size = true ∧ (off + 512).toNat = p ∧ size.toNat = n := by
  unfold ldOk at h
  simp only [Bool.and_eq_true] at h
  have h1 := (sizedB_iff size).1 h.1
  have h2 := (onB_iff off size).1 h.2
  exact ⟨(off + 512).toNat, size.toNat, by omega, by omega, by omega, by omega, by omega, h.1, h.2, rfl, rfl⟩
theorem load30 (b : Nat) (f : Fr) (hf : FrOk f) (off size : Int) (w : World) (h : (row b 31 (cF f)).holds w) :
    Calls Try.prog 30 #[.pointer (some ⟨b, 0, none⟩), .int .i64 off, .int .i64 size] w fun e w' => e = .returned (.tuple #[.agg (cV (ldR f off size).1).toArray, .int .i64 (ldR f off size).2]) ∧ Grow w w' := by
  refine enter3 (S := fun _ => False) 53 Try.func30 rfl rfl rfl (Ok.start w) ?_
  have hS0 : ¬ (fun _ : Nat => False) b := id
  unfold ldR
  cases hok : ldOk off size with
  | false =>
    rw [if_neg (by simp)]
    cases hsz : sizedB size with
    | false =>
      (repeat (first | ((refine (?_ : MX _ _ _ _ _ _ _ _ _ _ _)); first | refine mx_end ?_ | (refine mx_mv _ rfl rfl (by conv => {lhs; whnf}) ?_) | (refine mx_as _ rfl rfl (by conv => {lhs; whnf}) ?_) | (refine mx_not rfl rfl rfl ?_) | (refine mx_skip rfl rfl rfl ?_) | (refine g_pick rfl ?_; refine mx_ort rfl rfl rfl rfl rfl ?_ ) | (refine g_store rfl ?_; refine s_l E rfl rfl rfl rfl rfl rfl rfl (by exact Sp.all (by simp only [len_F, len_V, len_S]) ) rfl ?_ ) | (refine g_build rfl ?_; refine mx_build rfl rfl rfl rfl b24_0 rfl ?_ ) | (refine a_new rfl rfl rfl rfl rfl (fun _ => ?_)) | (refine g_call rfl ?_; (refine g_cf 63 rfl ?_; refine mx_call rfl rfl rfl Try.func63 rfl rfl rfl _ (fun w => sized63v _ _ (by assumption) w) rfl ?_) )) | refine cw_seq ?_ | refine cw_line rfl ?_ | refine cw_cond_t rfl ?_ | refine cw_ret ?_ | refine pw_then ?_ | refine pw_then_r ?_ ))
      exact pw_retcs E (j := 0) rfl rfl rfl rfl rfl (len_V _) rfl fun w hw => ⟨rfl, hw.keep.grow⟩
    | true =>
      have hon : onB off size = false := by unfold ldOk at hok; rw [hsz] at hok; simpa using hok
      (repeat (first | ((refine (?_ : MX _ _ _ _ _ _ _ _ _ _ _)); first | refine mx_end ?_ | (refine mx_mv _ rfl rfl (by conv => {lhs; whnf}) ?_) | (refine mx_as _ rfl rfl (by conv => {lhs; whnf}) ?_) | (refine mx_not rfl rfl rfl ?_) | (refine g_pick rfl ?_; refine mx_or rfl rfl rfl rfl rfl rfl ?_ ) | (refine g_store rfl ?_; refine s_l E rfl rfl rfl rfl rfl rfl rfl (by exact Sp.all (by simp only [len_F, len_V, len_S]) ) rfl ?_ ) | (refine g_build rfl ?_; refine mx_build rfl rfl rfl rfl b24_0 rfl ?_ ) | (refine a_new rfl rfl rfl rfl rfl (fun _ => ?_)) | (refine g_call rfl ?_; first | (refine g_cf 63 rfl ?_; refine mx_call rfl rfl rfl Try.func63 rfl rfl rfl _ (fun w => sized63v _ _ (by assumption) w) rfl ?_) | (refine g_cf 64 rfl ?_; refine mx_call rfl rfl rfl Try.func64 rfl rfl rfl _ (fun w => on64v _ _ _ (by assumption) w) rfl ?_) )) | refine cw_seq ?_ | refine cw_line rfl ?_ | refine cw_cond_t rfl ?_ | refine cw_ret ?_ | refine pw_then ?_ | refine pw_then_r ?_ ))
      exact pw_retcs E (j := 0) rfl rfl rfl rfl rfl (len_V _) rfl fun w hw => ⟨rfl, hw.keep.grow⟩
  | true =>
    rw [if_pos rfl]
    obtain ⟨p, m, hp, hm, hpm, hm8, hm1, hsz, hon, e1, e2⟩ := ldOk_spec hok
    rw [e1, e2]
    have h64 : p / 8 < 64 := by omega
    have rest : gat f p m = none ∨ ∃ cs, gat f p m = some cs := by cases gat f p m <;> simp
    by_cases hw8 : size = 8 ∧ p % 8 = 0
    case pos =>
      by_cases hk : (f.S (p / 8)).v.k = 0
      case neg =>
        rw [if_pos ⟨hw8.1, hw8.2, hk⟩]
        (repeat (first | ((refine (?_ : MX _ _ _ _ _ _ _ _ _ _ _)); first | refine mx_end ?_ | (refine mx_mv _ rfl rfl (by conv => {lhs; whnf}) ?_) | (refine mx_as _ rfl rfl (by conv => {lhs; whnf}) ?_) | (refine mx_fa0 E rfl rfl rfl rfl ?_ ) | (refine g_load rfl ?_; first | refine mx_orow E rfl rfl rfl rfl rfl (by assumption) (by assumption) (by exact rd_Sk _ (by omega) ) rfl ?_ | refine mx_orown E rfl rfl rfl rfl rfl (by assumption) (by assumption) (by exact vr_SV _ (by omega) ) rfl ?_ ) | (refine g_bin rfl ?_; ( (refine mx_cmpl .neq rfl rfl rfl rfl rfl (by exact cmp_ne_t (by omega) ) ?_) ) ) | (refine mx_nc rfl rfl rfl ?_) | (refine mx_not rfl rfl rfl ?_) | (refine g_pick rfl ?_; first | refine mx_and rfl rfl rfl rfl rfl rfl ?_ | refine mx_or rfl rfl rfl rfl rfl rfl ?_ ) | (refine g_store rfl ?_; refine s_l E rfl rfl rfl rfl rfl rfl rfl (by exact Sp.all (by simp only [len_F, len_V, len_S]) ) rfl ?_ ) | (refine a_new rfl rfl rfl rfl rfl (fun _ => ?_)) | ( refine mx_nilp rfl rfl true rfl (by kernel_rfl) rfl rfl rfl rfl ?_) | (refine g_call rfl ?_; first | (refine g_cf 63 rfl ?_; refine mx_call rfl rfl rfl Try.func63 rfl rfl rfl _ (fun w => sized63v _ _ (by assumption) w) rfl ?_) | (refine g_cf 64 rfl ?_; refine mx_call rfl rfl rfl Try.func64 rfl rfl rfl _ (fun w => on64v _ _ _ (by assumption) w) rfl ?_) | (refine g_cf 66 rfl ?_; refine mx_call rfl rfl rfl Try.func66 rfl rfl rfl _ (fun w => whole66v _ _ _ _ (by assumption) (by omega) (by assumption) w) rfl ?_) )) | refine cw_seq ?_ | refine cw_line rfl ?_ | refine cw_cond_f rfl ?_ | refine cw_cond_t rfl ?_ | refine cw_skip ?_ | refine cw_ret ?_ | refine pw_then ?_ | refine pw_then_r ?_ ))
        exact pw_retcs E (j := 0) rfl rfl rfl rfl rfl (len_V _) rfl fun w hw => ⟨rfl, hw.keep.grow⟩
      case pos =>
        rw [if_neg (fun hh => hh.2.2 hk)]
        rcases rest with hg | ⟨cs, hg⟩
        · rw [hg]
          subst hm
          (repeat (first | ((refine (?_ : MX _ _ _ _ _ _ _ _ _ _ _)); first | refine mx_end ?_ | (refine mx_mv _ rfl rfl (by conv => {lhs; whnf}) ?_) | (refine mx_as _ rfl rfl (by conv => {lhs; whnf}) ?_) | (refine mx_fa0 E rfl rfl rfl rfl ?_ ) | (refine g_load rfl ?_; refine mx_orow E rfl rfl rfl rfl rfl (by assumption) (by assumption) (by exact rd_Sk _ (by omega) ) rfl ?_ ) | (refine g_bin rfl ?_; ( (refine mx_cmpl .neq rfl rfl rfl rfl rfl (by exact cmp_ne_f (by omega) ) ?_) ) ) | (refine mx_nc rfl rfl rfl ?_) | (refine mx_not rfl rfl rfl ?_) | (refine g_pick rfl ?_; first | refine mx_and rfl rfl rfl rfl rfl rfl ?_ | refine mx_or rfl rfl rfl rfl rfl rfl ?_ ) | (refine a_new rfl rfl rfl rfl rfl (fun _ => ?_)) | ( refine mx_nilp rfl rfl true rfl (by kernel_rfl) rfl rfl rfl rfl ?_) | (refine g_call rfl ?_; first | (refine g_cf 63 rfl ?_; refine mx_call rfl rfl rfl Try.func63 rfl rfl rfl _ (fun w => sized63v _ _ (by assumption) w) rfl ?_) | (refine g_cf 64 rfl ?_; refine mx_call rfl rfl rfl Try.func64 rfl rfl rfl _ (fun w => on64v _ _ _ (by assumption) w) rfl ?_) | (refine g_cf 66 rfl ?_; refine mx_call rfl rfl rfl Try.func66 rfl rfl rfl _ (fun w => whole66v _ _ _ _ (by assumption) (by omega) (by assumption) w) rfl ?_) )) | refine cw_seq ?_ | refine cw_line rfl ?_ | refine cw_cond_f rfl ?_ | refine cw_skip ?_ | refine pw_then ?_ ))
          refine g_cf 67 rfl ?_
          refine a_callv rfl rfl rfl rfl Try.func67 rfl rfl rfl _ (fun w' hw => read67n b f off p m hp hpm hg w' (hw.orow h hS0)) rfl ?_
          (repeat (first | ((refine (?_ : MX _ _ _ _ _ _ _ _ _ _ _)); first | refine mx_end ?_ | (refine mx_mv _ rfl rfl (by conv => {lhs; whnf}) ?_) | (refine mx_as _ rfl rfl (by conv => {lhs; whnf}) ?_) | (refine g_bin rfl ?_; ( (refine mx_cmpl .neq rfl rfl rfl rfl rfl (by exact cmp_ne_t (by omega) ) ?_) ) ) | (refine mx_ex _ rfl rfl rfl (by conv => {lhs; whnf}) ?_) | (refine g_store rfl ?_; refine s_l E rfl rfl rfl rfl rfl rfl rfl (by exact Sp.all (by simp only [len_F, len_V, len_S]) ) rfl ?_ ) | (refine g_build rfl ?_; refine mx_build rfl rfl rfl rfl b24_0 rfl ?_ ) ) | refine cw_seq ?_ | refine cw_line rfl ?_ | refine cw_cond_t rfl ?_ | refine cw_ret ?_ | refine pw_then ?_ | refine pw_then_r ?_ ))
          exact pw_retcs E (j := 0) rfl rfl rfl rfl rfl (len_V _) rfl fun w hw => ⟨rfl, hw.keep.grow⟩
        · rw [hg]
          subst hm
          (repeat (first | ((refine (?_ : MX _ _ _ _ _ _ _ _ _ _ _)); first | refine mx_end ?_ | (refine mx_mv _ rfl rfl (by conv => {lhs; whnf}) ?_) | (refine mx_as _ rfl rfl (by conv => {lhs; whnf}) ?_) | (refine mx_fa0 E rfl rfl rfl rfl ?_ ) | (refine g_load rfl ?_; refine mx_orow E rfl rfl rfl rfl rfl (by assumption) (by assumption) (by exact rd_Sk _ (by omega) ) rfl ?_ ) | (refine g_bin rfl ?_; ( (refine mx_cmpl .neq rfl rfl rfl rfl rfl (by exact cmp_ne_f (by omega) ) ?_) ) ) | (refine mx_nc rfl rfl rfl ?_) | (refine mx_not rfl rfl rfl ?_) | (refine g_pick rfl ?_; first | refine mx_and rfl rfl rfl rfl rfl rfl ?_ | refine mx_or rfl rfl rfl rfl rfl rfl ?_ ) | (refine a_new rfl rfl rfl rfl rfl (fun _ => ?_)) | ( refine mx_nilp rfl rfl true rfl (by kernel_rfl) rfl rfl rfl rfl ?_) | (refine g_call rfl ?_; first | (refine g_cf 63 rfl ?_; refine mx_call rfl rfl rfl Try.func63 rfl rfl rfl _ (fun w => sized63v _ _ (by assumption) w) rfl ?_) | (refine g_cf 64 rfl ?_; refine mx_call rfl rfl rfl Try.func64 rfl rfl rfl _ (fun w => on64v _ _ _ (by assumption) w) rfl ?_) | (refine g_cf 66 rfl ?_; refine mx_call rfl rfl rfl Try.func66 rfl rfl rfl _ (fun w => whole66v _ _ _ _ (by assumption) (by omega) (by assumption) w) rfl ?_) )) | refine cw_seq ?_ | refine cw_line rfl ?_ | refine cw_cond_f rfl ?_ | refine cw_skip ?_ | refine pw_then ?_ ))
          refine g_cf 67 rfl ?_
          refine a_calln rfl rfl rfl rfl Try.func67 rfl rfl rfl (fun a : Option Addr × Nat => .tuple #[.slice a.1 m a.2, .int .i64 0]) (fun a => ownd a.1 a.2 5 1 m (cs.flatMap cU)) (fun w' hw => read67s b f off p m hp hpm cs hg w' (hw.orow h hS0)) rfl (fun a => ?_)
          obtain ⟨a1, c1⟩ := a
          (repeat (first | ((refine (?_ : MX _ _ _ _ _ _ _ _ _ _ _)); first | refine mx_end ?_ | (refine mx_mv _ rfl rfl (by conv => {lhs; whnf}) ?_) | (refine mx_as _ rfl rfl (by conv => {lhs; whnf}) ?_) | (refine g_bin rfl ?_; ( (refine mx_cmpl .neq rfl rfl rfl rfl rfl (by exact cmp_ne_f (by omega) ) ?_) ) ) | (refine mx_ex _ rfl rfl rfl (by conv => {lhs; whnf}) ?_) ) | refine cw_seq ?_ | refine cw_line rfl ?_ | refine cw_cond_f rfl ?_ | refine cw_skip ?_ | refine pw_then ?_ ))
          refine g_cf 68 rfl ?_
          refine a_callv rfl rfl rfl rfl Try.func68 rfl rfl rfl _ (fun w' hw => number68 a1 m c1 cs (gat_len hg) hm8 (gat_byts hf hpm hg) w' (own_in len_U (hw.holds 0 _ rfl) (by rw [gat_len hg]; omega))) rfl ?_
          (repeat (first | ((refine (?_ : MX _ _ _ _ _ _ _ _ _ _ _)); first | refine mx_end ?_ | (refine mx_as _ rfl rfl (by conv => {lhs; whnf}) ?_) | (refine g_store rfl ?_; refine s_l E rfl rfl rfl rfl rfl rfl rfl (by exact Sp.all (by simp only [len_F, len_V, len_S]) ) rfl ?_ ) | (refine g_build rfl ?_; refine mx_build rfl rfl rfl rfl (b24_2 _ _) rfl ?_ ) ) | refine cw_ret ?_ | refine pw_then ?_ ))
          exact pw_retcs E (j := 1) rfl rfl rfl rfl rfl (len_V _) rfl fun w hw => ⟨rfl, hw.keep.grow⟩
    case neg =>
      rw [if_neg (fun hh => hw8 ⟨hh.1, hh.2.1⟩)]
      rcases rest with hg | ⟨cs, hg⟩
      · rw [hg]
        subst hm
        (repeat (first | ((refine (?_ : MX _ _ _ _ _ _ _ _ _ _ _)); first | refine mx_end ?_ | (refine mx_mv _ rfl rfl (by conv => {lhs; whnf}) ?_) | (refine mx_as _ rfl rfl (by conv => {lhs; whnf}) ?_) | (refine mx_not rfl rfl rfl ?_) | (refine mx_skip rfl rfl rfl ?_) | (refine g_pick rfl ?_; first | refine mx_andf rfl rfl rfl rfl rfl ?_ | refine mx_or rfl rfl rfl rfl rfl rfl ?_ ) | (refine a_new rfl rfl rfl rfl rfl (fun _ => ?_)) | ( refine mx_nilp rfl rfl true rfl (by kernel_rfl) rfl rfl rfl rfl ?_) | (refine g_call rfl ?_; first | (refine g_cf 63 rfl ?_; refine mx_call rfl rfl rfl Try.func63 rfl rfl rfl _ (fun w => sized63v _ _ (by assumption) w) rfl ?_) | (refine g_cf 64 rfl ?_; refine mx_call rfl rfl rfl Try.func64 rfl rfl rfl _ (fun w => on64v _ _ _ (by assumption) w) rfl ?_) | (refine g_cf 66 rfl ?_; refine mx_call rfl rfl rfl Try.func66 rfl rfl rfl _ (fun w => whole66w _ _ _ _ (by assumption) (by omega) (by assumption) w) rfl ?_))) | refine cw_seq ?_ | refine cw_line rfl ?_ | refine cw_cond_f rfl ?_ | refine cw_skip ?_ | refine pw_then ?_ ))
        refine g_cf 67 rfl ?_
        refine a_callv rfl rfl rfl rfl Try.func67 rfl rfl rfl _ (fun w' hw => read67n b f off p m hp hpm hg w' (hw.orow h hS0)) rfl ?_
        (repeat (first | ((refine (?_ : MX _ _ _ _ _ _ _ _ _ _ _)); first | refine mx_end ?_ | (refine mx_mv _ rfl rfl (by conv => {lhs; whnf}) ?_) | (refine mx_as _ rfl rfl (by conv => {lhs; whnf}) ?_) | (refine g_bin rfl ?_; ( (refine mx_cmpl .neq rfl rfl rfl rfl rfl (by exact cmp_ne_t (by omega) ) ?_) ) ) | (refine mx_ex _ rfl rfl rfl (by conv => {lhs; whnf}) ?_) | (refine g_store rfl ?_; refine s_l E rfl rfl rfl rfl rfl rfl rfl (by exact Sp.all (by simp only [len_F, len_V, len_S]) ) rfl ?_ ) | (refine g_build rfl ?_; refine mx_build rfl rfl rfl rfl b24_0 rfl ?_ ) ) | refine cw_seq ?_ | refine cw_line rfl ?_ | refine cw_cond_t rfl ?_ | refine cw_ret ?_ | refine pw_then ?_ | refine pw_then_r ?_ ))
        exact pw_retcs E (j := 0) rfl rfl rfl rfl rfl (len_V _) rfl fun w hw => ⟨rfl, hw.keep.grow⟩
      · rw [hg]
        subst hm
        (repeat (first | ((refine (?_ : MX _ _ _ _ _ _ _ _ _ _ _)); first | refine mx_end ?_ | (refine mx_mv _ rfl rfl (by conv => {lhs; whnf}) ?_) | (refine mx_as _ rfl rfl (by conv => {lhs; whnf}) ?_) | (refine mx_not rfl rfl rfl ?_) | (refine mx_skip rfl rfl rfl ?_) | (refine g_pick rfl ?_; first | refine mx_andf rfl rfl rfl rfl rfl ?_ | refine mx_or rfl rfl rfl rfl rfl rfl ?_ ) | (refine a_new rfl rfl rfl rfl rfl (fun _ => ?_)) | ( refine mx_nilp rfl rfl true rfl (by kernel_rfl) rfl rfl rfl rfl ?_) | (refine g_call rfl ?_; first | (refine g_cf 63 rfl ?_; refine mx_call rfl rfl rfl Try.func63 rfl rfl rfl _ (fun w => sized63v _ _ (by assumption) w) rfl ?_) | (refine g_cf 64 rfl ?_; refine mx_call rfl rfl rfl Try.func64 rfl rfl rfl _ (fun w => on64v _ _ _ (by assumption) w) rfl ?_) | (refine g_cf 66 rfl ?_; refine mx_call rfl rfl rfl Try.func66 rfl rfl rfl _ (fun w => whole66w _ _ _ _ (by assumption) (by omega) (by assumption) w) rfl ?_))) | refine cw_seq ?_ | refine cw_line rfl ?_ | refine cw_cond_f rfl ?_ | refine cw_skip ?_ | refine pw_then ?_ ))
        refine g_cf 67 rfl ?_
        refine a_calln rfl rfl rfl rfl Try.func67 rfl rfl rfl (fun a : Option Addr × Nat => .tuple #[.slice a.1 m a.2, .int .i64 0]) (fun a => ownd a.1 a.2 5 1 m (cs.flatMap cU)) (fun w' hw => read67s b f off p m hp hpm cs hg w' (hw.orow h hS0)) rfl (fun a => ?_)
        obtain ⟨a1, c1⟩ := a
        (repeat (first | ((refine (?_ : MX _ _ _ _ _ _ _ _ _ _ _)); first | refine mx_end ?_ | (refine mx_mv _ rfl rfl (by conv => {lhs; whnf}) ?_) | (refine mx_as _ rfl rfl (by conv => {lhs; whnf}) ?_) | (refine g_bin rfl ?_; ( (refine mx_cmpl .neq rfl rfl rfl rfl rfl (by exact cmp_ne_f (by omega) ) ?_) ) ) | (refine mx_ex _ rfl rfl rfl (by conv => {lhs; whnf}) ?_) ) | refine cw_seq ?_ | refine cw_line rfl ?_ | refine cw_cond_f rfl ?_ | refine cw_skip ?_ | refine pw_then ?_ ))
        refine g_cf 68 rfl ?_
        refine a_callv rfl rfl rfl rfl Try.func68 rfl rfl rfl _ (fun w' hw => number68 a1 m c1 cs (gat_len hg) hm8 (gat_byts hf hpm hg) w' (own_in len_U (hw.holds 0 _ rfl) (by rw [gat_len hg]; omega))) rfl ?_
        (repeat (first | ((refine (?_ : MX _ _ _ _ _ _ _ _ _ _ _)); first | refine mx_end ?_ | (refine mx_as _ rfl rfl (by conv => {lhs; whnf}) ?_) | (refine g_store rfl ?_; refine s_l E rfl rfl rfl rfl rfl rfl rfl (by exact Sp.all (by simp only [len_F, len_V, len_S]) ) rfl ?_ ) | (refine g_build rfl ?_; refine mx_build rfl rfl rfl rfl (b24_2 _ _) rfl ?_ ) ) | refine cw_ret ?_ | refine pw_then ?_ ))
        exact pw_retcs E (j := 1) rfl rfl rfl rfl rfl (len_V _) rfl fun w hw => ⟨rfl, hw.keep.grow⟩
/-- The bytes of a number. -/
def bytw (n : Int) (i : Nat) : Int := IntKind.u8.wrap (n / 2 ^ (8 * i))
def byts (n : Int) (m : Nat) : List Int := (List.range m).map (bytw n)
theorem byts_len (n : Int) (m : Nat) : (byts n m).length = m := by simp [byts]
theorem byts_at (n : Int) {m i : Nat} (h : i < m) : (byts n m)[i]? = some (bytw n i) := by simp [byts, h]
theorem byts_take (n : Int) {m k : Nat} (h : k ≤ m) : (byts n m).take k = byts n k := by
  apply List.ext_getElem?
  intro i
  by_cases hi : i < k
  · rw [List.getElem?_take_of_lt hi, byts_at n (by omega), byts_at n hi]
  · rw [List.getElem?_eq_none (by simp [byts]; omega), List.getElem?_eq_none (by simp [byts]; omega)]
def arr (n : Int) (i : Nat) : List Value := ((List.range 8).map fun j => if j < i then bytw n j else 0).flatMap cU
theorem arr_len (n : Int) (i : Nat) : (arr n i).length = 8 := by unfold arr; rw [flatU_len]; simp
theorem arr_get (n : Int) (i k : Nat) : (arr n i)[k]? = if k < 8 then some (.int .u8 (if k < i then bytw n k else 0)) else none := by
  unfold arr
  by_cases hk : k < 8
  · have := flatMap_at len_U ((List.range 8).map fun j => if j < i then bytw n j else 0) k 0 (if k < i then bytw n k else 0) (by simp [hk]) (by omega)
    rw [if_pos hk]
    simpa using this
  · rw [if_neg hk]
    exact List.getElem?_eq_none (by rw [flatU_len]; simp; omega)
theorem sp_arr (n : Int) {i : Nat} (hi : i < 8) : Sp (arr n i) (0 + i * 1) [.int .u8 (bytw n i)] (arr n (i + 1)) := by
  refine ⟨by rw [arr_len]; simp; omega, ?_⟩
  apply List.ext_getElem?
  intro k
  rw [splice_get (by rw [arr_len]; simp; omega), arr_get, arr_get]
  simp only [List.length_singleton]
  by_cases c1 : k < i
  · rw [if_pos (by omega), if_pos (by omega), if_pos c1, if_pos (by omega), if_pos (by omega)]
  · by_cases c2 : k = i
    · subst c2
      rw [if_neg (by omega), if_pos (by omega), if_pos hi, if_pos (by omega)]
      simp
    · rw [if_neg (by omega), if_neg (by omega)]
      by_cases c3 : k < 8
      · rw [if_pos c3, if_pos c3, if_neg c1, if_neg (by omega)]
      · rw [if_neg c3, if_neg c3]
theorem arr_zero (n : Int) : arr n 0 = [.int .u8 0, .int .u8 0, .int .u8 0, .int .u8 0, .int .u8 0, .int .u8 0, .int .u8 0, .int .u8 0] := rfl
theorem arr_all (n : Int) : arr n 8 = (byts n 8).flatMap cU := by
  unfold arr byts
  congr 1
attribute [irreducible] arr
theorem shr64 (n : Int) (i : Nat) (hi : i < 8) : n.fdiv (2 ^ (min ((8 : Int) * (i : Int)).toNat IntKind.u64.bits)) = n / 2 ^ (8 * i) := by
  have e : min ((8 : Int) * (i : Int)).toNat IntKind.u64.bits = 8 * i := by
    show min ((8 : Int) * (i : Int)).toNat 64 = 8 * i
    omega
  rw [e, Int.fdiv_eq_ediv_of_nonneg _ (Int.le_of_lt (Int.pow_pos (by decide)))]
/-- What a store leaves. -/
def stR (f : Fr) (off size : Int) (v : V3) : Int × Fr :=
  if v.k = 0 then (20, f)
  else if ldOk off size = true then
    if v.k = 1 then (0, layN f (off + 512).toNat (byts v.n size.toNat))
    else if size = 8 ∧ (off + 512).toNat % 8 = 0 then (0, f.setS ((off + 512).toNat / 8) ⟨v, fun _ => 0, 0⟩)
    else (24, f)
  else (22, f)
theorem store28 (b : Nat) (f : Fr) (off size : Int) (v : V3) (w : World) (h : (row b 31 (cF f)).holds w) :
    Calls Try.prog 28 #[.pointer (some ⟨b, 0, none⟩), .int .i64 off, .int .i64 size, .agg (cV v).toArray] w fun e w' => e = .returned (.int .i64 (stR f off size v).1) ∧ Chg (row b 31 (cF f)).dom w w' ∧ (row b 31 (cF (stR f off size v).2)).holds w' := by
  refine enter4 57 Try.func28 rfl rfl rfl (Ok.one h (row_lt h)) ?_
  unfold stR
  by_cases hk0 : v.k = 0
  case pos =>
    rw [if_pos hk0]
    (repeat (first | ((refine (?_ : MX _ _ _ _ _ _ _ _ _ _ _)); first | refine mx_end ?_ | (refine mx_as _ rfl rfl (by conv => {lhs; whnf}) ?_) | (refine mx_fa0 E rfl rfl rfl rfl ?_ ) | (refine g_load rfl ?_; refine mx_get E rfl rfl rfl rfl rfl (by exact rd_Vk _ ) rfl ?_ ) | (refine g_bin rfl ?_; ((refine mx_cmpl .eql rfl rfl rfl rfl rfl (by exact cmp_eq_t (by omega) ) ?_) ) ) | (refine g_box rfl ?_; refine a_boxl rfl rfl rfl rfl rfl rfl (fun _ => ?_) ) ) | refine cw_seq ?_ | refine cw_line rfl ?_ | refine cw_block ?_ | refine cw_cond_t rfl ?_ | refine cw_ret ?_ | refine pw_then ?_ | refine pw_then_r ?_ | refine pw_block_r ?_))
    exact pw_ret rfl rfl rfl rfl fun w hw => ⟨rfl, hw.keep, hw.holds 1 _ rfl⟩
  rw [if_neg hk0]
  cases hok : ldOk off size with
  | false =>
    rw [if_neg (by simp)]
    cases hsz : sizedB size with
    | false =>
      (repeat (first | ((refine (?_ : MX _ _ _ _ _ _ _ _ _ _ _)); first | refine mx_end ?_ | (refine mx_mv _ rfl rfl (by conv => {lhs; whnf}) ?_) | (refine mx_as _ rfl rfl (by conv => {lhs; whnf}) ?_) | (refine mx_fa0 E rfl rfl rfl rfl ?_ ) | (refine g_load rfl ?_; refine mx_get E rfl rfl rfl rfl rfl (by exact rd_Vk _ ) rfl ?_ ) | (refine g_bin rfl ?_; ((refine mx_cmpl .eql rfl rfl rfl rfl rfl (by exact cmp_eq_f (by omega) ) ?_) ) ) | (refine mx_not rfl rfl rfl ?_) | (refine mx_skip rfl rfl rfl ?_) | (refine g_pick rfl ?_; refine mx_ort rfl rfl rfl rfl rfl ?_ ) | (refine g_box rfl ?_; refine a_boxl rfl rfl rfl rfl rfl rfl (fun _ => ?_) ) | (refine g_call rfl ?_; (refine g_cf 63 rfl ?_; refine mx_call rfl rfl rfl Try.func63 rfl rfl rfl _ (fun w => sized63v _ _ (by assumption) w) rfl ?_) )) | refine cw_seq ?_ | refine cw_line rfl ?_ | refine cw_block ?_ | refine cw_cond_f rfl ?_ | refine cw_cond_t rfl ?_ | refine cw_ret ?_ | refine pw_then ?_ | refine pw_then_r ?_ | refine pw_block_r ?_))
      exact pw_ret rfl rfl rfl rfl fun w hw => ⟨rfl, hw.keep, hw.holds 1 _ rfl⟩
    | true =>
      have hon : onB off size = false := by unfold ldOk at hok; rw [hsz] at hok; simpa using hok
      (repeat (first | ((refine (?_ : MX _ _ _ _ _ _ _ _ _ _ _)); first | refine mx_end ?_ | (refine mx_mv _ rfl rfl (by conv => {lhs; whnf}) ?_) | (refine mx_as _ rfl rfl (by conv => {lhs; whnf}) ?_) | (refine mx_fa0 E rfl rfl rfl rfl ?_ ) | (refine g_load rfl ?_; refine mx_get E rfl rfl rfl rfl rfl (by exact rd_Vk _ ) rfl ?_ ) | (refine g_bin rfl ?_; ((refine mx_cmpl .eql rfl rfl rfl rfl rfl (by exact cmp_eq_f (by omega) ) ?_) ) ) | (refine mx_not rfl rfl rfl ?_) | (refine g_pick rfl ?_; refine mx_or rfl rfl rfl rfl rfl rfl ?_ ) | (refine g_box rfl ?_; refine a_boxl rfl rfl rfl rfl rfl rfl (fun _ => ?_) ) | (refine g_call rfl ?_; first | (refine g_cf 63 rfl ?_; refine mx_call rfl rfl rfl Try.func63 rfl rfl rfl _ (fun w => sized63v _ _ (by assumption) w) rfl ?_) | (refine g_cf 64 rfl ?_; refine mx_call rfl rfl rfl Try.func64 rfl rfl rfl _ (fun w => on64v _ _ _ (by assumption) w) rfl ?_) )) | refine cw_seq ?_ | refine cw_line rfl ?_ | refine cw_block ?_ | refine cw_cond_f rfl ?_ | refine cw_cond_t rfl ?_ | refine cw_ret ?_ | refine pw_then ?_ | refine pw_then_r ?_ | refine pw_block_r ?_))
      exact pw_ret rfl rfl rfl rfl fun w hw => ⟨rfl, hw.keep, hw.holds 1 _ rfl⟩
  | true =>
    rw [if_pos rfl]
    obtain ⟨p, m, hp, hm, hpm, hm8, hm1, hsz, hon, e1, e2⟩ := ldOk_spec hok
    rw [e1, e2]
    have h64 : p / 8 < 64 := by omega
    by_cases hk1 : v.k = 1
    case pos =>
      rw [if_pos hk1]
      subst hm
      (repeat (first | ((refine (?_ : MX _ _ _ _ _ _ _ _ _ _ _)); first | refine mx_end ?_ | (refine mx_mv _ rfl rfl (by conv => {lhs; whnf}) ?_) | (refine mx_as _ rfl rfl (by conv => {lhs; whnf}) ?_) | (refine mx_fa0 E rfl rfl rfl rfl ?_ ) | (refine g_load rfl ?_; refine mx_get E rfl rfl rfl rfl rfl (by exact rd_Vk _ ) rfl ?_ ) | (refine g_bin rfl ?_; ((refine mx_cmpl .eql rfl rfl rfl rfl rfl (by first | exact cmp_eq_t (by omega) | exact cmp_eq_f (by omega) ) ?_) ) ) | (refine mx_not rfl rfl rfl ?_) | (refine g_pick rfl ?_; refine mx_or rfl rfl rfl rfl rfl rfl ?_ ) | (refine a_new rfl rfl rfl rfl rfl (fun _ => ?_)) | (refine g_box rfl ?_; refine a_boxl rfl rfl rfl rfl rfl rfl (fun _ => ?_) ) | (refine g_call rfl ?_; first | (refine g_cf 63 rfl ?_; refine mx_call rfl rfl rfl Try.func63 rfl rfl rfl _ (fun w => sized63v _ _ (by assumption) w) rfl ?_) | (refine g_cf 64 rfl ?_; refine mx_call rfl rfl rfl Try.func64 rfl rfl rfl _ (fun w => on64v _ _ _ (by assumption) w) rfl ?_) )) | refine cw_seq ?_ | refine cw_line rfl ?_ | refine cw_block ?_ | refine cw_cond_f rfl ?_ | refine cw_cond_t rfl ?_ | refine pw_then ?_ ))
      rename_i b7 b9
      refine cw_loop (fun i : Nat => [(30, .int .i64 i), (9, .pointer (some ⟨b9, 0, none⟩)), (7, .pointer (some ⟨b7, 0, none⟩)), (0, .pointer (some ⟨b, 0, none⟩)), (1, .int .i64 off), (2, .int .i64 m)]) (fun i => [row b9 26 (arr v.n i), row b7 24 (cV v), row b 31 (cF f)]) (fun i => i ≤ 8) (fun i => 8 - i) 0 (by omega) ⟨rfl, rfl, rfl, rfl, rfl, rfl, trivial⟩ (fun w h => by rw [arr_zero]; exact h) ?_
      intro i jk hi
      by_cases h0 : (i : Int) < 8
      case pos =>
        have hsr := shr64 v.n i (by omega)
        have hcv : IntKind.u8.wrap (v.n / 2 ^ (8 * i)) = bytw v.n i := rfl
        (repeat (first | ((refine (?_ : MX _ _ _ _ _ _ _ _ _ _ _)); first | refine mx_end ?_ | (refine mx_mv _ rfl rfl (by conv => {lhs; whnf}) ?_) | (refine mx_as _ rfl rfl (by conv => {lhs; whnf}) ?_) | ( refine mx_fa E rfl rfl rfl rfl ?_) | (refine g_load rfl ?_; refine mx_get E rfl rfl rfl rfl rfl (by exact rd_Vn _ ) rfl ?_ ) | (refine g_bin rfl ?_; first | ( (refine mx_cmpl .lss rfl rfl rfl rfl rfl (by exact cmp_lt_t (by omega) ) ?_) ) | (refine mx_ar rfl rfl rfl rfl rfl rfl (IntWalk.i64_in _ (by omega)) rfl ?_ ) | refine mx_sh rfl rfl rfl rfl rfl (by omega) (congrArg some (by assumption)) rfl rfl ?_ ) | (refine g_ix rfl ?_; refine mx_ixan E rfl rfl rfl rfl rfl rfl (by omega) rfl ?_ ) | (refine g_store rfl ?_; refine s_1 E rfl rfl rfl rfl rfl rfl rfl rfl (by exact sp_arr _ (by omega) ) rfl ?_) | (refine g_conv rfl ?_; refine mx_cv E rfl rfl rfl rfl rfl rfl (by assumption) rfl ?_ ) ) | refine cw_seq ?_ | refine cw_line rfl ?_ | refine cw_block ?_ | refine cw_cond_t rfl ?_ | refine cw_skip ?_ | refine pw_then ?_ | refine pw_block ?_ ))
        refine pw_round (i + 1) (by omega) (by omega) ⟨rfl, rfl, rfl, rfl, rfl, rfl, trivial⟩ (fun w h => h)
      case neg =>
        obtain rfl : i = 8 := by omega
        (repeat (first | ((refine (?_ : MX _ _ _ _ _ _ _ _ _ _ _)); first | refine mx_end ?_ | (refine mx_mv _ rfl rfl (by conv => {lhs; whnf}) ?_) | (refine g_bin rfl ?_; ( (refine mx_cmpl .lss rfl rfl rfl rfl rfl (by exact cmp_lt_f (by omega) ) ?_) ) ) ) | refine cw_seq ?_ | refine cw_line rfl ?_ | refine cw_cond_f rfl ?_ | refine cw_exit ?_ | refine pw_then ?_ | refine pw_then_x ?_ | refine pw_block_e ?_ ))
        refine mx_slice_ato E rfl rfl rfl rfl rfl rfl (by omega) (by omega) (by omega) rfl ?_
        rw [Int.toNat_natCast]
        refine g_cf 65 rfl ?_
        refine a_callr rfl rfl rfl rfl Try.func65 rfl rfl rfl b (cF (layN f p (byts v.n m))) (.tuple #[]) (fun w' hw h => ?_) rfl ?_
        · have hA := hw.holds 0 _ rfl
          rw [arr_all] at hA
          have hin := (row_in (c := cU) (xs := byts v.n 8) len_U hA).take m
          rw [byts_take _ hm8] at hin
          exact lay65 b f off p hp (some ⟨b9, 0, none⟩) m 8 (byts v.n m) (byts_len _ _) hpm w' h hin (fun _ b' off' e e' => by
            simp at e
            exact hw.sep 0 2 _ _ rfl rfl (by omega) b9 rfl (by rw [e.1, e']; rfl))
        (repeat (first | ((refine (?_ : MX _ _ _ _ _ _ _ _ _ _ _)); first | refine mx_end ?_ | (refine mx_as _ rfl rfl (by conv => {lhs; whnf}) ?_) ) | refine cw_seq ?_ | refine cw_line rfl ?_ | refine cw_ret ?_ | refine pw_then ?_ | refine pw_then_r ?_ | refine pw_block_r ?_))
        exact pw_ret rfl rfl rfl rfl fun w hw => ⟨rfl, hw.keep, hw.holds 2 _ rfl⟩
    case neg =>
      rw [if_neg hk1]
      by_cases hw8 : size = 8 ∧ p % 8 = 0
      case pos =>
        rw [if_pos hw8]
        (repeat (first | ((refine (?_ : MX _ _ _ _ _ _ _ _ _ _ _)); first | refine mx_end ?_ | (refine mx_mv _ rfl rfl (by conv => {lhs; whnf}) ?_) | (refine mx_as _ rfl rfl (by conv => {lhs; whnf}) ?_) | (refine mx_fa0 E rfl rfl rfl rfl ?_ ) | (refine g_load rfl ?_; first | refine mx_get E rfl rfl rfl rfl rfl (by exact rd_Vk _ ) rfl ?_ | refine mx_getn E rfl rfl rfl rfl rfl (by exact vr_V _ ) rfl ?_ ) | (refine g_bin rfl ?_; ((refine mx_cmpl .eql rfl rfl rfl rfl rfl (by first | exact cmp_eq_t (by omega) | exact cmp_eq_f (by omega) ) ?_) ) ) | (refine mx_nc rfl rfl rfl ?_) | (refine mx_not rfl rfl rfl ?_) | (refine g_pick rfl ?_; refine mx_or rfl rfl rfl rfl rfl rfl ?_ ) | (refine g_store rfl ?_; refine s_l E rfl rfl rfl rfl rfl rfl rfl (by exact sp_S _ (by omega) _ ) rfl ?_ ) | (refine g_build rfl ?_; refine mx_build rfl rfl rfl rfl (b28_1 _) rfl ?_ ) | (refine g_box rfl ?_; refine a_boxl rfl rfl rfl rfl rfl rfl (fun _ => ?_) ) | ( refine mx_nilp rfl rfl false rfl (by kernel_rfl) rfl rfl rfl rfl ?_ ) | (refine g_call rfl ?_; first | (refine g_cf 63 rfl ?_; refine mx_call rfl rfl rfl Try.func63 rfl rfl rfl _ (fun w => sized63v _ _ (by assumption) w) rfl ?_) | (refine g_cf 64 rfl ?_; refine mx_call rfl rfl rfl Try.func64 rfl rfl rfl _ (fun w => on64v _ _ _ (by assumption) w) rfl ?_) | (refine g_cf 66 rfl ?_; refine mx_call rfl rfl rfl Try.func66 rfl rfl rfl _ (fun w => whole66v _ _ _ _ (by assumption) (by omega) (by assumption) w) rfl ?_) )) | refine cw_seq ?_ | refine cw_line rfl ?_ | refine cw_block ?_ | refine cw_cond_f rfl ?_ | refine cw_skip ?_ | refine cw_ret ?_ | refine pw_then ?_ | refine pw_block ?_ ))
        exact pw_ret rfl rfl rfl rfl fun w hw => ⟨rfl, hw.keep, hw.holds 1 _ rfl⟩
      case neg =>
        rw [if_neg hw8]
        (repeat (first | ((refine (?_ : MX _ _ _ _ _ _ _ _ _ _ _)); first | refine mx_end ?_ | (refine mx_mv _ rfl rfl (by conv => {lhs; whnf}) ?_) | (refine mx_as _ rfl rfl (by conv => {lhs; whnf}) ?_) | (refine mx_fa0 E rfl rfl rfl rfl ?_ ) | (refine g_load rfl ?_; refine mx_get E rfl rfl rfl rfl rfl (by exact rd_Vk _ ) rfl ?_ ) | (refine g_bin rfl ?_; ((refine mx_cmpl .eql rfl rfl rfl rfl rfl (by first | exact cmp_eq_t (by omega) | exact cmp_eq_f (by omega) ) ?_) ) ) | (refine mx_not rfl rfl rfl ?_) | (refine g_pick rfl ?_; refine mx_or rfl rfl rfl rfl rfl rfl ?_ ) | (refine g_box rfl ?_; refine a_boxl rfl rfl rfl rfl rfl rfl (fun _ => ?_) ) | ( refine mx_nilp rfl rfl false rfl (by kernel_rfl) rfl rfl rfl rfl ?_ ) | (refine g_call rfl ?_; first | (refine g_cf 63 rfl ?_; refine mx_call rfl rfl rfl Try.func63 rfl rfl rfl _ (fun w => sized63v _ _ (by assumption) w) rfl ?_) | (refine g_cf 64 rfl ?_; refine mx_call rfl rfl rfl Try.func64 rfl rfl rfl _ (fun w => on64v _ _ _ (by assumption) w) rfl ?_) | (refine g_cf 66 rfl ?_; refine mx_call rfl rfl rfl Try.func66 rfl rfl rfl _ (fun w => whole66w _ _ _ _ (by assumption) (by omega) (by assumption) w) rfl ?_))) | refine cw_seq ?_ | refine cw_line rfl ?_ | refine cw_block ?_ | refine cw_cond_f rfl ?_ | refine cw_cond_t rfl ?_ | refine cw_skip ?_ | refine cw_ret ?_ | refine pw_then ?_ | refine pw_then_r ?_ | refine pw_block ?_ ))
        exact pw_ret rfl rfl rfl rfl fun w hw => ⟨rfl, hw.keep, hw.holds 1 _ rfl⟩
end Go.Proofs.Ytdimcafdmaidpaa
