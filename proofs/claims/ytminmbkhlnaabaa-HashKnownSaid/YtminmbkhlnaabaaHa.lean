/- The program's table: sums, bytes held against one another, a place's key, the way of a key. -/
import Derived.Test.YtminmbkhlnaabaaStr
import Derived.Test.YtminmbkhlnaabaaBy
import Derived.Test.YtminmbkhlnaabaaOb2
import Derived.Test.YtminmbkhlnaabaaRng
set_option maxRecDepth 100000
set_option maxHeartbeats 8000000
set_option linter.unusedSimpArgs false
set_option linter.unusedVariables false
namespace Go.Proofs.Ytminmbkhlnaabaa
open Go Go.Sx Go.RowKit
def stepK (s x : Int) : Int := IntKind.u32.wrap (IntKind.u32.wrap ((BitVec.ofInt IntKind.u32.bits s) ^^^ (BitVec.ofInt IntKind.u32.bits (IntKind.u32.wrap x))).toNat * 16777619)
def sumK (k : List Int) : Int := k.foldl stepK 2166136261
theorem sumK_take {k : List Int} {i : Nat} {x : Int} (hx : k[i]? = some x) : sumK (k.take (i + 1)) = stepK (sumK (k.take i)) x := by
  unfold sumK
  rw [List.take_add_one, hx, List.foldl_append]
  rfl
theorem sum31 (ad : Option Addr) (m cap : Nat) (k : List Int) (hm : k.length = m) (hs : m ≤ 1000000000) (w : World) (hl : InL w ad 1 cU k) :
    Calls Try.prog 31 #[.slice ad m cap] w fun e w' => e = .returned (.int .u32 (sumK k)) ∧ Grow w w' := by
  refine enter1 (S := fun _ => False) 19 Try.func31 rfl rfl rfl (Ok.start w) ?_
  subst hm
  (repeat (first | ((refine (?_ : MX _ _ _ _ _ _ _ _ _ _ _)); first | refine mx_end ?_ | (refine mx_mv _ rfl rfl (by conv => {lhs; whnf}) ?_) | (refine mx_as _ rfl rfl (by conv => {lhs; whnf}) ?_) | (refine g_bi .len rfl ?_; refine mx_len E rfl rfl rfl rfl ?_) ) | refine cw_seq ?_ | refine cw_line rfl ?_ | refine cw_block ?_ | refine pw_then ?_ ))
  refine cw_loop (fun i : Nat => [(8, .int .i64 i), (7, .int .i64 k.length), (6, .slice ad k.length cap), (3, .int .u32 (sumK (k.take i))), (0, .slice ad k.length cap)]) (fun i => []) (fun i => i ≤ k.length) (fun i => k.length - i) 0 (by omega) ⟨rfl, rfl, rfl, rfl, rfl, trivial⟩ (fun w h => h) ?_
  intro i jk hi
  by_cases h0 : (i : Int) < k.length
  case neg =>
    rw [List.take_of_length_le (by omega)]
    (repeat (first | ((refine (?_ : MX _ _ _ _ _ _ _ _ _ _ _)); first | refine mx_end ?_ | (refine mx_mv _ rfl rfl (by conv => {lhs; whnf}) ?_) | (refine mx_as _ rfl rfl (by conv => {lhs; whnf}) ?_) | (refine g_bin rfl ?_; ( (refine mx_cmpl .lss rfl rfl rfl rfl rfl (by exact cmp_lt_f (by omega) ) ?_) ) ) ) | refine cw_seq ?_ | refine cw_line rfl ?_ | refine cw_cond_f rfl ?_ | refine cw_exit ?_ | refine cw_ret ?_ | refine pw_then ?_ | refine pw_then_x ?_ | refine pw_block_e ?_ ))
    exact pw_ret rfl rfl rfl rfl fun w' hw => ⟨rfl, hw.keep.grow⟩
  case pos =>
    obtain ⟨x, hx⟩ := getElem_some (xs := k) (i := i) (by omega)
    obtain ⟨b4, off, e, hcc⟩ := inl_at hl hx
    subst e
    have hS : ¬ (fun _ : Nat => False) b4 := id
    have hc0 : w.cell? ⟨b4, off + i * 1, none⟩ = some (.int .u8 x) := hcc 0 _ rfl
    (repeat (first | ((refine (?_ : MX _ _ _ _ _ _ _ _ _ _ _)); first | refine mx_end ?_ | (refine mx_mv _ rfl rfl (by conv => {lhs; whnf}) ?_) | (refine mx_as _ rfl rfl (by conv => {lhs; whnf}) ?_) | (refine g_load rfl ?_; refine mx_old1 E rfl rfl rfl rfl rfl (by assumption) (by assumption) rfl ?_ ) | (refine g_bin rfl ?_; first | ( (refine mx_cmpl .lss rfl rfl rfl rfl rfl (by exact cmp_lt_t (by omega) ) ?_) ) | (first | refine mx_ar rfl rfl rfl rfl rfl rfl (IntWalk.i64_in _ (by omega)) rfl ?_ | refine mx_ar rfl rfl rfl rfl rfl rfl rfl rfl ?_) | refine mx_bit rfl rfl rfl rfl rfl rfl rfl rfl ?_ ) | (refine g_ix rfl ?_; refine mx_ixsn E rfl rfl rfl rfl rfl rfl (by omega) rfl ?_ ) | (refine g_conv rfl ?_; refine mx_cv E rfl rfl rfl rfl rfl rfl rfl rfl ?_) ) | refine cw_seq ?_ | refine cw_line rfl ?_ | refine cw_block ?_ | refine cw_cond_t rfl ?_ | refine cw_skip ?_ | refine pw_then ?_ | refine pw_block ?_ ))
    exact pw_round (i + 1) (by omega) (by omega) ⟨rfl, rfl, rfl, by rw [sumK_take hx]; rfl, rfl, trivial⟩ (fun w h => h)
theorem strOf_inj {a b : List Int} (ha : ∀ x ∈ a, 0 ≤ x ∧ x < 256) (hb : ∀ x ∈ b, 0 ≤ x ∧ x < 256) : ((strOfNums a).toList == (strOfNums b).toList) = decide (a = b) := by
  rw [ByteArray.toList_eq, ByteArray.toList_eq, strOfNums_data, strOfNums_data]
  rw [Bool.eq_iff_iff]
  simp only [beq_iff_eq, decide_eq_true_eq]
  constructor
  · intro h
    induction a generalizing b with
    | nil => cases b with
      | nil => rfl
      | cons y b => simp at h
    | cons x a ih => cases b with
      | nil => simp at h
      | cons y b =>
        simp only [List.map_cons, List.cons.injEq] at h
        have h1 := ha x (by simp)
        have h2 := hb y (by simp)
        have e : x = y := by
          have := congrArg UInt8.toNat h.1
          simp at this
          omega
        rw [e, ih (fun z hz => ha z (by simp [hz])) (fun z hz => hb z (by simp [hz])) h.2]
  · intro h; rw [h]
theorem src_U {w : World} {ad : Option Addr} {xs : List Int} (h : InL w ad 1 cU xs) : Src w ad (xs.map (Value.int .u8)) := by
  have := h.src len_U
  have e : xs.flatMap cU = xs.map (Value.int .u8) := by
    clear this h
    induction xs with
    | nil => rfl
    | cons x xs ih => rw [List.flatMap_cons, ih]; rfl
  rwa [e] at this
theorem eq72 (ad ad' : Option Addr) (m cap m' cap' : Nat) (a b : List Int) (ha : ∀ x ∈ a, 0 ≤ x ∧ x < 256) (hb : ∀ x ∈ b, 0 ≤ x ∧ x < 256) (hm : a.length = m) (hm' : b.length = m') (w : World) (hl : InL w ad 1 cU a) (hl' : InL w ad' 1 cU b) :
    Calls Try.prog 72 #[.slice ad m cap, .slice ad' m' cap'] w fun e w' => e = .returned (.bool (decide (a = b))) ∧ Grow w w' := by
  refine enter2 (S := fun _ => False) 10 Try.func72 rfl rfl rfl (Ok.start w) ?_
  have hsa := src_U hl
  have hsb := src_U hl'
  have heq := strOf_inj ha hb
  (repeat (first | ((refine (?_ : MX _ _ _ _ _ _ _ _ _ _ _)); first | refine mx_end ?_ | (refine mx_mv _ rfl rfl (by conv => {lhs; whnf}) ?_) | (refine mx_as _ rfl rfl (by conv => {lhs; whnf}) ?_) ) | refine cw_seq ?_ | refine cw_line rfl ?_ | refine pw_then ?_ ))
  refine mx_b2s rfl rfl rfl (by kernel_rfl) rfl hm hsa (fun _ _ _ _ h => h) rfl ?_
  (repeat (((refine (?_ : MX _ _ _ _ _ _ _ _ _ _ _)); (refine mx_mv _ rfl rfl (by conv => {lhs; whnf}) ?_) ) ))
  refine mx_b2s rfl rfl rfl (by kernel_rfl) rfl hm' hsb (fun _ _ _ _ h => h) rfl ?_
  (repeat (first | ((refine (?_ : MX _ _ _ _ _ _ _ _ _ _ _)); first | refine mx_end ?_ | (refine mx_as _ rfl rfl (by conv => {lhs; whnf}) ?_) | (refine mx_streq rfl rfl rfl rfl rfl rfl ?_ ) ) | refine cw_ret ?_ | refine pw_then ?_ ))
  refine pw_ret rfl rfl rfl rfl fun w hw => ⟨?_, hw.keep.grow⟩
  show Ending.returned (Value.bool ((strOfNums a).toList == (strOfNums b).toList)) = _
  rw [heq]
/-- A return of one cell. -/
theorem pw_retc1 {P : Program} {n : Nat} {st : Slots} {S : Nat → Prop} {w0 : World} {H : List Res} (E : Env P) {fn : Func} {e : Exit} {R : Ending → World → Prop} (hn : (match e with | .normal | .ret => true | _ => false) = true) {p ty : Nat} (hr : fn.results = #[.cell p ty]) {b : Nat} (hp : ev n st (.tmp p) = .pointer (some ⟨b, 0, none⟩)) (ht : has1 E.one ty = true) {j T : Nat} {vs : List Value} (hj : H[j]? = some (row b T vs)) {v : Value} (hl : vs[0]? = some v)
    (h : ∀ w, Ok S w0 H w → R (.returned v) w) : PW (bodyPost P fn R) e n st S w0 H := by
  refine pw_rets (st := st) hn [v] ?_ rfl h
  rw [hr]
  refine ⟨⟨⟨b, 0, none⟩, hp, fun w hw => ?_⟩, trivial⟩
  have h1 := E.one_load ht ⟨b, 0, none⟩ (hw.cell j hj hl)
  simpa [Instr.loadAt, Instr.sureAddr] using h1
/-- A slice of three. -/
theorem mx_slice9 {P : Program} {ops : List Oper} {C : World → Prop} {anc : Nat → Bool} {R : Act → (World → Prop) → Prop} {n : Nat} {st : Slots} {S : Nat → Prop} {w0 : World} {H : List Res} {i : Nat} {l : List Nat} {o : Oper} {d : Tmp} (E : Env P) (ho : nthO ops i = some o) (hg : gd ops.toArray n st o = true) {t : TypeId} {x lo hi mx : Operand} (hop : o.op = .slice t x (some lo) (some hi) (some mx)) {b off len cap : Nat} (hx : ev n st x = .slice (some ⟨b, off, none⟩) len cap) {kl kh km : IntKind} {p q r : Nat} (hlo : ev n st lo = .int kl (p : Int)) (hhi : ev n st hi = .int kh (q : Int)) (hmx : ev n st mx = .int km (r : Int)) {e z : Nat} (ht : at1 E.sl t = some (e, z)) (h1 : p ≤ q) (h2 : q ≤ r) (h3 : r ≤ cap)
    (hd : o.dst = some d) {v : Value} (hv : .slice (some ⟨b, off + (if r = p then 0 else p * z), none⟩) (q - p) (r - p) = v) (h : MX P ops C anc R l n ((d, v) :: st) S w0 H) : MX P ops C anc R (i :: l) n st S w0 H := by
  subst hv
  refine mx_val ho hg (.slice (some ⟨b, off + (if r = p then 0 else p * z), none⟩) (q - p) (r - p)) (fun w => ?_) (by rw [hd]; rfl) h
  obtain ⟨hu, ii, hi, hz⟩ := E.sl_spec ht
  by_cases hrp : r = p
  · subst hrp
    simp [execOp, hop, hx, hlo, hhi, hmx, Instr.sliceAt, Instr.slice, run_underlying hu, Instr.sliceBounds, run_sliceBound, sizeOf, typeInfo, hi, hz, h1, h2, h3]
  · have h0 : r - p ≠ 0 := by omega
    simp [execOp, hop, hx, hlo, hhi, hmx, Instr.sliceAt, Instr.slice, run_underlying hu, Instr.sliceBounds, run_sliceBound, sizeOf, typeInfo, hi, hz, h1, h2, h3, hrp, h0, Addr.add]
end Go.Proofs.Ytminmbkhlnaabaa
