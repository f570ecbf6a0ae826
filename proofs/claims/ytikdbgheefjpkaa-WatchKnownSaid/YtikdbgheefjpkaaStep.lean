/- The steps of a walk. 'C': what holds all through the region; 'anc': operations taken in the world as it stands. Plain theorems over any program. -/
import Derived.Test.YtikdbgheefjpkaaHeap
set_option linter.unusedVariables false
set_option linter.unusedSimpArgs false
namespace Go.Sx
open Go.RowKit
section
variable {P : Program} {ops : List Oper} {C : World → Prop} {anc : Nat → Bool} {R : Act → (World → Prop) → Prop} {n : Nat} {st : Slots} {i : Nat} {l : List Nat} {o : Oper} {S : Nat → Prop} {w0 : World} {H HC : List Res} {d : Tmp} {ty : TypeId} {ps : String} {af : Array Edge} {g : Option (Nat × Bool)}

def nthO : List Oper → Nat → Option Oper
  | [], _ => none
  | o :: _, 0 => some o
  | _ :: l, i + 1 => nthO l i
theorem nthO_eq : ∀ (l : List Oper) (i : Nat), l.toArray[i]? = nthO l i
  | [], i => by simp [nthO]
  | o :: l, 0 => by simp [nthO]
  | o :: l, i + 1 => by have := nthO_eq l i; simp at this; simp [nthO, this]
/-- A walk of a region's operations. -/
structure MX (P : Program) (ops : List Oper) (C : World → Prop) (anc : Nat → Bool) (R : Act → (World → Prop) → Prop) (l : List Nat) (n : Nat) (st : Slots) (S : Nat → Prop) (w0 : World) (H : List Res) : Prop where
  mk' :: (run : (∀ w, Ok S w0 H w → C w) → mix P ops.toArray C anc R l (fr n st) (Ok S w0 H))
theorem mx_nil (h : R (fr n st) (Ok S w0 H)) : MX P ops C anc R [] n st S w0 H := ⟨fun _ => h⟩
theorem Ok.tail {r : Res} {w : World} (h : Ok S w0 (r :: H) w) : Ok S w0 H w :=
  ⟨h.keep, fun i x hi => h.holds (i + 1) x (by simpa using hi), fun i x hi => h.own (i + 1) x (by simpa using hi), fun i j x y hi hj hn => h.sep (i + 1) (j + 1) x y (by simpa using hi) (by simpa using hj) (by omega)⟩
/-- An operation whose guard says no. -/
theorem mx_skip (ho : nthO ops i = some o) (hg : gd ops.toArray n st o = false) (hd : o.dst = some d) (h : MX P ops C anc R l n ((d, undef) :: st) S w0 H) : MX P ops C anc R (i :: l) n st S w0 H := by
  have h : MX P ops C anc R l n (up o.dst undef st) S w0 H := by rw [hd]; exact h
  refine ⟨fun hC => ?_⟩
  simp only [mix, nthO_eq, ho, wanted_fr, hg, Bool.false_eq_true, if_false, put_fr]
  exact h.run hC
/-- An operation that yields one value in whatever world and leaves the world as it is. -/
theorem mx_val (ho : nthO ops i = some o) (hg : gd ops.toArray n st o = true) (v : Value) (hv : ∀ w, (execOp (ev n st) o).run P w = .ok (.value v) w) {st' : Slots} (hs : up o.dst v st = st')
    (h : MX P ops C anc R l n st' S w0 H) : MX P ops C anc R (i :: l) n st S w0 H := by
  subst hs
  have he : (fr n st).eval = ev n st := funext (eval_fr n st)
  refine ⟨fun hC => ?_⟩
  simp only [mix, nthO_eq, ho, wanted_fr, hg, if_true, put_fr, he]
  split
  · intro w hw
    unfold runs
    rw [hv w]
    exact ⟨_, stb_ok, hC, hw, h.run hC⟩
  · exact ⟨v, fun w _ => by unfold runs; rw [hv w]; exact ⟨rfl, Below.refl _ _⟩, h.run hC⟩
/-- Slots and constants. -/
theorem mx_mv {x : Operand} (v : Value) (ho : nthO ops i = some (Oper.mk (some d) (.move x) ty ps af g)) (hg : gd ops.toArray n st (Oper.mk (some d) (.move x) ty ps af g) = true) (hx : ev n st x = v) (h : MX P ops C anc R l n ((d, v) :: st) S w0 H) : MX P ops C anc R (i :: l) n st S w0 H :=
  mx_val ho hg v (fun w => by simp [execOp, hx]) rfl h
theorem mx_as {x : Operand} (v : Value) (ho : nthO ops i = some (Oper.mk (some d) (.assign x) ty ps af g)) (hg : gd ops.toArray n st (Oper.mk (some d) (.assign x) ty ps af g) = true) (hx : ev n st x = v) (h : MX P ops C anc R l n ((d, v) :: st) S w0 H) : MX P ops C anc R (i :: l) n st S w0 H :=
  mx_val ho hg v (fun w => by simp [execOp, hx]) rfl h
theorem mx_nc {x : Operand} {ad : Addr} (ho : nthO ops i = some (Oper.mk (some d) (.nilCheck x) ty ps af g)) (hg : gd ops.toArray n st (Oper.mk (some d) (.nilCheck x) ty ps af g) = true) (hx : ev n st x = .pointer (some ad)) (h : MX P ops C anc R l n ((d, .pointer (some ad)) :: st) S w0 H) : MX P ops C anc R (i :: l) n st S w0 H :=
  mx_val ho hg _ (fun w => by simp [execOp, hx]) rfl h
theorem mx_not {x : Operand} {t : TypeId} {b : Bool} (ho : nthO ops i = some (Oper.mk (some d) (.unOp .not t x) ty ps af g)) (hg : gd ops.toArray n st (Oper.mk (some d) (.unOp .not t x) ty ps af g) = true) (hx : ev n st x = .bool b) (h : MX P ops C anc R l n ((d, .bool (!b)) :: st) S w0 H) : MX P ops C anc R (i :: l) n st S w0 H :=
  mx_val ho hg _ (fun w => by simp [execOp, hx, Op.unary]) rfl h
theorem mx_cmp {x y : Operand} {op : BinOp} {t yt : TypeId} {k k' : IntKind} {a b : Int} {c : Bool} (ho : nthO ops i = some (Oper.mk (some d) (.binOp op t x y yt) ty ps af g)) (hg : gd ops.toArray n st (Oper.mk (some d) (.binOp op t x y yt) ty ps af g) = true) (hx : ev n st x = .int k a) (hy : ev n st y = .int k' b) (hk : kindEq k k' = true) (hc : cmpOp op a b = some c) (h : MX P ops C anc R l n ((d, .bool c) :: st) S w0 H) : MX P ops C anc R (i :: l) n st S w0 H := by
  refine mx_val ho hg _ (fun w => ?_) rfl h
  have := kindEq_eq hk
  subst this
  cases op <;> simp [cmpOp] at hc <;> subst hc <;> simp [execOp, hx, hy, eqGuard, binOp, Op.intCmp]
theorem mx_fa (E : Env P) {x : Operand} {s f o b off : Nat} (ho : nthO ops i = some (Oper.mk (some d) (.fieldAddr s x f) ty ps af g)) (hg : gd ops.toArray n st (Oper.mk (some d) (.fieldAddr s x f) ty ps af g) = true) (hx : ev n st x = .pointer (some ⟨b, off, none⟩)) (hf : at2 E.fa s f = some o) (h : MX P ops C anc R l n ((d, .pointer (some ⟨b, off + o, none⟩)) :: st) S w0 H) : MX P ops C anc R (i :: l) n st S w0 H :=
  mx_val ho hg _ (fun w => by simp [execOp, hx, E.fa_run hf]) rfl h
theorem mx_fa0 (E : Env P) {x : Operand} {s f b off : Nat} (ho : nthO ops i = some (Oper.mk (some d) (.fieldAddr s x f) ty ps af g)) (hg : gd ops.toArray n st (Oper.mk (some d) (.fieldAddr s x f) ty ps af g) = true) (hx : ev n st x = .pointer (some ⟨b, off, none⟩)) (hf : at2 E.fa s f = some 0) (h : MX P ops C anc R l n ((d, .pointer (some ⟨b, off, none⟩)) :: st) S w0 H) : MX P ops C anc R (i :: l) n st S w0 H :=
  mx_fa E ho hg hx hf (by simpa using h)
theorem mx_ex {x : Operand} {j : Nat} {vs : Array Value} (v : Value) (ho : nthO ops i = some (Oper.mk (some d) (.extract x j) ty ps af g)) (hg : gd ops.toArray n st (Oper.mk (some d) (.extract x j) ty ps af g) = true) (hx : ev n st x = .tuple vs) (hv : vs[j]? = some v) (h : MX P ops C anc R l n ((d, v) :: st) S w0 H) : MX P ops C anc R (i :: l) n st S w0 H :=
  mx_val ho hg v (fun w => by simp [execOp, hx, Instr.extract, hv]) rfl h
theorem mx_len (E : Env P) {x : Operand} {t m c : Nat} {p : Nat × Nat} {ad : Option Addr} (ho : nthO ops i = some (Oper.mk (some d) (.call { callee := .builtin .len, args := #[x], argTypes := #[t] }) ty ps af g)) (hg : gd ops.toArray n st (Oper.mk (some d) (.call { callee := .builtin .len, args := #[x], argTypes := #[t] }) ty ps af g) = true) (hx : ev n st x = .slice ad m c) (ht : at1 E.sl t = some p) (h : MX P ops C anc R l n ((d, .int .i64 m) :: st) S w0 H) : MX P ops C anc R (i :: l) n st S w0 H :=
  mx_val ho hg _ (fun w => by
    obtain ⟨hu, _⟩ := E.sl_spec (e := p.1) (z := p.2) ht
    simp [execOp, resolve, invoke, builtin, hx, Builtin.len_, run_underlying hu, goInt]) rfl h
/-- + - * of whole numbers. -/
def arOp : BinOp → Int → Int → Option Int
  | .add, a, b => some (a + b)
  | .sub, a, b => some (a - b)
  | .mul, a, b => some (a * b)
  | _, _, _ => none
theorem mx_ar (ho : nthO ops i = some o) (hg : gd ops.toArray n st o = true) {op : BinOp} {t : TypeId} {x y : Operand} {yt : TypeId} (hop : o.op = .binOp op t x y yt) {k : IntKind} {a b c z : Int} (hx : ev n st x = .int k a) (hy : ev n st y = .int k b) (hc : arOp op a b = some c) (hz : k.wrap c = z)
    (hd : o.dst = some d) (h : MX P ops C anc R l n ((d, (.int k z)) :: st) S w0 H) : MX P ops C anc R (i :: l) n st S w0 H := by
  refine mx_val ho hg _ (fun w => ?_) (by rw [hd]; rfl) h
  subst hz
  cases op <;> simp [arOp] at hc <;> subst hc <;> simp [execOp, hop, hx, hy, eqGuard, binOp, Op.intArith]
/-- / and % of whole numbers by what is not 0. -/
def dvOp (k : IntKind) : BinOp → Int → Int → Option Int
  | .quo, a, b => some (k.wrap (a.tdiv b))
  | .rem, a, b => some (a.tmod b)
  | _, _, _ => none
theorem mx_dv (ho : nthO ops i = some o) (hg : gd ops.toArray n st o = true) {op : BinOp} {t : TypeId} {x y : Operand} {yt : TypeId} (hop : o.op = .binOp op t x y yt) {k : IntKind} {a b c z : Int} (hx : ev n st x = .int k a) (hy : ev n st y = .int k b) (hb : b ≠ 0) (hc : dvOp k op a b = some c) (hz : c = z)
    (hd : o.dst = some d) (h : MX P ops C anc R l n ((d, (.int k z)) :: st) S w0 H) : MX P ops C anc R (i :: l) n st S w0 H := by
  refine mx_val ho hg _ (fun w => ?_) (by rw [hd]; rfl) h
  subst hz
  cases op <;> simp [dvOp] at hc <;> subst hc <;> simp [execOp, hop, hx, hy, eqGuard, binOp, Op.intDiv, hb]
/-- & | ^ &^ of whole numbers. -/
def bitOp (k : IntKind) : BinOp → Int → Int → Option Int
  | .and, a, b => some (k.wrap ((BitVec.ofInt k.bits a) &&& (BitVec.ofInt k.bits b)).toNat)
  | .or, a, b => some (k.wrap ((BitVec.ofInt k.bits a) ||| (BitVec.ofInt k.bits b)).toNat)
  | .xor, a, b => some (k.wrap ((BitVec.ofInt k.bits a) ^^^ (BitVec.ofInt k.bits b)).toNat)
  | .andNot, a, b => some (k.wrap ((BitVec.ofInt k.bits a) &&& ~~~(BitVec.ofInt k.bits b)).toNat)
  | _, _, _ => none
theorem mx_bit (ho : nthO ops i = some o) (hg : gd ops.toArray n st o = true) {op : BinOp} {t : TypeId} {x y : Operand} {yt : TypeId} (hop : o.op = .binOp op t x y yt) {k : IntKind} {a b c z : Int} (hx : ev n st x = .int k a) (hy : ev n st y = .int k b) (hc : bitOp k op a b = some c) (hz : c = z)
    (hd : o.dst = some d) (h : MX P ops C anc R l n ((d, (.int k z)) :: st) S w0 H) : MX P ops C anc R (i :: l) n st S w0 H := by
  refine mx_val ho hg _ (fun w => ?_) (by rw [hd]; rfl) h
  subst hz
  cases op <;> simp [bitOp] at hc <;> subst hc <;> simp [execOp, hop, hx, hy, eqGuard, binOp, Op.intBits]
/-- << and >>. -/
def shOp (k : IntKind) : BinOp → Int → Int → Option Int
  | .shl, a, b => some (k.wrap (a * 2 ^ (min b.toNat k.bits)))
  | .shr, a, b => some (a.fdiv (2 ^ (min b.toNat k.bits)))
  | _, _, _ => none
theorem mx_sh (ho : nthO ops i = some o) (hg : gd ops.toArray n st o = true) {op : BinOp} {t : TypeId} {x y : Operand} {yt : TypeId} (hop : o.op = .binOp op t x y yt) {k k' : IntKind} {a b c z : Int} (hx : ev n st x = .int k a) (hy : ev n st y = .int k' b) (hb : 0 ≤ b) (hc : shOp k op a b = some c) (hz : c = z)
    (hd : o.dst = some d) (h : MX P ops C anc R l n ((d, (.int k z)) :: st) S w0 H) : MX P ops C anc R (i :: l) n st S w0 H := by
  refine mx_val ho hg _ (fun w => ?_) (by rw [hd]; rfl) h
  subst hz
  have hb' : ¬ b < 0 := by omega
  cases op <;> simp [shOp] at hc <;> subst hc <;> simp [execOp, hop, hx, hy, eqGuard, binOp, Op.shift, hb']
/-- A whole number as one of another kind. -/
theorem mx_conv (E : Env P) (ho : nthO ops i = some o) (hg : gd ops.toArray n st o = true) {s e : TypeId} {x : Operand} (hop : o.op = .convert s e x) {k k' : IntKind} {a c : Int} (hx : ev n st x = .int k a) (hs : ∃ q, (s, q) ∈ E.ints) (he : (e, k') ∈ E.ints) (hc : k'.wrap a = c)
    (hd : o.dst = some d) (h : MX P ops C anc R l n ((d, (.int k' c)) :: st) S w0 H) : MX P ops C anc R (i :: l) n st S w0 H := by
  refine mx_val ho hg _ (fun w => ?_) (by rw [hd]; rfl) h
  subst hc
  obtain ⟨q, hq⟩ := hs
  have h1 := List.all_eq_true.1 E.hints _ hq
  have h2 := List.all_eq_true.1 E.hints _ he
  simp only [intOk] at h1 h2
  split at h1
  · rename_i q' hu
    split at h2
    · rename_i k'' hu'
      obtain rfl : k'' = k' := by simpa using h2
      simp [execOp, hop, hx, convert, run_underlying hu, run_underlying hu', Conv.intToInt]
    · cases h2
  · cases h1
/-- '&&', '||': both sides bools. -/
theorem mx_pick2 (ho : nthO ops i = some o) (hg : gd ops.toArray n st o = true) {c x y : Operand} (hop : o.op = .pick c x y) {p q r : Bool} (hc : ev n st c = .bool p) (hx : ev n st x = .bool q) (hy : ev n st y = .bool r)
    (hd : o.dst = some d) (h : MX P ops C anc R l n ((d, (.bool (if p then q else r))) :: st) S w0 H) : MX P ops C anc R (i :: l) n st S w0 H := by
  refine mx_val ho hg _ (fun w => ?_) (by rw [hd]; rfl) h
  cases p <;> simp [execOp, hop, hc, hx, hy, asBool]
theorem mx_pickt (v : Value) (ho : nthO ops i = some o) (hg : gd ops.toArray n st o = true) {c x y : Operand} (hop : o.op = .pick c x y) (hc : ev n st c = .bool true) (hx : ev n st x = v) (hd : o.dst = some d) (h : MX P ops C anc R l n ((d, v) :: st) S w0 H) : MX P ops C anc R (i :: l) n st S w0 H :=
  mx_val ho hg v (fun w => by simp [execOp, hop, hc, hx, asBool]) (by rw [hd]; rfl) h
theorem mx_pickf (v : Value) (ho : nthO ops i = some o) (hg : gd ops.toArray n st o = true) {c x y : Operand} (hop : o.op = .pick c x y) (hc : ev n st c = .bool false) (hy : ev n st y = v) (hd : o.dst = some d) (h : MX P ops C anc R l n ((d, v) :: st) S w0 H) : MX P ops C anc R (i :: l) n st S w0 H :=
  mx_val ho hg v (fun w => by simp [execOp, hop, hc, hy, asBool]) (by rw [hd]; rfl) h
/-- '==', '!=' of bools. -/
theorem mx_eqb (E : Env P) (ho : nthO ops i = some o) (hg : gd ops.toArray n st o = true) {ne : Bool} {t : TypeId} {x y : Operand} {yt : TypeId} (hop : o.op = .binOp (if ne then .neq else .eql) t x y yt) (ht : t ∈ E.bools) {a b c : Bool} (hx : ev n st x = .bool a) (hy : ev n st y = .bool b) (hc : ((a == b) != ne) = c)
    (hd : o.dst = some d) (h : MX P ops C anc R l n ((d, (.bool c)) :: st) S w0 H) : MX P ops C anc R (i :: l) n st S w0 H := by
  refine mx_val ho hg _ (fun w => ?_) (by rw [hd]; rfl) h
  subst hc
  have h1 := List.all_eq_true.1 E.hbools _ ht
  simp only [boolOk] at h1
  split at h1
  · rename_i hu
    have hq : (Op.equal t (.bool a) (.bool b)).run P w = .ok (a == b) w := run_equalIn_bool w 9999 t a b hu
    cases ne <;> simp [execOp, hop, hx, hy, eqGuard, binOp, hq]
  · cases h1
/-- A place in an array. -/
theorem mx_ixa (E : Env P) (ho : nthO ops i = some o) (hg : gd ops.toArray n st o = true) {t : TypeId} {x y : Operand} (hop : o.op = .indexAddr t x y) {b off : Nat} {k : IntKind} {a : Int} {m z : Nat} (hx : ev n st x = .pointer (some ⟨b, off, none⟩)) (hy : ev n st y = .int k a) (ht : at1 E.ar t = some (m, z)) (h0 : 0 ≤ a) (h1 : a < m) {off' : Nat} (hoff : off + a.toNat * z = off')
    (hd : o.dst = some d) (h : MX P ops C anc R l n ((d, (.pointer (some ⟨b, off', none⟩))) :: st) S w0 H) : MX P ops C anc R (i :: l) n st S w0 H := by
  refine mx_val ho hg _ (fun w => ?_) (by rw [hd]; rfl) h
  obtain ⟨e, hu, ii, hi, hz⟩ := E.ar_spec ht
  subst hoff
  have hadd : (⟨b, off, none⟩ : Addr).add (a.toNat * z) = ⟨b, off + a.toNat * z, none⟩ := by
    unfold Addr.add; split
    · rename_i h0; rw [h0]; rfl
    · rfl
  simp [execOp, hop, hx, hy, Instr.indexAt, asIntOf, run_underlying hu, Instr.sureAddr, h0, h1, sizeOf, typeInfo, hi, hz, hadd]
/-- A place in a slice. -/
theorem mx_ixs (E : Env P) (ho : nthO ops i = some o) (hg : gd ops.toArray n st o = true) {t : TypeId} {x y : Operand} (hop : o.op = .indexAddr t x y) {ad : Addr} {len cap : Nat} {k : IntKind} {a : Int} {e z : Nat} (hx : ev n st x = .slice (some ad) len cap) (hy : ev n st y = .int k a) (ht : at1 E.sl t = some (e, z)) (h0 : 0 ≤ a) (h1 : a < len)
    {ad' : Addr} (had : ad.add (a.toNat * z) = ad') (hd : o.dst = some d) (h : MX P ops C anc R l n ((d, (.pointer (some ad'))) :: st) S w0 H) : MX P ops C anc R (i :: l) n st S w0 H := by
  refine mx_val ho hg _ (fun w => ?_) (by rw [hd]; rfl) h
  obtain ⟨hu, ii, hi, hz⟩ := E.sl_spec ht
  subst had
  simp [execOp, hop, hx, hy, Instr.indexAt, asIntOf, run_underlying hu, h0, h1, sizeOf, typeInfo, hi, hz]
/-- A struct or array, built. -/
structure Blt (P : Program) (t : TypeId) (pl : List (Nat × Value)) (us : List Value) : Prop where
  eq : P.built t pl = some us.toArray
theorem mx_build (ho : nthO ops i = some o) (hg : gd ops.toArray n st o = true) {t : TypeId} {parts : Array (Nat × Operand)} (hop : o.op = .build t parts) {us : List Value} {pl : List (Nat × Value)} (hp : parts.toList.map (fun (i, x) => (i, ev n st x)) = pl) (hb : Blt P t pl us)
    (hd : o.dst = some d) (h : MX P ops C anc R l n ((d, (.agg us.toArray)) :: st) S w0 H) : MX P ops C anc R (i :: l) n st S w0 H :=
  mx_val ho hg (.agg us.toArray) (fun w => by simp only [execOp, hop, Sem.run_bind, run_build (P := P) w t (parts.map fun (i, x) => (i, ev n st x)) us.toArray (by rw [Array.toList_map, hp]; exact hb.eq), Result.andThen_ok, Sem.run_pure]) (by rw [hd]; rfl) h

/-! ### Reading memory: in the world as it stands ('a_'), or floating ('f_') -/
theorem a_val (ho : nthO ops i = some o) (hg : gd ops.toArray n st o = true) (ha : anc i = true) (v : Value) (hv : ∀ w, Ok S w0 H w → (execOp (ev n st) o).run P w = .ok (.value v) w) {st' : Slots} (hs : up o.dst v st = st')
    (h : MX P ops C anc R l n st' S w0 H) : MX P ops C anc R (i :: l) n st S w0 H := by
  subst hs
  have he : (fr n st).eval = ev n st := funext (eval_fr n st)
  refine ⟨fun hC => ?_⟩
  simp only [mix, nthO_eq, ho, wanted_fr, hg, if_true, put_fr, he, ha]
  intro w hw
  unfold runs
  rw [hv w hw]
  exact ⟨_, stb_ok, hC, hw, h.run hC⟩
theorem f_val (ho : nthO ops i = some o) (hg : gd ops.toArray n st o = true) (ha : anc i = false) (v : Value) (hv : ∀ w, C w → (execOp (ev n st) o).run P w = .ok (.value v) w) {st' : Slots} (hs : up o.dst v st = st')
    (h : MX P ops C anc R l n st' S w0 H) : MX P ops C anc R (i :: l) n st S w0 H := by
  subst hs
  have he : (fr n st).eval = ev n st := funext (eval_fr n st)
  refine ⟨fun hC => ?_⟩
  simp only [mix, nthO_eq, ho, wanted_fr, hg, if_true, put_fr, he, ha, Bool.false_eq_true, if_false]
  exact ⟨v, fun w hw => by unfold runs; rw [hv w hw]; exact ⟨rfl, Below.refl _ _⟩, h.run hC⟩
theorem load1_run (E : Env P) {t : TypeId} {x : Operand} (hop : o.op = .load t x) (ht : has1 E.one t = true) {ad : Addr} (hx : ev n st x = .pointer (some ad)) {w : World} {v : Value} (hc : w.cell? ad = some v) : (execOp (ev n st) o).run P w = .ok (.value v) w := by
  simp [execOp, hop, hx, E.one_load ht ad hc]
theorem loadn_run (E : Env P) {t : TypeId} {x : Operand} (hop : o.op = .load t x) {m : Nat} (ht : at0 E.agg t = some m) {ad : Addr} (hx : ev n st x = .pointer (some ad)) {w : World} {vs : List Value} (hl : vs.length = m) (hc : ∀ j v, vs[j]? = some v → w.cell? (ad.add j) = some v) : (execOp (ev n st) o).run P w = .ok (.value (.agg vs.toArray)) w := by
  simp [execOp, hop, hx, E.agg_load ht ad vs hl hc]
theorem a_load1 (E : Env P) (ho : nthO ops i = some o) (hg : gd ops.toArray n st o = true) (ha : anc i = true) {t : TypeId} {x : Operand} (hop : o.op = .load t x) (ht : has1 E.one t = true) {ad : Addr} (hx : ev n st x = .pointer (some ad)) {v : Value} (hc : ∀ w, Ok S w0 H w → w.cell? ad = some v)
    (hd : o.dst = some d) (h : MX P ops C anc R l n ((d, v) :: st) S w0 H) : MX P ops C anc R (i :: l) n st S w0 H :=
  a_val ho hg ha v (fun w hw => load1_run E hop ht hx (hc w hw)) (by rw [hd]; rfl) h
theorem f_load1 (E : Env P) (ho : nthO ops i = some o) (hg : gd ops.toArray n st o = true) (ha : anc i = false) {t : TypeId} {x : Operand} (hop : o.op = .load t x) (ht : has1 E.one t = true) {ad : Addr} (hx : ev n st x = .pointer (some ad)) {v : Value} (hc : ∀ w, C w → w.cell? ad = some v)
    (hd : o.dst = some d) (h : MX P ops C anc R l n ((d, v) :: st) S w0 H) : MX P ops C anc R (i :: l) n st S w0 H :=
  f_val ho hg ha v (fun w hw => load1_run E hop ht hx (hc w hw)) (by rw [hd]; rfl) h
theorem a_loadn (E : Env P) (ho : nthO ops i = some o) (hg : gd ops.toArray n st o = true) (ha : anc i = true) {t : TypeId} {x : Operand} (hop : o.op = .load t x) {m : Nat} (ht : at0 E.agg t = some m) {ad : Addr} (hx : ev n st x = .pointer (some ad)) (vs : List Value) (hl : vs.length = m) (hc : ∀ w, Ok S w0 H w → ∀ j v, vs[j]? = some v → w.cell? (ad.add j) = some v)
    (hd : o.dst = some d) (h : MX P ops C anc R l n ((d, (.agg vs.toArray)) :: st) S w0 H) : MX P ops C anc R (i :: l) n st S w0 H :=
  a_val ho hg ha _ (fun w hw => loadn_run E hop ht hx hl (hc w hw)) (by rw [hd]; rfl) h
theorem f_loadn (E : Env P) (ho : nthO ops i = some o) (hg : gd ops.toArray n st o = true) (ha : anc i = false) {t : TypeId} {x : Operand} (hop : o.op = .load t x) {m : Nat} (ht : at0 E.agg t = some m) {ad : Addr} (hx : ev n st x = .pointer (some ad)) (vs : List Value) (hl : vs.length = m) (hc : ∀ w, C w → ∀ j v, vs[j]? = some v → w.cell? (ad.add j) = some v)
    (hd : o.dst = some d) (h : MX P ops C anc R l n ((d, (.agg vs.toArray)) :: st) S w0 H) : MX P ops C anc R (i :: l) n st S w0 H :=
  f_val ho hg ha _ (fun w hw => loadn_run E hop ht hx hl (hc w hw)) (by rw [hd]; rfl) h

/-- One cell, or several, of a block that is known. -/
theorem a_get (E : Env P) (ho : nthO ops i = some o) (hg : gd ops.toArray n st o = true) (ha : anc i = true) {t : TypeId} {x : Operand} (hop : o.op = .load t x) (ht : has1 E.one t = true) {b off : Nat} (hx : ev n st x = .pointer (some ⟨b, off, none⟩)) (j : Nat) {T : TypeId} {vs : List Value} (hj : H[j]? = some (row b T vs)) {v : Value} (hc : vs[off]? = some v)
    (hd : o.dst = some d) (h : MX P ops C anc R l n ((d, v) :: st) S w0 H) : MX P ops C anc R (i :: l) n st S w0 H :=
  a_load1 E ho hg ha hop ht hx (fun w hw => hw.cell j hj hc) hd h
theorem f_get (E : Env P) (ho : nthO ops i = some o) (hg : gd ops.toArray n st o = true) (ha : anc i = false) {t : TypeId} {x : Operand} (hop : o.op = .load t x) (ht : has1 E.one t = true) {b off : Nat} (hx : ev n st x = .pointer (some ⟨b, off, none⟩)) {HC : List Res} (j : Nat) {T : TypeId} {vs : List Value} (hj : HC[j]? = some (row b T vs)) {v : Value} (hc : vs[off]? = some v)
    (hd : o.dst = some d) (h : MX P ops (Ok S w0 HC) anc R l n ((d, v) :: st) S w0 H) : MX P ops (Ok S w0 HC) anc R (i :: l) n st S w0 H :=
  f_load1 E ho hg ha hop ht hx (fun w hw => hw.cell j hj hc) hd h
/-! ### Writing and making memory -/
/-- Whatever an operation does in the world as it stands. -/
theorem a_any (ho : nthO ops i = some o) (hg : gd ops.toArray n st o = true) (ha : anc i = true)
    (h : (∀ w, Ok S w0 H w → C w) → ∀ w, Ok S w0 H w → runs P o (ev n st) w fun v w' => ∃ H', (∀ w, Ok S w0 H' w → C w) ∧ Ok S w0 H' w' ∧ MX P ops C anc R l n (up o.dst v st) S w0 H') : MX P ops C anc R (i :: l) n st S w0 H := by
  have he : (fr n st).eval = ev n st := funext (eval_fr n st)
  refine ⟨fun hC => ?_⟩
  simp only [mix, nthO_eq, ho, wanted_fr, hg, if_true, put_fr, he, ha]
  intro w hw
  exact runs_mono (h hC w hw) fun v w' ⟨H', h1, h2, h3⟩ => ⟨_, stb_ok, h1, h2, h3.run h1⟩
theorem a_box (ho : nthO ops i = some o) (hg : gd ops.toArray n st o = true) (ha : anc i = true) {t : TypeId} {x : Operand} (hop : o.op = .box t x) {v : Value} (hx : ev n st x = v) {vs : List Value} (hv : v.cells.toList = vs) (hd : o.dst = some d)
    (h : ∀ b, MX P ops C anc R l n ((d, .pointer (some ⟨b, 0, none⟩)) :: st) S w0 (row b t vs :: H)) : MX P ops C anc R (i :: l) n st S w0 H := by
  subst hx
  refine a_any ho hg ha fun hC w hw => ?_
  have hr : (execOp (ev n st) o).run P w = .ok (.value (.pointer (some ⟨w.heap.size, 0, none⟩))) (w.alloc (.cells (ev n st x).cells t)) := by
    simp [execOp, hop, Instr.box, newVar, newRow]
  unfold runs
  rw [hr]
  refine ⟨_, fun w h => hC w h.tail, ?_, by rw [hd]; exact h w.heap.size⟩
  have := hw.alloc (ev n st x).cells t
  rwa [hv] at this
theorem a_alloc (ho : nthO ops i = some o) (hg : gd ops.toArray n st o = true) (ha : anc i = true) {t : TypeId} (hop : o.op = .alloc t) (vs : List Value) (hz : ((P.info? t).bind (·.zero)).map (·.cells.toList) = some vs) (hd : o.dst = some d)
    (h : ∀ b, MX P ops C anc R l n ((d, .pointer (some ⟨b, 0, none⟩)) :: st) S w0 (row b t vs :: H)) : MX P ops C anc R (i :: l) n st S w0 H := by
  refine a_any ho hg ha fun hC w hw => ?_
  cases hi : P.info? t with
  | none => simp [hi] at hz
  | some ii =>
    cases hzz : ii.zero with
    | none => simp [hi, hzz] at hz
    | some z =>
      have hvs : z.cells.toList = vs := by simpa [hi, hzz] using hz
      have hr : (execOp (ev n st) o).run P w = .ok (.value (.pointer (some ⟨w.heap.size, 0, none⟩))) (w.alloc (.cells z.cells t)) := by
        simp [execOp, hop, Instr.alloc, zeroValue, typeInfo, hi, hzz, newVar, newRow]
      unfold runs
      rw [hr]
      refine ⟨_, fun w h => hC w h.tail, ?_, by rw [hd]; exact h w.heap.size⟩
      have := hw.alloc z.cells t
      rwa [hvs] at this
theorem a_boxl (ho : nthO ops i = some o) (hg : gd ops.toArray n st o = true) (ha : anc i = true) {t : TypeId} {x : Operand} (hop : o.op = .box t x) {vs : List Value} (hx : ev n st x = .agg vs.toArray) (hd : o.dst = some d)
    (h : ∀ b, MX P ops C anc R l n ((d, .pointer (some ⟨b, 0, none⟩)) :: st) S w0 (row b t vs :: H)) : MX P ops C anc R (i :: l) n st S w0 H := a_box ho hg ha hop hx rfl hd h
theorem a_box1 (ho : nthO ops i = some o) (hg : gd ops.toArray n st o = true) (ha : anc i = true) {t : TypeId} {x : Operand} (hop : o.op = .box t x) {v : Value} (hx : ev n st x = v) (h1 : v.oneCell' = true) (hd : o.dst = some d)
    (h : ∀ b, MX P ops C anc R l n ((d, .pointer (some ⟨b, 0, none⟩)) :: st) S w0 (row b t [v] :: H)) : MX P ops C anc R (i :: l) n st S w0 H := a_box ho hg ha hop hx (by cases v <;> first | rfl | cases h1) hd h
/-- Cells that may be stored, m of them. -/
class Cl (us : List Value) (m : Nat) : Prop where
  len : us.length = m
  one : us.all (·.oneCell') = true
instance Cl.nil : Cl [] 0 := ⟨rfl, rfl⟩
instance Cl.int {k : IntKind} {a : Int} {us : List Value} {m : Nat} [h : Cl us m] : Cl (.int k a :: us) (m + 1) := ⟨by simp [h.len], by simp [h.one]; rfl⟩
instance Cl.bool {a : Bool} {us : List Value} {m : Nat} [h : Cl us m] : Cl (.bool a :: us) (m + 1) := ⟨by simp [h.len], by simp [h.one]; rfl⟩
/-- A store at a place, inside. -/
structure Sp (vs : List Value) (off : Nat) (us vs' : List Value) : Prop where
  le : off + us.length ≤ vs.length
  eq : splice vs off us = vs'
/-- What stands at a place. -/
structure Vw (vs : List Value) (off : Nat) (us : List Value) : Prop where
  eq : (vs.drop off).take us.length = us
structure Vr (vs : List Value) (off m : Nat) (us : List Value) : Prop where
  vw : Vw vs off us
  len : us.length = m
theorem Sp.lit {vs us vs' : List Value} {off : Nat} (h : Nat.ble (off + us.length) vs.length = true) (he : splice vs off us = vs') : Sp vs off us vs' := ⟨Nat.le_of_ble_eq_true h, he⟩
theorem Sp.all {vs us : List Value} (h : us.length = vs.length) : Sp vs 0 us us := ⟨by omega, by unfold splice; rw [List.drop_of_length_le (by omega)]; simp⟩
theorem Vw.all (vs : List Value) : Vw vs 0 vs := ⟨by simp⟩
theorem Vr.all {vs : List Value} {m : Nat} (h : vs.length = m) : Vr vs 0 m vs := ⟨Vw.all vs, h⟩
theorem Vw.get {vs us : List Value} {off : Nat} (h : Vw vs off us) {j : Nat} {v : Value} (hv : us[j]? = some v) : vs[off + j]? = some v := by
  have hj : j < us.length := (List.getElem?_eq_some_iff.1 hv).1
  have : ((vs.drop off).take us.length)[j]? = some v := by rw [h.eq]; exact hv
  rw [List.getElem?_take_of_lt hj, List.getElem?_drop] at this
  exact this
def Env.sz (E : Env P) (t : Nat) : Option Nat := match at0 E.agg t with
  | some m => some m
  | none => match has1 E.one t with
    | true => some 1
    | false => none
theorem Env.sz_spec (E : Env P) {t m : Nat} (h : E.sz t = some m) : ∃ i, P.info? t = some i ∧ i.size = m := by
  unfold Env.sz at h
  split at h
  · rename_i m' h'; obtain rfl : m' = m := by simpa using h
    exact E.agg_size h'
  · split at h
    · rename_i h'; obtain rfl : 1 = m := by simpa using h
      exact E.one_size h'
    · cases h
/-- One of the resources is another one. -/
def Upd (H : List Res) (r r' : Res) (H' : List Res) : Prop := ∃ j, H[j]? = some r ∧ H.set j r' = H'
theorem up0 {r r' : Res} {H : List Res} : Upd (r :: H) r r' (r' :: H) := ⟨0, rfl, rfl⟩
theorem upS {x r r' : Res} {H H' : List Res} (h : Upd H r r' H') : Upd (x :: H) r r' (x :: H') := by
  obtain ⟨j, h1, h2⟩ := h
  exact ⟨j + 1, by simpa using h1, by simp [h2]⟩
theorem hj0 {r : Res} {H : List Res} : (r :: H)[0]? = some r := rfl
theorem hjS {x r : Res} {H : List Res} {j : Nat} (h : H[j]? = some r) : (x :: H)[j + 1]? = some r := by simpa using h
theorem a_store (E : Env P) (ho : nthO ops i = some o) (hg : gd ops.toArray n st o = true) (ha : anc i = true) {t : TypeId} {x y : Operand} (hop : o.op = .store t x y) {b off : Nat} (hx : ev n st x = .pointer (some ⟨b, off, none⟩)) {v : Value} (hy : ev n st y = v) {us : List Value} (hu : v.cells.toList = us) {m : Nat} (hz : E.sz t = some m) (h1 : Cl us m)
    {T : TypeId} {vs vs' : List Value} {H' : List Res} (hj : Upd H (row b T vs) (row b T vs') H') (hvs : Sp vs off us vs') (hd : o.dst = none)
    (hC : ∀ w, Ok S w0 H' w → C w) (h : MX P ops C anc R l n st S w0 H') : MX P ops C anc R (i :: l) n st S w0 H := by
  obtain ⟨j, hj, rfl⟩ := hj
  obtain ⟨hl, rfl⟩ := hvs
  refine a_any ho hg ha fun _ w hw => ?_
  obtain ⟨w', hr, hok⟩ := hw.store j hj hl P (fun v hv => by simpa using List.all_eq_true.1 h1.one v hv)
  have hr' : (execOp (ev n st) o).run P w = .ok .skip w' := by
    obtain ⟨ii, hi, hs⟩ := E.sz_spec hz
    have hsz : (ev n st y).cells.size = m := by rw [hy, ← h1.len, ← hu]; simp
    have hl' : (ev n st y).cells.toList = us := by rw [hy, hu]
    simp [execOp, hop, hx, Instr.storeAt, Instr.sureAddr, storeVar, sizeOf, typeInfo, hi, hs, hsz, hl', hr]
  unfold runs
  rw [hr']
  exact ⟨_, hC, hok, by rw [hd]; exact h⟩
theorem a_storel (E : Env P) (ho : nthO ops i = some o) (hg : gd ops.toArray n st o = true) (ha : anc i = true) {t : TypeId} {x y : Operand} (hop : o.op = .store t x y) {b off : Nat} (hx : ev n st x = .pointer (some ⟨b, off, none⟩)) {us : List Value} (hy : ev n st y = .agg us.toArray) {m : Nat} (hz : E.sz t = some m) (h1 : Cl us m)
    {T : TypeId} {vs vs' : List Value} {H' : List Res} (hj : Upd H (row b T vs) (row b T vs') H') (hvs : Sp vs off us vs') (hd : o.dst = none)
    (hC : ∀ w, Ok S w0 H' w → C w) (h : MX P ops C anc R l n st S w0 H') : MX P ops C anc R (i :: l) n st S w0 H :=
  a_store E ho hg ha hop hx hy rfl hz h1 hj hvs hd hC h
theorem a_store1 (E : Env P) (ho : nthO ops i = some o) (hg : gd ops.toArray n st o = true) (ha : anc i = true) {t : TypeId} {x y : Operand} (hop : o.op = .store t x y) {b off : Nat} (hx : ev n st x = .pointer (some ⟨b, off, none⟩)) {v : Value} (hy : ev n st y = v) (h1 : v.oneCell' = true) (hz : E.sz t = some 1)
    {T : TypeId} {vs vs' : List Value} {H' : List Res} (hj : Upd H (row b T vs) (row b T vs') H') (hvs : Sp vs off [v] vs') (hd : o.dst = none)
    (hC : ∀ w, Ok S w0 H' w → C w) (h : MX P ops C anc R l n st S w0 H') : MX P ops C anc R (i :: l) n st S w0 H :=
  a_store E ho hg ha hop hx hy (us := [v]) (by cases v <;> first | rfl | cases h1) hz ⟨rfl, by simp [h1]⟩ hj hvs hd hC h
theorem sp0 {a v : Value} {l : List Value} : Sp (a :: l) 0 [v] (v :: l) := ⟨by simp, by simp [splice]⟩
theorem spS {a : Value} {l l' us : List Value} {off : Nat} (h : Sp l off us l') : Sp (a :: l) (off + 1) us (a :: l') := ⟨by have := h.le; simp; omega, by
  rw [← h.eq]
  simp [splice, Nat.add_right_comm]⟩
/-! ### Found by their types: a block among the resources -/
class HasRow (H : List Res) (b : Nat) (T : outParam Nat) (vs : outParam (List Value)) : Prop where
  has : ∃ j : Nat, H[j]? = some (row b T vs)
instance HasRow.hS {H : List Res} {r : Res} {b T : Nat} {vs : List Value} [h : HasRow H b T vs] : HasRow (r :: H) b T vs := ⟨by obtain ⟨j, hj⟩ := h.has; exact ⟨j + 1, by simpa using hj⟩⟩
instance HasRow.h0 {H : List Res} {b T : Nat} {vs : List Value} : HasRow (row b T vs :: H) b T vs := ⟨0, rfl⟩
theorem HasRow.holds {H : List Res} {b T : Nat} {vs : List Value} (h : HasRow H b T vs) {w : World} (hw : Ok S w0 H w) : (row b T vs).holds w := by obtain ⟨j, hj⟩ := h.has; exact hw.holds j _ hj
/-- What may be read, by an operation of this region. -/
class Reads (C : World → Prop) (anc : Nat → Bool) (S : Nat → Prop) (w0 : World) (H : List Res) (b : Nat) (T : outParam Nat) (vs : outParam (List Value)) : Prop where
  reads : ((∀ i, anc i = true) ∧ ∀ w, Ok S w0 H w → (row b T vs).holds w) ∨ ∀ w, C w → (row b T vs).holds w
instance Reads.line {C : World → Prop} {S : Nat → Prop} {w0 : World} {H : List Res} {b T : Nat} {vs : List Value} [h : HasRow H b T vs] : Reads C (fun _ => true) S w0 H b T vs := ⟨.inl ⟨fun _ => rfl, fun w hw => h.holds hw⟩⟩
instance Reads.draw {anc : Nat → Bool} {S : Nat → Prop} {w0 : World} {H HC : List Res} {b T : Nat} {vs : List Value} [h : HasRow HC b T vs] : Reads (Ok S w0 HC) anc S w0 H b T vs := ⟨.inr fun w hw => h.holds hw⟩
class Olds (C : World → Prop) (anc : Nat → Bool) (S : Nat → Prop) (w0 : World) : Prop where
  olds : (∀ i, anc i = true) ∨ ∀ w, C w → ∀ (a : Addr) (v : Value), w0.cell? a = some v → ¬ S a.block → w.cell? a = some v
instance Olds.line {C : World → Prop} {S : Nat → Prop} {w0 : World} : Olds C (fun _ => true) S w0 := ⟨.inl fun _ => rfl⟩
instance Olds.draw {anc : Nat → Bool} {S : Nat → Prop} {w0 : World} {HC : List Res} : Olds (Ok S w0 HC) anc S w0 := ⟨.inr fun w hw a v h hs => hw.old h hs⟩
theorem get_val (ho : nthO ops i = some o) (hg : gd ops.toArray n st o = true) (v : Value) (hv : ((∀ i, anc i = true) ∧ ∀ w, Ok S w0 H w → (execOp (ev n st) o).run P w = .ok (.value v) w) ∨ ∀ w, C w → (execOp (ev n st) o).run P w = .ok (.value v) w) (hd : o.dst = some d)
    (h : MX P ops C anc R l n ((d, v) :: st) S w0 H) : MX P ops C anc R (i :: l) n st S w0 H := by
  refine ⟨fun hC => ?_⟩
  have hs : up o.dst v st = (d, v) :: st := by rw [hd]; rfl
  rcases hv with ⟨ha, hv⟩ | hv
  · exact (a_val ho hg (ha i) v hv hs h).run hC
  · cases ha : anc i with
    | true => exact (a_val ho hg ha v (fun w hw => hv w (hC w hw)) hs h).run hC
    | false => exact (f_val ho hg ha v hv hs h).run hC
theorem mx_get (E : Env P) (ho : nthO ops i = some o) (hg : gd ops.toArray n st o = true) {t : TypeId} {x : Operand} (hop : o.op = .load t x) (ht : has1 E.one t = true) {b off : Nat} (hx : ev n st x = .pointer (some ⟨b, off, none⟩)) {T : Nat} {vs : List Value} [hr : Reads C anc S w0 H b T vs] {v : Value} (hc : vs[off]? = some v)
    (hd : o.dst = some d) (h : MX P ops C anc R l n ((d, v) :: st) S w0 H) : MX P ops C anc R (i :: l) n st S w0 H :=
  get_val ho hg v (hr.reads.imp (fun hh => ⟨hh.1, fun w hw => load1_run E hop ht hx (row_cell (hh.2 w hw) hc)⟩) (fun hh w hw => load1_run E hop ht hx (row_cell (hh w hw) hc))) hd h
theorem add_at (b off k : Nat) : (⟨b, off, none⟩ : Addr).add k = ⟨b, off + k, none⟩ := by unfold Addr.add; split <;> simp_all
theorem mx_getn (E : Env P) (ho : nthO ops i = some o) (hg : gd ops.toArray n st o = true) {t : TypeId} {x : Operand} (hop : o.op = .load t x) {m : Nat} (ht : at0 E.agg t = some m) {b off : Nat} (hx : ev n st x = .pointer (some ⟨b, off, none⟩)) {T : Nat} {vs : List Value} [hr : Reads C anc S w0 H b T vs] {us : List Value} (hv : Vr vs off m us)
    (hd : o.dst = some d) (h : MX P ops C anc R l n ((d, .agg us.toArray) :: st) S w0 H) : MX P ops C anc R (i :: l) n st S w0 H := by
  have key : ∀ w, (row b T vs).holds w → (execOp (ev n st) o).run P w = .ok (.value (.agg us.toArray)) w := fun w hw => loadn_run E hop ht hx hv.len fun j v hj => by rw [add_at]; exact row_cell hw (hv.vw.get hj)
  exact get_val ho hg _ (hr.reads.imp (fun hh => ⟨hh.1, fun w hw => key w (hh.2 w hw)⟩) (fun hh w hw => key w (hh w hw))) hd h
theorem mx_old1 (E : Env P) (ho : nthO ops i = some o) (hg : gd ops.toArray n st o = true) {t : TypeId} {x : Operand} (hop : o.op = .load t x) (ht : has1 E.one t = true) {b off : Nat} (hx : ev n st x = .pointer (some ⟨b, off, none⟩)) {v : Value} (hc : w0.cell? ⟨b, off, none⟩ = some v) (hS : ¬ S b) [hr : Olds C anc S w0]
    (hd : o.dst = some d) (h : MX P ops C anc R l n ((d, v) :: st) S w0 H) : MX P ops C anc R (i :: l) n st S w0 H :=
  get_val ho hg v (hr.olds.imp (fun hh => ⟨hh, fun w hw => load1_run E hop ht hx (hw.old hc hS)⟩) (fun hh w hw => load1_run E hop ht hx (hh w hw _ _ hc hS))) hd h
theorem mx_oldn (E : Env P) (ho : nthO ops i = some o) (hg : gd ops.toArray n st o = true) {t : TypeId} {x : Operand} (hop : o.op = .load t x) {m : Nat} (ht : at0 E.agg t = some m) {b off : Nat} (hx : ev n st x = .pointer (some ⟨b, off, none⟩)) {us : List Value} (hc : ∀ (k : Nat) (v : Value), us[k]? = some v → w0.cell? ⟨b, off + k, none⟩ = some v) (hS : ¬ S b) (hl : us.length = m) [hr : Olds C anc S w0]
    (hd : o.dst = some d) (h : MX P ops C anc R l n ((d, .agg us.toArray) :: st) S w0 H) : MX P ops C anc R (i :: l) n st S w0 H :=
  get_val ho hg _ (hr.olds.imp (fun hh => ⟨hh, fun w hw => loadn_run E hop ht hx hl fun j v hj => by rw [add_at]; exact hw.old (hc j v hj) hS⟩) (fun hh w hw => loadn_run E hop ht hx hl fun j v hj => by rw [add_at]; exact hh w hw _ _ (hc j v hj) hS)) hd h
class UpdR (H : List Res) (b : Nat) (T : outParam Nat) (vs : outParam (List Value)) (F : outParam (List Value → List Res)) : Prop where
  upd : ∀ vs', Upd H (row b T vs) (row b T vs') (F vs')
instance UpdR.uS {H : List Res} {r : Res} {b T : Nat} {vs : List Value} {F : List Value → List Res} [h : UpdR H b T vs F] : UpdR (r :: H) b T vs (fun vs' => r :: F vs') := ⟨fun vs' => upS (h.upd vs')⟩
instance UpdR.u0 {H : List Res} {b T : Nat} {vs : List Value} : UpdR (row b T vs :: H) b T vs (fun vs' => row b T vs' :: H) := ⟨fun _ => up0⟩
/-- What is known holds all through the region. -/
class SubC (C : World → Prop) (S : Nat → Prop) (w0 : World) (H : List Res) : Prop where
  sub : ∀ w, Ok S w0 H w → C w
class Memb (H : List Res) (r : Res) : Prop where
  memb : ∃ j : Nat, H[j]? = some r
instance Memb.mS {H : List Res} {r x : Res} [h : Memb H r] : Memb (x :: H) r := ⟨by obtain ⟨j, hj⟩ := h.memb; exact ⟨j + 1, by simpa using hj⟩⟩
instance Memb.m0 {H : List Res} {r : Res} : Memb (r :: H) r := ⟨0, rfl⟩
instance SubC.same {S : Nat → Prop} {w0 : World} {H : List Res} : SubC (Ok S w0 H) S w0 H := ⟨fun _ h => h⟩
instance SubC.one {S : Nat → Prop} {w0 : World} {H : List Res} {r : Res} [h : Memb H r] : SubC (Ok S w0 [r]) S w0 H := ⟨fun w hw => by obtain ⟨j, hj⟩ := h.memb; exact hw.pick [j] (by simp) (by simp [hj])⟩
instance SubC.nil {S : Nat → Prop} {w0 : World} {H : List Res} : SubC (Ok S w0 []) S w0 H := ⟨fun w hw => hw.pick [] (by simp) (by simp)⟩
instance SubC.any {S : Nat → Prop} {w0 : World} {H : List Res} : SubC (fun _ => True) S w0 H := ⟨fun _ _ => trivial⟩
theorem s_l (E : Env P) (ho : nthO ops i = some o) (hg : gd ops.toArray n st o = true) (ha : anc i = true) {t : TypeId} {x y : Operand} (hop : o.op = .store t x y) {b off : Nat} (hx : ev n st x = .pointer (some ⟨b, off, none⟩)) {us : List Value} (hy : ev n st y = .agg us.toArray) {m : Nat} (hz : E.sz t = some m) [h1 : Cl us m]
    {T : TypeId} {vs vs' : List Value} {F : List Value → List Res} [hj : UpdR H b T vs F] (hvs : Sp vs off us vs') [hC : SubC C S w0 (F vs')] (hd : o.dst = none)
    (h : MX P ops C anc R l n st S w0 (F vs')) : MX P ops C anc R (i :: l) n st S w0 H :=
  a_store E ho hg ha hop hx hy rfl hz h1 (hj.upd vs') hvs hd hC.sub h
theorem s_1 (E : Env P) (ho : nthO ops i = some o) (hg : gd ops.toArray n st o = true) (ha : anc i = true) {t : TypeId} {x y : Operand} (hop : o.op = .store t x y) {b off : Nat} (hx : ev n st x = .pointer (some ⟨b, off, none⟩)) {v : Value} (hy : ev n st y = v) (h1 : v.oneCell' = true) (hz : E.sz t = some 1)
    {T : TypeId} {vs vs' : List Value} {F : List Value → List Res} [hj : UpdR H b T vs F] (hvs : Sp vs off [v] vs') [hC : SubC C S w0 (F vs')] (hd : o.dst = none)
    (h : MX P ops C anc R l n st S w0 (F vs')) : MX P ops C anc R (i :: l) n st S w0 H :=
  a_store1 E ho hg ha hop hx hy h1 hz (hj.upd vs') hvs hd hC.sub h
/-! ### What an operation is, ahead of a step -/
section
variable {t : TypeId} {x y : Operand} {od : Option Tmp}
theorem g_load (ho : nthO ops i = some (Oper.mk od (.load t x) ty ps af g)) (h : MX P ops C anc R (i :: l) n st S w0 H) : MX P ops C anc R (i :: l) n st S w0 H := h
theorem g_store (ho : nthO ops i = some (Oper.mk od (.store t x y) ty ps af g)) (h : MX P ops C anc R (i :: l) n st S w0 H) : MX P ops C anc R (i :: l) n st S w0 H := h
theorem g_pick {c : Operand} (ho : nthO ops i = some (Oper.mk od (.pick c x y) ty ps af g)) (h : MX P ops C anc R (i :: l) n st S w0 H) : MX P ops C anc R (i :: l) n st S w0 H := h
theorem g_bin {op : BinOp} {yt : TypeId} (ho : nthO ops i = some (Oper.mk od (.binOp op t x y yt) ty ps af g)) (h : MX P ops C anc R (i :: l) n st S w0 H) : MX P ops C anc R (i :: l) n st S w0 H := h
theorem g_build {pp : Array (Nat × Operand)} (ho : nthO ops i = some (Oper.mk od (.build t pp) ty ps af g)) (h : MX P ops C anc R (i :: l) n st S w0 H) : MX P ops C anc R (i :: l) n st S w0 H := h
theorem g_ix (ho : nthO ops i = some (Oper.mk od (.indexAddr t x y) ty ps af g)) (h : MX P ops C anc R (i :: l) n st S w0 H) : MX P ops C anc R (i :: l) n st S w0 H := h
theorem g_call {c : Go.Call} (ho : nthO ops i = some (Oper.mk od (.call c) ty ps af g)) (h : MX P ops C anc R (i :: l) n st S w0 H) : MX P ops C anc R (i :: l) n st S w0 H := h
theorem g_box (ho : nthO ops i = some (Oper.mk od (.box t x) ty ps af g)) (h : MX P ops C anc R (i :: l) n st S w0 H) : MX P ops C anc R (i :: l) n st S w0 H := h
end

/-! ### Calls -/
theorem call_runs {f : FuncId} {xs : Array Operand} {ts : Array TypeId} (hop : o.op = .call { callee := .value (.func f), args := xs, argTypes := ts }) {fn : Func} (hf : P.funcs[f]? = some fn) (hb : fn.body.isSome = true) (hn : (fn.name == "runtime.NumGoroutine") = false) {args : List Value} (hx : xs.toList.map (ev n st) = args) {w : World} {K : Value → World → Prop}
    (h : Calls P f args.toArray w fun e w' => ∃ v, e = .returned v ∧ K v w') : runs P o (ev n st) w K := by
  have hb' : ¬ fn.body = none := by intro hq; simp [hq] at hb
  have hn' : ¬ fn.name = "runtime.NumGoroutine" := by simpa using hn
  have hr : (execOp (ev n st) o).run P w = .ok (.enter f args.toArray) w := by
    have ha : xs.map (ev n st) = args.toArray := Array.ext' (by simp [hx])
    simp [execOp, hop, resolve, ev, Deferred.ofValue, invoke, callFunc, hf, hb', hn', ha]
  unfold runs
  rw [hr]
  exact h
theorem a_call (ho : nthO ops i = some o) (hg : gd ops.toArray n st o = true) (ha : anc i = true) {f : FuncId} {xs : Array Operand} {ts : Array TypeId} (hop : o.op = .call { callee := .value (.func f), args := xs, argTypes := ts }) {fn : Func} (hf : P.funcs[f]? = some fn) (hb : fn.body.isSome = true) (hn : (fn.name == "runtime.NumGoroutine") = false) {args : List Value} (hx : xs.toList.map (ev n st) = args)
    (h : (∀ w, Ok S w0 H w → C w) → ∀ w, Ok S w0 H w → Calls P f args.toArray w fun e w' => ∃ v, e = .returned v ∧ ∃ H', (∀ w, Ok S w0 H' w → C w) ∧ Ok S w0 H' w' ∧ MX P ops C anc R l n (up o.dst v st) S w0 H') : MX P ops C anc R (i :: l) n st S w0 H :=
  a_any ho hg ha fun hC w hw => call_runs hop hf hb hn hx (h hC w hw)
theorem f_call (ho : nthO ops i = some o) (hg : gd ops.toArray n st o = true) (ha : anc i = false) {f : FuncId} {xs : Array Operand} {ts : Array TypeId} (hop : o.op = .call { callee := .value (.func f), args := xs, argTypes := ts }) {fn : Func} (hf : P.funcs[f]? = some fn) (hb : fn.body.isSome = true) (hn : (fn.name == "runtime.NumGoroutine") = false) {args : List Value} (hx : xs.toList.map (ev n st) = args)
    (v : Value) (hc : ∀ w, C w → Calls P f args.toArray w fun e w' => e = .returned v ∧ Grow w w') (hd : o.dst = some d) (h : MX P ops C anc R l n ((d, v) :: st) S w0 H) : MX P ops C anc R (i :: l) n st S w0 H := by
  have he : (fr n st).eval = ev n st := funext (eval_fr n st)
  refine ⟨fun hC => ?_⟩
  simp only [mix, nthO_eq, ho, wanted_fr, hg, if_true, put_fr, he, ha, Bool.false_eq_true, if_false]
  refine ⟨v, fun w hw => call_runs hop hf hb hn hx ((hc w hw).mono fun e w' ⟨h1, h2⟩ => ⟨v, h1, rfl, h2⟩), ?_⟩
  rw [hd]
  exact h.run hC
/-- A call that leaves nothing but new blocks, and yields one value. -/
theorem mx_call (ho : nthO ops i = some o) (hg : gd ops.toArray n st o = true) {f : FuncId} {xs : Array Operand} {ts : Array TypeId} (hop : o.op = .call { callee := .value (.func f), args := xs, argTypes := ts }) {fn : Func} (hf : P.funcs[f]? = some fn) (hb : fn.body.isSome = true) (hn : (fn.name == "runtime.NumGoroutine") = false) {args : List Value} (hx : xs.toList.map (ev n st) = args)
    (v : Value) (hc : ∀ w, Calls P f args.toArray w fun e w' => e = .returned v ∧ Grow w w') (hd : o.dst = some d) (h : MX P ops C anc R l n ((d, v) :: st) S w0 H) : MX P ops C anc R (i :: l) n st S w0 H := by
  cases ha : anc i with
  | false => exact f_call ho hg ha hop hf hb hn hx v (fun w _ => hc w) hd h
  | true =>
    exact a_call ho hg ha hop hf hb hn hx fun hC w hw => (hc w).mono fun e w' ⟨h1, h2⟩ => ⟨v, h1, H, hC, hw.grow h2, by rw [hd]; exact h⟩
end
end Go.Sx
