/- The frame as a list of slots; operations that touch no memory, many at once; what is known of memory as a list of resources. Plain theorems over any program. -/
import Derived.Test.YtikdbgheefjpkaaMix
set_option linter.unusedVariables false
set_option linter.unusedSimpArgs false
namespace Go.Sx
open Go.RowKit

abbrev Slots := List (Nat × Value)
def lk : Slots → Nat → Value
  | [], _ => undef
  | (k, v) :: l, t => bif Nat.beq k t then v else lk l t
def fr (n : Nat) (l : Slots) : Act := ⟨Array.ofFn (n := n) fun i => lk l i.val, []⟩
def ev (n : Nat) (l : Slots) : Operand → Value
  | .tmp t => bif Nat.blt t n then lk l t else undef
  | .const v => v
  | .global g => .pointer (some ⟨g, 0, none⟩)
  | .func f => .func (.func f) #[] #[]
theorem eval_fr (n : Nat) (l : Slots) (x : Operand) : (fr n l).eval x = ev n l x := by
  cases x with
  | tmp t =>
    simp only [Act.eval, fr, ev]
    by_cases h : t < n
    · have hb : Nat.blt t n = true := (by rw [Nat.blt_eq]; exact h)
      simp [h, hb]
    · have hb : Nat.blt t n = false := by
        cases hb : Nat.blt t n with
        | false => rfl
        | true => exact absurd (Eq.mp Nat.blt_eq hb) h
      simp [h, hb]
  | _ => rfl
def up (d : Option Tmp) (v : Value) (l : Slots) : Slots := match d with
  | some d => (d, v) :: l
  | none => l
theorem put_fr (n : Nat) (l : Slots) (d : Option Tmp) (v : Value) : (fr n l).put d v = fr n (up d v l) := by
  cases d with
  | none => rfl
  | some d =>
    simp only [Act.put, fr, up, Act.mk.injEq, and_true]
    apply Array.ext
    · simp
    · intro i h1 h2
      have hi : i < n := by simpa using h2
      simp only [Array.getElem_setIfInBounds, Array.getElem_ofFn, lk]
      by_cases h : d = i
      · subst h
        have : Nat.beq d d = true := Nat.beq_refl d
        simp [this]
      · have hb : Nat.beq d i = false := by
          cases hb : Nat.beq d i with
          | false => rfl
          | true => exact absurd (Nat.eq_of_beq_eq_true hb) h
        rw [Array.getElem_setIfInBounds_ne (by simpa using hi) h]
        simp [hb]
/-- Of a guard. -/
def gd (ops : Array Oper) (n : Nat) (l : Slots) (o : Oper) : Bool := match o.guard with
  | none => true
  | some (j, want) => match (ops[j]?).bind (·.dst) with
    | some t => match (bif Nat.blt t n then lk l t else undef) with
      | .bool b => b == want
      | _ => false
    | none => false
theorem wanted_fr (ops : Array Oper) (n : Nat) (l : Slots) (o : Oper) : Region.wanted o (yielded ops (fr n l).tmps) = gd ops n l o := by
  unfold Region.wanted gd
  cases o.guard with
  | none => rfl
  | some p =>
    obtain ⟨j, want⟩ := p
    simp only [yielded]
    cases (ops[j]?).bind (·.dst) with
    | none => simp
    | some t =>
      simp only [Option.bind_some]
      have h := eval_fr n l (.tmp t)
      simp only [Act.eval, ev] at h
      by_cases ht : t < n
      · have hb : Nat.blt t n = true := (by rw [Nat.blt_eq]; exact ht)
        simp only [fr, hb, cond_true] at h ⊢
        have : (Array.ofFn (n := n) fun i => lk l i.val)[t]? = some (lk l t) := by simp [ht]
        rw [this]
        cases lk l t <;> simp
      · have hb : Nat.blt t n = false := by
          cases hb : Nat.blt t n with
          | false => rfl
          | true => exact absurd (Eq.mp Nat.blt_eq hb) ht
        simp only [hb, cond_false]
        have : (fr n l).tmps[t]? = none := by simp [fr, ht]
        rw [this]
        simp [undef]

/-! ### What is read off the program's tables -/
def faOk (P : Program) (p : Nat × Nat × Nat) : Bool := match P.underlying p.1 with
  | some (.struct fs) => match fs[p.2.1]? with
    | some fd => fd.offset == p.2.2 && (match P.info? fd.type with | some i => i.size != 0 | none => false)
    | none => false
  | _ => false
def slOk (P : Program) (p : Nat × Nat × Nat) : Bool := (match P.underlying p.1 with | some (.slice e) => e == p.2.1 | _ => false) && (match P.info? p.2.1 with | some i => i.size == p.2.2 && (match i.zero with | some v => v.cells.size == p.2.2 | none => false) && Nat.ble i.bytes 65536 | none => false)
def aeOk (P : Program) (p : Nat × Nat) : Bool := match P.underlying p.1 with | some (.array _ e) => e == p.2 | _ => false
def arOk (P : Program) (p : Nat × Nat × Nat) : Bool := match P.underlying p.1 with
  | some (.array n e) => n == p.2.1 && (match P.info? e with | some i => i.size == p.2.2 | none => false)
  | _ => false
def oneOk (P : Program) (t : Nat) : Bool := (match P.underlying t with | some (.struct _) | some (.array ..) | none => false | some _ => true) && (match P.info? t with | some i => i.size == 1 | none => false)
def aggOk (P : Program) (p : Nat × Nat) : Bool := (match P.underlying p.1 with | some (.struct _) | some (.array ..) => true | _ => false) && (match P.info? p.1 with | some i => i.size == p.2 | none => false)
def intOk (P : Program) (p : Nat × IntKind) : Bool := match P.underlying p.1 with | some (.int k) => k == p.2 | _ => false
def boolOk (P : Program) (t : Nat) : Bool := match P.underlying t with | some .bool => true | _ => false
/-- A program's tables: struct fields' places (type, field, place), slices (type, element, its cells), arrays (type, length, its element's cells), types of one cell, of more, whole numbers, bools. -/
structure Env (P : Program) where
  fa : List (Nat × Nat × Nat)
  sl : List (Nat × Nat × Nat)
  ar : List (Nat × Nat × Nat)
  ae : List (Nat × Nat)
  one : List Nat
  agg : List (Nat × Nat)
  ints : List (Nat × IntKind)
  bools : List Nat
  hfa : fa.all (faOk P) = true
  hsl : sl.all (slOk P) = true
  har : ar.all (arOk P) = true
  hae : ae.all (aeOk P) = true
  hone : one.all (oneOk P) = true
  hagg : agg.all (aggOk P) = true
  hints : ints.all (intOk P) = true
  hbools : bools.all (boolOk P) = true
/-- The third of what stands at two numbers. -/
def at2 : List (Nat × Nat × Nat) → Nat → Nat → Option Nat
  | [], _, _ => none
  | (a, b, c) :: l, x, y => bif Nat.beq a x && Nat.beq b y then some c else at2 l x y
theorem at2_mem : ∀ {l : List (Nat × Nat × Nat)} {x y c : Nat}, at2 l x y = some c → (x, y, c) ∈ l
  | [], _, _, _, h => by simp [at2] at h
  | (a, b, c) :: l, x, y, c', h => by
    simp only [at2] at h
    cases hb : (Nat.beq a x && Nat.beq b y) with
    | true =>
      rw [hb] at h
      simp at hb h
      obtain ⟨rfl, rfl⟩ := hb
      subst h
      simp
    | false => rw [hb] at h; exact List.mem_cons_of_mem _ (at2_mem h)
def at1 : List (Nat × Nat × Nat) → Nat → Option (Nat × Nat)
  | [], _ => none
  | (a, b, c) :: l, x => bif Nat.beq a x then some (b, c) else at1 l x
theorem at1_mem : ∀ {l : List (Nat × Nat × Nat)} {x b c : Nat}, at1 l x = some (b, c) → (x, b, c) ∈ l
  | [], _, _, _, h => by simp [at1] at h
  | (a, b, c) :: l, x, b', c', h => by
    simp only [at1] at h
    cases hb : Nat.beq a x with
    | true =>
      rw [hb] at h
      have : a = x := Nat.eq_of_beq_eq_true hb
      simp at h
      obtain ⟨rfl, rfl⟩ := h
      subst this
      simp
    | false => rw [hb] at h; exact List.mem_cons_of_mem _ (at1_mem h)
def has1 : List Nat → Nat → Bool
  | [], _ => false
  | a :: l, x => bif Nat.beq a x then true else has1 l x
theorem has1_mem : ∀ {l : List Nat} {x : Nat}, has1 l x = true → x ∈ l
  | [], _, h => by simp [has1] at h
  | a :: l, x, h => by
    simp only [has1] at h
    cases hb : Nat.beq a x with
    | true => have : a = x := Nat.eq_of_beq_eq_true hb; subst this; simp
    | false => rw [hb] at h; exact List.mem_cons_of_mem _ (has1_mem h)
def at0 : List (Nat × Nat) → Nat → Option Nat
  | [], _ => none
  | (a, b) :: l, x => bif Nat.beq a x then some b else at0 l x
theorem at0_mem : ∀ {l : List (Nat × Nat)} {x b : Nat}, at0 l x = some b → (x, b) ∈ l
  | [], _, _, h => by simp [at0] at h
  | (a, b) :: l, x, b', h => by
    simp only [at0] at h
    cases hb : Nat.beq a x with
    | true =>
      rw [hb] at h
      have : a = x := Nat.eq_of_beq_eq_true hb
      simp at h
      subst h; subst this
      simp
    | false => rw [hb] at h; exact List.mem_cons_of_mem _ (at0_mem h)

section
variable {P : Program} (E : Env P)
theorem Env.fa_run {s f o : Nat} (h : at2 E.fa s f = some o) (b off : Nat) (w : World) : (Instr.fieldAt s (.pointer (some ⟨b, off, none⟩)) f).run P w = .ok (.pointer (some ⟨b, off + o, none⟩)) w := by
  have := List.all_eq_true.1 E.hfa _ (at2_mem h)
  unfold faOk at this
  simp only at this
  split at this
  · rename_i fs hu
    split at this
    · rename_i fd hf
      simp only [Bool.and_eq_true, beq_iff_eq] at this
      obtain ⟨ho, hs⟩ := this
      split at hs
      · rename_i i hi
        have hz : i.size ≠ 0 := by simpa using hs
        simp only [Instr.fieldAt, Sem.run_bind, run_underlying hu, Result.andThen_ok, hf, Instr.sureAddr, Sem.run_pure, fieldPlace, sizeOf, typeInfo, run_program, hi, hz, if_false, ho]
        unfold Addr.add
        split
        · rename_i h0; subst h0; rfl
        · rfl
      · cases hs
    · cases this
  · cases this
theorem Env.sl_spec {t e z : Nat} (h : at1 E.sl t = some (e, z)) : P.underlying t = some (.slice e) ∧ ∃ i, P.info? e = some i ∧ i.size = z := by
  have := List.all_eq_true.1 E.hsl _ (at1_mem h)
  simp only [slOk, Bool.and_eq_true] at this
  obtain ⟨h1, h2⟩ := this
  split at h1
  · rename_i e' hu
    obtain rfl : e' = e := by simpa using h1
    split at h2
    · rename_i i hi
      simp only [Bool.and_eq_true] at h2
      exact ⟨hu, i, hi, by simpa using h2.1.1⟩
    · cases h2
  · cases h1
theorem Env.sl_zero {t e z : Nat} (h : at1 E.sl t = some (e, z)) : P.underlying t = some (.slice e) ∧ ∃ i v, P.info? e = some i ∧ i.size = z ∧ i.zero = some v ∧ v.cells.size = z ∧ i.bytes ≤ 65536 := by
  have := List.all_eq_true.1 E.hsl _ (at1_mem h)
  simp only [slOk, Bool.and_eq_true] at this
  obtain ⟨h1, h2⟩ := this
  split at h1
  · rename_i e' hu
    obtain rfl : e' = e := by simpa using h1
    split at h2
    · rename_i i hi
      simp only [Bool.and_eq_true] at h2
      obtain ⟨⟨h3, h4⟩, h5⟩ := h2
      split at h4
      · rename_i v hv
        exact ⟨hu, i, v, hi, by simpa using h3, hv, by simpa using h4, Nat.le_of_ble_eq_true h5⟩
      · cases h4
    · cases h2
  · cases h1
theorem Env.ar_spec {t n z : Nat} (h : at1 E.ar t = some (n, z)) : ∃ e, P.underlying t = some (.array n e) ∧ ∃ i, P.info? e = some i ∧ i.size = z := by
  have := List.all_eq_true.1 E.har _ (at1_mem h)
  simp only [arOk] at this
  split at this
  · rename_i n' e hu
    simp only [Bool.and_eq_true, beq_iff_eq] at this
    obtain ⟨rfl, h2⟩ := this
    split at h2
    · rename_i i hi; exact ⟨e, hu, i, hi, by simpa using h2⟩
    · cases h2
  · cases this
theorem Env.one_load {t : Nat} (h : has1 E.one t = true) (a : Addr) {w : World} {v : Value} (hc : w.cell? a = some v) : (Instr.loadAt t (.pointer (some a))).run P w = .ok v w := by
  have := List.all_eq_true.1 E.hone _ (has1_mem h)
  simp only [oneOk, Bool.and_eq_true] at this
  obtain ⟨h1, _⟩ := this
  have hagg : (isAgg t).run P w = .ok false w := by
    unfold isAgg
    cases hu : P.underlying t with
    | none => simp [hu] at h1
    | some d =>
      rw [Sem.run_bind, run_underlying hu w]
      cases d <;> simp_all
  simp [Instr.loadAt, Instr.sureAddr, loadVar, hagg, hc]
theorem Env.one_size {t : Nat} (h : has1 E.one t = true) : ∃ i, P.info? t = some i ∧ i.size = 1 := by
  have := List.all_eq_true.1 E.hone _ (has1_mem h)
  simp only [oneOk, Bool.and_eq_true] at this
  obtain ⟨_, h2⟩ := this
  split at h2
  · rename_i i hi; exact ⟨i, hi, by simpa using h2⟩
  · cases h2
theorem Env.agg_size {t m : Nat} (h : at0 E.agg t = some m) : ∃ i, P.info? t = some i ∧ i.size = m := by
  have := List.all_eq_true.1 E.hagg _ (at0_mem h)
  simp only [aggOk, Bool.and_eq_true] at this
  obtain ⟨_, h2⟩ := this
  split at h2
  · rename_i i hi; exact ⟨i, hi, by simpa using h2⟩
  · cases h2
theorem Env.agg_load {t m : Nat} (h : at0 E.agg t = some m) (a : Addr) {w : World} (vs : List Value) (hl : vs.length = m) (hc : ∀ j v, vs[j]? = some v → w.cell? (a.add j) = some v) : (Instr.loadAt t (.pointer (some a))).run P w = .ok (.agg vs.toArray) w := by
  have := List.all_eq_true.1 E.hagg _ (at0_mem h)
  simp only [aggOk, Bool.and_eq_true] at this
  obtain ⟨h1, _⟩ := this
  obtain ⟨i, hi, hs⟩ := E.agg_size h
  have hagg : (isAgg t).run P w = .ok true w := by
    unfold isAgg
    cases hu : P.underlying t with
    | none => simp [hu] at h1
    | some d =>
      rw [Sem.run_bind, run_underlying hu w]
      cases d <;> simp_all
  have hr := run_loadCells_list (P := P) w a vs hc
  simp [Instr.loadAt, Instr.sureAddr, loadVar, hagg, sizeOf, typeInfo, hi, hs, ← hl, hr]

/-! ### Operations that touch no memory -/
def cmpOp : BinOp → Int → Int → Option Bool
  | .eql, a, b => some (a == b)
  | .neq, a, b => some (a != b)
  | .lss, a, b => some (decide (a < b))
  | .leq, a, b => some (decide (a ≤ b))
  | .gtr, a, b => some (decide (b < a))
  | .geq, a, b => some (decide (b ≤ a))
  | _, _, _ => none
def kindEq : IntKind → IntKind → Bool
  | .i8, .i8 | .i16, .i16 | .i32, .i32 | .i64, .i64 | .u8, .u8 | .u16, .u16 | .u32, .u32 | .u64, .u64 => true
  | _, _ => false
theorem kindEq_eq {a b : IntKind} (h : kindEq a b = true) : a = b := by cases a <;> cases b <;> first | rfl | cases h
def pureOp (n : Nat) (st : Slots) : Op → Option Value
  | .move x => some (ev n st x)
  | .assign x => some (ev n st x)
  | .nilCheck x => match ev n st x with
    | .pointer (some a) => some (.pointer (some a))
    | _ => none
  | .unOp .not _ x => match ev n st x with
    | .bool b => some (.bool (!b))
    | _ => none
  | .binOp op _ x y _ => match ev n st x, ev n st y with
    | .int k a, .int k' b => match kindEq k k' with
      | true => (cmpOp op a b).map .bool
      | false => none
    | _, _ => none
  | .fieldAddr s x f => match ev n st x with
    | .pointer (some ⟨b, off, none⟩) => match at2 E.fa s f with
      | some o => some (.pointer (some ⟨b, off + o, none⟩))
      | none => none
    | _ => none
  | .extract x i => match ev n st x with
    | .tuple vs => vs[i]?
    | _ => none
  | .call c => match c.callee, c.args.toList, c.argTypes.toList with
    | .builtin .len, [x], [t] => match ev n st x with
      | .slice _ m _ => match at1 E.sl t with
        | some _ => some (.int .i64 m)
        | none => none
      | _ => none
    | .builtin .cap, [x], [t] => match ev n st x with
      | .slice _ _ m => match at1 E.sl t with
        | some _ => some (.int .i64 m)
        | none => none
      | _ => none
    | _, _, _ => none
  | _ => none
theorem pureOp_run {n : Nat} {st : Slots} {o : Oper} {v : Value} (h : pureOp E n st o.op = some v) (w : World) : (execOp (ev n st) o).run P w = .ok (.value v) w := by
  unfold execOp
  generalize hop : o.op = op at h
  unfold pureOp at h
  split at h
  · simp at h; subst h; simp
  · simp at h; subst h; simp
  · split at h
    · rename_i x a hx; simp at h; subst h; simp [hx]
    · cases h
  · split at h
    · rename_i b hb; simp at h; subst h; simp [hb, Op.unary]
    · cases h
  · rename_i op t x y yt
    split at h
    · rename_i k a k' b hx hy
      split at h
      · rename_i hk
        have := kindEq_eq hk
        subst this
        cases op <;> simp [cmpOp] at h <;> subst h <;> simp [hx, hy, eqGuard, binOp, Op.intCmp]
      · cases h
    · cases h
  · split at h
    · rename_i b off hx
      split at h
      · rename_i z hz
        simp at h; subst h
        simp [hx, E.fa_run hz]
      · cases h
    · cases h
  · split at h
    · rename_i vs hx; simp [hx, Instr.extract, h]
    · cases h
  · rename_i c
    obtain ⟨ce, as, ts⟩ := c
    simp only at h
    split at h
    · rename_i x t has hts
      obtain rfl : as = #[x] := by cases as; simp_all
      obtain rfl : ts = #[t] := by cases ts; simp_all
      split at h
      · rename_i m c hx
        split at h
        · rename_i p hp
          simp at h; subst h
          obtain ⟨hu, _⟩ := E.sl_spec (e := p.1) (z := p.2) hp
          simp [resolve, invoke, builtin, hx, Builtin.len_, run_underlying hu, goInt]
        · cases h
      · cases h
    · rename_i x t has hts
      obtain rfl : as = #[x] := by cases as; simp_all
      obtain rfl : ts = #[t] := by cases ts; simp_all
      split at h
      · rename_i m c hx
        split at h
        · rename_i p hp
          simp at h; subst h
          obtain ⟨hu, _⟩ := E.sl_spec (e := p.1) (z := p.2) hp
          simp [resolve, invoke, builtin, hx, Builtin.cap_, run_underlying hu, goInt]
        · cases h
      · cases h
    · cases h
  · cases h
end
end Go.Sx
