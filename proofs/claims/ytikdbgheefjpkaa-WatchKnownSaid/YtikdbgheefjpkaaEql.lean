/- '==' of structs and arrays whose cells are whole numbers and bools: cell by cell. Plain theorems over any program. -/
import Derived.Test.YtikdbgheefjpkaaTab
import Derived.Laws.StructEq
set_option linter.unusedVariables false
set_option linter.unusedSimpArgs false
namespace Go.Sx
inductive LK where
  | int (k : IntKind)
  | bool
def LK.fits : LK → Value → Bool
  | .int k, .int k' _ => k == k'
  | .bool, .bool _ => true
  | _, _ => false
def allFit : List LK → List Value → Bool
  | [], [] => true
  | k :: ks, v :: vs => k.fits v && allFit ks vs
  | _, _ => false
def eqv : Value → Value → Bool
  | .int _ a, .int _ b => a == b
  | .bool a, .bool b => a == b
  | _, _ => false
def eqs : List Value → List Value → Bool
  | [], [] => true
  | a :: as, b :: bs => eqv a b && eqs as bs
  | _, _ => false
theorem allFit_len : ∀ {ks : List LK} {vs : List Value}, allFit ks vs = true → vs.length = ks.length
  | [], [], _ => rfl
  | [], _ :: _, h => by simp [allFit] at h
  | _ :: _, [], h => by simp [allFit] at h
  | k :: ks, v :: vs, h => by simp only [allFit, Bool.and_eq_true] at h; simp [allFit_len h.2]
theorem allFit_append : ∀ {ks ks' : List LK} {vs vs' : List Value}, allFit ks vs = true → allFit ks' vs' = true → allFit (ks ++ ks') (vs ++ vs') = true
  | [], _, [], _, _, h => h
  | [], _, _ :: _, _, h, _ => by simp [allFit] at h
  | _ :: _, _, [], _, h, _ => by simp [allFit] at h
  | k :: ks, ks', v :: vs, vs', h, h' => by
    simp only [allFit, Bool.and_eq_true] at h
    simp only [List.cons_append, allFit, Bool.and_eq_true]
    exact ⟨h.1, allFit_append h.2 h'⟩
theorem allFit_take_drop : ∀ (ks ks' : List LK) (vs : List Value), allFit (ks ++ ks') vs = true → allFit ks (vs.take ks.length) = true ∧ allFit ks' (vs.drop ks.length) = true
  | [], ks', vs, h => by simp [allFit]; exact h
  | k :: ks, ks', [], h => by simp [allFit] at h
  | k :: ks, ks', v :: vs, h => by
    simp only [List.cons_append, allFit, Bool.and_eq_true] at h
    have := allFit_take_drop ks ks' vs h.2
    simp only [List.length_cons, List.take_succ_cons, List.drop_succ_cons, allFit, Bool.and_eq_true]
    exact ⟨⟨h.1, this.1⟩, this.2⟩
theorem eqs_split : ∀ (k : Nat) (xs ys : List Value), k ≤ xs.length → xs.length = ys.length → eqs xs ys = (eqs (xs.take k) (ys.take k) && eqs (xs.drop k) (ys.drop k))
  | 0, xs, ys, _, _ => by simp [eqs]
  | k + 1, [], ys, h, _ => by simp at h
  | k + 1, x :: xs, [], _, h => by simp at h
  | k + 1, x :: xs, y :: ys, h, h' => by
    simp only [eqs, List.take_succ_cons, List.drop_succ_cons]
    rw [eqs_split k xs ys (by simp at h; omega) (by simpa using h'), Bool.and_assoc]
/-- Where the cells fit, '==' tells just whether all are the same. -/
theorem eqs_iff : ∀ {ks : List LK} {xs ys : List Value}, allFit ks xs = true → allFit ks ys = true → (eqs xs ys = true ↔ xs = ys)
  | [], [], [], _, _ => by simp [eqs]
  | [], _ :: _, _, h, _ => by simp [allFit] at h
  | [], [], _ :: _, _, h => by simp [allFit] at h
  | _ :: _, [], _, h, _ => by simp [allFit] at h
  | _ :: _, _ :: _, [], _, h => by simp [allFit] at h
  | k :: ks, x :: xs, y :: ys, h, h' => by
    simp only [allFit, Bool.and_eq_true] at h h'
    have ih := eqs_iff h.2 h'.2
    simp only [eqs, Bool.and_eq_true, ih, List.cons.injEq]
    have : eqv x y = true ↔ x = y := by
      cases k with
      | int k =>
        cases x <;> simp [LK.fits] at h
        cases y <;> simp [LK.fits] at h'
        obtain ⟨rfl, _⟩ := h; obtain ⟨rfl, _⟩ := h'
        simp [eqv]
      | bool =>
        cases x <;> simp [LK.fits] at h
        cases y <;> simp [LK.fits] at h'
        simp [eqv]
    rw [this]
def flatFs (fl : TypeId → Option (List LK)) : List Field → List LK → Option (List LK)
  | [], acc => some acc
  | f :: fs, acc => if f.name = "_" then none else if f.offset ≠ acc.length then none else match fl f.type with
    | some l => flatFs fl fs (acc ++ l)
    | none => none
def flatT (P : Program) : Nat → TypeId → Option (List LK)
  | 0, _ => none
  | d + 1, t => match P.underlying t with
    | some (.int k) => some [.int k]
    | some .bool => some [.bool]
    | some (.struct fs) => if P.stoodInHeld t then none else match flatFs (flatT P d) fs.toList [] with
      | some l => if (P.info? t).map (·.size) = some l.length then some l else none
      | none => none
    | some (.array n e) => match flatT P d e with
      | some l => if (P.info? e).map (·.size) = some l.length then (if (P.info? t).map (·.size) = some (n * l.length) then some (tab n fun _ => l) else none) else none
      | none => none
    | _ => none
/-- A value of a type: an aggregate of the cells, or the one cell. -/
def vOf (agg : Bool) (vs : List Value) : Value := if agg then .agg vs.toArray else vs.headD undef
section
variable {P : Program}
def isAg (P : Program) (t : TypeId) : Bool := match P.underlying t with
  | some (.struct _) | some (.array ..) => true
  | _ => false
theorem flatT_size {d t : Nat} {l : List LK} (h : flatT P d t = some l) (hag : isAg P t = true) : (P.info? t).map (·.size) = some l.length := by
  cases d with
  | zero => simp [flatT] at h
  | succ d =>
    simp only [flatT] at h
    unfold isAg at hag
    split at h
    · rename_i hu; simp [hu] at hag
    · rename_i hu; simp [hu] at hag
    · split at h
      · cases h
      · split at h
        · split at h
          · rename_i hs; simp at h; subst h; exact hs
          · cases h
        · cases h
    · split at h
      · split at h
        · split at h
          · rename_i hs; simp at h; subst h; rw [hs, tab_length (z := List.length _) (fun _ => rfl)]
          · cases h
        · cases h
      · cases h
    · cases h
theorem flatT_one {d t : Nat} {l : List LK} (h : flatT P d t = some l) (hag : isAg P t = false) : l.length = 1 := by
  cases d with
  | zero => simp [flatT] at h
  | succ d =>
    simp only [flatT] at h
    unfold isAg at hag
    split at h
    · simp at h; subst h; rfl
    · simp at h; subst h; rfl
    · rename_i hu; simp [hu] at hag
    · rename_i hu; simp [hu] at hag
    · cases h
theorem run_part {d t off : Nat} {l : List LK} (h : flatT P d t = some l) (cs : List Value) (hl : off + l.length ≤ cs.length) (w : World) : (part t cs.toArray off).run P w = .ok (vOf (isAg P t) ((cs.drop off).take l.length)) w := by
  unfold part isAgg
  cases hu : P.underlying t with
  | none => cases d <;> simp [flatT, hu] at h
  | some D =>
    cases hag : isAg P t with
    | true =>
      have hs := flatT_size h hag
      cases hi : P.info? t with
      | none => simp [hi] at hs
      | some i =>
        have hs' : i.size = l.length := by simpa [hi] using hs
        have hD : (match D with | .struct _ | .array _ _ => true | _ => false) = true := by unfold isAg at hag; rw [hu] at hag; cases D <;> simp_all
        have hr : (cs.toArray.extract off (off + l.length)) = ((cs.drop off).take l.length).toArray := by
          apply Array.ext'
          simp [List.extract_eq_take_drop]
        cases D <;> simp at hD <;> simp [Sem.run_bind, run_underlying hu, sizeOf, typeInfo, hi, hs', vOf, hr]
    | false =>
      have h1 := flatT_one h hag
      have hD : (match D with | .struct _ | .array _ _ => true | _ => false) = false := by unfold isAg at hag; rw [hu] at hag; cases D <;> simp_all
      have hlt : off < cs.length := by omega
      have hv : ((cs.drop off).take l.length).headD undef = cs[off] := by
        rw [h1, List.drop_eq_getElem_cons hlt]
        rfl
      cases D <;> simp at hD <;> simp [Sem.run_bind, run_underlying hu, vOf, hlt] <;> (first | exact hv.symm | simpa using hv.symm)

def eqElems (d : Nat) (e : TypeId) (n : Nat) (xs ys : Array Value) : List Nat → Sem Bool
  | [] => pure true
  | i :: l => do
    let a ← part e xs (i * n)
    let b ← part e ys (i * n)
    let r ← Op.equalIn d e a b
    if (!r) = true then pure false else eqElems d e n xs ys l
theorem run_equalIn_array (d : Nat) (t e : TypeId) (len n : Nat) (xs ys : Array Value) (w : World) (ht : P.underlying t = some (.array len e)) (hn : (P.info? e).map (·.size) = some n) :
    (Op.equalIn (d + 1) t (.agg xs) (.agg ys)).run P w = (eqElems d e n xs ys (List.range len)).run P w := by
  cases hi : P.info? e with
  | none => simp [hi] at hn
  | some i =>
    have hs : i.size = n := by simpa [hi] using hn
    have hsz : (sizeOf e).run P w = .ok n w := by simp [sizeOf, typeInfo, hi, hs]
    simp only [Op.equalIn, Sem.run_bind, run_underlying ht, Result.andThen_ok, hsz]
    rw [Std.Legacy.Range.forIn_eq_forIn_range']
    have hr : List.range' [0:len].start [0:len].size [0:len].step = List.range len := by
      simp [List.range_eq_range', Std.Legacy.Range.size]
    rw [hr]
    generalize List.range len = is
    clear ht hsz hr
    induction is generalizing w with
    | nil => simp [eqElems]
    | cons j js ih =>
      simp only [List.forIn_cons, eqElems, Sem.run_bind, Sem.run_ite]
      generalize (part e xs (j * n)).run P w = r1
      cases r1 with
      | ok a w1 =>
        simp only [Result.andThen_ok]
        generalize (part e ys (j * n)).run P w1 = r2
        cases r2 with
        | ok b w2 =>
          simp only [Result.andThen_ok]
          generalize (Op.equalIn d e a b).run P w2 = r3
          cases r3 with
          | ok r w3 =>
            cases r
            · simp only [Result.andThen_ok, Bool.not_false, if_true, Sem.run_pure]
            · simp only [Result.andThen_ok, Bool.not_true, Bool.false_eq_true, if_false, Sem.run_pure]
              exact ih w3
          | halt x w3 => simp [Result.andThen]
        | halt x w2 => simp [Result.andThen]
      | halt x w1 => simp [Result.andThen]
/-- **Equal, cell by cell.** -/
theorem run_equalIn_flat (w : World) : ∀ (d D t : Nat) (l : List LK) (xs ys : List Value), d ≤ D → flatT P d t = some l → allFit l xs = true → allFit l ys = true →
    (Op.equalIn D t (vOf (isAg P t) xs) (vOf (isAg P t) ys)).run P w = .ok (eqs xs ys) w
  | 0, D, t, l, xs, ys, _, h, _, _ => by simp [flatT] at h
  | d + 1, 0, t, l, xs, ys, hD, _, _, _ => by omega
  | d + 1, D + 1, t, l, xs, ys, hD, h, hx, hy => by
    have hlx := allFit_len hx
    have hly := allFit_len hy
    have h0 := h
    simp only [flatT] at h
    split at h
    · rename_i k hu
      simp at h; subst h
      have hag : isAg P t = false := by simp [isAg, hu]
      match xs, ys, hx, hy with
      | [x], [y], hx, hy =>
        simp only [allFit, Bool.and_true] at hx hy
        cases x <;> simp [LK.fits] at hx
        cases y <;> simp [LK.fits] at hy
        subst hx; subst hy
        simp [vOf, hag, eqs, eqv, run_equalIn_int w D t _ _ _ _ hu]
      | [], _, hx, _ => simp [allFit] at hx
      | [_], [], _, hy => simp [allFit] at hy
      | _ :: _ :: _, _, hx, _ => simp [allFit] at hx
      | _, _ :: _ :: _, _, hy => simp [allFit] at hy
    · rename_i hu
      simp at h; subst h
      have hag : isAg P t = false := by simp [isAg, hu]
      match xs, ys, hx, hy with
      | [x], [y], hx, hy =>
        simp only [allFit, Bool.and_true] at hx hy
        cases x <;> simp [LK.fits] at hx
        cases y <;> simp [LK.fits] at hy
        simp [vOf, hag, eqs, eqv, run_equalIn_bool' w D t _ _ hu]
      | [], _, hx, _ => simp [allFit] at hx
      | [_], [], _, hy => simp [allFit] at hy
      | _ :: _ :: _, _, hx, _ => simp [allFit] at hx
      | _, _ :: _ :: _, _, hy => simp [allFit] at hy
    · rename_i fs hu
      split at h
      · cases h
      · rename_i hst
        have hst' : P.stoodInHeld t = false := by simpa using hst
        have hag : isAg P t = true := by simp [isAg, hu]
        have hfo : P.fieldsOf t = fs := by simp [Program.fieldsOf, hu]
        split at h
        · rename_i l' hfl
          split at h
          · simp at h; subst h
            simp only [vOf, hag, if_true]
            rw [run_equalIn_struct w D t _ _ (by rw [hfo]; exact hu) hst', hfo]
            have key : ∀ (fl : List Field) (acc : List LK), flatFs (flatT P d) fl acc = some l' → (Op.eqFields D xs.toArray ys.toArray fl).run P w = .ok (eqs (xs.drop acc.length) (ys.drop acc.length)) w := by
              intro fl
              induction fl with
              | nil =>
                intro acc ha
                simp [flatFs] at ha
                subst ha
                rw [← hlx]
                have : ys.drop xs.length = [] := by rw [List.drop_eq_nil_iff]; omega
                simp [Op.eqFields, eqs, this]
              | cons f fl ih =>
                intro acc ha
                simp only [flatFs] at ha
                split at ha
                · cases ha
                · rename_i hnm
                  split at ha
                  · cases ha
                  · rename_i hoff
                    have hoff' : f.offset = acc.length := by simpa using hoff
                    split at ha
                    · rename_i lf hlf
                      have ih' := ih _ ha
                      -- the whole list is acc ++ lf ++ rest
                      have hpre : ∀ (fl : List Field) (acc : List LK) (l' : List LK), flatFs (flatT P d) fl acc = some l' → ∃ r, l' = acc ++ r := by
                        intro fl
                        induction fl with
                        | nil => intro acc l' h; simp [flatFs] at h; exact ⟨[], by simp [h]⟩
                        | cons f fl ih =>
                          intro acc l' h
                          simp only [flatFs] at h
                          split at h
                          · cases h
                          · split at h
                            · cases h
                            · split at h
                              · obtain ⟨r, hr⟩ := ih _ _ h; exact ⟨_, by rw [hr, List.append_assoc]⟩
                              · cases h
                      obtain ⟨r, hr⟩ := hpre _ _ _ ha
                      have hx' : allFit ((acc ++ lf) ++ r) xs = true := by rw [← hr]; exact hx
                      have hy' : allFit ((acc ++ lf) ++ r) ys = true := by rw [← hr]; exact hy
                      rw [List.append_assoc] at hx' hy'
                      have hx1 := (allFit_take_drop _ _ _ (allFit_take_drop acc _ xs hx').2).1
                      have hy1 := (allFit_take_drop _ _ _ (allFit_take_drop acc _ ys hy').2).1
                      have hlen : l'.length = acc.length + lf.length + r.length := by rw [hr]; simp; omega
                      have hpx := run_part hlf xs (off := acc.length) (by omega) w
                      have hpy := run_part hlf ys (off := acc.length) (by omega) w
                      have he := run_equalIn_flat w d D f.type lf _ _ (by omega) hlf hx1 hy1
                      simp only [Op.eqFields, hnm, ne_eq, not_false_eq_true, if_true, Sem.run_bind, hoff', hpx, hpy, Result.andThen_ok, he, Sem.run_ite, Sem.run_pure, ih']
                      rw [eqs_split lf.length (xs.drop acc.length) (ys.drop acc.length) (by simp; omega) (by simp; omega)]
                      simp only [List.drop_drop, List.length_append]
                      cases eqs ((xs.drop acc.length).take lf.length) ((ys.drop acc.length).take lf.length) <;> simp
                    · cases ha
            have := key fs.toList [] hfl
            simpa using this
          · cases h
        · cases h
    · rename_i n e hu
      have hag : isAg P t = true := by simp [isAg, hu]
      split at h
      · rename_i le hle
        split at h
        · rename_i hse
          split at h
          · simp at h; subst h
            simp only [vOf, hag, if_true]
            rw [run_equalIn_array D t e n le.length _ _ w hu hse]
            have htl : ∀ m, (tab m fun _ => le).length = m * le.length := tab_length (fun _ => rfl)
            rw [htl] at hlx hly
            have key : ∀ (m k : Nat), k + m = n → (eqElems D e le.length xs.toArray ys.toArray (List.range' k m)).run P w = .ok (eqs (xs.drop (k * le.length)) (ys.drop (k * le.length))) w := by
              intro m
              induction m with
              | zero =>
                intro k hk
                have hk' : k = n := by omega
                subst hk'
                have h1 : xs.drop (k * le.length) = [] := by rw [List.drop_eq_nil_iff]; omega
                have h2 : ys.drop (k * le.length) = [] := by rw [List.drop_eq_nil_iff]; omega
                simp [eqElems, eqs, h1, h2]
              | succ m ih =>
                intro k hk
                have hkn : k * le.length + le.length ≤ n * le.length := by
                  calc k * le.length + le.length = (k + 1) * le.length := by rw [Nat.add_mul, Nat.one_mul]
                    _ ≤ n * le.length := Nat.mul_le_mul_right _ (by omega)
                have hsplit : (tab n fun _ => le) = (tab k fun _ => le) ++ (le ++ (tab m fun _ => le)) := by
                  have : ∀ (a b : Nat), (tab (a + b) fun _ => le) = (tab a fun _ => le) ++ (tab b fun _ => le) := by
                    intro a b
                    induction b with
                    | zero => simp [tab]
                    | succ b ihb => rw [← Nat.add_assoc, tab_succ, ihb, tab_succ, List.append_assoc]
                  have e1 : n = k + (1 + m) := by omega
                  rw [e1, this, this]
                  simp [tab]
                rw [hsplit] at hx hy
                have hx1 := (allFit_take_drop _ _ _ (allFit_take_drop _ _ xs hx).2).1
                have hy1 := (allFit_take_drop _ _ _ (allFit_take_drop _ _ ys hy).2).1
                rw [htl] at hx1 hy1
                have hpx := run_part hle xs (off := k * le.length) (by omega) w
                have hpy := run_part hle ys (off := k * le.length) (by omega) w
                have he := run_equalIn_flat w d D e le _ _ (by omega) hle hx1 hy1
                rw [← hsplit] at hx hy
                have ih' := ih (k + 1) (by omega)
                simp only [List.range'_succ, eqElems, Sem.run_bind, hpx, hpy, Result.andThen_ok, he, Sem.run_ite, Sem.run_pure, ih']
                rw [eqs_split le.length (xs.drop (k * le.length)) (ys.drop (k * le.length)) (by simp; omega) (by simp; omega)]
                simp only [List.drop_drop, Nat.add_mul, Nat.one_mul]
                cases eqs ((xs.drop (k * le.length)).take le.length) ((ys.drop (k * le.length)).take le.length) <;> simp
            have := key n 0 (by omega)
            rw [List.range_eq_range']
            simpa using this
          · cases h
        · cases h
      · cases h
    · cases h

/-- '==' | '!=' as an operation: of aggregates of a flat type. -/
theorem run_eqGuard_agg (op : BinOp) (t : TypeId) (x y : Operand) (a b : Array Value) (w : World) (hg : P.eqGuardType P.depth t = false) : (eqGuard op t x y (.agg a) (.agg b)).run P w = .ok () w := by
  unfold eqGuard
  cases op <;> simp [Sem.run_bind, hg]
/-- What is known of a flat type, in three closed facts. -/
structure Flat (P : Program) (t : TypeId) (l : List LK) : Prop where
  flat : flatT P 40 t = some l
  agg : isAg P t = true
  guard : P.eqGuardType P.depth t = false
theorem run_eq_flat {t : TypeId} {l : List LK} (hf : Flat P t l) (ne : Bool) {xs ys : List Value} (hx : allFit l xs = true) (hy : allFit l ys = true) (x y : Operand) (w : World) :
    ((do eqGuard (if ne then .neq else .eql) t x y (.agg xs.toArray) (.agg ys.toArray); binOp (if ne then .neq else .eql) t (.agg xs.toArray) (.agg ys.toArray)) : Sem Value).run P w = .ok (.bool (eqs xs ys != ne)) w := by
  have h1 := run_equalIn_flat w 40 10000 t l xs ys (by omega) hf.flat hx hy
  simp only [vOf, hf.agg, if_true] at h1
  have h2 : (Op.equal t (.agg xs.toArray) (.agg ys.toArray)).run P w = .ok (eqs xs ys) w := h1
  cases ne
  · simp only [Bool.false_eq_true, if_false, Sem.run_bind, run_eqGuard_agg _ _ _ _ _ _ _ hf.guard, Result.andThen_ok]
    simp [binOp, h2]
  · simp only [if_true, Sem.run_bind, run_eqGuard_agg _ _ _ _ _ _ _ hf.guard, Result.andThen_ok]
    simp [binOp, h2]
end
end Go.Sx

namespace Go.Sx
open Go.RowKit
section
variable {P : Program} {ops : List Oper} {C : World → Prop} {anc : Nat → Bool} {R : Act → (World → Prop) → Prop} {n : Nat} {st : Slots} {i : Nat} {l : List Nat} {o : Oper} {S : Nat → Prop} {w0 : World} {H HC : List Res} {d : Tmp}
theorem mx_eqa (ho : nthO ops i = some o) (hg : gd ops.toArray n st o = true) (ne : Bool) {t : TypeId} {x y : Operand} {yt : TypeId} (hop : o.op = .binOp (if ne then .neq else .eql) t x y yt) {ks : List LK} (hf : Flat P t ks) {xs ys : List Value} (hx : ev n st x = .agg xs.toArray) (hy : ev n st y = .agg ys.toArray) (fx : allFit ks xs = true) (fy : allFit ks ys = true)
    (hd : o.dst = some d) (h : MX P ops C anc R l n ((d, .bool (eqs xs ys != ne)) :: st) S w0 H) : MX P ops C anc R (i :: l) n st S w0 H := by
  refine mx_val ho hg (.bool (eqs xs ys != ne)) (fun w => ?_) (by rw [hd]; rfl) h
  have := run_eq_flat hf ne fx fy x y w
  simp only [execOp, hop, hx, hy]
  simp only [Sem.run_bind] at this ⊢
  rw [this]
  rfl
end
end Go.Sx
