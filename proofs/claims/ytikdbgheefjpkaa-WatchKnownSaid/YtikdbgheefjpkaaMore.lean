/- More steps: several cells of a block, arrays' values, slices: taken, made, appended to, copied; calls by what they leave. Plain theorems over any program. -/
import Derived.Test.YtikdbgheefjpkaaEql
import Derived.Test.YtikdbgheefjpkaaTab
import Derived.Maps.AppendAt
import Derived.Laws.OwnMore
import Derived.Laws.MakeOwn
import Derived.Laws.Slices
import Derived.Great.BuildSlice
set_option linter.unusedVariables false
set_option linter.unusedSimpArgs false
namespace Go.Sx
open Go.RowKit
section
variable {P : Program} {ops : List Oper} {C : World → Prop} {anc : Nat → Bool} {R : Act → (World → Prop) → Prop} {n : Nat} {st : Slots} {i : Nat} {l : List Nat} {o : Oper} {S : Nat → Prop} {w0 : World} {H HC : List Res} {d : Tmp}

theorem Ok.at' {w : World} (h : Ok S w0 H w) (j : Nat) {b T : Nat} {vs : List Value} (hj : H[j]? = some (row b T vs)) {off : Nat} {us : List Value} (hv : Vw vs off us) : ∀ c v, us[c]? = some v → w.cell? ((⟨b, off, none⟩ : Addr).add c) = some v := fun c v hc => by
  rw [Addr.add_lit]
  exact h.cell j hj (hv.get hc)
theorem a_getn (E : Env P) (ho : nthO ops i = some o) (hg : gd ops.toArray n st o = true) (ha : anc i = true) {t : TypeId} {x : Operand} (hop : o.op = .load t x) {m : Nat} (ht : at0 E.agg t = some m) {b off : Nat} (hx : ev n st x = .pointer (some ⟨b, off, none⟩)) (j : Nat) {T : TypeId} {vs : List Value} (hj : H[j]? = some (row b T vs)) {us : List Value} (hv : Vr vs off m us)
    (hd : o.dst = some d) (h : MX P ops C anc R l n ((d, (.agg us.toArray)) :: st) S w0 H) : MX P ops C anc R (i :: l) n st S w0 H :=
  a_loadn E ho hg ha hop ht hx us hv.len (fun w hw => hw.at' j hj hv.vw) hd h
theorem f_getn (E : Env P) (ho : nthO ops i = some o) (hg : gd ops.toArray n st o = true) (ha : anc i = false) {t : TypeId} {x : Operand} (hop : o.op = .load t x) {m : Nat} (ht : at0 E.agg t = some m) {b off : Nat} (hx : ev n st x = .pointer (some ⟨b, off, none⟩)) (j : Nat) {T : TypeId} {vs : List Value} (hj : HC[j]? = some (row b T vs)) {us : List Value} (hv : Vr vs off m us)
    (hd : o.dst = some d) (h : MX P ops (Ok S w0 HC) anc R l n ((d, (.agg us.toArray)) :: st) S w0 H) : MX P ops (Ok S w0 HC) anc R (i :: l) n st S w0 H :=
  f_loadn E ho hg ha hop ht hx us hv.len (fun w hw => hw.at' j hj hv.vw) hd h
/-- '&&' and '||'. -/
theorem mx_and (ho : nthO ops i = some o) (hg : gd ops.toArray n st o = true) {c x : Operand} (hop : o.op = .pick c x (.const (.bool false))) {p q : Bool} (hc : ev n st c = .bool p) (hx : ev n st x = .bool q)
    (hd : o.dst = some d) (h : MX P ops C anc R l n ((d, (.bool (p && q))) :: st) S w0 H) : MX P ops C anc R (i :: l) n st S w0 H := by
  refine mx_pick2 ho hg hop hc hx rfl hd ?_
  cases p <;> simpa using h
theorem mx_or (ho : nthO ops i = some o) (hg : gd ops.toArray n st o = true) {c y : Operand} (hop : o.op = .pick c (.const (.bool true)) y) {p q : Bool} (hc : ev n st c = .bool p) (hy : ev n st y = .bool q)
    (hd : o.dst = some d) (h : MX P ops C anc R l n ((d, (.bool (p || q))) :: st) S w0 H) : MX P ops C anc R (i :: l) n st S w0 H := by
  refine mx_pick2 ho hg hop hc rfl hy hd ?_
  cases p <;> simpa using h
theorem mx_andf (ho : nthO ops i = some o) (hg : gd ops.toArray n st o = true) {c x : Operand} (hop : o.op = .pick c x (.const (.bool false))) (hc : ev n st c = .bool false)
    (hd : o.dst = some d) (h : MX P ops C anc R l n ((d, (.bool false)) :: st) S w0 H) : MX P ops C anc R (i :: l) n st S w0 H := mx_pickf _ ho hg hop hc rfl hd h
theorem mx_ort (ho : nthO ops i = some o) (hg : gd ops.toArray n st o = true) {c y : Operand} (hop : o.op = .pick c (.const (.bool true)) y) (hc : ev n st c = .bool true)
    (hd : o.dst = some d) (h : MX P ops C anc R l n ((d, (.bool true)) :: st) S w0 H) : MX P ops C anc R (i :: l) n st S w0 H := mx_pickt _ ho hg hop hc rfl hd h
/-- Facts found by their types. -/
class FlatT (P : Program) (t : TypeId) (ks : outParam (List LK)) : Prop where
  flat : Flat P t ks
class Fits (ks : List LK) (xs : List Value) : Prop where
  fits : allFit ks xs = true
class ZeroT (P : Program) (t : TypeId) (vs : outParam (List Value)) : Prop where
  zero : ((P.info? t).bind (·.zero)).map (·.cells.toList) = some vs
theorem mx_eq (ho : nthO ops i = some o) (hg : gd ops.toArray n st o = true) {t : TypeId} {x y : Operand} {yt : TypeId} (hop : o.op = .binOp .eql t x y yt) {xs ys : List Value} (hx : ev n st x = .agg xs.toArray) (hy : ev n st y = .agg ys.toArray) {ks : List LK} [hf : FlatT P t ks] [fx : Fits ks xs] [fy : Fits ks ys]
    (hd : o.dst = some d) (h : MX P ops C anc R l n ((d, .bool (eqs xs ys)) :: st) S w0 H) : MX P ops C anc R (i :: l) n st S w0 H :=
  mx_eqa ho hg false hop hf.flat hx hy fx.fits fy.fits hd (by simpa using h)
theorem mx_ne (ho : nthO ops i = some o) (hg : gd ops.toArray n st o = true) {t : TypeId} {x y : Operand} {yt : TypeId} (hop : o.op = .binOp .neq t x y yt) {xs ys : List Value} (hx : ev n st x = .agg xs.toArray) (hy : ev n st y = .agg ys.toArray) {ks : List LK} [hf : FlatT P t ks] [fx : Fits ks xs] [fy : Fits ks ys]
    (hd : o.dst = some d) (h : MX P ops C anc R l n ((d, .bool (!eqs xs ys)) :: st) S w0 H) : MX P ops C anc R (i :: l) n st S w0 H :=
  mx_eqa ho hg true hop hf.flat hx hy fx.fits fy.fits hd (by simpa using h)
theorem a_new (ho : nthO ops i = some o) (hg : gd ops.toArray n st o = true) (ha : anc i = true) {t : TypeId} (hop : o.op = .alloc t) {vs : List Value} [hz : ZeroT P t vs] (hd : o.dst = some d)
    (h : ∀ b, MX P ops C anc R l n ((d, .pointer (some ⟨b, 0, none⟩)) :: st) S w0 (row b t vs :: H)) : MX P ops C anc R (i :: l) n st S w0 H := a_alloc ho hg ha hop vs hz.zero hd h
theorem eqs_of {ks : List LK} {xs ys : List Value} [fx : Fits ks xs] [fy : Fits ks ys] : (eqs xs ys = true ↔ xs = ys) := eqs_iff fx.fits fy.fits
theorem Vw.right (xs : List Value) {ys us : List Value} {off : Nat} (h : Vw ys off us) : Vw (xs ++ ys) (xs.length + off) us := ⟨by rw [List.drop_append, List.drop_of_length_le (by omega)]; have e : xs.length + off - xs.length = off := (by omega); rw [e, List.nil_append]; exact h.eq⟩
theorem Vw.left {xs : List Value} (ys : List Value) {us : List Value} {off : Nat} (hl : off + us.length ≤ xs.length) (h : Vw xs off us) : Vw (xs ++ ys) off us := ⟨by
  rw [List.drop_append_of_le_length (by omega), List.take_append_of_le_length (by simp; omega)]
  exact h.eq⟩
theorem Vw.tab {z n i c : Nat} {f : Nat → List Value} (hz : ∀ i, (f i).length = z) (hi : i < n) {us : List Value} (hc : c + us.length ≤ z) (h : Vw (f i) c us) : Vw (tab n f) (i * z + c) us := ⟨by
  apply List.ext_getElem?
  intro j
  by_cases hj : j < us.length
  · rw [List.getElem?_take_of_lt hj, List.getElem?_drop, Nat.add_assoc, tab_get hz (by omega) n hi]
    have := h.eq
    conv => rhs; rw [← this]
    rw [List.getElem?_take_of_lt hj, List.getElem?_drop]
  · rw [List.getElem?_eq_none (by simp; omega), List.getElem?_eq_none (by omega)]⟩
theorem Sp.right (xs : List Value) {ys us vs : List Value} {off : Nat} (h : Sp ys off us vs) : Sp (xs ++ ys) (xs.length + off) us (xs ++ vs) := ⟨by have := h.le; simp; omega, by rw [splice_append, h.eq]⟩
theorem Sp.left {xs : List Value} (ys : List Value) {us vs : List Value} {off : Nat} (h : Sp xs off us vs) : Sp (xs ++ ys) off us (vs ++ ys) := ⟨by have := h.le; simp; omega, by rw [splice_append_left _ _ _ _ h.le, h.eq]⟩
theorem Sp.tab {z n i c : Nat} {f : Nat → List Value} (hz : ∀ i, (f i).length = z) (hi : i < n) {us vs : List Value} (hc : c + us.length ≤ z) (h : Sp (f i) c us vs) : Sp (tab n f) (i * z + c) us (tab n (fset f i vs)) := ⟨by
  rw [tab_length hz]
  calc i * z + c + us.length ≤ i * z + z := by omega
    _ = (i + 1) * z := by rw [Nat.add_mul, Nat.one_mul]
    _ ≤ n * z := Nat.mul_le_mul_right _ hi, by rw [splice_tab hz hc hi, h.eq]⟩
theorem splice_get {vs us : List Value} {off : Nat} (hl : off + us.length ≤ vs.length) (k : Nat) : (splice vs off us)[k]? = if k < off then vs[k]? else if k < off + us.length then us[k - off]? else vs[k]? := by
  unfold splice
  have h1 : (vs.take off ++ us).length = off + us.length := by simp; omega
  by_cases h2 : k < off + us.length
  · rw [List.getElem?_append_left (by omega)]
    by_cases h3 : k < off
    · rw [List.getElem?_append_left (by simp; omega), List.getElem?_take_of_lt h3, if_pos h3]
    · rw [List.getElem?_append_right (by simp; omega), if_neg h3, if_pos h2]
      congr 1
      simp; omega
  · rw [List.getElem?_append_right (by omega), h1, List.getElem?_drop, if_neg (by omega), if_neg h2]
    congr 1
    omega
/-- A store of whole pieces. -/
theorem Sp.tabs {z n i m : Nat} {f g : Nat → List Value} (hf : ∀ i, (f i).length = z) (hg : ∀ i, (g i).length = z) (hi : i + m ≤ n) : Sp (Sx.tab n f) (i * z) (Sx.tab m g) (Sx.tab n fun j => if i ≤ j ∧ j < i + m then g (j - i) else f j) := by
  have hl : i * z + (Sx.tab m g).length ≤ (Sx.tab n f).length := by
    rw [tab_length hf, tab_length hg, ← Nat.add_mul]
    exact Nat.mul_le_mul_right _ hi
  refine ⟨hl, ?_⟩
  apply List.ext_getElem?
  intro k
  have hh : ∀ j, (if i ≤ j ∧ j < i + m then g (j - i) else f j).length = z := fun j => by split <;> simp [hf, hg]
  rw [splice_get hl, tab_length hg]
  by_cases hz : z = 0
  · subst hz
    rw [List.getElem?_eq_none (by rw [tab_length hf]; simp), List.getElem?_eq_none (by rw [tab_length hg]; simp), List.getElem?_eq_none (by rw [tab_length hh]; simp)]
    simp
  by_cases hk : k < n * z
  · have hd : k / z < n := Nat.div_lt_of_lt_mul (by rw [Nat.mul_comm]; exact hk)
    have hm : k % z < z := Nat.mod_lt _ (by omega)
    have e : k = k / z * z + k % z := by rw [Nat.mul_comm]; exact (Nat.div_add_mod k z).symm
    generalize k / z = q at *
    generalize k % z = r at *
    subst e
    rw [tab_get hh hm n hd]
    by_cases h1 : q < i
    · have : q * z + r < i * z := by
        calc q * z + r < q * z + z := by omega
          _ = (q + 1) * z := by rw [Nat.add_mul, Nat.one_mul]
          _ ≤ i * z := Nat.mul_le_mul_right _ h1
      rw [if_pos this, if_neg (by omega), tab_get hf hm n hd]
    · have h2 : i * z ≤ q * z := Nat.mul_le_mul_right _ (by omega)
      rw [if_neg (by omega)]
      by_cases h3 : q < i + m
      · have : q * z + r < i * z + m * z := by
          calc q * z + r < q * z + z := by omega
            _ = (q + 1) * z := by rw [Nat.add_mul, Nat.one_mul]
            _ ≤ (i + m) * z := Nat.mul_le_mul_right _ h3
            _ = i * z + m * z := Nat.add_mul ..
        rw [if_pos this, if_pos ⟨by omega, h3⟩]
        have e2 : q * z + r - i * z = (q - i) * z + r := by rw [Nat.sub_mul]; omega
        rw [e2, tab_get hg hm m (by omega)]
      · have : i * z + m * z ≤ q * z := by rw [← Nat.add_mul]; exact Nat.mul_le_mul_right _ (by omega)
        rw [if_neg (by omega), if_neg (by omega), tab_get hf hm n hd]
  · rw [if_neg (by have := Nat.mul_le_mul_right z hi; rw [Nat.add_mul] at this; omega), if_neg (by have := Nat.mul_le_mul_right z hi; rw [Nat.add_mul] at this; omega), List.getElem?_eq_none (by rw [tab_length hf]; omega), List.getElem?_eq_none (by rw [tab_length hh]; omega)]
theorem tab_fset {α β : Type} (n : Nat) (c : α → List β) (f : Nat → α) (i : Nat) (v : α) : tab n (fset (fun j => c (f j)) i (c v)) = tab n (fun j => c (fset f i v j)) := tab_congr n fun j _ => by
  unfold fset; split <;> rfl
theorem tab_inj {z : Nat} {f g : Nat → List Value} (hf : ∀ i, (f i).length = z) (hg : ∀ i, (g i).length = z) (n : Nat) : tab n f = tab n g ↔ ∀ i, i < n → f i = g i := by
  refine ⟨fun h i hi => ?_, tab_congr n⟩
  apply List.ext_getElem?
  intro c
  by_cases hc : c < z
  · rw [← tab_get hf hc n hi, ← tab_get hg hc n hi, h]
  · rw [List.getElem?_eq_none (by rw [hf]; omega), List.getElem?_eq_none (by rw [hg]; omega)]
theorem allFit_tab {ks : List LK} {f : Nat → List Value} (h : ∀ i, allFit ks (f i) = true) : ∀ n, allFit (tab n fun _ => ks) (tab n f) = true
  | 0 => rfl
  | n + 1 => by rw [tab_succ, tab_succ]; exact allFit_append (allFit_tab h n) (h n)
instance Fits.tab (n : Nat) (ks : List LK) (f : Nat → List Value) [h : ∀ i, Fits ks (f i)] : Fits (tab n fun _ => ks) (tab n f) := ⟨allFit_tab (fun i => (h i).fits) n⟩
/-- Cells that fit, told piece by piece. -/
theorem tab_of {α : Type} [Inhabited α] {ks : List LK} {c : α → List Value} (hk : ∀ vs, allFit ks vs = true → ∃ x, vs = c x) : ∀ (n : Nat) (vs : List Value), allFit (tab n fun _ => ks) vs = true → ∃ f : Nat → α, vs = tab n fun i => c (f i)
  | 0, vs, h => by
    have := allFit_len h
    simp [tab] at this
    exact ⟨fun _ => default, by simp [tab, this]⟩
  | n + 1, vs, h => by
    rw [tab_succ] at h
    obtain ⟨h1, h2⟩ := allFit_take_drop _ _ _ h
    obtain ⟨f, hf⟩ := tab_of hk n _ h1
    obtain ⟨x, hx⟩ := hk _ h2
    refine ⟨fset f n x, ?_⟩
    rw [tab_succ, fset_same, ← List.take_append_drop (tab n fun _ => ks).length vs, hf, hx]
    congr 1
    exact tab_congr n fun i hi => by rw [fset_ne _ _ (by omega)]
theorem oneCells_tab {f : Nat → List Value} (h : ∀ i, (f i).all (·.oneCell') = true) : ∀ n, (tab n f).all (·.oneCell') = true
  | 0 => rfl
  | n + 1 => by rw [tab_succ, List.all_append, oneCells_tab h n, h n]; rfl
instance Fits.nil : Fits [] [] := ⟨rfl⟩
instance Fits.int (k : IntKind) (a : Int) (ks : List LK) (xs : List Value) [h : Fits ks xs] : Fits (.int k :: ks) (.int k a :: xs) := ⟨by simp [allFit, LK.fits, h.fits]⟩
instance Fits.bool (a : Bool) (ks : List LK) (xs : List Value) [h : Fits ks xs] : Fits (.bool :: ks) (.bool a :: xs) := ⟨by simp [allFit, LK.fits, h.fits]⟩
theorem mx_beq (E : Env P) (ho : nthO ops i = some o) (hg : gd ops.toArray n st o = true) {t : TypeId} {x y : Operand} {yt : TypeId} (hop : o.op = .binOp .eql t x y yt) (ht : has1 E.bools t = true) {a b : Bool} (hx : ev n st x = .bool a) (hy : ev n st y = .bool b)
    (hd : o.dst = some d) (h : MX P ops C anc R l n ((d, (.bool (a == b))) :: st) S w0 H) : MX P ops C anc R (i :: l) n st S w0 H :=
  mx_eqb E ho hg (ne := false) hop (has1_mem ht) hx hy rfl hd (by simpa using h)
theorem mx_bne (E : Env P) (ho : nthO ops i = some o) (hg : gd ops.toArray n st o = true) {t : TypeId} {x y : Operand} {yt : TypeId} (hop : o.op = .binOp .neq t x y yt) (ht : has1 E.bools t = true) {a b : Bool} (hx : ev n st x = .bool a) (hy : ev n st y = .bool b)
    (hd : o.dst = some d) (h : MX P ops C anc R l n ((d, (.bool (a != b))) :: st) S w0 H) : MX P ops C anc R (i :: l) n st S w0 H :=
  mx_eqb E ho hg (ne := true) hop (has1_mem ht) hx hy (by cases a <;> cases b <;> rfl) hd h
/-- An element of an array's value. -/
theorem mx_index (E : Env P) (ho : nthO ops i = some o) (hg : gd ops.toArray n st o = true) {t : TypeId} {x y : Operand} (hop : o.op = .index t x y) {vs : List Value} (hx : ev n st x = .agg vs.toArray) {k : IntKind} {a : Int} (hy : ev n st y = .int k a) {e m z : Nat} (hae : at0 E.ae t = some e) (ht : at1 E.ar t = some (m, z)) (he : at0 E.agg e = some z) (h0 : 0 ≤ a) (h1 : a < m)
    {us : List Value} (hv : Vr vs (a.toNat * z) z us) (hd : o.dst = some d) (h : MX P ops C anc R l n ((d, .agg us.toArray) :: st) S w0 H) : MX P ops C anc R (i :: l) n st S w0 H := by
  refine mx_val ho hg _ (fun w => ?_) (by rw [hd]; rfl) h
  obtain ⟨e', hu, ii, hi, hz⟩ := E.ar_spec ht
  obtain rfl : e' = e := by
    have := List.all_eq_true.1 E.hae _ (at0_mem hae)
    simp only [aeOk, hu] at this
    simpa using this
  have hagg : ∀ w, (isAgg e').run P w = .ok true w := fun w => by
    have := List.all_eq_true.1 E.hagg _ (at0_mem he)
    simp only [aggOk, Bool.and_eq_true] at this
    obtain ⟨h1, _⟩ := this
    unfold isAgg
    cases hu : P.underlying e' with
    | none => simp [hu] at h1
    | some d =>
      rw [Sem.run_bind, run_underlying hu w]
      cases d <;> simp_all
  have hv' : List.take z (List.drop (a.toNat * z) vs) = us := by have := hv.vw.eq; rwa [hv.len] at this
  have hex : vs.toArray.extract (a.toNat * z) (a.toNat * z + z) = us.toArray := by
    simp [List.extract_toArray, List.extract_eq_take_drop, hv']
  simp [execOp, hop, hx, hy, Instr.index, asIntOf, run_underlying hu, h0, h1, part, hagg w, sizeOf, typeInfo, hi, hz, hv']
theorem mx_indexn (E : Env P) (ho : nthO ops i = some o) (hg : gd ops.toArray n st o = true) {t : TypeId} {x y : Operand} (hop : o.op = .index t x y) {vs : List Value} (hx : ev n st x = .agg vs.toArray) {k : IntKind} {a : Nat} (hy : ev n st y = .int k (a : Int)) {e m z : Nat} (hae : at0 E.ae t = some e) (ht : at1 E.ar t = some (m, z)) (he : at0 E.agg e = some z) (h1 : a < m)
    {us : List Value} (hv : Vr vs (a * z) z us) (hd : o.dst = some d) (h : MX P ops C anc R l n ((d, .agg us.toArray) :: st) S w0 H) : MX P ops C anc R (i :: l) n st S w0 H :=
  mx_index E ho hg hop hx hy hae ht he (by omega) (by omega) hv hd h
theorem mx_ixan (E : Env P) (ho : nthO ops i = some o) (hg : gd ops.toArray n st o = true) {t : TypeId} {x y : Operand} (hop : o.op = .indexAddr t x y) {b off : Nat} {k : IntKind} {a : Nat} {m z : Nat} (hx : ev n st x = .pointer (some ⟨b, off, none⟩)) (hy : ev n st y = .int k (a : Int)) (ht : at1 E.ar t = some (m, z)) (h1 : a < m)
    (hd : o.dst = some d) (h : MX P ops C anc R l n ((d, (.pointer (some ⟨b, off + a * z, none⟩))) :: st) S w0 H) : MX P ops C anc R (i :: l) n st S w0 H :=
  mx_ixa E ho hg hop hx hy ht (by omega) (by omega) rfl hd h
/-- A place in a slice. -/
theorem mx_ixsn (E : Env P) (ho : nthO ops i = some o) (hg : gd ops.toArray n st o = true) {t : TypeId} {x y : Operand} (hop : o.op = .indexAddr t x y) {b off : Nat} {len cap : Nat} {k : IntKind} {a : Nat} {e z : Nat} (hx : ev n st x = .slice (some ⟨b, off, none⟩) len cap) (hy : ev n st y = .int k (a : Int)) (ht : at1 E.sl t = some (e, z)) (h1 : a < len)
    (hd : o.dst = some d) (h : MX P ops C anc R l n ((d, (.pointer (some ⟨b, off + a * z, none⟩))) :: st) S w0 H) : MX P ops C anc R (i :: l) n st S w0 H :=
  mx_ixs E ho hg hop hx hy ht (by omega) (by omega) (Addr.add_lit _ _ _) hd h
theorem mx_ixsi (E : Env P) (ho : nthO ops i = some o) (hg : gd ops.toArray n st o = true) {t : TypeId} {x y : Operand} (hop : o.op = .indexAddr t x y) {b off : Nat} {len cap : Nat} {k : IntKind} {a : Int} {e z : Nat} (hx : ev n st x = .slice (some ⟨b, off, none⟩) len cap) (hy : ev n st y = .int k a) (ht : at1 E.sl t = some (e, z)) (h0 : 0 ≤ a) (h1 : a < len)
    (hd : o.dst = some d) (h : MX P ops C anc R l n ((d, (.pointer (some ⟨b, off + a.toNat * z, none⟩))) :: st) S w0 H) : MX P ops C anc R (i :: l) n st S w0 H :=
  mx_ixs E ho hg hop hx hy ht h0 h1 (by rw [Addr.add_lit]) hd h
/-- A result that stands in memory. -/
theorem pw_retc (E : Env P) {fn : Func} {e : Exit} {R : Ending → World → Prop} (hn : (match e with | .normal | .ret => true | _ => false) = true) {p ty : Nat} (hr : fn.results = #[.cell p ty]) {b : Nat} (hp : ev n st (.tmp p) = .pointer (some ⟨b, 0, none⟩)) {m : Nat} (ht : at0 E.agg ty = some m) {j T : Nat} {vs : List Value} (hj : H[j]? = some (row b T vs)) (hl : vs.length = m)
    (h : ∀ w, Ok S w0 H w → R (.returned (.agg vs.toArray)) w) : PW (bodyPost P fn R) e n st S w0 H := by
  refine pw_rets (st := st) hn [.agg vs.toArray] ?_ rfl h
  rw [hr]
  refine ⟨⟨⟨b, 0, none⟩, hp, fun w hw => ?_⟩, trivial⟩
  have h1 := E.agg_load ht ⟨b, 0, none⟩ vs hl (hw.at' j hj (Vw.all vs))
  simpa [Instr.loadAt, Instr.sureAddr] using h1
def upTo {α : Type} (i : Nat) (g : α → α) (f : Nat → α) : Nat → α := fun j => if j < i then g (f j) else f j
theorem upTo_zero {α : Type} (g : α → α) (f : Nat → α) : upTo 0 g f = f := by funext j; simp [upTo]
theorem upTo_at {α : Type} (i : Nat) (g : α → α) (f : Nat → α) : upTo i g f i = f i := by simp [upTo]
theorem upTo_succ {α : Type} (i : Nat) (g : α → α) (f : Nat → α) : upTo (i + 1) g f = fset (upTo i g f) i (g (f i)) := by
  funext j
  unfold upTo fset
  by_cases h : j = i
  · subst h; simp
  · have : j < i + 1 ↔ j < i := by omega
    simp [h, this]
theorem upTo_stay {α : Type} (i : Nat) (g : α → α) (f : Nat → α) (h : g (f i) = f i) : upTo (i + 1) g f = upTo i g f := by
  rw [upTo_succ, h]
  funext j
  unfold upTo fset
  split
  · rename_i e; subst e; simp
  · rfl
/-! ### Slices -/
theorem mx_slice_arr (E : Env P) (ho : nthO ops i = some o) (hg : gd ops.toArray n st o = true) {t : TypeId} {x : Operand} {lo hi : Operand} (hop : o.op = .slice t x (some lo) (some hi) none) {b off : Nat} (hx : ev n st x = .pointer (some ⟨b, off, none⟩)) {kl kh : IntKind} {p q : Int} (hlo : ev n st lo = .int kl p) (hhi : ev n st hi = .int kh q) {m z : Nat} (ht : at1 E.ar t = some (m, z)) (h0 : 0 ≤ p) (h1 : p ≤ q) (h2 : q ≤ m) (h3 : p < m)
    (hd : o.dst = some d) (h : MX P ops C anc R l n ((d, .slice (some ⟨b, off + p.toNat * z, none⟩) (q.toNat - p.toNat) (m - p.toNat)) :: st) S w0 H) : MX P ops C anc R (i :: l) n st S w0 H := by
  refine mx_val ho hg _ (fun w => ?_) (by rw [hd]; rfl) h
  obtain ⟨e, hu, ii, hi, hz⟩ := E.ar_spec ht
  have e1 : (q.toNat : Int) = q := Int.toNat_of_nonneg (by omega)
  have e2 : ¬ m = p.toNat := by omega
  simp [execOp, hop, hx, hlo, hhi, Instr.sliceAt, run_underlying hu, Instr.sureAddr, Instr.sliceBounds, run_sliceBound, sizeOf, typeInfo, hi, hz, h0, h1, h2, e1, e2, (by omega : 0 ≤ q), Addr.add_lit]
theorem mx_slice_to (E : Env P) (ho : nthO ops i = some o) (hg : gd ops.toArray n st o = true) {t : TypeId} {x : Operand} {hi : Operand} (hop : o.op = .slice t x none (some hi) none) {ad : Option Addr} {len cap : Nat} (hx : ev n st x = .slice ad len cap) {kh : IntKind} {q : Int} (hhi : ev n st hi = .int kh q) {p : Nat × Nat} (ht : at1 E.sl t = some p) (h0 : 0 ≤ q) (h1 : q ≤ cap)
    (hd : o.dst = some d) (h : MX P ops C anc R l n ((d, .slice ad q.toNat cap) :: st) S w0 H) : MX P ops C anc R (i :: l) n st S w0 H := by
  refine mx_val ho hg _ (fun w => ?_) (by rw [hd]; rfl) h
  obtain ⟨hu, ii, hi, hz⟩ := E.sl_spec (e := p.1) (z := p.2) ht
  have e1 : (ad.map fun x => x.add (0 * p.2)) = ad := by cases ad <;> simp [Addr.add]
  simp only [execOp, hop, hx, Option.map_none, Option.map_some, hhi, Instr.sliceAt, Instr.slice, run_underlying hu, Instr.sliceBounds, Sem.run_bind, Result.andThen_ok, run_sliceBound, h0, h1, Sem.run_pure, sizeOf, typeInfo, run_program, hi, hz, and_self, if_true]
  by_cases hc : cap = 0
  · subst hc
    simp
  · rw [if_neg hc, e1]
    simp
theorem mx_slice_lh (E : Env P) (ho : nthO ops i = some o) (hg : gd ops.toArray n st o = true) {t : TypeId} {x : Operand} {lo hi : Operand} (hop : o.op = .slice t x (some lo) (some hi) none) {b off len cap : Nat} (hx : ev n st x = .slice (some ⟨b, off, none⟩) len cap) {kl kh : IntKind} {p q : Int} (hlo : ev n st lo = .int kl p) (hhi : ev n st hi = .int kh q) {e z : Nat} (ht : at1 E.sl t = some (e, z)) (h0 : 0 ≤ p) (h1 : p ≤ q) (h2 : q ≤ cap) (h3 : p < cap)
    (hd : o.dst = some d) (h : MX P ops C anc R l n ((d, .slice (some ⟨b, off + p.toNat * z, none⟩) (q.toNat - p.toNat) (cap - p.toNat)) :: st) S w0 H) : MX P ops C anc R (i :: l) n st S w0 H := by
  refine mx_val ho hg _ (fun w => ?_) (by rw [hd]; rfl) h
  obtain ⟨hu, ii, hi, hz⟩ := E.sl_spec ht
  have e1 : (q.toNat : Int) = q := Int.toNat_of_nonneg (by omega)
  have e2 : ¬ cap = p.toNat := by omega
  simp [execOp, hop, hx, hlo, hhi, Instr.sliceAt, Instr.slice, run_underlying hu, Instr.sliceBounds, run_sliceBound, sizeOf, typeInfo, hi, hz, h0, h1, h2, e1, e2, (by omega : 0 ≤ q), Addr.add_lit]
theorem mx_slice_from (E : Env P) (ho : nthO ops i = some o) (hg : gd ops.toArray n st o = true) {t : TypeId} {x : Operand} {lo : Operand} (hop : o.op = .slice t x (some lo) none none) {b off len cap : Nat} (hx : ev n st x = .slice (some ⟨b, off, none⟩) len cap) {kl : IntKind} {p : Int} (hlo : ev n st lo = .int kl p) {e z : Nat} (ht : at1 E.sl t = some (e, z)) (h0 : 0 ≤ p) (h1 : p ≤ len) (h3 : p < cap)
    (hd : o.dst = some d) (h : MX P ops C anc R l n ((d, .slice (some ⟨b, off + p.toNat * z, none⟩) (len - p.toNat) (cap - p.toNat)) :: st) S w0 H) : MX P ops C anc R (i :: l) n st S w0 H := by
  refine mx_val ho hg _ (fun w => ?_) (by rw [hd]; rfl) h
  obtain ⟨hu, ii, hi, hz⟩ := E.sl_spec ht
  have e2 : ¬ cap = p.toNat := by omega
  simp [execOp, hop, hx, hlo, Instr.sliceAt, Instr.slice, run_underlying hu, Instr.sliceBounds, run_sliceBound, sizeOf, typeInfo, hi, hz, h0, h1, e2, Addr.add_lit]
/-- What is built of elements, in a block of its own. -/
theorem a_bslice (E : Env P) (ho : nthO ops i = some o) (hg : gd ops.toArray n st o = true) (ha : anc i = true) {t : TypeId} {m : Nat} {parts : Array (Nat × Operand)} (hop : o.op = .buildSlice t m parts) (vs : List Value) (hp : parts.toList.map (fun (i, x) => (i, ev n st x)) = (vs.zipIdx 0).map fun x => (x.2, x.1)) {us : List Value} (hu : (vs.flatMap fun v => v.cells.toList) = us) {e z : Nat} (ht : at1 E.sl t = some (e, z)) (hz : ∀ v ∈ vs, v.cells.size = z) (hm : vs.length = m) (h0 : Nat.blt 0 (m * z) = true) (h1 : Nat.ble (m * z) 16777216 = true)
    (hd : o.dst = some d) (h : ∀ b, MX P ops C anc R l n ((d, .slice (some ⟨b, 0, none⟩) m m) :: st) S w0 (row b e us :: H)) : MX P ops C anc R (i :: l) n st S w0 H := by
  subst hu; subst hm
  refine a_any ho hg ha fun hC w hw => ?_
  obtain ⟨hu, ii, z0, hi, hiz, hz0, hzz, _⟩ := E.sl_zero ht
  have h0' : 0 < vs.length * z := by simpa [Nat.blt_eq] using h0
  have h1' := Nat.le_of_ble_eq_true h1
  have hz' : 0 < z := Nat.pos_of_mul_pos_left h0'
  have hf := Great.fill_whole hz' vs ((Array.range (vs.length * z)).map (z0.cells[· % z0.cells.size]!)) hz (by simp)
  have hr : (execOp (ev n st) o).run P w = .ok (.value (.slice (some ⟨w.heap.size, 0, none⟩) vs.length vs.length)) (w.alloc (.cells (vs.flatMap fun v => v.cells.toList).toArray e)) := by
    have hb := run_buildSlice (P := P) w t e vs.length (parts.map fun (i, x) => (i, ev n st x)) _ ii z0 hu hi hz0 (by rw [hiz]; omega) (by rw [hiz]; omega) (by rw [hiz, Array.toList_map, hp]; exact hf)
    simp only [execOp, hop, Sem.run_bind, hb, Result.andThen_ok, Sem.run_pure]
  unfold runs
  rw [hr]
  refine ⟨_, fun w h => hC w h.tail, ?_, by rw [hd]; exact h w.heap.size⟩
  exact hw.alloc (vs.flatMap fun v => v.cells.toList).toArray e
theorem a_bslice1 (E : Env P) (ho : nthO ops i = some o) (hg : gd ops.toArray n st o = true) (ha : anc i = true) {t : TypeId} {x : Operand} (hop : o.op = .buildSlice t 1 #[(0, x)]) {us : List Value} (hx : (ev n st x).cells.toList = us) {e z : Nat} (ht : at1 E.sl t = some (e, z)) (hz : us.length = z) (h0 : Nat.blt 0 (1 * z) = true) (h1 : Nat.ble (1 * z) 16777216 = true)
    (hd : o.dst = some d) (h : ∀ b, MX P ops C anc R l n ((d, .slice (some ⟨b, 0, none⟩) 1 1) :: st) S w0 (row b e us :: H)) : MX P ops C anc R (i :: l) n st S w0 H :=
  a_bslice E ho hg ha hop [ev n st x] rfl (by simpa using hx) ht (by intro v hv; have e : v = ev n st x := (by simpa using hv); rw [e, ← hz, ← hx]; simp) rfl h0 h1 hd h
/-- A slice with room behind it, whose block is the walk's own. -/
def ownd (ad : Option Addr) (cap : Nat) (e z len : Nat) (xs : List Value) : Res where
  dom := fun k => (Value.slice ad len cap).ownBlock = some k
  holds := fun w => w.ownsRow 0 e z (.slice ad len cap) len xs
  loc := fun w w' h hh => by
    refine ⟨hh.1, ?_⟩
    rcases hh.2 with hn | ⟨g, c, cur, hv, hb, hg, rest⟩
    · exact .inl hn
    · refine .inr ⟨g, c, cur, hv, hb, ?_, rest⟩
      rw [← hg]
      exact h g (by rw [hv]; rfl)
theorem Ok.own_nil {w : World} (h : Ok S w0 H w) (e z : Nat) : Ok S w0 (ownd none 0 e z 0 [] :: H) w :=
  h.push (D := fun _ => False) (Chg.rfl' _ _) (fun _ _ h => h) _ (World.ownsRow_nil w 0 e z) fun b hb => by simp [ownd, Value.ownBlock] at hb
/-- Where it lies. -/
theorem own_at {w : World} {ad : Option Addr} {cap e z len : Nat} {xs : List Value} (h : (ownd ad cap e z len xs).holds w) : xs.length = len * z ∧ (0 < len → ∃ b, ad = some ⟨b, 0, none⟩ ∧ ∀ j v, xs[j]? = some v → w.cell? ⟨b, j, none⟩ = some v) ∧ len ≤ cap := by
  refine ⟨h.1, fun hl => ?_, ?_⟩
  · rcases h.2 with ⟨hv, hn⟩ | ⟨g, c, cur, hv, hb, hg, h1, h2, h3, h4⟩
    · omega
    · refine ⟨g, by simpa using (Value.slice.inj hv).1, fun j v hj => ?_⟩
      have hjl : j < len * z := by rw [← h.1]; exact (List.getElem?_eq_some_iff.1 hj).1
      rw [← h4, List.getElem?_take_of_lt hjl] at hj
      simp [World.cell?, hg]
      simpa using hj
  · rcases h.2 with ⟨hv, hn⟩ | ⟨g, c, cur, hv, hb, hg, h1, h2, h3, h4⟩
    · omega
    · have := (Value.slice.inj hv).2.2
      omega
theorem a_append (E : Env P) (ho : nthO ops i = some o) (hg : gd ops.toArray n st o = true) (ha : anc i = true) {s x : Operand} {t : TypeId} (hop : o.op = .call { callee := .builtin .append, args := #[s, x], argTypes := #[t, t] }) {e z : Nat} (ht : at1 E.sl t = some (e, z)) (hz : Nat.blt 0 z = true)
    {ad : Option Addr} {len cap : Nat} {b off m c : Nat} (hs : ev n st s = .slice ad len cap) (hx : ev n st x = .slice (some ⟨b, off, none⟩) m c) {xs : List Value} (news : List Value) (hl : news.length = m * z) (hn : ∀ w, Ok S w0 H w → ∀ j u, news[j]? = some u → w.cell? ((⟨b, off, none⟩ : Addr).add j) = some u) (h1 : news.all (·.oneCell') = true) (hbig : len + m ≤ 2147483648)
    (HH : Res → List Res) (hj : ∀ r', Upd H (ownd ad cap e z len xs) r' (HH r')) (hd : o.dst = some d) (hC : ∀ ad' cap', ∀ w, Ok S w0 (HH (ownd ad' cap' e z (len + m) (xs ++ news))) w → C w) (h : ∀ ad' cap', MX P ops C anc R l n ((d, .slice ad' (len + m) cap') :: st) S w0 (HH (ownd ad' cap' e z (len + m) (xs ++ news)))) : MX P ops C anc R (i :: l) n st S w0 H := by
  refine a_any ho hg ha fun hC' w hw => ?_
  obtain ⟨hu, ii, z0, hi, hiz, hz0, hzz, hby⟩ := E.sl_zero ht
  have hj0 : (ownd ad cap e z len xs).holds w := by obtain ⟨j, h1, _⟩ := hj (ownd ad cap e z len xs); exact hw.holds j _ h1
  obtain ⟨v', w', hr, h2, h3, h4, h5⟩ := run_append_own_at (P := P) w 0 t o.type e ii z0 z ii.bytes hu hi hz0 hiz rfl hzz (by simpa [Nat.blt_eq] using hz) _ len xs hj0 ⟨b, off, none⟩ m c news hl (hn w hw) (fun v hv => List.all_eq_true.1 h1 v hv) (by simp only [maxLen]; omega)
    (by calc (len + m) * ii.bytes ≤ 2147483648 * 65536 := Nat.mul_le_mul hbig hby
          _ ≤ _ := by decide) (Nat.zero_le _)
  obtain ⟨ad', cap', rfl⟩ : ∃ ad' cap', v' = .slice ad' (len + m) cap' := by
    rcases h2.2 with ⟨hv, hn⟩ | ⟨g, c, cur, hv, _⟩
    · exact ⟨none, 0, by rw [hv, hn]⟩
    · exact ⟨_, _, hv⟩
  have hr' : (execOp (ev n st) o).run P w = .ok (.value (.slice ad' (len + m) cap')) w' := by
    simp only [execOp, hop, resolve, invoke, builtin, Sem.run_bind, Sem.run_pure, Result.andThen_ok, List.map_toArray, List.map_cons, List.map_nil, hs, hx, hr]
  unfold runs
  rw [hr']
  refine ⟨_, hC ad' cap', ?_, by rw [hd]; exact h ad' cap'⟩
  obtain ⟨j, hj, hjs⟩ := hj (ownd ad' cap' e z (len + m) (xs ++ news))
  rw [← hjs]
  refine hw.upd j hj (D := fun k => (Value.slice ad len cap).ownBlock = some k) ⟨h3.os, h3.tape, h3.output, h3.size, fun k hk hD => h3.block k hk fun e => hD e.symm⟩ (fun k _ hk => hk) _ h2 fun k hk => ?_
  have hk' : (Value.slice ad' (len + m) cap').ownBlock = some k := hk
  rcases h5 with h5 | h5
  · rw [h5] at hk'
    exact ⟨Nat.lt_of_lt_of_le (hw.own j _ hj k hk').1 h3.size, fun _ => hk'⟩
  · rw [h5] at hk'
    obtain rfl : w.heap.size = k := by simpa using hk'
    refine ⟨?_, fun h => absurd h (Nat.lt_irrefl _)⟩
    rcases h2.2 with ⟨hv, _⟩ | ⟨g, c, cur, hv, hb, hg, _⟩
    · rw [hv] at h5; simp [Value.ownBlock] at h5
    · rw [hv] at h5
      simp [Value.ownBlock] at h5
      rw [← h5]
      exact (Array.getElem?_eq_some_iff.1 hg).1
/-- A list that was handed in: elements of z cells each. -/
def InL {α : Type} (w : World) (ad : Option Addr) (z : Nat) (c : α → List Value) (l : List α) : Prop :=
  l ≠ [] → ∃ b off, ad = some ⟨b, off, none⟩ ∧ ∀ (i : Nat) (x : α), l[i]? = some x → ∀ (k : Nat) (v : Value), (c x)[k]? = some v → w.cell? ⟨b, off + i * z + k, none⟩ = some v
theorem a_old1 (E : Env P) (ho : nthO ops i = some o) (hg : gd ops.toArray n st o = true) (ha : anc i = true) {t : TypeId} {x : Operand} (hop : o.op = .load t x) (ht : has1 E.one t = true) {b off : Nat} (hx : ev n st x = .pointer (some ⟨b, off, none⟩)) {v : Value} (hc : w0.cell? ⟨b, off, none⟩ = some v) (hS : ¬ S b)
    (hd : o.dst = some d) (h : MX P ops C anc R l n ((d, v) :: st) S w0 H) : MX P ops C anc R (i :: l) n st S w0 H :=
  a_load1 E ho hg ha hop ht hx (fun w hw => hw.old hc hS) hd h
theorem f_old1 (E : Env P) (ho : nthO ops i = some o) (hg : gd ops.toArray n st o = true) (ha : anc i = false) {t : TypeId} {x : Operand} (hop : o.op = .load t x) (ht : has1 E.one t = true) {b off : Nat} (hx : ev n st x = .pointer (some ⟨b, off, none⟩)) {v : Value} (hc : w0.cell? ⟨b, off, none⟩ = some v) (hS : ¬ S b)
    (hd : o.dst = some d) (h : MX P ops (Ok S w0 HC) anc R l n ((d, v) :: st) S w0 H) : MX P ops (Ok S w0 HC) anc R (i :: l) n st S w0 H :=
  f_load1 E ho hg ha hop ht hx (fun w hw => hw.old hc hS) hd h
theorem a_oldn (E : Env P) (ho : nthO ops i = some o) (hg : gd ops.toArray n st o = true) (ha : anc i = true) {t : TypeId} {x : Operand} (hop : o.op = .load t x) {m : Nat} (ht : at0 E.agg t = some m) {b off : Nat} (hx : ev n st x = .pointer (some ⟨b, off, none⟩)) {us : List Value} (hc : ∀ (k : Nat) (v : Value), us[k]? = some v → w0.cell? ⟨b, off + k, none⟩ = some v) (hS : ¬ S b) (hl : us.length = m)
    (hd : o.dst = some d) (h : MX P ops C anc R l n ((d, .agg us.toArray) :: st) S w0 H) : MX P ops C anc R (i :: l) n st S w0 H :=
  a_loadn E ho hg ha hop ht hx us hl (fun w hw k v hk => by rw [Addr.add_lit]; exact hw.old (hc k v hk) hS) hd h
theorem f_oldn (E : Env P) (ho : nthO ops i = some o) (hg : gd ops.toArray n st o = true) (ha : anc i = false) {t : TypeId} {x : Operand} (hop : o.op = .load t x) {m : Nat} (ht : at0 E.agg t = some m) {b off : Nat} (hx : ev n st x = .pointer (some ⟨b, off, none⟩)) {us : List Value} (hc : ∀ (k : Nat) (v : Value), us[k]? = some v → w0.cell? ⟨b, off + k, none⟩ = some v) (hS : ¬ S b) (hl : us.length = m)
    (hd : o.dst = some d) (h : MX P ops (Ok S w0 HC) anc R l n ((d, .agg us.toArray) :: st) S w0 H) : MX P ops (Ok S w0 HC) anc R (i :: l) n st S w0 H :=
  f_loadn E ho hg ha hop ht hx us hl (fun w hw k v hk => by rw [Addr.add_lit]; exact hw.old (hc k v hk) hS) hd h
theorem made_tab (z : Array Value) (c : Nat) : (madeCells z (c * z.size)).toList = tab c fun _ => z.toList := by
  by_cases hz : z.size = 0
  · have : z = #[] := Array.eq_empty_of_size_eq_zero hz
    subst this
    have e : ∀ c, tab c (fun _ => ([] : List Value)) = [] := fun c => by induction c with
      | zero => rfl
      | succ c ih => rw [tab_succ, ih]; rfl
    simp [madeCells, e]
  apply List.ext_getElem?
  intro k
  have hl : (tab c fun _ => z.toList).length = c * z.size := tab_length (fun _ => by simp) c
  by_cases hk : k < c * z.size
  · have hd : k / z.size < c := Nat.div_lt_of_lt_mul (by rw [Nat.mul_comm]; exact hk)
    have hm : k % z.size < z.size := Nat.mod_lt _ (by omega)
    have e : k = k / z.size * z.size + k % z.size := by rw [Nat.mul_comm]; exact (Nat.div_add_mod k z.size).symm
    have h1 := tab_get (f := fun _ => z.toList) (z := z.size) (fun _ => by simp) hm c hd
    rw [← e] at h1
    rw [h1]
    simp [madeCells, hk, hm]
  · rw [List.getElem?_eq_none (by simp [madeCells]; omega), List.getElem?_eq_none (by omega)]
theorem a_make (E : Env P) (ho : nthO ops i = some o) (hg : gd ops.toArray n st o = true) (ha : anc i = true) {t : TypeId} {x y : Operand} (hop : o.op = .makeSlice t x y) {kl kc : IntKind} {p c : Nat} (hx : ev n st x = .int kl (p : Int)) (hy : ev n st y = .int kc (c : Int)) {e z : Nat} (ht : at1 E.sl t = some (e, z)) {vs : List Value} [hz : ZeroT P e vs] (hpc : p ≤ c) (hc : c ≤ 2147483648)
    (hd : o.dst = some d) (h : ∀ b, MX P ops C anc R l n ((d, .slice (some ⟨b, 0, none⟩) p c) :: st) S w0 (row b e (tab c fun _ => vs) :: H)) : MX P ops C anc R (i :: l) n st S w0 H := by
  refine a_any ho hg ha fun hC w hw => ?_
  obtain ⟨hu, ii, z0, hi, hiz, hz0, hzz, hby⟩ := E.sl_zero ht
  have hv : z0.cells.toList = vs := by have := hz.zero; simpa [hi, hz0] using this
  have hb : (ii.bytes : Int) * (c : Int) ≤ 281474976710656 := by
    have : ii.bytes * c ≤ 65536 * 2147483648 := Nat.mul_le_mul hby hc
    have h2 : ((ii.bytes * c : Nat) : Int) ≤ 281474976710656 := by omega
    rwa [Int.natCast_mul] at h2
  have hr := run_make (P := P) w t e ii z0 hu hi hz0 kl kc p c (by omega) (by omega) hb (by omega)
  simp only [Int.toNat_natCast] at hr
  have hr' : (execOp (ev n st) o).run P w = .ok (.value (.slice (some ⟨w.heap.size, 0, none⟩) p c)) (w.alloc (.cells (madeCells z0.cells (c * ii.size)) e)) := by
    simp only [execOp, hop, hx, hy, Sem.run_bind, hr, Result.andThen_ok, Sem.run_pure]
  unfold runs
  rw [hr']
  refine ⟨_, fun w h => hC w h.tail, ?_, by rw [hd]; exact h w.heap.size⟩
  have h2 := hw.alloc (madeCells z0.cells (c * ii.size)) e
  have e1 : ii.size = z0.cells.size := by omega
  rw [e1, made_tab, hv] at h2
  rw [e1]
  exact h2
theorem a_copy (E : Env P) (ho : nthO ops i = some o) (hg : gd ops.toArray n st o = true) (ha : anc i = true) {t t' : TypeId} {x y : Operand} (hop : o.op = .call { callee := .builtin .copy, args := #[x, y], argTypes := #[t, t'] }) {b off dl dc b' off' sl sc : Nat} (hx : ev n st x = .slice (some ⟨b, off, none⟩) dl dc) (hy : ev n st y = .slice (some ⟨b', off', none⟩) sl sc) {e z : Nat} (ht : at1 E.sl t = some (e, z))
    {us : List Value} (hl : us.length = Nat.min sl dl * z) (hsrc : ∀ w, Ok S w0 H w → ∀ j v, us[j]? = some v → w.cell? ((⟨b', off', none⟩ : Addr).add j) = some v) (h1 : us.all (·.oneCell') = true) {T : TypeId} {vs vs' : List Value} {H' : List Res} (hj : Upd H (row b T vs) (row b T vs') H') (hvs : Sp vs off us vs')
    (hC : ∀ w, Ok S w0 H' w → C w) {st' : Slots} (hs : up o.dst (.int .i64 (Nat.min sl dl : Nat)) st = st') (h : MX P ops C anc R l n st' S w0 H') : MX P ops C anc R (i :: l) n st S w0 H := by
  subst hs
  obtain ⟨j, hj, rfl⟩ := hj
  obtain ⟨hle, rfl⟩ := hvs
  refine a_any ho hg ha fun _ w hw => ?_
  obtain ⟨w', hr, hok⟩ := hw.store j hj hle P (fun v hv => by simpa using List.all_eq_true.1 h1 v hv)
  obtain ⟨hu, ii, hi, hz⟩ := E.sl_spec ht
  have hld := run_loadCells_list (P := P) w ⟨b', off', none⟩ us (hsrc w hw)
  have hr' : (execOp (ev n st) o).run P w = .ok (.value (.int .i64 (Nat.min sl dl : Nat))) w' := by
    rw [hl] at hld
    simp [execOp, hop, resolve, invoke, builtin, hx, hy, Builtin.copy_, run_underlying hu, Builtin.lenOf, Builtin.firstCells, sizeOf, typeInfo, hi, hz, hld, hr, goInt]
  unfold runs
  rw [hr']
  exact ⟨_, hC, hok, h⟩
theorem Ok.fresh {w : World} {r : Res} (h : Ok (fun _ => False) w0 H w) (j : Nat) (hj : H[j]? = some r) : ∀ b, r.dom b → b < w.heap.size ∧ ¬ b < w0.heap.size := fun b hb => ⟨(h.own j r hj b hb).1, (h.own j r hj b hb).2⟩
section
variable {α : Type} {ad : Option Addr} {z : Nat} {c : α → List Value} {xs : List α}
theorem InL.keep {w : World} (hl : InL w0 ad z c xs) (h : Ok S w0 H w) (hS : ∀ b off, ad = some ⟨b, off, none⟩ → ¬ S b) : InL w ad z c xs := fun hne => by
  obtain ⟨b, off, e, hc⟩ := hl hne
  exact ⟨b, off, e, fun i x hx k v hk => h.old (hc i x hx k v hk) (hS b off e)⟩
theorem InL.chg {w w' : World} {D : Nat → Prop} (hl : InL w ad z c xs) (h : Chg D w w') (hS : ∀ b off, ad = some ⟨b, off, none⟩ → ¬ D b) : InL w' ad z c xs := fun hne => by
  obtain ⟨b, off, e, hc⟩ := hl hne
  exact ⟨b, off, e, fun i x hx k v hk => by
    have h1 := hc i x hx k v hk
    exact (World.cell?_of_block (h.old b (World.block_lt_of_cell? w _ h1) (hS b off e))).trans h1⟩
theorem InL.grow {w w' : World} (hl : InL w ad z c xs) (h : Grow w w') : InL w' ad z c xs := hl.chg (Chg.of_grow h) fun _ _ _ h => h
theorem InL.lt {w : World} (h : InL w ad z c xs) (hz : ∀ x, 0 < (c x).length) (hne : xs ≠ []) (b off : Nat) (e : ad = some ⟨b, off, none⟩) : b < w.heap.size := by
  obtain ⟨b', off', e', hc⟩ := h hne
  rw [e] at e'
  obtain rfl : b = b' := by simpa using congrArg (fun o => o.map (·.block)) e'
  cases xs with
  | nil => exact absurd rfl hne
  | cons x xs =>
    have h1 := hz x
    have := hc 0 x rfl 0 _ (List.getElem?_eq_getElem h1)
    exact World.block_lt_of_cell? w ⟨b, _, none⟩ this
theorem flatMap_at (hz : ∀ x, (c x).length = z) : ∀ (xs : List α) (i k : Nat) (x : α), xs[i]? = some x → k < z → (xs.flatMap c)[i * z + k]? = (c x)[k]?
  | [], i, k, x, h, _ => by simp at h
  | y :: ys, 0, k, x, h, hk => by
    obtain rfl : y = x := by simpa using h
    rw [List.flatMap_cons, Nat.zero_mul, Nat.zero_add, List.getElem?_append_left (by rw [hz]; exact hk)]
  | y :: ys, i + 1, k, x, h, hk => by
    rw [List.flatMap_cons, List.getElem?_append_right (by rw [hz, Nat.add_mul]; omega)]
    have e : (i + 1) * z + k - (c y).length = i * z + k := by rw [hz, Nat.add_mul]; omega
    rw [e]
    exact flatMap_at hz ys i k x (by simpa using h) hk
theorem flatMap_len (hz : ∀ x, (c x).length = z) (xs : List α) : (xs.flatMap c).length = xs.length * z := by
  induction xs with
  | nil => simp
  | cons x xs ih => rw [List.flatMap_cons, List.length_append, ih, hz, List.length_cons, Nat.add_mul]; omega
theorem own_in {w : World} {cap e len : Nat} (hz : ∀ x, (c x).length = z) (h : (ownd ad cap e z len (xs.flatMap c)).holds w) (hlen : xs.length ≤ len) : InL w ad z c xs := fun hne => by
  obtain ⟨h1, h2, _⟩ := own_at h
  have : 0 < xs.length := (by cases xs <;> simp_all)
  obtain ⟨b, e, hc⟩ := h2 (by omega)
  refine ⟨b, 0, e, fun i x hx k v hk => ?_⟩
  have := hc (i * z + k) v (by rw [flatMap_at hz xs i k x hx (by rw [← hz x]; exact (List.getElem?_eq_some_iff.1 hk).1)]; exact hk)
  simpa using this
theorem row_in {w : World} {b T : Nat} (hz : ∀ x, (c x).length = z) (h : (row b T (xs.flatMap c)).holds w) : InL w (some ⟨b, 0, none⟩) z c xs := fun _ => ⟨b, 0, rfl, fun i x hx k v hk => by
  refine row_cell h ?_
  rw [Nat.zero_add, flatMap_at hz xs i k x hx (by rw [← hz x]; exact (List.getElem?_eq_some_iff.1 hk).1)]
  exact hk⟩
theorem InL.take {w : World} (h : InL w ad z c xs) (n : Nat) : InL w ad z c (xs.take n) := fun hne => by
  obtain ⟨b, off, e, hc⟩ := h (by intro e; subst e; simp at hne)
  exact ⟨b, off, e, fun i x hx k v hk => hc i x (by
    rw [List.getElem?_take] at hx
    split at hx
    · exact hx
    · cases hx) k v hk⟩
end
/-! ### Calls by what they leave -/
/-- One that leaves one of the resources otherwise. -/
theorem a_callu (ho : nthO ops i = some o) (hg : gd ops.toArray n st o = true) (ha : anc i = true) {f : FuncId} {xs : Array Operand} {ts : Array TypeId} (hop : o.op = .call { callee := .value (.func f), args := xs, argTypes := ts }) {fn : Func} (hf : P.funcs[f]? = some fn) (hb : fn.body.isSome = true) (hn : (fn.name == "runtime.NumGoroutine") = false) {args : List Value} (hx : xs.toList.map (ev n st) = args)
    {r : Res} (r' : Res) {H' : List Res} (hj : Upd H r r' H') (hdom : r'.dom = r.dom) (v : Value) (hc : ∀ w, Ok S w0 H w → r.holds w → Calls P f args.toArray w fun e w' => e = .returned v ∧ Chg r.dom w w' ∧ r'.holds w') {st' : Slots} (hs : up o.dst v st = st')
    (hC : ∀ w, Ok S w0 H' w → C w) (h : MX P ops C anc R l n st' S w0 H') : MX P ops C anc R (i :: l) n st S w0 H := by
  obtain ⟨j, hj, rfl⟩ := hj; subst hs
  refine a_call ho hg ha hop hf hb hn hx fun hC' w hw => (hc w hw (hw.holds j r hj)).mono fun e w' ⟨h1, h2, h3⟩ => ⟨v, h1, _, hC, ?_, h⟩
  exact hw.upd j hj h2 (fun _ _ h => h) _ h3 fun k hk => ⟨Nat.lt_of_lt_of_le (hw.own j r hj k (hdom ▸ hk)).1 h2.size, fun _ => hdom ▸ hk⟩
/-- One that leaves a block otherwise. -/
theorem a_callr (ho : nthO ops i = some o) (hg : gd ops.toArray n st o = true) (ha : anc i = true) {f : FuncId} {xs : Array Operand} {ts : Array TypeId} (hop : o.op = .call { callee := .value (.func f), args := xs, argTypes := ts }) {fn : Func} (hf : P.funcs[f]? = some fn) (hb : fn.body.isSome = true) (hn : (fn.name == "runtime.NumGoroutine") = false) {args : List Value} (hx : xs.toList.map (ev n st) = args)
    (b : Nat) {T : Nat} {vs : List Value} {F : List Value → List Res} [hj : UpdR H b T vs F] (vs' : List Value) (v : Value) (hc : ∀ w, Ok S w0 H w → (row b T vs).holds w → Calls P f args.toArray w fun e w' => e = .returned v ∧ Chg (row b T vs).dom w w' ∧ (row b T vs').holds w') [hC : SubC C S w0 (F vs')] (hd : o.dst = some d)
    (h : MX P ops C anc R l n ((d, v) :: st) S w0 (F vs')) : MX P ops C anc R (i :: l) n st S w0 H :=
  a_callu ho hg ha hop hf hb hn hx (row b T vs') (hj.upd vs') rfl v hc (by rw [hd]; rfl) hC.sub h
/-- One that makes a new resource: told by a datum. -/
theorem a_calln (ho : nthO ops i = some o) (hg : gd ops.toArray n st o = true) (ha : anc i = true) {f : FuncId} {xs : Array Operand} {ts : Array TypeId} (hop : o.op = .call { callee := .value (.func f), args := xs, argTypes := ts }) {fn : Func} (hf : P.funcs[f]? = some fn) (hb : fn.body.isSome = true) (hn : (fn.name == "runtime.NumGoroutine") = false) {args : List Value} (hx : xs.toList.map (ev n st) = args)
    {α : Type} (v : α → Value) (r : α → Res) (hc : ∀ w, Ok S w0 H w → Calls P f args.toArray w fun e w' => ∃ a, e = .returned (v a) ∧ Grow w w' ∧ (r a).holds w' ∧ ∀ b, (r a).dom b → b < w'.heap.size ∧ ¬ b < w.heap.size)
    (hd : o.dst = some d) (h : ∀ a, MX P ops C anc R l n ((d, v a) :: st) S w0 (r a :: H)) : MX P ops C anc R (i :: l) n st S w0 H := by
  refine a_call ho hg ha hop hf hb hn hx fun hC' w hw => (hc w hw).mono fun e w' ⟨a, h1, h2, h3, h4⟩ => ⟨_, h1, _, fun w h => hC' w h.tail, ?_, by rw [hd]; exact h a⟩
  exact hw.push (D := fun _ => False) (Chg.of_grow h2) (fun _ _ h => h) _ h3 h4
/-- One that leaves nothing but new blocks, told by what is known of memory. -/
theorem a_callv (ho : nthO ops i = some o) (hg : gd ops.toArray n st o = true) (ha : anc i = true) {f : FuncId} {xs : Array Operand} {ts : Array TypeId} (hop : o.op = .call { callee := .value (.func f), args := xs, argTypes := ts }) {fn : Func} (hf : P.funcs[f]? = some fn) (hb : fn.body.isSome = true) (hn : (fn.name == "runtime.NumGoroutine") = false) {args : List Value} (hx : xs.toList.map (ev n st) = args)
    (v : Value) (hc : ∀ w, Ok S w0 H w → Calls P f args.toArray w fun e w' => e = .returned v ∧ Grow w w') (hd : o.dst = some d) (h : MX P ops C anc R l n ((d, v) :: st) S w0 H) : MX P ops C anc R (i :: l) n st S w0 H :=
  a_call ho hg ha hop hf hb hn hx fun hC' w hw => (hc w hw).mono fun e w' ⟨h1, h2⟩ => ⟨v, h1, H, hC', hw.grow h2, by rw [hd]; exact h⟩
/-- Entering with a block that may be written. -/
theorem Ok.one {w : World} {r : Res} (h : r.holds w) (hl : ∀ b, r.dom b → b < w.heap.size) : Ok r.dom w [r] w :=
  ⟨Chg.rfl' _ _, fun i x hi => by
    cases i with
    | zero => obtain rfl : r = x := by simpa using hi
              exact h
    | succ i => simp at hi, fun i x hi b hb => by
    cases i with
    | zero => obtain rfl : r = x := by simpa using hi
              exact ⟨hl b hb, fun _ => hb⟩
    | succ i => simp at hi, fun i j x y hi hj hn => by
    have h1 : i < 1 := (List.getElem?_eq_some_iff.1 hi).1
    have h2 : j < 1 := (List.getElem?_eq_some_iff.1 hj).1
    omega⟩
theorem row_lt {w : World} {b T : Nat} {vs : List Value} (h : (row b T vs).holds w) : ∀ k, (row b T vs).dom k → k < w.heap.size := fun k hk => by
  obtain rfl : k = b := hk
  exact (Array.getElem?_eq_some_iff.1 h).1
end
end Go.Sx
