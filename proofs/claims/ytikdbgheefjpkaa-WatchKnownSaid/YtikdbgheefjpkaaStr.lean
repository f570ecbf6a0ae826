/- Steps on strings; a field of a struct's value; a slice cut thrice; blocks whose content does not matter; appending onto a list without room. Plain theorems over any program. -/
import Derived.Test.YtikdbgheefjpkaaObj
import Derived.Test.YtikdbgheefjpkaaBar
import Derived.Laws.BytesArg
import Derived.Laws.IdiomStrings
import Derived.ArgAppend
set_option linter.unusedVariables false
set_option linter.unusedSimpArgs false
namespace Go.Sx
open Go.RowKit
class SubL (L H : List Res) : Prop where
  sub : L.Sublist H
instance SubL.skip {L H : List Res} {x : Res} [h : SubL L H] : SubL L (x :: H) := ⟨h.sub.cons x⟩
instance SubL.cons {L H : List Res} {x : Res} [h : SubL L H] : SubL (x :: L) (x :: H) := ⟨h.sub.cons_cons x⟩
instance SubL.nil {H : List Res} : SubL [] H := ⟨List.nil_sublist _⟩
instance SubC.subl {S : Nat → Prop} {w0 : World} {L H : List Res} [h : SubL L H] : SubC (Ok S w0 L) S w0 H := ⟨fun w hw => hw.sub h.sub⟩
section
variable {P : Program} {ops : List Oper} {C : World → Prop} {anc : Nat → Bool} {R : Act → (World → Prop) → Prop} {n : Nat} {st : Slots} {i : Nat} {l : List Nat} {o : Oper} {S : Nat → Prop} {w0 : World} {H HC H' : List Res} {d : Tmp} {Q : Exit → Act → World → Prop} {c : Code} {e : Exit}
instance Cl.str {s : ByteArray} {us : List Value} {m : Nat} [h : Cl us m] : Cl (.string s :: us) (m + 1) := ⟨by simp [h.len], by simp [h.one]; rfl⟩
instance Cl.slic {ad : Option Addr} {a b : Nat} {us : List Value} {m : Nat} [h : Cl us m] : Cl (.slice ad a b :: us) (m + 1) := ⟨by simp [h.len], by simp [h.one]; rfl⟩
instance Cl.ptr {ad : Option Addr} {us : List Value} {m : Nat} [h : Cl us m] : Cl (.pointer ad :: us) (m + 1) := ⟨by simp [h.len], by simp [h.one]; rfl⟩
instance Cl.mapr {r : Option Nat} {us : List Value} {m : Nat} [h : Cl us m] : Cl (.map r :: us) (m + 1) := ⟨by simp [h.len], by simp [h.one]; rfl⟩
/-- '==' of strings. -/
theorem mx_streq (ho : nthO ops i = some o) (hg : gd ops.toArray n st o = true) {t : TypeId} {x y : Operand} {yt : TypeId} (hop : o.op = .binOp .eql t x y yt) {a b : ByteArray} (hx : ev n st x = .string a) (hy : ev n st y = .string b)
    (hd : o.dst = some d) (h : MX P ops C anc R l n ((d, .bool (a.toList == b.toList)) :: st) S w0 H) : MX P ops C anc R (i :: l) n st S w0 H :=
  mx_val ho hg (.bool (a.toList == b.toList)) (fun w => by simp [execOp, hop, hx, hy, eqGuard, binOp, Op.stringOp]) (by rw [hd]; rfl) h
/-- A field of a struct's value, of one cell. -/
def fldOk1 (P : Program) (s f off : Nat) : Bool := match P.underlying s with
  | some (.struct fs) => match fs[f]? with
    | some fd => fd.offset == off && (match P.underlying fd.type with | some (.struct _) | some (.array ..) | none => false | some _ => true)
    | none => false
  | _ => false
theorem mx_fld (ho : nthO ops i = some o) (hg : gd ops.toArray n st o = true) {t f : Nat} {x : Operand} (hop : o.op = .field t x f) {vs : List Value} (hx : ev n st x = .agg vs.toArray) {off : Nat} (hf : fldOk1 P t f off = true) {v : Value} (hv : vs[off]? = some v)
    (hd : o.dst = some d) (h : MX P ops C anc R l n ((d, v) :: st) S w0 H) : MX P ops C anc R (i :: l) n st S w0 H := by
  refine mx_val ho hg v (fun w => ?_) (by rw [hd]; rfl) h
  unfold fldOk1 at hf
  split at hf
  · rename_i fs hu
    split at hf
    · rename_i fd hfd
      simp only [Bool.and_eq_true, beq_iff_eq] at hf
      obtain ⟨rfl, h2⟩ := hf
      have hagg : (isAgg fd.type).run P w = .ok false w := by
        unfold isAgg
        cases hq : P.underlying fd.type with
        | none => simp [hq] at h2
        | some d => rw [Sem.run_bind, run_underlying hq w]; cases d <;> simp_all
      simp [execOp, hop, hx, Instr.field, run_underlying hu, hfd, part, hagg, asAgg, hv]
    · cases hf
  · cases hf
/-- x[:a:b]. -/
theorem mx_slice3 (E : Env P) (ho : nthO ops i = some o) (hg : gd ops.toArray n st o = true) {t : TypeId} {x hi mx : Operand} (hop : o.op = .slice t x none (some hi) (some mx)) {ad : Option Addr} {len cap : Nat} (hx : ev n st x = .slice ad len cap) {kh km : IntKind} {p q : Nat} (hhi : ev n st hi = .int kh (p : Int)) (hmx : ev n st mx = .int km (q : Int)) {r : Nat × Nat} (ht : at1 E.sl t = some r) (h1 : p ≤ q) (h2 : q ≤ cap)
    (hd : o.dst = some d) (h : MX P ops C anc R l n ((d, .slice ad p q) :: st) S w0 H) : MX P ops C anc R (i :: l) n st S w0 H := by
  refine mx_val ho hg (.slice ad p q) (fun w => ?_) (by rw [hd]; rfl) h
  obtain ⟨hu, ii, hi, hz⟩ := E.sl_spec (e := r.1) (z := r.2) ht
  have e1 : (ad.map fun x => x.add (0 * r.2)) = ad := by cases ad <;> simp [Addr.add]
  have e2 : (if q = 0 then ad else ad.map fun x => x.add (0 * r.2)) = ad := by split <;> first | rfl | exact e1
  simp [execOp, hop, hx, hhi, hmx, Instr.sliceAt, Instr.slice, run_underlying hu, Instr.sliceBounds, run_sliceBound, sizeOf, typeInfo, hi, hz, h1, h2]
  cases ad <;> simp [Addr.add]
def b2sB (P : Program) (s d : Nat) : Bool := (match P.underlying s with | some (.slice e) => (match P.underlying e with | some (.int .u8) => true | _ => false) | _ => false) && (match P.underlying d with | some .string => true | _ => false)
theorem b2s_run {w : World} {src dst : Nat} (hb : b2sB P src dst = true) {ad : Option Addr} {m cap : Nat} {xs : List Int} (hm : xs.length = m) (hl : Src w ad (xs.map (Value.int .u8))) : (convert src dst (.slice ad m cap)).run P w = .ok (.string (strOfNums xs)) w := by
  simp only [b2sB, Bool.and_eq_true] at hb
  obtain ⟨h1, h2⟩ := hb
  split at h1
  · rename_i e hs
    split at h1
    · rename_i he
      split at h2
      · rename_i hd
        cases ad with
        | none =>
          have hx : xs = [] := by
            cases xs with
            | nil => rfl
            | cons x xs => obtain ⟨b, off, e, _⟩ := hl (by simp); cases e
          subst hx
          exact run_convert_bytes_nil w src e hs he m cap dst hd
        | some a =>
          by_cases hne : xs = []
          · subst hne
            have : m = 0 := by simpa using hm.symm
            subst this
            rw [run_convert_bytes_string w src dst e _ 0 cap hs he hd, run_bytesToString w a 0 cap [] (by simp [loadCells, loadCellsFrom])]
            rfl
          · obtain ⟨b, off, ha, hc⟩ := hl (by simpa using hne)
            obtain rfl : a = ⟨b, off, none⟩ := by simpa using ha
            refine run_convert_bytes_arg w src e hs he b off m cap xs hm (fun i hi => ?_) dst hd
            have := hc i (.int .u8 (xs.getD i 0)) (by simp [List.getD, List.getElem?_eq_getElem (show i < xs.length by omega)])
            rwa [add_at] at this
      · cases h2
    · cases h1
  · cases h1
/-- string(b). -/
theorem mx_b2s (ho : nthO ops i = some o) (hg : gd ops.toArray n st o = true) {s e : TypeId} {x : Operand} (hop : o.op = .convert s e x) (hb : b2sB P s e = true) {ad : Option Addr} {m cap : Nat} (hx : ev n st x = .slice ad m cap) {xs : List Int} (hm : xs.length = m) (hl : Src w0 ad (xs.map (Value.int .u8))) (hS : xs ≠ [] → ∀ b off, ad = some ⟨b, off, none⟩ → ¬ S b) [hr : Olds C anc S w0]
    (hd : o.dst = some d) (h : MX P ops C anc R l n ((d, .string (strOfNums xs)) :: st) S w0 H) : MX P ops C anc R (i :: l) n st S w0 H := by
  have key : ∀ w, (∀ (a : Addr) (v : Value), w0.cell? a = some v → ¬ S a.block → w.cell? a = some v) → (execOp (ev n st) o).run P w = .ok (.value (.string (strOfNums xs))) w := fun w hw => by
    have hl' : Src w ad (xs.map (Value.int .u8)) := fun hne => by
      obtain ⟨b, off, e, hc⟩ := hl hne
      refine ⟨b, off, e, fun j u hj => ?_⟩
      have h1 := hc j u hj
      rw [add_at] at h1 ⊢
      exact hw _ _ h1 (hS (by intro h; rw [h] at hne; exact hne rfl) b off e)
    simp [execOp, hop, hx, b2s_run hb hm hl']
  exact get_val ho hg _ (hr.olds.imp (fun hh => ⟨hh, fun w hw => key w fun a v hc hs => hw.old hc hs⟩) (fun hh w hw => key w (hh w hw))) hd h
/-! ### Blocks whose content does not matter -/
def jkR (b T n : Nat) : Res where
  dom := fun k => k = b
  holds := fun w => ∃ (us : List Value) (fz : Nat × Nat), us.length = n ∧ w.heap[b]? = some (.cells us.toArray T fz) ∧ (fz.2 = 0 ∨ n ≤ fz.1)
  loc := fun w w' h ⟨us, fz, h1, h2, h3⟩ => ⟨us, fz, h1, (h b rfl).trans h2, h3⟩
/-- The block of a conversion. -/
def strR (b T : Nat) (us : List Value) : Res where
  dom := fun k => k = b
  holds := fun w => ∃ fz : Nat × Nat, w.heap[b]? = some (.cells us.toArray T fz) ∧ us.length ≤ fz.1
  loc := fun w w' h ⟨fz, h2, h3⟩ => ⟨fz, (h b rfl).trans h2, h3⟩
theorem strR_cell {w : World} {b T : Nat} {us : List Value} (h : (strR b T us).holds w) {off : Nat} {v : Value} (hv : us[off]? = some v) : w.cell? ⟨b, off, none⟩ = some v := by
  obtain ⟨fz, h', _⟩ := h
  simp [World.cell?, h', hv]
theorem strR_jk {w : World} {b T : Nat} {us : List Value} (h : (strR b T us).holds w) : (jkR b T us.length).holds w := by
  obtain ⟨fz, h1, h2⟩ := h
  exact ⟨us, fz, rfl, h1, .inr h2⟩
theorem run_storeCells_atB (P : Program) (g o : Nat) (t : TypeId) (fz : Nat × Nat) : ∀ (vs : List Value) (i : Nat) (cur : Array Value) (w : World), w.heap[g]? = some (.cells cur t fz) → (fz.2 = 0 ∨ cur.size ≤ fz.1) → o + i + vs.length ≤ cur.size → (∀ v ∈ vs, v.oneCell' = true) →
    (storeCells ⟨g, o, none⟩ vs i).run P w = .ok () (w.setRow g (cur.toList.take (o + i) ++ vs ++ cur.toList.drop (o + i + vs.length)).toArray)
  | [], i, cur, w, hg, _, _, _ => by
    simp only [storeCells, List.append_nil, List.length_nil, Nat.add_zero, List.take_append_drop, Array.toArray_toList]
    rw [setRow_self w g cur t fz hg]
    rfl
  | v :: rest, i, cur, w, hg, hfz, hl, h1 => by
    have hi : o + i < cur.size := by simp at hl; omega
    have hadd : (⟨g, o, none⟩ : Addr).add i = ⟨g, o + i, none⟩ := by unfold Addr.add; split <;> simp_all
    have hcell : w.cell? ⟨g, o + i, none⟩ = some cur[o + i] := by simp [World.cell?, hg, hi]
    have hfro : w.frozen? ⟨g, o + i, none⟩ = false := by
      obtain ⟨lo, hi'⟩ := fz
      simp only [World.frozen?, hg, Bool.and_eq_false_iff, decide_eq_false_iff_not]
      simp only at hfz
      omega
    have hst : (store ((⟨g, o, none⟩ : Addr).add i) v).run P w = .ok () (w.setRow g (cur.setIfInBounds (o + i) v)) := by
      rw [hadd, run_store P w _ v _ (h1 v (by simp)), hcell]
      simp [hfro, setCell_eq_setRow w g (o + i) cur t fz v hg]
    have ih := run_storeCells_atB P g o t fz rest (i + 1) (cur.setIfInBounds (o + i) v) (w.setRow g (cur.setIfInBounds (o + i) v)) (setRow_heap w g cur _ t _ hg) (by simpa using hfz) (by simp at hl ⊢; omega) (fun x hx => h1 x (by simp [hx]))
    simp only [storeCells, Sem.run_bind, hst, Result.andThen_ok, ih, setRow_setRow]
    congr 3
    have e := list_seg_step cur.toList (o + i) v rest (by simp at hl ⊢; omega)
    simpa [Array.toList_setIfInBounds, Nat.add_assoc] using e
theorem a_storeJ (E : Env P) (ho : nthO ops i = some o) (hg : gd ops.toArray n st o = true) (ha : anc i = true) {t : TypeId} {x y : Operand} (hop : o.op = .store t x y) {b off : Nat} (hx : ev n st x = .pointer (some ⟨b, off, none⟩)) {v : Value} (hy : ev n st y = v) (h1 : v.oneCell' = true) (hz : E.sz t = some 1) {T m : Nat} (j : Nat) (hj : H[j]? = some (jkR b T m)) (hlt : off < m)
    (hC : ∀ w, Ok S w0 H w → C w) (hd : o.dst = none) (h : MX P ops C anc R l n st S w0 H) : MX P ops C anc R (i :: l) n st S w0 H := by
  refine a_any ho hg ha fun _ w hw => ?_
  obtain ⟨us, fz, h2, h3, h4⟩ := hw.holds j _ hj
  have hr := run_storeCells_atB P b off T fz [v] 0 us.toArray w h3 (by simpa [h2] using h4) (by simp; omega) (by simpa using h1)
  obtain ⟨ii, hi, hs⟩ := E.sz_spec hz
  have hcl : v.cells = #[v] := by cases v <;> first | rfl | cases h1
  have hr' : (execOp (ev n st) o).run P w = .ok .skip (w.setRow b (us.take off ++ [v] ++ us.drop (off + 1)).toArray) := by
    simp [execOp, hop, hx, hy, Instr.storeAt, Instr.sureAddr, storeVar, sizeOf, typeInfo, hi, hs, hcl]
    simp at hr
    rw [hr]
    simp
  unfold runs
  rw [hr']
  have hk : Ok S w0 H (w.setRow b (us.take off ++ [v] ++ us.drop (off + 1)).toArray) := by
    have := hw.upd j hj (D := fun k => k = b) (Chg.setRow rfl) (fun k _ hk => hk) (jkR b T m) ⟨us.take off ++ [v] ++ us.drop (off + 1), fz, by simp; omega, setRow_heap w b us.toArray _ T fz h3, h4⟩ fun k hk => by
      obtain rfl : k = b := hk
      exact ⟨by simp; exact (hw.own j _ hj k rfl).1, fun _ => rfl⟩
    have e : H.set j (jkR b T m) = H := by
      obtain ⟨h1, h2⟩ := List.getElem?_eq_some_iff.1 hj
      rw [← h2]
      exact List.set_getElem_self h1
    rwa [e] at this
  exact ⟨_, hC, hk, by rw [hd]; exact h⟩
/-- A conversion of a slice to its own type leaves its mark. -/
def markB' (P : Program) (s e : Nat) : Bool := (match P.underlying s with | some (.slice e') => e' == e | _ => false) && (match P.underlying e with | some (.int .u8) => true | _ => false)
theorem a_mark (ho : nthO ops i = some o) (hg : gd ops.toArray n st o = true) (ha : anc i = true) {s : TypeId} {x : Operand} (hop : o.op = .convert s s x) {e : Nat} (hb : markB' P s e = true) {b len cap : Nat} (hx : ev n st x = .slice (some ⟨b, 0, none⟩) len cap) (j : Nat) {us : List Value} (hj : H[j]? = some (row b e us))
    (hd : o.dst = some d) (hC : ∀ w, Ok S w0 (H.set j (strR b e us)) w → C w) (h : MX P ops C anc R l n ((d, .slice (some ⟨b, 0, none⟩) len cap) :: st) S w0 (H.set j (strR b e us))) : MX P ops C anc R (i :: l) n st S w0 H := by
  simp only [markB', Bool.and_eq_true] at hb
  obtain ⟨hb1, hb2⟩ := hb
  split at hb1
  · rename_i e' hs
    obtain rfl : e' = e := by simpa using hb1
    split at hb2
    · rename_i he
      refine a_any ho hg ha fun _ w hw => ?_
      have hr0 : w.heap[b]? = some (.cells us.toArray e' (0, 0)) := hw.holds j _ hj
      have hlt : b < w.heap.size := (Array.getElem?_eq_some_iff.1 hr0).1
      have hsh : w.shape? b = some (e', us.toArray.size) := by simp [World.shape?, hr0]
      have hr : (execOp (ev n st) o).run P w = .ok (.value (.slice (some ⟨b, 0, none⟩) len cap)) (w.freeze ⟨b, us.toArray.size, none⟩ 1) := by
        simp [execOp, hop, hx, convert, run_underlying hs, run_underlying he, markStringish, hsh]
      unfold runs
      rw [hr]
      refine ⟨_, hC, ?_, by rw [hd]; exact h⟩
      have hnew : (w.freeze ⟨b, us.toArray.size, none⟩ 1).heap[b]? = some (.cells us.toArray e' (us.length, us.length + 1)) := by
        unfold World.freeze
        rw [if_neg (by decide)]
        show (w.heap.modify b _)[b]? = _
        rw [Array.getElem?_eq_getElem (by simpa using hlt), Array.getElem_modify]
        have h1 : w.heap[b] = .cells us.toArray e' (0, 0) := (Array.getElem?_eq_some_iff.1 hr0).2
        simp [h1]
      have hsz : (w.freeze ⟨b, us.toArray.size, none⟩ 1).heap.size = w.heap.size := by
        unfold World.freeze
        rw [if_neg (by decide)]
        simp
      refine hw.upd j hj (D := fun k => k = b) ⟨by unfold World.freeze; rw [if_neg (by decide)], by unfold World.freeze; rw [if_neg (by decide)], by unfold World.freeze; rw [if_neg (by decide)], by omega, fun k hk hne => ?_⟩ (fun k _ hk => hk) _ ⟨_, hnew, Nat.le_refl _⟩ fun k hk => ?_
      · unfold World.freeze
        rw [if_neg (by decide)]
        show (w.heap.modify b _)[k]? = _
        have hk' : ¬ b = k := fun e => hne e.symm
        rw [Array.getElem?_modify, if_neg hk']
      · obtain rfl : k = b := hk
        exact ⟨by omega, fun _ => rfl⟩
    · cases hb2
  · cases hb1
def s2bB (P : Program) (s d e : Nat) : Bool := (match P.underlying d with | some (.slice e') => e' == e | _ => false) && (match P.underlying e with | some (.int .u8) => true | _ => false) && (match P.underlying s with | some .string => true | _ => false)
/-- []byte(s). -/
theorem a_s2b (ho : nthO ops i = some o) (hg : gd ops.toArray n st o = true) (ha : anc i = true) {s t : TypeId} {x : Operand} (hop : o.op = .convert s t x) {e : Nat} (hb : s2bB P s t e = true) {xs : List Int} (hxb : ∀ x ∈ xs, 0 ≤ x ∧ x < 256) (hx : ev n st x = .string (strOfNums xs))
    (hd : o.dst = some d) (h : ∀ b cap rest, MX P ops C anc R l n ((d, .slice (some ⟨b, 0, none⟩) xs.length cap) :: st) S w0 (strR b e (xs.map (Value.int .u8) ++ rest) :: H)) : MX P ops C anc R (i :: l) n st S w0 H := by
  simp only [s2bB, Bool.and_eq_true] at hb
  obtain ⟨⟨hb1, hb2⟩, hb3⟩ := hb
  split at hb1
  · rename_i e' hdd
    obtain rfl : e' = e := by simpa using hb1
    split at hb2
    · rename_i he
      split at hb3
      · rename_i hss
        refine a_any ho hg ha fun hC w hw => ?_
        have hr := run_bytes_of_string (P := P) w s t e' (strOfNums xs) hss hdd he
        have hcells : bytesRow (strOfNums xs) (grownCap w (strOfNums xs).size 0 e') = (xs.map (Value.int .u8) ++ List.replicate (grownCap w (strOfNums xs).size 0 e' - (strOfNums xs).size) (Value.int .u8 0)).toArray := by
          apply Array.ext'
          simp only [bytesRow, Array.toList_append, Array.toList_map, strOfNums_data, List.map_map, Array.toList_replicate]
          congr 1
          apply List.map_congr_left
          intro x hx
          obtain ⟨h0, h1⟩ := hxb x hx
          simp only [Function.comp]
          congr 1
          simp
          omega
        rw [strOfNums_size] at hr
        rw [strOfNums_size] at hcells
        have hr' : (execOp (ev n st) o).run P w = .ok (.value (.slice (some ⟨w.heap.size, 0, none⟩) xs.length (grownCap w xs.length 0 e'))) (w.drew.alloc (.cells (xs.map (Value.int .u8) ++ List.replicate (grownCap w xs.length 0 e' - xs.length) (Value.int .u8 0)).toArray e' ((xs.map (Value.int .u8) ++ List.replicate (grownCap w xs.length 0 e' - xs.length) (Value.int .u8 0)).length, (xs.map (Value.int .u8) ++ List.replicate (grownCap w xs.length 0 e' - xs.length) (Value.int .u8 0)).length + 1))) := by
          rw [hcells] at hr
          simp only [execOp, hop, hx, Sem.run_bind, hr, Result.andThen_ok, Sem.run_pure]
          simp
        unfold runs
        rw [hr']
        refine ⟨_, fun w h => hC w h.tail, ?_, by rw [hd]; exact h w.heap.size _ (List.replicate (grownCap w xs.length 0 e' - xs.length) (Value.int .u8 0))⟩
        have hg' : Grow w (w.drew.alloc (.cells (xs.map (Value.int .u8) ++ List.replicate (grownCap w xs.length 0 e' - xs.length) (Value.int .u8 0)).toArray e' ((xs.map (Value.int .u8) ++ List.replicate (grownCap w xs.length 0 e' - xs.length) (Value.int .u8 0)).length, (xs.map (Value.int .u8) ++ List.replicate (grownCap w xs.length 0 e' - xs.length) (Value.int .u8 0)).length + 1))) := by
          have h1 : Grow w w.drew := Below.drew (Below.refl _ _)
          exact h1.tr (Below.alloc (Below.refl _ _) (Nat.le_refl _) _)
        refine hw.push (D := fun _ => False) (Chg.of_grow hg') (fun _ _ h => h) _ ⟨((xs.map (Value.int .u8) ++ List.replicate (grownCap w xs.length 0 e' - xs.length) (Value.int .u8 0)).length, (xs.map (Value.int .u8) ++ List.replicate (grownCap w xs.length 0 e' - xs.length) (Value.int .u8 0)).length + 1), ?_, Nat.le_refl _⟩ fun b hb => ?_
        · show (w.heap.push _)[w.heap.size]? = _
          simp
        · obtain rfl : b = w.heap.size := hb
          exact ⟨by show _ < (w.heap.push _).size; simp, by omega⟩
      · cases hb3
    · cases hb2
  · cases hb1
/-- Appending nothing onto a list without room. -/
theorem a_appf0 (E : Env P) (ho : nthO ops i = some o) (hg : gd ops.toArray n st o = true) (ha : anc i = true) {s x : Operand} {t : TypeId} (hop : o.op = .call { callee := .builtin .append, args := #[s, x], argTypes := #[t, t] }) {e z : Nat} (ht : at1 E.sl t = some (e, z))
    {ad adx : Option Addr} {len cap c : Nat} (hs : ev n st s = .slice ad len cap) (hx : ev n st x = .slice adx 0 c) (hcap : len ≤ cap)
    (hd : o.dst = some d) (h : MX P ops C anc R l n ((d, .slice ad len cap) :: st) S w0 H) : MX P ops C anc R (i :: l) n st S w0 H := by
  refine a_any ho hg ha fun hC' w hw => ?_
  obtain ⟨hu, ii, z0, hi, hiz, hz0, hzz, hby⟩ := E.sl_zero ht
  have hlf' : (Builtin.firstCells ii.size 0 (.slice adx 0 c)).run P w = .ok #[] w := by
    cases adx with
    | none => rfl
    | some a => simp [Builtin.firstCells, loadCells, loadCellsFrom]
  have hr : (Builtin.append_ #[t, t] o.type #[.slice ad len cap, .slice adx 0 c]).run P w = .ok (.slice ad len cap) w := by
    cases ad with
    | none => simp [Builtin.append_, run_underlying hu, sizeOf, typeInfo, hi, Builtin.lenOf, hlf', hcap]
    | some a => simp [Builtin.append_, run_underlying hu, sizeOf, typeInfo, hi, Builtin.lenOf, hlf', hcap, storeCells]
  have hr' : (execOp (ev n st) o).run P w = .ok (.value (.slice ad len cap)) w := by
    simp only [execOp, hop, resolve, invoke, builtin, Sem.run_bind, Sem.run_pure, Result.andThen_ok, List.map_toArray, List.map_cons, List.map_nil, hs, hx, hr]
  unfold runs
  rw [hr']
  exact ⟨_, hC', hw, by rw [hd]; exact h⟩
/-- Appending something onto a list without room: a block of its own. -/
theorem a_appf1 (E : Env P) (ho : nthO ops i = some o) (hg : gd ops.toArray n st o = true) (ha : anc i = true) {s x : Operand} {t : TypeId} (hop : o.op = .call { callee := .builtin .append, args := #[s, x], argTypes := #[t, t] }) {e z : Nat} (ht : at1 E.sl t = some (e, z)) (hz : Nat.blt 0 z = true)
    {b off len m c : Nat} {adx : Option Addr} (hs : ev n st s = .slice (some ⟨b, off, none⟩) len len) (hx : ev n st x = .slice adx m c) (hm : 0 < m) (olds news : List Value) (hlo : olds.length = len * z) (hl : news.length = m * z) (hos : ∀ w, Ok S w0 H w → Src w (some ⟨b, off, none⟩) olds) (hn : ∀ w, Ok S w0 H w → Src w adx news) (hbig : len + m ≤ 2147483648)
    (hd : o.dst = some d) (hC : ∀ ad' cap', ∀ w, Ok S w0 (ownd ad' cap' e z (len + m) (olds ++ news) :: H) w → C w) (h : ∀ ad' cap', MX P ops C anc R l n ((d, .slice ad' (len + m) cap') :: st) S w0 (ownd ad' cap' e z (len + m) (olds ++ news) :: H)) : MX P ops C anc R (i :: l) n st S w0 H := by
  refine a_any ho hg ha fun hC' w hw => ?_
  obtain ⟨hu, ii, z0, hi, hiz, hz0, hzz, hby⟩ := E.sl_zero ht
  have hz' : 0 < z := by simpa [Nat.blt_eq] using hz
  have hne : news ≠ [] := fun h => by
    rw [h] at hl
    have : m * z = 0 := by simpa using hl.symm
    rcases Nat.mul_eq_zero.1 this with h | h <;> omega
  obtain ⟨b', off', e', hc⟩ := hn w hw hne
  subst e'
  obtain ⟨v', w', hr, r1, r2⟩ := run_append_arg_grows (P := P) w t o.type e ii z0 z ii.bytes hu hi hz0 hiz rfl hzz hz' ⟨b, off, none⟩ len len olds hlo (fun j u hj => by
    obtain ⟨b1, off1, e1, hc1⟩ := hos w hw (by intro h; rw [h] at hj; simp at hj)
    have e2 : (⟨b, off, none⟩ : Addr) = ⟨b1, off1, none⟩ := by simpa using e1
    rw [e2]
    exact hc1 j u hj) ⟨b', off', none⟩ m c news hl hc (by omega) (by simp only [maxLen]; omega)
    (by calc (len + m) * ii.bytes ≤ 2147483648 * 65536 := Nat.mul_le_mul hbig hby
          _ ≤ _ := by decide)
  obtain ⟨ad', cap', rfl⟩ : ∃ ad' cap', v' = .slice ad' (len + m) cap' := by
    rcases r1.2 with ⟨hv, hn⟩ | ⟨g, c, cur, hv, _⟩
    · exact ⟨none, 0, by rw [hv, hn]⟩
    · exact ⟨_, _, hv⟩
  have hr' : (execOp (ev n st) o).run P w = .ok (.value (.slice ad' (len + m) cap')) w' := by
    simp only [execOp, hop, resolve, invoke, builtin, Sem.run_bind, Sem.run_pure, Result.andThen_ok, List.map_toArray, List.map_cons, List.map_nil, hs, hx, hr]
  unfold runs
  rw [hr']
  refine ⟨_, hC ad' cap', ?_, by rw [hd]; exact h ad' cap'⟩
  have hg' : Grow w w' := ⟨r2.os, r2.tape, r2.output, r2.size, fun k hk => r2.block k hk (by simp)⟩
  refine hw.push (D := fun _ => False) (Chg.of_grow hg') (fun _ _ h => h) _ ⟨r1.1, r1.2.imp id fun ⟨g, c, cur, q1, _, q3⟩ => ⟨g, c, cur, q1, Nat.zero_le _, q3⟩⟩ fun k hk => ?_
  have := r1.lt k hk
  exact ⟨this.2, by omega⟩
end
end Go.Sx
