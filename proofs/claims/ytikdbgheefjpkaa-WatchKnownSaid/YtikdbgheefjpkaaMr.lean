/- Maps with int keys that are ranged over too: as Map (built instead of it), with stamps; the range, in any order. Plain theorems over any program. -/
import Derived.Test.YtikdbgheefjpkaaMo2
import Derived.Maps.Keyed
import Derived.Maps.RangeRun
set_option linter.unusedVariables false
set_option linter.unusedSimpArgs false
namespace Go.Sx
open Go.RowKit
/-- Where a key stands, and what it leads to. -/
def fnd (k : Int) : List (Int × Value) → Nat → Option (Nat × Value)
  | [], _ => none
  | p :: l, i => if p.1 = k then some (i, p.2) else fnd k l (i + 1)
def kv (e : MapEntry) : Value × Value := (e.key, e.val)
def ik (p : Int × Value) : Value × Value := (.int .i64 p.1, p.2)
theorem findNow_int (k : Int) : ∀ (es : List MapEntry) (i : Nat) (l : List (Int × Value)), es.map kv = l.map ik → Instr.findNow (.int .i64) (.int .i64 k) es i = some (fnd k l i)
  | [], i, [], _ => rfl
  | e :: es, i, p :: l, h => by
    simp only [List.map_cons, List.cons.injEq, kv, ik, Prod.mk.injEq] at h
    obtain ⟨⟨h1, h2⟩, h3⟩ := h
    have h3' : es.map kv = l.map ik := h3
    simp only [Instr.findNow, h1, Instr.sameNow, if_true, fnd]
    by_cases hk : p.1 = k
    · rw [if_pos hk, hk]
      simp [h2]
    · rw [if_neg hk]
      have : (k == p.1) = false := by simp; exact fun e => hk e.symm
      rw [this]
      exact findNow_int k es (i + 1) l h3'
  | [], _, _ :: _, h => by simp at h
  | _ :: _, _, [], h => by simp at h
theorem run_findKey {P : Program} {kt : TypeId} (hk : P.underlying kt = some (.int .i64)) (k : Int) (es : List MapEntry) (l : List (Int × Value)) (h : es.map kv = l.map ik) (w : World) : (Instr.findKey kt (.int .i64 k) es).run P w = .ok (fnd k l 0) w := by
  simp [Instr.findKey, run_underlying hk, findNow_int k es 0 l h, Result.andThen]
theorem run_checkKey1 {P : Program} {kt : TypeId} (hk : P.underlying kt = some (.int .i64)) (b : Bool) (k : Int) (n : Nat) (w : World) : (Instr.checkKey b (n + 1) kt (.int .i64 k)).run P w = .ok () w := by
  unfold Instr.checkKey
  simp [run_underlying hk, Result.andThen]
theorem run_checkKey {P : Program} {kt : TypeId} (hk : P.underlying kt = some (.int .i64)) (b : Bool) (k : Int) (w : World) : (Instr.checkKey b 10000 kt (.int .i64 k)).run P w = .ok () w := run_checkKey1 hk b k 9999 w
/-- Each entry has a stamp of its own, below the clock. -/
def Stm (es : Array MapEntry) (clock : Nat) : Prop := (es.toList.map (·.born)).Nodup ∧ ∀ e ∈ es.toList, e.born < clock
theorem Stm.push {es : Array MapEntry} {clock : Nat} (h : Stm es clock) (k v : Value) : Stm (es.push ⟨k, v, clock⟩) (clock + 1) := by
  refine ⟨?_, fun e he => ?_⟩
  · rw [Array.toList_push, List.map_append]
    refine List.nodup_append.2 ⟨h.1, by simp, fun a ha b hb e => ?_⟩
    obtain ⟨x, hx, rfl⟩ := List.mem_map.1 ha
    obtain rfl : b = clock := by simpa using hb
    have := h.2 x hx
    omega
  · rw [Array.toList_push] at he
    rcases List.mem_append.1 he with he | he
    · have := h.2 e he; omega
    · obtain rfl : e = ⟨k, v, clock⟩ := by simpa using he
      exact Nat.lt_succ_self _
theorem Stm.sub {es es' : Array MapEntry} {clock : Nat} (h : Stm es clock) (hs : es'.toList.Sublist es.toList) : Stm es' clock := ⟨h.1.sublist (hs.map _), fun e he => h.2 e (hs.subset he)⟩
theorem Stm.born {es es' : Array MapEntry} {clock : Nat} (h : Stm es clock) (hs : es'.toList.map (·.born) = es.toList.map (·.born)) : Stm es' clock := ⟨by rw [hs]; exact h.1, fun e he => by
  have h1 : e.born ∈ es'.toList.map (·.born) := List.mem_map.2 ⟨e, he, rfl⟩
  rw [hs] at h1
  obtain ⟨x, hx, e1⟩ := List.mem_map.1 h1
  rw [← e1]
  exact h.2 x hx⟩
def mapR (r : Nat) (l : List (Int × Value)) : Res where
  dom := fun k => k = r
  holds := fun w => ∃ es clock, w.heap[r]? = some (.map es clock) ∧ es.toList.map kv = l.map ik ∧ Stm es clock
  loc := fun w w' h ⟨es, clock, h1, h2⟩ => ⟨es, clock, (h r rfl).trans h1, h2⟩
theorem mapR_len {r : Nat} {l : List (Int × Value)} {w : World} {es : Array MapEntry} {clock : Nat} (h : es.toList.map kv = l.map ik) : es.size = l.length := by
  have := congrArg List.length h
  simpa using this
/-- A type of maps with int keys; what is read of a key that is not there. -/
structure MapT (P : Program) (t : TypeId) (z : Value) : Prop where
  spec : ∃ kt e, P.underlying t = some (.map kt e) ∧ P.underlying kt = some (.int .i64) ∧ ∀ w, (zeroValue e).run P w = .ok z w
class HasM (H : List Res) (r : Nat) (l : outParam (List (Int × Value))) : Prop where
  has : ∃ j : Nat, H[j]? = some (mapR r l)
instance HasM.hS {H : List Res} {x : Res} {r : Nat} {l : List (Int × Value)} [h : HasM H r l] : HasM (x :: H) r l := ⟨by obtain ⟨j, hj⟩ := h.has; exact ⟨j + 1, by simpa using hj⟩⟩
instance HasM.h0 {H : List Res} {r : Nat} {l : List (Int × Value)} : HasM (mapR r l :: H) r l := ⟨0, rfl⟩
section
variable {P : Program} {ops : List Oper} {C : World → Prop} {anc : Nat → Bool} {R : Act → (World → Prop) → Prop} {i : Nat} {l : List Nat} {n : Nat} {st : Slots} {S : Nat → Prop} {w0 : World} {H : List Res} {o : Oper} {d : Nat}
theorem HasM.holds {r : Nat} {m : List (Int × Value)} (h : HasM H r m) {w : World} (hw : Ok S w0 H w) : (mapR r m).holds w := by obtain ⟨j, hj⟩ := h.has; exact hw.holds j _ hj
class ReadsM (C : World → Prop) (anc : Nat → Bool) (S : Nat → Prop) (w0 : World) (H : List Res) (r : Nat) (m : outParam (List (Int × Value))) : Prop where
  reads : ((∀ i, anc i = true) ∧ ∀ w, Ok S w0 H w → (mapR r m).holds w) ∨ ∀ w, C w → (mapR r m).holds w
instance ReadsM.line {C : World → Prop} {S : Nat → Prop} {w0 : World} {H : List Res} {r : Nat} {m : List (Int × Value)} [h : HasM H r m] : ReadsM C (fun _ => true) S w0 H r m := ⟨.inl ⟨fun _ => rfl, fun w hw => h.holds hw⟩⟩
instance ReadsM.draw {anc : Nat → Bool} {S : Nat → Prop} {w0 : World} {H HC : List Res} {r : Nat} {m : List (Int × Value)} [h : HasM HC r m] : ReadsM (Ok S w0 HC) anc S w0 H r m := ⟨.inr fun w hw => h.holds hw⟩
/-- What is read of a key. -/
def lookV (z : Value) (k : Int) (m : List (Int × Value)) : Value := match fnd k m 0 with
  | some q => .tuple #[q.2, .bool true]
  | none => .tuple #[z, .bool false]
theorem mx_look {t : TypeId} {z : Value} (hm : MapT P t z) (ho : nthO ops i = some o) (hg : gd ops.toArray n st o = true) {x y : Operand} (hop : o.op = .lookup t x y true) {r : Nat} (hx : ev n st x = .map (some r)) {k : Int} (hy : ev n st y = .int .i64 k) {m : List (Int × Value)} [hr : ReadsM C anc S w0 H r m] {v : Value} (hv : lookV z k m = v) (hd : o.dst = some d)
    (h : MX P ops C anc R l n ((d, v) :: st) S w0 H) : MX P ops C anc R (i :: l) n st S w0 H := by
  obtain ⟨kt, e, h1, h2, h3⟩ := hm.spec
  have key : ∀ w, (mapR r m).holds w → (execOp (ev n st) o).run P w = .ok (.value v) w := fun w ⟨es, clock, h4, h5, _⟩ => by
    subst hv
    unfold lookV
    cases hf : fnd k m 0 with
    | none => simp [execOp, hop, hx, hy, Instr.lookup, run_underlying h1, MapKept.run_getObj_map h4, run_checkKey h2, run_findKey h2 k _ _ h5, hf, h3, Result.andThen]
    | some q => simp [execOp, hop, hx, hy, Instr.lookup, run_underlying h1, MapKept.run_getObj_map h4, run_checkKey h2, run_findKey h2 k _ _ h5, hf, Result.andThen]
  exact get_val ho hg v (hr.reads.imp (fun hh => ⟨hh.1, fun w hw => key w (hh.2 w hw)⟩) (fun hh w hw => key w (hh w hw))) hd h
theorem mx_mlen {t : TypeId} {z : Value} (hm : MapT P t z) (ho : nthO ops i = some o) (hg : gd ops.toArray n st o = true) {x : Operand} (hop : o.op = .call { callee := .builtin .len, args := #[x], argTypes := #[t] }) {r : Nat} (hx : ev n st x = .map (some r)) {m : List (Int × Value)} [hr : ReadsM C anc S w0 H r m] (hd : o.dst = some d)
    (h : MX P ops C anc R l n ((d, .int .i64 m.length) :: st) S w0 H) : MX P ops C anc R (i :: l) n st S w0 H := by
  obtain ⟨kt, e, h1, h2, h3⟩ := hm.spec
  have key : ∀ w, (mapR r m).holds w → (execOp (ev n st) o).run P w = .ok (.value (.int .i64 m.length)) w := fun w ⟨es, clock, h4, h5, _⟩ => by
    simp [execOp, resolve, invoke, builtin, hop, hx, Builtin.len_, run_underlying h1, MapKept.run_getObj_map h4, goInt, mapR_len (r := r) (w := w) (clock := clock) h5, Result.andThen]
  exact get_val ho hg _ (hr.reads.imp (fun hh => ⟨hh.1, fun w hw => key w (hh.2 w hw)⟩) (fun hh w hw => key w (hh w hw))) hd h
def setBlk (w : World) (r : Nat) (o : Obj) : World := { w with heap := w.heap.setIfInBounds r o }
theorem chg_setBlk {D : Nat → Prop} {w : World} {r : Nat} {o : Obj} (h : D r) : Chg D w (setBlk w r o) :=
  ⟨rfl, rfl, rfl, by simp [setBlk], fun k _ hd => by
    have : r ≠ k := fun e => hd (e ▸ h)
    simp [setBlk, Array.getElem?_setIfInBounds, this]⟩
theorem setBlk_at {w : World} {r : Nat} {o : Obj} (h : r < w.heap.size) : (setBlk w r o).heap[r]? = some o := by simp [setBlk, Array.getElem?_setIfInBounds, h]
theorem a_mmap (ho : nthO ops i = some o) (hg : gd ops.toArray n st o = true) (ha : anc i = true) {t : TypeId} (hop : o.op = .makeMap t none) (hd : o.dst = some d)
    (h : ∀ r, MX P ops C anc R l n ((d, .map (some r)) :: st) S w0 (mapR r [] :: H)) : MX P ops C anc R (i :: l) n st S w0 H := by
  refine a_any ho hg ha fun hC w hw => ?_
  have hr : (execOp (ev n st) o).run P w = .ok (.value (.map (some w.heap.size))) (w.alloc (.map #[] 0)) := by
    have hm : (Instr.makeMap t none).run P w = .ok (.map (some w.heap.size)) (w.alloc (.map #[] 0)) := rfl
    simp [execOp, hop, hm, Result.andThen, -World.alloc_eq]
  unfold runs
  rw [hr]
  refine ⟨_, fun w h => hC w h.tail, hw.push (D := fun _ => False) (Chg.alloc _ _ _) (fun _ _ h => h) (mapR w.heap.size []) ⟨#[], 0, by rw [heap_alloc_new], rfl, by simp [Stm]⟩ fun b hb => ?_, by rw [hd]; exact h w.heap.size⟩
  obtain rfl : b = w.heap.size := hb
  exact ⟨by simp, by omega⟩
class UpdM (H : List Res) (r : Nat) (m : outParam (List (Int × Value))) (F : outParam (List (Int × Value) → List Res)) : Prop where
  upd : ∀ m', Upd H (mapR r m) (mapR r m') (F m')
instance UpdM.uS {H : List Res} {x : Res} {r : Nat} {m : List (Int × Value)} {F : List (Int × Value) → List Res} [h : UpdM H r m F] : UpdM (x :: H) r m (fun m' => x :: F m') := ⟨fun m' => upS (h.upd m')⟩
instance UpdM.u0 {H : List Res} {r : Nat} {m : List (Int × Value)} : UpdM (mapR r m :: H) r m (fun m' => mapR r m' :: H) := ⟨fun _ => up0⟩
/-- A key that is not there yet. -/
theorem a_mput {t : TypeId} {z : Value} (hm : MapT P t z) (ho : nthO ops i = some o) (hg : gd ops.toArray n st o = true) (ha : anc i = true) {x y u : Operand} (hop : o.op = .mapUpdate t x y u) {r : Nat} (hx : ev n st x = .map (some r)) {k : Int} (hy : ev n st y = .int .i64 k) {v : Value} (hu : ev n st u = v) {m : List (Int × Value)} {F : List (Int × Value) → List Res} [hj : UpdM H r m F] (hf : fnd k m 0 = none)
    (hC : ∀ w, Ok S w0 (F (m ++ [(k, v)])) w → C w) {st' : Slots} (hs : up o.dst undef st = st') (h : MX P ops C anc R l n st' S w0 (F (m ++ [(k, v)]))) : MX P ops C anc R (i :: l) n st S w0 H := by
  subst hs hu
  obtain ⟨kt, e, h1, h2, h3⟩ := hm.spec
  obtain ⟨j, hj1, hj2⟩ := hj.upd (m ++ [(k, ev n st u)])
  refine a_any ho hg ha fun _ w hw => ?_
  obtain ⟨es, clock, h4, h5, h6⟩ := hw.holds j _ hj1
  have hlt : r < w.heap.size := (Array.getElem?_eq_some_iff.1 h4).1
  have hr : (execOp (ev n st) o).run P w = .ok .skip (setBlk w r (.map (es.push ⟨.int .i64 k, ev n st u, clock⟩) (clock + 1))) := by
    simp [execOp, hop, hx, hy, Instr.mapUpdate, run_underlying h1, MapKept.run_getObj_map h4, run_checkKey h2, run_findKey h2 k _ _ h5, hf, MapKept.run_setObj_map _ h4, Result.andThen, setBlk]
  unfold runs
  rw [hr]
  refine ⟨_, hC, ?_, h⟩
  rw [← hj2]
  refine hw.upd j hj1 (chg_setBlk (D := fun b => b = r) rfl) (fun _ _ h => h) _ ⟨_, _, setBlk_at hlt, by simp [h5, kv, ik], h6.push _ _⟩ fun b hb => ?_
  obtain rfl : b = r := hb
  exact ⟨by simp [setBlk]; exact hlt, fun _ => rfl⟩
/-- A key is taken away. -/
def delK (k : Int) (m : List (Int × Value)) : List (Int × Value) := match fnd k m 0 with
  | some q => m.eraseIdx q.1
  | none => m
theorem map_eraseIdx {α β : Type} (f : α → β) : ∀ (l : List α) (i : Nat), (l.eraseIdx i).map f = (l.map f).eraseIdx i
  | [], _ => rfl
  | _ :: _, 0 => rfl
  | x :: l, i + 1 => by simp [map_eraseIdx f l i]
theorem a_mdel {t kt' : TypeId} {z : Value} (hm : MapT P t z) (ho : nthO ops i = some o) (hg : gd ops.toArray n st o = true) (ha : anc i = true) {x y : Operand} (hop : o.op = .call { callee := .builtin .delete, args := #[x, y], argTypes := #[t, kt'] }) {r : Nat} (hx : ev n st x = .map (some r)) {k : Int} (hy : ev n st y = .int .i64 k) {m : List (Int × Value)} {F : List (Int × Value) → List Res} [hj : UpdM H r m F]
    (hC : ∀ w, Ok S w0 (F (delK k m)) w → C w) {st' : Slots} (hs : up o.dst (.tuple #[]) st = st') (h : MX P ops C anc R l n st' S w0 (F (delK k m))) : MX P ops C anc R (i :: l) n st S w0 H := by
  subst hs
  obtain ⟨kt, e, h1, h2, h3⟩ := hm.spec
  obtain ⟨j, hj1, hj2⟩ := hj.upd (delK k m)
  refine a_any ho hg ha fun _ w hw => ?_
  obtain ⟨es, clock, h4, h5, h6⟩ := hw.holds j _ hj1
  have hlt : r < w.heap.size := (Array.getElem?_eq_some_iff.1 h4).1
  obtain ⟨es', hr, he⟩ : ∃ es' : Array MapEntry, (execOp (ev n st) o).run P w = .ok (.value (.tuple #[])) (setBlk w r (.map es' clock)) ∧ es'.toList.map kv = (delK k m).map ik ∧ Stm es' clock := by
    unfold delK
    cases hf : fnd k m 0 with
    | none => exact ⟨es, by simp [execOp, resolve, invoke, builtin, hop, hx, hy, Builtin.delete_, run_underlying h1, MapKept.run_getObj_map h4, run_checkKey h2, run_findKey h2 k _ _ h5, hf, MapKept.run_setObj_map _ h4, Result.andThen, setBlk], h5, h6⟩
    | some q => exact ⟨es.eraseIdxIfInBounds q.1, by simp [execOp, resolve, invoke, builtin, hop, hx, hy, Builtin.delete_, run_underlying h1, MapKept.run_getObj_map h4, run_checkKey h2, run_findKey h2 k _ _ h5, hf, MapKept.run_setObj_map _ h4, Result.andThen, setBlk], by simp [map_eraseIdx, h5], h6.sub (by simpa using List.eraseIdx_sublist es.toList q.1)⟩
  unfold runs
  rw [hr]
  refine ⟨_, hC, ?_, h⟩
  rw [← hj2]
  refine hw.upd j hj1 (chg_setBlk (D := fun b => b = r) rfl) (fun _ _ h => h) _ ⟨_, _, setBlk_at hlt, he⟩ fun b hb => ?_
  obtain rfl : b = r := hb
  exact ⟨by simp [setBlk]; exact hlt, fun _ => rfl⟩
theorem fnd_at (k : Int) : ∀ (m : List (Int × Value)) (i j : Nat) (v : Value), fnd k m i = some (j, v) → i ≤ j ∧ j - i < m.length ∧ m[j - i]? = some (k, v)
  | [], _, _, _, h => by simp [fnd] at h
  | p :: m, i, j, v, h => by
    unfold fnd at h
    split at h
    · rename_i hk
      simp only [Option.some.injEq, Prod.mk.injEq] at h
      obtain ⟨rfl, rfl⟩ := h
      refine ⟨Nat.le_refl _, by simp, ?_⟩
      simp [← hk]
    · obtain ⟨h1, h2, h3⟩ := fnd_at k m (i + 1) j v h
      refine ⟨by omega, by simp; omega, ?_⟩
      rw [show j - i = (j - (i + 1)) + 1 by omega]
      simpa using h3
/-- A key that is there. -/
theorem a_mset {t : TypeId} {z : Value} (hm : MapT P t z) (ho : nthO ops i = some o) (hg : gd ops.toArray n st o = true) (ha : anc i = true) {x y u : Operand} (hop : o.op = .mapUpdate t x y u) {r : Nat} (hx : ev n st x = .map (some r)) {k : Int} (hy : ev n st y = .int .i64 k) {v : Value} (hu : ev n st u = v) {m : List (Int × Value)} {F : List (Int × Value) → List Res} [hj : UpdM H r m F] {q : Nat} {v0 : Value} (hf : fnd k m 0 = some (q, v0))
    (hC : ∀ w, Ok S w0 (F (m.set q (k, v))) w → C w) {st' : Slots} (hs : up o.dst undef st = st') (h : MX P ops C anc R l n st' S w0 (F (m.set q (k, v)))) : MX P ops C anc R (i :: l) n st S w0 H := by
  subst hs hu
  obtain ⟨kt, e, h1, h2, h3⟩ := hm.spec
  obtain ⟨j, hj1, hj2⟩ := hj.upd (m.set q (k, ev n st u))
  refine a_any ho hg ha fun _ w hw => ?_
  obtain ⟨es, clock, h4, h5, h6⟩ := hw.holds j _ hj1
  have hlt : r < w.heap.size := (Array.getElem?_eq_some_iff.1 h4).1
  have hat := fnd_at k m 0 q v0 hf
  have hq : m[q]? = some (k, v0) := by simpa using hat.2.2
  have hmq : (es.toList.map kv)[q]? = some (ik (k, v0)) := by rw [h5, List.getElem?_map, hq]; rfl
  obtain ⟨en, hen, hkv⟩ : ∃ en, es[q]? = some en ∧ kv en = ik (k, v0) := by
    rw [List.getElem?_map] at hmq
    cases hh : es.toList[q]? with
    | none => rw [hh] at hmq; cases hmq
    | some en => rw [hh] at hmq; exact ⟨en, by rw [← hh, Array.getElem?_toList], Option.some.inj hmq⟩
  have hkey : en.key = .int .i64 k := congrArg Prod.fst hkv
  have hst : ∀ w, (Instr.keyThatStays (((es[q]?).map (·.key)).getD (.int .i64 k)) (.int .i64 k)).run P w = .ok (.int .i64 k) w := fun w => by
    rw [hen]
    simp only [Option.map_some, Option.getD_some, hkey]
    simp [Instr.keyThatStays, Instr.sameBits]
  have hr : (execOp (ev n st) o).run P w = .ok .skip (setBlk w r (.map (es.modify q fun e => { e with key := .int .i64 k, val := ev n st u }) clock)) := by
    simp [execOp, hop, hx, hy, Instr.mapUpdate, run_underlying h1, MapKept.run_getObj_map h4, run_checkKey h2, run_findKey h2 k _ _ h5, hf, hst, MapKept.run_setObj_map _ h4, Result.andThen, setBlk]
  unfold runs
  rw [hr]
  refine ⟨_, hC, ?_, h⟩
  rw [← hj2]
  have hqs : q < es.toList.length := by have := (Array.getElem?_eq_some_iff.1 hen).1; simpa using this
  have e1 : (es.modify q fun e => { e with key := .int .i64 k, val := ev n st u }).toList = es.toList.set q { en with key := .int .i64 k, val := ev n st u } := by
    have h0 : es.toList[q]? = some en := by rw [Array.getElem?_toList]; exact hen
    rw [Array.toList_modify]
    refine List.ext_getElem? fun i => ?_
    rw [List.getElem?_modify, List.getElem?_set]
    by_cases hi : q = i
    · subst hi
      have hqs2 : q < es.size := by simpa using hqs
      have h02 : es[q]? = some en := hen
      have h03 : es[q] = en := (Array.getElem?_eq_some_iff.1 hen).2
      simp [h02, hqs2, h03]
    · simp [hi]
  refine hw.upd j hj1 (chg_setBlk (D := fun b => b = r) rfl) (fun _ _ h => h) _ ⟨_, _, setBlk_at hlt, ?_, h6.born ?_⟩ fun b hb => ?_
  · rw [e1, List.map_set, h5, List.map_set]
    rfl
  · rw [e1, List.map_set]
    have h7 : (es.toList.map (·.born))[q]? = some en.born := by rw [List.getElem?_map, Array.getElem?_toList, hen]; rfl
    obtain ⟨h8, h9⟩ := List.getElem?_eq_some_iff.1 h7
    show (es.toList.map (·.born)).set q en.born = _
    rw [← h9]
    exact List.set_getElem_self _
  obtain rfl : b = r := hb
  exact ⟨by simp [setBlk]; exact hlt, fun _ => rfl⟩
end
end Go.Sx
