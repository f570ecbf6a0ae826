/- More steps: comparing with nil, slices opened into their blocks, calls by all that they leave. Plain theorems over any program. -/
import Derived.Test.YtikdbgheefjpkaaFlo
set_option linter.unusedVariables false
set_option linter.unusedSimpArgs false
namespace Go.Sx
open Go.RowKit
section
variable {P : Program} {ops : List Oper} {C : World → Prop} {anc : Nat → Bool} {R : Act → (World → Prop) → Prop} {n : Nat} {st : Slots} {i : Nat} {l : List Nat} {o : Oper} {S : Nat → Prop} {w0 : World} {H HC H' : List Res} {d : Tmp} {Q : Exit → Act → World → Prop} {c : Code} {e : Exit}
/-- '== nil' of a slice. -/
theorem mx_nils (E : Env P) (ho : nthO ops i = some o) (hg : gd ops.toArray n st o = true) {t : TypeId} {x y : Operand} {yt : TypeId} (hop : o.op = .binOp .eql t x y yt) {p : Nat × Nat} (ht : at1 E.sl t = some p) {ad : Option Addr} {m k : Nat} (hx : ev n st x = .slice ad m k) (hy : ev n st y = .slice none 0 0)
    (hd : o.dst = some d) (h : MX P ops C anc R l n ((d, (.bool ad.isNone)) :: st) S w0 H) : MX P ops C anc R (i :: l) n st S w0 H := by
  refine mx_val ho hg (.bool ad.isNone) (fun w => ?_) (by rw [hd]; rfl) h
  obtain ⟨hu, _⟩ := E.sl_spec (e := p.1) (z := p.2) ht
  have hq : (Op.equal t (.slice ad m k) (.slice none 0 0)).run P w = .ok ad.isNone w := by
    unfold Op.equal Op.maxDepth Op.equalIn
    cases ad <;> simp [run_underlying hu]
  simp [execOp, hop, hx, hy, eqGuard, binOp, hq]
theorem mx_nnils (E : Env P) (ho : nthO ops i = some o) (hg : gd ops.toArray n st o = true) {t : TypeId} {x y : Operand} {yt : TypeId} (hop : o.op = .binOp .neq t x y yt) {p : Nat × Nat} (ht : at1 E.sl t = some p) {ad : Option Addr} {m k : Nat} (hx : ev n st x = .slice ad m k) (hy : ev n st y = .slice none 0 0)
    (hd : o.dst = some d) (h : MX P ops C anc R l n ((d, (.bool ad.isSome)) :: st) S w0 H) : MX P ops C anc R (i :: l) n st S w0 H := by
  refine mx_val ho hg (.bool ad.isSome) (fun w => ?_) (by rw [hd]; rfl) h
  obtain ⟨hu, _⟩ := E.sl_spec (e := p.1) (z := p.2) ht
  have hq : (Op.equal t (.slice ad m k) (.slice none 0 0)).run P w = .ok ad.isNone w := by
    unfold Op.equal Op.maxDepth Op.equalIn
    cases ad <;> simp [run_underlying hu]
  simp [execOp, hop, hx, hy, eqGuard, binOp, hq]
def ptrB (P : Program) (t : TypeId) : Bool := match P.underlying t with | some (.pointer _) => true | _ => false
/-- '== nil' of a pointer. -/
theorem mx_nilp (ho : nthO ops i = some o) (hg : gd ops.toArray n st o = true) (ne : Bool) {t : TypeId} {x y : Operand} {yt : TypeId} (hop : o.op = .binOp (if ne then .neq else .eql) t x y yt) (ht : ptrB P t = true) {ad : Option Addr} (hx : ev n st x = .pointer ad) (hy : ev n st y = .pointer none) {b : Bool} (hb : (if ne then ad.isSome else ad.isNone) = b)
    (hd : o.dst = some d) (h : MX P ops C anc R l n ((d, (.bool b)) :: st) S w0 H) : MX P ops C anc R (i :: l) n st S w0 H := by
  subst hb
  refine mx_val ho hg (.bool (if ne then ad.isSome else ad.isNone)) (fun w => ?_) (by rw [hd]; rfl) h
  unfold ptrB at ht
  split at ht
  · rename_i el hu
    have hq : (Op.equal t (.pointer ad) (.pointer none)).run P w = .ok ad.isNone w := by
      unfold Op.equal Op.maxDepth Op.equalIn
      cases ad <;> simp [run_underlying hu]
    cases ne <;> cases ad <;> simp [execOp, hop, hx, hy, eqGuard, binOp, hq]
  · cases ht
theorem Ok.rep {w : World} (h : Ok S w0 H w) (j : Nat) {r : Res} (hj : H[j]? = some r) (r' : Res) (hd : ∀ b, r'.dom b → r.dom b) (hh : r'.holds w) : Ok S w0 (H.set j r') w :=
  h.upd j hj (D := fun _ => False) (Chg.rfl' _ _) (fun _ _ h => h.elim) r' hh fun b hb => ⟨(h.own j r hj b (hd b hb)).1, fun _ => hd b hb⟩
/-- A slice with room is a block with something behind. -/
theorem own_open {w : World} {b cap e z len : Nat} {xs : List Value} (h : (ownd (some ⟨b, 0, none⟩) cap e z len xs).holds w) : ∃ rest, xs.length = len * z ∧ (xs ++ rest).length = cap * z ∧ len ≤ cap ∧ cap ≤ maxLen ∧ (row b e (xs ++ rest)).holds w := by
  rcases h.2 with ⟨hv, hn⟩ | ⟨g, c, cur, hv, hb, hg, h1, h2, h3, h4⟩
  · cases hv
  · obtain ⟨hv1, hv2, hv3⟩ := Value.slice.inj hv
    obtain rfl : b = g := by simpa using hv1
    subst hv3
    refine ⟨cur.toList.drop (len * z), h.1, ?_, h1, h2, ?_⟩
    · rw [← h4, List.take_append_drop, Array.length_toList, h3]
    · show w.heap[b]? = _
      rw [← h4, List.take_append_drop]
      simpa using hg
theorem own_close {w : World} {b cap e z len : Nat} {xs rest : List Value} (hx : xs.length = len * z) (hc : (xs ++ rest).length = cap * z) (h1 : len ≤ cap) (h2 : cap ≤ maxLen) (h : (row b e (xs ++ rest)).holds w) : (ownd (some ⟨b, 0, none⟩) cap e z len xs).holds w :=
  ⟨hx, .inr ⟨b, cap, (xs ++ rest).toArray, rfl, Nat.zero_le _, h, h1, h2, by simpa using hc, by simp [← hx]⟩⟩
/-- What is there is told by some datum. -/
theorem cw_ex {α : Sort _} (HH : α → List Res) (p : α → Prop) (hH : ∀ w, Ok S w0 H w → ∃ x, p x ∧ Ok S w0 (HH x) w) (h : ∀ x, p x → CW P c Q n st S w0 (HH x)) : CW P c Q n st S w0 H := ⟨fun w hw => by
  obtain ⟨x, hp, hx⟩ := hH w hw
  exact (h x hp).run w hx⟩
theorem pw_ex {α : Sort _} (HH : α → List Res) (p : α → Prop) (hH : ∀ w, Ok S w0 H w → ∃ x, p x ∧ Ok S w0 (HH x) w) (h : ∀ x, p x → PW Q e n st S w0 (HH x)) : PW Q e n st S w0 H := ⟨fun w hw => by
  obtain ⟨x, hp, hx⟩ := hH w hw
  exact (h x hp).run w hx⟩
theorem pw_know {p : Prop} (hp : ∀ w, Ok S w0 H w → p) (h : p → PW Q e n st S w0 H) : PW Q e n st S w0 H := ⟨fun w hw => (h (hp w hw)).run w hw⟩
theorem ok_open {w : World} {b cap e z len : Nat} {xs : List Value} (j : Nat) (hj : H[j]? = some (ownd (some ⟨b, 0, none⟩) cap e z len xs)) (h : Ok S w0 H w) : ∃ rest, (xs.length = len * z ∧ (xs ++ rest).length = cap * z ∧ len ≤ cap ∧ cap ≤ maxLen) ∧ Ok S w0 (H.set j (row b e (xs ++ rest))) w := by
  obtain ⟨rest, h1, h2, h3, h4, h5⟩ := own_open (h.holds j _ hj)
  exact ⟨rest, ⟨h1, h2, h3, h4⟩, h.rep j hj _ (fun k hk => by obtain rfl : k = b := hk; rfl) h5⟩
theorem ok_close {w : World} {b cap e z len : Nat} {xs rest : List Value} (j : Nat) (hj : H[j]? = some (row b e (xs ++ rest))) (hx : xs.length = len * z) (hc : (xs ++ rest).length = cap * z) (h1 : len ≤ cap) (h2 : cap ≤ maxLen) (h : Ok S w0 H w) : Ok S w0 (H.set j (ownd (some ⟨b, 0, none⟩) cap e z len xs)) w :=
  h.rep j hj _ (fun k hk => by
    have : (Value.slice (some ⟨b, 0, none⟩) len cap).ownBlock = some k := hk
    simp [Value.ownBlock] at this
    exact this.symm) (own_close hx hc h1 h2 (h.holds j _ hj))
/-! ### Calls by all that they leave -/
def domL (L : List Res) : Nat → Prop := fun b => ∃ (j : Nat) (r : Res), L[j]? = some r ∧ r.dom b
theorem Ok.enterL {w : World} {L : List Res} (h : Ok S w0 (L ++ H) w) : Ok (domL L) w L w := by
  have g : ∀ (j : Nat) (r : Res), L[j]? = some r → (L ++ H)[j]? = some r := fun j r hj => by rw [List.getElem?_append_left (List.getElem?_eq_some_iff.1 hj).1]; exact hj
  exact ⟨Chg.rfl' _ _, fun j r hj => h.holds j r (g j r hj), fun j r hj b hb => ⟨(h.own j r (g j r hj) b hb).1, fun _ => ⟨j, r, hj, hb⟩⟩, fun j k r r' hj hk hne => h.sep j k r r' (g j r hj) (g k r' hk) hne⟩
theorem Ok.backL {w w' : World} {L L' : List Res} (h : Ok S w0 (L ++ H) w) (hr : Ok (domL L) w L' w') : Ok S w0 (L' ++ H) w' := by
  have gl : ∀ (j : Nat) (r : Res), L[j]? = some r → (L ++ H)[j]? = some r := fun j r hj => by rw [List.getElem?_append_left (List.getElem?_eq_some_iff.1 hj).1]; exact hj
  have gr : ∀ (j : Nat) (r : Res), H[j]? = some r → (L ++ H)[L.length + j]? = some r := fun j r hj => by rw [List.getElem?_append_right (by omega)]; simpa using hj
  have key : ∀ (j : Nat) (r : Res), (L' ++ H)[j]? = some r → (j < L'.length ∧ L'[j]? = some r) ∨ (L'.length ≤ j ∧ H[j - L'.length]? = some r) := fun j r hj => by
    by_cases hl : j < L'.length
    · rw [List.getElem?_append_left hl] at hj; exact .inl ⟨hl, hj⟩
    · rw [List.getElem?_append_right (by omega)] at hj; exact .inr ⟨by omega, hj⟩
  have hapart : ∀ (j : Nat) (r : Res), H[j]? = some r → ∀ b, r.dom b → ¬ domL L b := fun j r hj b hb ⟨k, r', hk, hb'⟩ => h.sep (L.length + j) k r r' (gr j r hj) (gl k r' hk) (by have := (List.getElem?_eq_some_iff.1 hk).1; omega) b hb hb'
  have hdl : ∀ b, domL L b → b < w0.heap.size → S b := fun b ⟨k, r', hk, hb'⟩ hl => (h.own k r' (gl k r' hk) b hb').2 hl
  have hsz := h.keep.size
  have hsz' := hr.keep.size
  refine ⟨⟨hr.keep.os.trans h.keep.os, hr.keep.tape.trans h.keep.tape, hr.keep.output.trans h.keep.output, Nat.le_trans hsz hsz', fun k hk hn => (hr.keep.old k (Nat.lt_of_lt_of_le hk hsz) fun hd => hn (hdl k hd hk)).trans (h.keep.old k hk hn)⟩, fun j r hj => ?_, fun j r hj b hb => ?_, fun j k r r' hj hk hne b hb hb' => ?_⟩
  · rcases key j r hj with ⟨_, hj⟩ | ⟨_, hj⟩
    · exact hr.holds j r hj
    · exact r.loc w w' (fun b hb => hr.keep.old b (h.own _ r (gr _ r hj) b hb).1 (hapart _ r hj b hb)) (h.holds _ r (gr _ r hj))
  · rcases key j r hj with ⟨_, hj⟩ | ⟨_, hj⟩
    · obtain ⟨h1, h2⟩ := hr.own j r hj b hb
      exact ⟨h1, fun hl => hdl b (h2 (Nat.lt_of_lt_of_le hl hsz)) hl⟩
    · obtain ⟨h1, h2⟩ := h.own _ r (gr _ r hj) b hb
      exact ⟨Nat.lt_of_lt_of_le h1 hsz', h2⟩
  · rcases key j r hj with ⟨l1, hj⟩ | ⟨l1, hj⟩ <;> rcases key k r' hk with ⟨l2, hk⟩ | ⟨l2, hk⟩
    · exact hr.sep j k r r' hj hk hne b hb hb'
    · have h1 := (h.own _ r' (gr _ r' hk) b hb').1
      exact hapart _ r' hk b hb' ((hr.own j r hj b hb).2 h1)
    · have h1 := (h.own _ r (gr _ r hj) b hb).1
      exact hapart _ r hj b hb ((hr.own k r' hk b hb').2 h1)
    · exact h.sep _ _ r r' (gr _ r hj) (gr _ r' hk) (by omega) b hb hb'
/-- Of a call that wrote nothing old, as a call that leaves resources. -/
theorem a_callL (ho : nthO ops i = some o) (hg : gd ops.toArray n st o = true) (ha : anc i = true) {f : FuncId} {xs : Array Operand} {ts : Array TypeId} (hop : o.op = .call { callee := .value (.func f), args := xs, argTypes := ts }) {fn : Func} (hf : P.funcs[f]? = some fn) (hb : fn.body.isSome = true) (hn : (fn.name == "runtime.NumGoroutine") = false) {args : List Value} (hx : xs.toList.map (ev n st) = args)
    (L H2 : List Res) (hH : H = L ++ H2) {α : Type} (v : α → Value) (L' : α → List Res) (hc : ∀ w, Ok S w0 H w → Ok (domL L) w L w → Calls P f args.toArray w fun e w' => ∃ a, e = .returned (v a) ∧ Ok (domL L) w (L' a) w') {st' : α → Slots} (hs : ∀ a, up o.dst (v a) st = st' a)
    (hC : ∀ a w, Ok S w0 (L' a ++ H2) w → C w) (h : ∀ a, MX P ops C anc R l n (st' a) S w0 (L' a ++ H2)) : MX P ops C anc R (i :: l) n st S w0 H := by
  subst hH
  refine a_call ho hg ha hop hf hb hn hx fun hC' w hw => (hc w hw hw.enterL).mono fun e w' ⟨a, h1, h2⟩ => ⟨_, h1, _, hC a, hw.backL h2, by rw [hs]; exact h a⟩
theorem mix_weak {W W' : World → Prop} (hW : ∀ w, W w → W' w) : ∀ (l : List Nat) (a : Act), mix P ops.toArray C anc (RW Q) l a W' → mix P ops.toArray C anc (RW Q) l a W
  | [], a, h => fun w hw => h w (hW w hw)
  | i :: l, a, h => by
    simp only [mix] at h ⊢
    cases ho : ops.toArray[i]? with
    | none => simp only [ho] at h ⊢; exact mix_weak hW l a h
    | some o =>
      simp only [ho] at h ⊢
      split
      · rename_i hg
        simp only [hg, if_true] at h
        split
        · rename_i ha
          simp only [ha, if_true] at h
          exact fun w hw => h w (hW w hw)
        · rename_i ha
          simp only [ha] at h
          obtain ⟨v, h1, h2⟩ := h
          exact ⟨v, h1, mix_weak hW l _ h2⟩
      · rename_i hg
        simp only [hg] at h
        exact mix_weak hW l _ h
/-- What is known may be told otherwise, within a region too. -/
theorem mx_weak (hW : ∀ w, Ok S w0 H w → Ok S w0 H' w) (hC : ∀ w, Ok S w0 H' w → C w) (h : MX P ops C anc (RW Q) l n st S w0 H') : MX P ops C anc (RW Q) l n st S w0 H := ⟨fun _ => mix_weak hW l _ (h.run hC)⟩
/-- What stood in a block when the walk began, and is not written by it. -/
theorem Ok.orow {w : World} {b T : Nat} {vs : List Value} (h : Ok S w0 H w) (hr : (row b T vs).holds w0) (hS : ¬ S b) : (row b T vs).holds w := by
  have hb : w0.heap[b]? = some (.cells vs.toArray T (0, 0)) := hr
  exact (h.keep.old b (Array.getElem?_eq_some_iff.1 hb).1 hS).trans hb
class OldsR (C : World → Prop) (anc : Nat → Bool) (S : Nat → Prop) (w0 : World) : Prop where
  olds : (∀ i, anc i = true) ∨ ∀ w, C w → ∀ (b T : Nat) (vs : List Value), (row b T vs).holds w0 → ¬ S b → (row b T vs).holds w
instance OldsR.line {C : World → Prop} {S : Nat → Prop} {w0 : World} : OldsR C (fun _ => true) S w0 := ⟨.inl fun _ => rfl⟩
instance OldsR.draw {anc : Nat → Bool} {S : Nat → Prop} {w0 : World} {HC : List Res} : OldsR (Ok S w0 HC) anc S w0 := ⟨.inr fun w hw b T vs h hs => hw.orow h hs⟩
theorem mx_orow (E : Env P) (ho : nthO ops i = some o) (hg : gd ops.toArray n st o = true) {t : TypeId} {x : Operand} (hop : o.op = .load t x) (ht : has1 E.one t = true) {b off : Nat} (hx : ev n st x = .pointer (some ⟨b, off, none⟩)) {T : Nat} {vs : List Value} (hr : (row b T vs).holds w0) (hS : ¬ S b) {v : Value} (hc : vs[off]? = some v) [hO : OldsR C anc S w0]
    (hd : o.dst = some d) (h : MX P ops C anc R l n ((d, v) :: st) S w0 H) : MX P ops C anc R (i :: l) n st S w0 H :=
  get_val ho hg v (hO.olds.imp (fun hh => ⟨hh, fun w hw => load1_run E hop ht hx (row_cell (hw.orow hr hS) hc)⟩) (fun hh w hw => load1_run E hop ht hx (row_cell (hh w hw b T vs hr hS) hc))) hd h
theorem mx_orown (E : Env P) (ho : nthO ops i = some o) (hg : gd ops.toArray n st o = true) {t : TypeId} {x : Operand} (hop : o.op = .load t x) {m : Nat} (ht : at0 E.agg t = some m) {b off : Nat} (hx : ev n st x = .pointer (some ⟨b, off, none⟩)) {T : Nat} {vs : List Value} (hr : (row b T vs).holds w0) (hS : ¬ S b) {us : List Value} (hv : Vr vs off m us) [hO : OldsR C anc S w0]
    (hd : o.dst = some d) (h : MX P ops C anc R l n ((d, .agg us.toArray) :: st) S w0 H) : MX P ops C anc R (i :: l) n st S w0 H := by
  have key : ∀ w, (row b T vs).holds w → (execOp (ev n st) o).run P w = .ok (.value (.agg us.toArray)) w := fun w hw => loadn_run E hop ht hx hv.len fun j v hj => by rw [add_at]; exact row_cell hw (hv.vw.get hj)
  exact get_val ho hg _ (hO.olds.imp (fun hh => ⟨hh, fun w hw => key w (hw.orow hr hS)⟩) (fun hh w hw => key w (hh w hw b T vs hr hS))) hd h
theorem Ok.grow_of {w : World} (h : Ok (fun _ => False) w0 H w) : Grow w0 w := h.keep.grow
/-- Where a slice begins that was cut. -/
def sla (ad : Option Addr) (cap p z : Nat) : Option Addr := if cap = p then ad else ad.map fun a => a.add (p * z)
theorem mx_slice_lo (E : Env P) (ho : nthO ops i = some o) (hg : gd ops.toArray n st o = true) {t : TypeId} {x : Operand} {lo : Operand} (hop : o.op = .slice t x (some lo) none none) {ad : Option Addr} {len cap : Nat} (hx : ev n st x = .slice ad len cap) {kl : IntKind} {p : Nat} (hlo : ev n st lo = .int kl (p : Int)) {e z : Nat} (ht : at1 E.sl t = some (e, z)) (h1 : p ≤ len)
    (hd : o.dst = some d) (h : MX P ops C anc R l n ((d, .slice (sla ad cap p z) (len - p) (cap - p)) :: st) S w0 H) : MX P ops C anc R (i :: l) n st S w0 H := by
  refine mx_val ho hg (.slice (sla ad cap p z) (len - p) (cap - p)) (fun w => ?_) (by rw [hd]; rfl) h
  obtain ⟨hu, ii, hi, hz⟩ := E.sl_spec ht
  simp [execOp, hop, hx, hlo, Instr.sliceAt, Instr.slice, run_underlying hu, Instr.sliceBounds, run_sliceBound, sizeOf, typeInfo, hi, hz, h1, sla]
theorem mx_slice_lohi (E : Env P) (ho : nthO ops i = some o) (hg : gd ops.toArray n st o = true) {t : TypeId} {x : Operand} {lo hi : Operand} (hop : o.op = .slice t x (some lo) (some hi) none) {ad : Option Addr} {len cap : Nat} (hx : ev n st x = .slice ad len cap) {kl kh : IntKind} {p q : Nat} (hlo : ev n st lo = .int kl (p : Int)) (hhi : ev n st hi = .int kh (q : Int)) {e z : Nat} (ht : at1 E.sl t = some (e, z)) (h1 : p ≤ q) (h2 : q ≤ cap)
    (hd : o.dst = some d) (h : MX P ops C anc R l n ((d, .slice (sla ad cap p z) (q - p) (cap - p)) :: st) S w0 H) : MX P ops C anc R (i :: l) n st S w0 H := by
  refine mx_val ho hg (.slice (sla ad cap p z) (q - p) (cap - p)) (fun w => ?_) (by rw [hd]; rfl) h
  obtain ⟨hu, ii, hi, hz⟩ := E.sl_spec ht
  simp [execOp, hop, hx, hlo, hhi, Instr.sliceAt, Instr.slice, run_underlying hu, Instr.sliceBounds, run_sliceBound, sizeOf, typeInfo, hi, hz, h1, h2, sla]
theorem InL.drop {α : Type} {w : World} {ad : Option Addr} {z : Nat} {c : α → List Value} {xs : List α} (h : InL w ad z c xs) (cap p : Nat) (hl : xs.length ≤ cap) : InL w (sla ad cap p z) z c (xs.drop p) := fun hne => by
  have hp : p < xs.length := by
    rcases Nat.lt_or_ge p xs.length with h | h
    · exact h
    · exact absurd (List.drop_of_length_le h) hne
  obtain ⟨b, off, e, hc⟩ := h (by intro e; subst e; simp at hp)
  subst e
  refine ⟨b, off + p * z, by unfold sla; rw [if_neg (by omega)]; simp [add_at], fun i x hx k v hk => ?_⟩
  rw [List.getElem?_drop] at hx
  have := hc (p + i) x hx k v hk
  rw [Nat.add_mul] at this
  have e : off + p * z + i * z + k = off + (p * z + i * z) + k := by omega
  rw [e]
  exact this
/-- The beginning of a block. -/
theorem row_pre {α : Type} {w : World} {b T z : Nat} {c : α → List Value} {xs : List α} {rest : List Value} (hz : ∀ x, (c x).length = z) (h : (row b T (xs.flatMap c ++ rest)).holds w) : InL w (some ⟨b, 0, none⟩) z c xs := fun _ => ⟨b, 0, rfl, fun i x hx k v hk => by
  refine row_cell h ?_
  have hkz : k < z := by rw [← hz x]; exact (List.getElem?_eq_some_iff.1 hk).1
  have h1 := flatMap_at hz xs i k x hx hkz
  rw [Nat.zero_add, List.getElem?_append_left, h1]
  · exact hk
  · have := (List.getElem?_eq_some_iff.1 (h1.trans hk)).1
    exact this⟩
/-- What is copied may be nothing. -/
theorem a_copyS (E : Env P) (ho : nthO ops i = some o) (hg : gd ops.toArray n st o = true) (ha : anc i = true) {t t' : TypeId} {x y : Operand} (hop : o.op = .call { callee := .builtin .copy, args := #[x, y], argTypes := #[t, t'] }) {b off dl dc : Nat} {ads : Option Addr} {sl sc : Nat} (hx : ev n st x = .slice (some ⟨b, off, none⟩) dl dc) (hy : ev n st y = .slice ads sl sc) {e z : Nat} (ht : at1 E.sl t = some (e, z))
    (us : List Value) (hl : us.length = Nat.min sl dl * z) (hsrc : ∀ w, Ok S w0 H w → Src w ads us) (h1 : us.all (·.oneCell') = true) {T : TypeId} {vs vs' : List Value} {F : List Value → List Res} [hj : UpdR H b T vs F] (hvs : Sp vs off us vs')
    (hC : ∀ w, Ok S w0 (F vs') w → C w) {st' : Slots} (hs : up o.dst (.int .i64 (Nat.min sl dl : Nat)) st = st') (h : MX P ops C anc R l n st' S w0 (F vs')) : MX P ops C anc R (i :: l) n st S w0 H := by
  subst hs
  obtain ⟨j, hj1, hj2⟩ := hj.upd vs'
  obtain ⟨hle, rfl⟩ := hvs
  refine a_any ho hg ha fun _ w hw => ?_
  obtain ⟨w', hr, hok⟩ := hw.store j hj1 hle P (fun v hv => by simpa using List.all_eq_true.1 h1 v hv)
  obtain ⟨hu, ii, hi, hz⟩ := E.sl_spec ht
  have hf : (Builtin.firstCells z (Nat.min sl dl) (.slice ads sl sc)).run P w = .ok us.toArray w := by
    by_cases hne : us = []
    · subst hne
      have h0 : Nat.min sl dl * z = 0 := by simpa using hl.symm
      cases ads with
      | none => rfl
      | some a => simp [Builtin.firstCells, loadCells, loadCellsFrom, h0]
    · obtain ⟨b', off', e', hc⟩ := hsrc w hw hne
      subst e'
      have hld := run_loadCells_list (P := P) w ⟨b', off', none⟩ us hc
      rw [hl] at hld
      simp [Builtin.firstCells, hld]
  have hr' : (execOp (ev n st) o).run P w = .ok (.value (.int .i64 (Nat.min sl dl : Nat))) w' := by
    simp [execOp, hop, resolve, invoke, builtin, hx, hy, Builtin.copy_, run_underlying hu, Builtin.lenOf, sizeOf, typeInfo, hi, hz, hf, hr, goInt]
  unfold runs
  rw [hr']
  rw [hj2] at hok
  exact ⟨_, hC, hok, h⟩
theorem eqs_self {ks : List LK} {xs : List Value} [fx : Fits ks xs] : eqs xs xs = true := (eqs_of (ks := ks)).2 rfl
theorem mx_eqs (ho : nthO ops i = some o) (hg : gd ops.toArray n st o = true) {t : TypeId} {x y : Operand} {yt : TypeId} (hop : o.op = .binOp .eql t x y yt) {xs : List Value} (hx : ev n st x = .agg xs.toArray) (hy : ev n st y = .agg xs.toArray) {ks : List LK} [hf : FlatT P t ks] [fx : Fits ks xs]
    (hd : o.dst = some d) (h : MX P ops C anc R l n ((d, .bool true) :: st) S w0 H) : MX P ops C anc R (i :: l) n st S w0 H :=
  mx_eq ho hg hop hx hy hd (by rw [eqs_self (ks := ks)]; exact h)
theorem mx_nes (ho : nthO ops i = some o) (hg : gd ops.toArray n st o = true) {t : TypeId} {x y : Operand} {yt : TypeId} (hop : o.op = .binOp .neq t x y yt) {xs : List Value} (hx : ev n st x = .agg xs.toArray) (hy : ev n st y = .agg xs.toArray) {ks : List LK} [hf : FlatT P t ks] [fx : Fits ks xs]
    (hd : o.dst = some d) (h : MX P ops C anc R l n ((d, .bool false) :: st) S w0 H) : MX P ops C anc R (i :: l) n st S w0 H :=
  mx_ne ho hg hop hx hy hd (by rw [eqs_self (ks := ks)]; exact h)
end
end Go.Sx
