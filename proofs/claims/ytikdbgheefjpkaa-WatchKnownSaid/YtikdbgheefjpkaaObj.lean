/- Objects: many resources as one; resources in whatever order; lists that are only read; function values: made and called. Plain theorems over any program. -/
import Derived.Test.YtikdbgheefjpkaaMo2
set_option linter.unusedVariables false
set_option linter.unusedSimpArgs false
namespace Go.Sx
open Go.RowKit
section
variable {P : Program} {ops : List Oper} {C : World → Prop} {anc : Nat → Bool} {R : Act → (World → Prop) → Prop} {n : Nat} {st : Slots} {i : Nat} {l : List Nat} {o : Oper} {S : Nat → Prop} {w0 : World} {H HC H' : List Res} {d : Tmp} {Q : Exit → Act → World → Prop} {c : Code} {e : Exit}
def disj (r r' : Res) : Prop := ∀ b, r.dom b → ¬ r'.dom b
theorem disj_symm {r r' : Res} (h : disj r r') : disj r' r := fun b hb hb' => h b hb' hb
theorem Ok.pairs {w : World} (h : Ok S w0 H w) : H.Pairwise disj :=
  List.pairwise_iff_getElem.2 fun i j hi hj hij b hb hb' => h.sep i j _ _ (List.getElem?_eq_getElem hi) (List.getElem?_eq_getElem hj) (by omega) b hb hb'
theorem sep_of {H : List Res} (h : H.Pairwise disj) : ∀ (i j : Nat) (r r' : Res), H[i]? = some r → H[j]? = some r' → i ≠ j → ∀ b, r.dom b → ¬ r'.dom b := fun i j r r' hi hj hne b hb hb' => by
  obtain ⟨h1, rfl⟩ := List.getElem?_eq_some_iff.1 hi
  obtain ⟨h2, rfl⟩ := List.getElem?_eq_some_iff.1 hj
  rcases Nat.lt_or_gt_of_ne hne with h3 | h3
  · exact List.pairwise_iff_getElem.1 h i j h1 h2 h3 b hb hb'
  · exact List.pairwise_iff_getElem.1 h j i h2 h1 h3 b hb' hb
theorem Ok.mem {w : World} (h : Ok S w0 H w) {r : Res} (hr : r ∈ H) : r.holds w := by
  obtain ⟨i, hi, rfl⟩ := List.mem_iff_getElem.1 hr
  exact h.holds i _ (List.getElem?_eq_getElem hi)
theorem Ok.memo {w : World} (h : Ok S w0 H w) {r : Res} (hr : r ∈ H) : ∀ b, r.dom b → b < w.heap.size ∧ (b < w0.heap.size → S b) := by
  obtain ⟨i, hi, rfl⟩ := List.mem_iff_getElem.1 hr
  exact h.own i _ (List.getElem?_eq_getElem hi)
theorem Ok.of {w : World} (hk : Chg S w0 w) (hh : ∀ r ∈ H, r.holds w) (ho : ∀ r ∈ H, ∀ b, r.dom b → b < w.heap.size ∧ (b < w0.heap.size → S b)) (hp : H.Pairwise disj) : Ok S w0 H w :=
  ⟨hk, fun i r hi => hh r (List.mem_of_getElem? hi), fun i r hi => ho r (List.mem_of_getElem? hi), sep_of hp⟩
/-- In whatever order. -/
theorem Ok.perm {w : World} (h : Ok S w0 H w) (p : H.Perm H') : Ok S w0 H' w :=
  .of h.keep (fun r hr => h.mem (p.mem_iff.2 hr)) (fun r hr => h.memo (p.mem_iff.2 hr)) ((p.pairwise_iff (fun h => disj_symm h)).1 h.pairs)
theorem Ok.sub {w : World} (h : Ok S w0 H w) (p : H'.Sublist H) : Ok S w0 H' w :=
  .of h.keep (fun r hr => h.mem (p.subset hr)) (fun r hr => h.memo (p.subset hr)) (h.pairs.sublist p)
/-- Many as one. -/
def star (L : List Res) : Res where
  dom := domL L
  holds := fun w => (∀ r ∈ L, r.holds w) ∧ L.Pairwise disj
  loc := fun w w' h hh => ⟨fun r hr => r.loc w w' (fun b hb => by
    obtain ⟨i, hi, rfl⟩ := List.mem_iff_getElem.1 hr
    exact h b ⟨i, _, List.getElem?_eq_getElem hi, hb⟩) (hh.1 r hr), hh.2⟩
theorem domL_of {L : List Res} {r : Res} (hr : r ∈ L) {b : Nat} (hb : r.dom b) : domL L b := by
  obtain ⟨i, hi, rfl⟩ := List.mem_iff_getElem.1 hr
  exact ⟨i, _, List.getElem?_eq_getElem hi, hb⟩
theorem domL_mem {L : List Res} {b : Nat} (h : domL L b) : ∃ r ∈ L, r.dom b := by
  obtain ⟨i, r, hi, hb⟩ := h
  exact ⟨r, List.mem_of_getElem? hi, hb⟩
theorem Ok.star {w : World} {L : List Res} (h : Ok S w0 (L ++ H) w) : Ok S w0 (Sx.star L :: H) w := by
  have hp := List.pairwise_append.1 h.pairs
  refine .of h.keep (fun r hr => ?_) (fun r hr b hb => ?_) (List.pairwise_cons.2 ⟨fun r hr b hb hb' => ?_, hp.2.1⟩)
  · rcases List.mem_cons.1 hr with rfl | hr
    · exact ⟨fun r hr => h.mem (List.mem_append_left _ hr), hp.1⟩
    · exact h.mem (List.mem_append_right _ hr)
  · rcases List.mem_cons.1 hr with rfl | hr
    · obtain ⟨r, hr, hb⟩ := domL_mem hb
      exact h.memo (List.mem_append_left _ hr) b hb
    · exact h.memo (List.mem_append_right _ hr) b hb
  · obtain ⟨q, hq, hb⟩ := domL_mem hb
    exact hp.2.2 q hq r hr b hb hb'
theorem Ok.unstar {w : World} {L : List Res} (h : Ok S w0 (Sx.star L :: H) w) : Ok S w0 (L ++ H) w := by
  have h1 := h.mem (r := Sx.star L) (by simp)
  have hp := List.pairwise_cons.1 h.pairs
  refine .of h.keep (fun r hr => ?_) (fun r hr b hb => ?_) (List.pairwise_append.2 ⟨h1.2, hp.2, fun r hr q hq b hb hb' => hp.1 q hq b (domL_of hr hb) hb'⟩)
  · rcases List.mem_append.1 hr with hr | hr
    · exact h1.1 r hr
    · exact h.mem (List.mem_cons_of_mem _ hr)
  · rcases List.mem_append.1 hr with hr | hr
    · exact h.memo (r := Sx.star L) (by simp) b (domL_of hr hb)
    · exact h.memo (List.mem_cons_of_mem _ hr) b hb
theorem star_holds {w : World} {L : List Res} (h : (Sx.star L).holds w) {r : Res} (hr : r ∈ L) : r.holds w := h.1 r hr
/-- Two as one. -/
theorem Ok.merge {w : World} {r1 r2 r : Res} (h : Ok S w0 (r1 :: r2 :: H) w) (hd : ∀ b, r.dom b → r1.dom b ∨ r2.dom b) (hh : r.holds w) : Ok S w0 (r :: H) w := by
  have hp := List.pairwise_cons.1 h.pairs
  have hp2 := List.pairwise_cons.1 hp.2
  refine .of h.keep (fun x hx => ?_) (fun x hx b hb => ?_) (List.pairwise_cons.2 ⟨fun x hx b hb hb' => ?_, hp2.2⟩)
  · rcases List.mem_cons.1 hx with rfl | hx
    · exact hh
    · exact h.mem (by simp [hx])
  · rcases List.mem_cons.1 hx with rfl | hx
    · rcases hd b hb with h1 | h1
      · exact h.memo (r := r1) (by simp) b h1
      · exact h.memo (r := r2) (by simp) b h1
    · exact h.memo (by simp [hx]) b hb
  · rcases hd b hb with h1 | h1
    · exact hp.1 x (by simp [hx]) b h1 hb'
    · exact hp2.1 x hx b h1 hb'
/-- A call on objects: 'L' is what it may change. -/
theorem a_calls (ho : nthO ops i = some o) (hg : gd ops.toArray n st o = true) (ha : anc i = true) {f : FuncId} {xs : Array Operand} {ts : Array TypeId} (hop : o.op = .call { callee := .value (.func f), args := xs, argTypes := ts }) {fn : Func} (hf : P.funcs[f]? = some fn) (hb : fn.body.isSome = true) (hn : (fn.name == "runtime.NumGoroutine") = false) {args : List Value} (hx : xs.toList.map (ev n st) = args)
    (L H2 : List Res) (hH : ∀ w, Ok S w0 H w → Ok S w0 (L ++ H2) w) {α : Type} (v : α → Value) (L' : α → List Res) (hc : ∀ w, Ok S w0 (L ++ H2) w → Ok (domL L) w L w → Calls P f args.toArray w fun e w' => ∃ a, e = .returned (v a) ∧ Ok (domL L) w (L' a) w') {st' : α → Slots} (hs : ∀ a, up o.dst (v a) st = st' a)
    (hC : ∀ a w, Ok S w0 (L' a ++ H2) w → C w) (h : ∀ a, MX P ops C anc R l n (st' a) S w0 (L' a ++ H2)) : MX P ops C anc R (i :: l) n st S w0 H :=
  a_call ho hg ha hop hf hb hn hx fun hC' w hw => (hc w (hH w hw) (hH w hw).enterL).mono fun e w' ⟨a, h1, h2⟩ => ⟨_, h1, _, hC a, (hH w hw).backL h2, by rw [hs]; exact h a⟩
theorem InL.keep' {α : Type} {ad : Option Addr} {z : Nat} {c : α → List Value} {xs : List α} {w : World} (hl : InL w0 ad z c xs) (h : Ok S w0 H w) (hS : xs ≠ [] → ∀ b off, ad = some ⟨b, off, none⟩ → ¬ S b) : InL w ad z c xs := fun hne => hl.keep h (hS hne) hne
theorem set_perm {α : Type} (x : α) : ∀ (H : List α) (j : Nat), j < H.length → (x :: H.eraseIdx j).Perm (H.set j x)
  | [], j, h => by simp at h
  | y :: H, 0, _ => by simp
  | y :: H, j + 1, h => by
    simp only [List.eraseIdx_cons_succ, List.set_cons_succ]
    exact (List.Perm.swap y x _).trans ((set_perm x H j (by simpa using h)).cons y)
/-- A call on an object that stands among others. -/
theorem a_callo (ho : nthO ops i = some o) (hg : gd ops.toArray n st o = true) (ha : anc i = true) {f : FuncId} {xs : Array Operand} {ts : Array TypeId} (hop : o.op = .call { callee := .value (.func f), args := xs, argTypes := ts }) {fn : Func} (hf : P.funcs[f]? = some fn) (hb : fn.body.isSome = true) (hn : (fn.name == "runtime.NumGoroutine") = false) {args : List Value} (hx : xs.toList.map (ev n st) = args)
    (j : Nat) {L : List Res} (hj : H[j]? = some (Sx.star L)) {α : Type} (v : α → Value) (N L' : α → List Res) (hc : ∀ w, Ok S w0 H w → Ok (domL L) w L w → Calls P f args.toArray w fun e w' => ∃ a, e = .returned (v a) ∧ Ok (domL L) w (N a ++ L' a) w') {st' : α → Slots} (hs : ∀ a, up o.dst (v a) st = st' a)
    (hC : ∀ a w, Ok S w0 (N a ++ H.set j (Sx.star (L' a))) w → C w) (h : ∀ a, MX P ops C anc R l n (st' a) S w0 (N a ++ H.set j (Sx.star (L' a)))) : MX P ops C anc R (i :: l) n st S w0 H := by
  have hjl : j < H.length := (List.getElem?_eq_some_iff.1 hj).1
  have hself : H.set j (Sx.star L) = H := by
    obtain ⟨h1, h2⟩ := List.getElem?_eq_some_iff.1 hj
    rw [← h2]
    exact List.set_getElem_self h1
  refine a_call ho hg ha hop hf hb hn hx fun hC' w hw => ?_
  have h1 : Ok S w0 (L ++ H.eraseIdx j) w := (hw.perm (H' := Sx.star L :: H.eraseIdx j) (by
    have := set_perm (Sx.star L) H j hjl
    rw [hself] at this
    exact this.symm)).unstar
  refine (hc w hw h1.enterL).mono fun e w' ⟨a, h2, h3⟩ => ⟨_, h2, _, hC a, ?_, by rw [hs]; exact h a⟩
  have h4 := h1.backL h3
  have h5 : Ok S w0 (L' a ++ (N a ++ H.eraseIdx j)) w' := h4.perm (by
    rw [List.append_assoc]
    exact List.perm_append_comm_assoc _ _ _)
  exact h5.star.perm ((List.perm_middle (l₁ := N a) (l₂ := H.eraseIdx j) (a := Sx.star (L' a))).symm.trans ((set_perm _ H j hjl).append_left (N a)))
/-- Entering with objects. -/
theorem Ok.one' {w : World} {L : List Res} (h : Ok (domL L) w L w) : Ok (domL L) w L w := h
theorem Ok.keepL {w w' : World} {L L' : List Res} (h : Ok (domL L) w L' w') (hg : Chg (fun _ => False) w w') : Grow w w' := hg.grow
/-! ### Function values -/
theorem mx_fn (ho : nthO ops i = some o) (hg : gd ops.toArray n st o = true) {fnm : Fn} {fs cs : Array Operand} (hop : o.op = .makeFunc fnm fs cs) {vf vc : List Value} (hf : fs.toList.map (ev n st) = vf) (hc : cs.toList.map (ev n st) = vc)
    (hd : o.dst = some d) (h : MX P ops C anc R l n ((d, .func fnm vf.toArray vc.toArray) :: st) S w0 H) : MX P ops C anc R (i :: l) n st S w0 H := by
  subst hf hc
  refine mx_val ho hg _ (fun w => ?_) (by rw [hd]; rfl) h
  have e1 : fs.map (ev n st) = (fs.toList.map (ev n st)).toArray := Array.ext' (by simp)
  have e2 : cs.map (ev n st) = (cs.toList.map (ev n st)).toArray := Array.ext' (by simp)
  simp [execOp, hop, Instr.makeFunc, e1, e2]
theorem fcall_runs {f : FuncId} {y : Operand} {xs : Array Operand} {ts : Array TypeId} (hop : o.op = .call { callee := .value y, args := xs, argTypes := ts }) {vf vc : List Value} (hy : ev n st y = .func (.func f) vf.toArray vc.toArray) {fn : Func} (hf : P.funcs[f]? = some fn) (hb : fn.body.isSome = true) (hn : (fn.name == "runtime.NumGoroutine") = false) {args : List Value} (hx : vf ++ (xs.toList.map (ev n st) ++ vc) = args) {w : World} {K : Value → World → Prop}
    (h : Calls P f args.toArray w fun e w' => ∃ v, e = .returned v ∧ K v w') : runs P o (ev n st) w K := by
  have hb' : ¬ fn.body = none := by intro hq; simp [hq] at hb
  have hn' : ¬ fn.name = "runtime.NumGoroutine" := by simpa using hn
  have hr : (execOp (ev n st) o).run P w = .ok (.enter f args.toArray) w := by
    subst hx
    simp [execOp, hop, resolve, hy, Deferred.ofValue, invoke, callFunc, hf, hb', hn']
  unfold runs
  rw [hr]
  exact h
theorem a_fcall (ho : nthO ops i = some o) (hg : gd ops.toArray n st o = true) (ha : anc i = true) {f : FuncId} {y : Operand} {xs : Array Operand} {ts : Array TypeId} (hop : o.op = .call { callee := .value y, args := xs, argTypes := ts }) {vf vc : List Value} (hy : ev n st y = .func (.func f) vf.toArray vc.toArray) {fn : Func} (hf : P.funcs[f]? = some fn) (hb : fn.body.isSome = true) (hn : (fn.name == "runtime.NumGoroutine") = false) {args : List Value} (hx : vf ++ (xs.toList.map (ev n st) ++ vc) = args)
    (v : Value) (hc : ∀ w, Ok S w0 H w → Calls P f args.toArray w fun e w' => e = .returned v ∧ Grow w w') (hd : o.dst = some d) (h : MX P ops C anc R l n ((d, v) :: st) S w0 H) : MX P ops C anc R (i :: l) n st S w0 H :=
  a_any ho hg ha fun hC w hw => fcall_runs hop hy hf hb hn hx ((hc w hw).mono fun e w' ⟨h1, h2⟩ => ⟨v, h1, H, hC, hw.grow h2, by rw [hd]; exact h⟩)
/-! ### Lists that are only read -/
def rdR (ad : Option Addr) (len cap : Nat) (vs : List Value) : Res where
  dom := fun b => ∃ off, ad = some ⟨b, off, none⟩
  holds := fun w => Src w ad vs ∧ len ≤ cap
  loc := fun w w' h hh => ⟨fun hne => by
    obtain ⟨b, off, e, hc⟩ := hh.1 hne
    refine ⟨b, off, e, fun j v hj => ?_⟩
    have h1 := hc j v hj
    have h2 := h b ⟨off, e⟩
    rw [add_at] at h1 ⊢
    rw [World.cell?_of_block (a := ⟨b, off + j, none⟩) h2]
    exact h1, hh.2⟩
theorem Ok.wide {S' : Nat → Prop} {w : World} (h : Ok S w0 H w) (hS : ∀ b, S b → S' b) : Ok S' w0 H w :=
  ⟨h.keep.mono fun b _ hb => hS b hb, h.holds, fun i r hi b hb => ⟨(h.own i r hi b hb).1, fun hl => hS b ((h.own i r hi b hb).2 hl)⟩, h.sep⟩
theorem own_src {w : World} {ad : Option Addr} {cap e z len : Nat} {xs : List Value} (h : (ownd ad cap e z len xs).holds w) : Src w ad xs := fun hne => by
  obtain ⟨h1, h2, _⟩ := own_at h
  have : 0 < len := by
    rcases Nat.eq_zero_or_pos len with h | h
    · rw [h] at h1
      exact absurd (List.eq_nil_of_length_eq_zero (by simpa using h1)) hne
    · exact h
  obtain ⟨b, e, hc⟩ := h2 this
  exact ⟨b, 0, e, fun j v hj => by rw [add_at, Nat.zero_add]; exact hc j v hj⟩
/-- A list with room, read only. -/
theorem Ok.own_rd {w : World} {ad : Option Addr} {cap e z len : Nat} {xs : List Value} (h : Ok S w0 H w) (j : Nat) (hj : H[j]? = some (ownd ad cap e z len xs)) : Ok S w0 (H.set j (rdR ad len cap xs)) w :=
  h.rep j hj _ (fun b ⟨off, e⟩ => by subst e; rfl) ⟨own_src (h.holds j _ hj), (own_at (h.holds j _ hj)).2.2⟩
end
end Go.Sx
