/- Calls on objects that stand among others, without places: what is left is told as a list again. Plain theorems over any program. -/
import Derived.Test.YtikdbgheefjpkaaObj
set_option linter.unusedVariables false
set_option linter.unusedSimpArgs false
namespace Go.Sx
open Go.RowKit
class UpdS (H : List Res) (L : List Res) (F : outParam (Res → List Res)) : Prop where
  upd : ∃ j : Nat, H[j]? = some (star L) ∧ ∀ r', F r' = H.set j r'
instance UpdS.uS {H : List Res} {x : Res} {L : List Res} {F : Res → List Res} [h : UpdS H L F] : UpdS (x :: H) L (fun r' => x :: F r') := ⟨by
  obtain ⟨j, h1, h2⟩ := h.upd
  exact ⟨j + 1, by simpa using h1, fun r' => by simp [h2]⟩⟩
instance UpdS.u0 {H : List Res} {L : List Res} : UpdS (star L :: H) L (fun r' => r' :: H) := ⟨⟨0, rfl, fun _ => rfl⟩⟩
section
variable {P : Program} {ops : List Oper} {C : World → Prop} {anc : Nat → Bool} {R : Act → (World → Prop) → Prop} {n : Nat} {st : Slots} {i : Nat} {l : List Nat} {o : Oper} {S : Nat → Prop} {w0 : World} {H : List Res} {d : Tmp}
theorem a_co0 (ho : nthO ops i = some o) (hg : gd ops.toArray n st o = true) (ha : anc i = true) {f : FuncId} {xs : Array Operand} {ts : Array TypeId} (hop : o.op = .call { callee := .value (.func f), args := xs, argTypes := ts }) {fn : Func} (hf : P.funcs[f]? = some fn) (hb : fn.body.isSome = true) (hn : (fn.name == "runtime.NumGoroutine") = false) {args : List Value} (hx : xs.toList.map (ev n st) = args)
    (L : List Res) {F : Res → List Res} [hj : UpdS H L F] {α : Type} (v : α → Value) (L' : α → List Res) (hc : ∀ w, Ok S w0 H w → Ok (domL L) w L w → Calls P f args.toArray w fun e w' => ∃ a, e = .returned (v a) ∧ Ok (domL L) w (L' a) w') {st' : α → Slots} (hs : ∀ a, up o.dst (v a) st = st' a)
    (hC : ∀ a w, Ok S w0 (F (Sx.star (L' a))) w → C w) (h : ∀ a, MX P ops C anc R l n (st' a) S w0 (F (Sx.star (L' a)))) : MX P ops C anc R (i :: l) n st S w0 H := by
  obtain ⟨j, h1, h2⟩ := hj.upd
  exact a_callo ho hg ha hop hf hb hn hx j h1 v (fun _ => []) L' hc hs (fun a w hw => hC a w (by rw [h2]; exact hw)) (fun a => by have := h a; rw [h2] at this; exact this)
/-- Nothing is told but whether. -/
theorem a_cou (ho : nthO ops i = some o) (hg : gd ops.toArray n st o = true) (ha : anc i = true) {f : FuncId} {xs : Array Operand} {ts : Array TypeId} (hop : o.op = .call { callee := .value (.func f), args := xs, argTypes := ts }) {fn : Func} (hf : P.funcs[f]? = some fn) (hb : fn.body.isSome = true) (hn : (fn.name == "runtime.NumGoroutine") = false) {args : List Value} (hx : xs.toList.map (ev n st) = args)
    (L : List Res) {F : Res → List Res} [hj : UpdS H L F] (v : Value) (L' : List Res) (hc : ∀ w, Ok S w0 H w → Ok (domL L) w L w → Calls P f args.toArray w fun e w' => e = .returned v ∧ Ok (domL L) w L' w') {st' : Slots} (hs : up o.dst v st = st')
    (hC : ∀ w, Ok S w0 (F (Sx.star L')) w → C w) (h : MX P ops C anc R l n st' S w0 (F (Sx.star L'))) : MX P ops C anc R (i :: l) n st S w0 H :=
  a_co0 ho hg ha hop hf hb hn hx L (fun _ : Unit => v) (fun _ => L') (fun w hw h => (hc w hw h).mono fun e w' h => ⟨(), h⟩) (fun _ => hs) (fun _ => hC) (fun _ => h)
/-- One that is new. -/
theorem a_co1 (ho : nthO ops i = some o) (hg : gd ops.toArray n st o = true) (ha : anc i = true) {f : FuncId} {xs : Array Operand} {ts : Array TypeId} (hop : o.op = .call { callee := .value (.func f), args := xs, argTypes := ts }) {fn : Func} (hf : P.funcs[f]? = some fn) (hb : fn.body.isSome = true) (hn : (fn.name == "runtime.NumGoroutine") = false) {args : List Value} (hx : xs.toList.map (ev n st) = args)
    (L : List Res) {F : Res → List Res} [hj : UpdS H L F] {α : Type} (v : α → Value) (N : α → Res) (L' : α → List Res) (hc : ∀ w, Ok S w0 H w → Ok (domL L) w L w → Calls P f args.toArray w fun e w' => ∃ a, e = .returned (v a) ∧ Ok (domL L) w (N a :: L' a) w') {st' : α → Slots} (hs : ∀ a, up o.dst (v a) st = st' a)
    (hC : ∀ a w, Ok S w0 (N a :: F (Sx.star (L' a))) w → C w) (h : ∀ a, MX P ops C anc R l n (st' a) S w0 (N a :: F (Sx.star (L' a)))) : MX P ops C anc R (i :: l) n st S w0 H := by
  obtain ⟨j, h1, h2⟩ := hj.upd
  exact a_callo ho hg ha hop hf hb hn hx j h1 v (fun a => [N a]) L' hc hs (fun a w hw => hC a w (by rw [h2]; exact hw)) (fun a => by have := h a; rw [h2] at this; exact this)
/-- A call that makes one new thing. -/
theorem a_cn1 (ho : nthO ops i = some o) (hg : gd ops.toArray n st o = true) (ha : anc i = true) {f : FuncId} {xs : Array Operand} {ts : Array TypeId} (hop : o.op = .call { callee := .value (.func f), args := xs, argTypes := ts }) {fn : Func} (hf : P.funcs[f]? = some fn) (hb : fn.body.isSome = true) (hn : (fn.name == "runtime.NumGoroutine") = false) {args : List Value} (hx : xs.toList.map (ev n st) = args)
    {α : Type} (v : α → Value) (N : α → Res) (hc : ∀ w, Ok S w0 H w → Calls P f args.toArray w fun e w' => ∃ a, e = .returned (v a) ∧ Ok (domL []) w [N a] w') {st' : α → Slots} (hs : ∀ a, up o.dst (v a) st = st' a)
    (hC : ∀ a w, Ok S w0 (N a :: H) w → C w) (h : ∀ a, MX P ops C anc R l n (st' a) S w0 (N a :: H)) : MX P ops C anc R (i :: l) n st S w0 H :=
  a_callL ho hg ha hop hf hb hn hx [] H rfl v (fun a => [N a]) (fun w hw _ => hc w hw) hs hC h
/-- What is old stands in no object. -/
theorem oldNe {α : Type} {w : World} {L : List Res} {z : Nat} {c : α → List Value} {xs : List α} {ad : Option Addr} (hw : Ok S w0 H w) (j : Nat) (hj : H[j]? = some (star L)) (hz : ∀ x, (c x).length = z) (hp : 0 < z) (hl : InL w0 ad z c xs) (hne : xs ≠ [] → ∀ b off, ad = some ⟨b, off, none⟩ → ¬ S b) : xs ≠ [] → ∀ b off, ad = some ⟨b, off, none⟩ → ¬ domL L b := fun hx b off e hd => by
  cases xs with
  | nil => exact hx rfl
  | cons x xs =>
    obtain ⟨b', off', e', hc⟩ := hl hx
    rw [e] at e'
    obtain ⟨rfl, rfl⟩ : b = b' ∧ off = off' := by simpa using e'
    have hx' := hz x
    cases hcx : c x with
    | nil => rw [hcx] at hx'; simp at hx'; omega
    | cons v vs =>
      have := hc 0 x rfl 0 v (by rw [hcx]; rfl)
      exact hne hx b off e ((hw.own j _ hj b hd).2 (World.block_lt_of_cell? w0 _ this))
theorem ownNe {w : World} {L : List Res} {ad : Option Addr} {cap e z len : Nat} {xs : List Value} (hw : Ok S w0 H w) (i j : Nat) (hi : H[i]? = some (ownd ad cap e z len xs)) (hj : H[j]? = some (star L)) (hij : i ≠ j) {k : List Int} : k ≠ [] → ∀ b off, ad = some ⟨b, off, none⟩ → ¬ domL L b := fun _ b off e hd => by
  subst e
  exact hw.sep i j _ _ hi hj hij b rfl hd
theorem ownGet {α : Type} {c : α → List Value} {z : Nat} (hz : ∀ x, (c x).length = z) {w : World} {bb cap e len : Nat} {xs : List α} (h : (ownd (some ⟨bb, 0, none⟩) cap e z len (xs.flatMap c)).holds w) {i : Nat} {x : α} (hx : xs[i]? = some x) {o : Nat} {v : Value} (ho : o < z) (hv : (c x)[o]? = some v) : w.cell? ⟨bb, i * z + o, none⟩ = some v := by
  obtain ⟨h1, h2, _⟩ := own_at h
  have hi := (List.getElem?_eq_some_iff.1 hx).1
  rw [flatMap_len hz] at h1
  have hl : 0 < len := by
    rcases Nat.eq_zero_or_pos len with h | h
    · subst h
      rw [Nat.zero_mul] at h1
      have := Nat.mul_pos (show 0 < xs.length by omega) (show 0 < z by omega)
      omega
    · exact h
  obtain ⟨b, e, hc⟩ := h2 hl
  obtain rfl : bb = b := by simpa using e
  exact hc _ v (by rw [flatMap_at hz xs i o x hx ho]; exact hv)
end
end Go.Sx
