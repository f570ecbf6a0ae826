/- Ranges over functions: code in a round, and behind marks; a function that yields. Plain theorems over any program. -/
import Derived.Test.YtminmbkhlnaabaaOb2
import Derived.RangeFuncWrites
import Derived.RangeFuncLeaves
import Derived.OrdersIn
import Derived.LoopNIn
import Derived.TacticsIn
set_option linter.unusedVariables false
set_option linter.unusedSimpArgs false
namespace Go.Sx
open Go.RowKit
/-- No bounds but the round. -/
def FW (ro : Option Nat) : Fence := { Fence.wide with round := ro }
theorem callsFW {ro : Option Nat} {m : Nat} {P : Program} {f : FuncId} {args : Array Value} {w : World} {R : Ending → World → Prop} (h : Calls P f args w R) : CallsIn (FW ro) m P f args w R := (callsIn_wide (n := m)).2 h
theorem rowsFW {ro : Option Nat} {m : Nat} {P : Program} {row : String} {args : Array Value} {w : World} {R : Value → World → Prop} (h : Rows P row args w R) : RowsIn (FW ro) m P row args w R := fun c cs _ => by
  obtain ⟨v, w', r, s⟩ := h c cs
  exact ⟨v, w', r, stepsIn_wide.2 s⟩
class NoOut (Q : Exit → Act → World → Prop) : Prop where
  no : ∀ a w, ¬ Q .outgrown a w
instance {K : Act → World → Prop} {Q : Exit → Act → World → Prop} [h : NoOut Q] : NoOut (Exit.then K Q) := ⟨h.no⟩
instance {id : Nat} {Q : Exit → Act → World → Prop} [h : NoOut Q] : NoOut (Exit.inBlock id Q) := ⟨h.no⟩
instance {α : Type} {B : Nat} {Kp : World → World → Prop} {I : List α → World → Prop} {Ix : Code → List α → World → Prop} {xs : List α} {W : World} : NoOut (ownPostG B Kp I Ix xs W) := ⟨fun _ _ h => h⟩
instance : NoOut (fun _ _ _ => False) := ⟨fun _ _ h => h⟩
def isDefer : Op → Bool
  | .defer _ => true
  | _ => false
def noDefer (ops : Array Oper) : Bool := ops.toList.all fun o => !isDefer o.op
section
variable {P : Program} {ro : Option Nat} {m : Nat}
theorem op_in {o : Oper} (hd : isDefer o.op = false) {a : Act} {w : World} {K K' : Act → World → Prop} {Q : Exit → Act → World → Prop} [hq : NoOut Q] (hk : ∀ a w, K a w → K' a w) (h : o.wp P a w K Q) : o.wpIn (FW ro) m P a w K' Q := by
  refine ⟨fun _ _ => trivial, ?_⟩
  have hs : o.semAt (FW ro).round a.eval = execOp a.eval o := by
    have hc : ∀ c, o.op ≠ .defer c := fun c hc => by rw [hc] at hd; cases hd
    cases ro with
    | none => rfl
    | some l => exact Oper.semAt_some l _ _ hc
  rw [hs]
  unfold Oper.wp at h
  generalize (execOp a.eval o).run P w = r at h ⊢
  cases r with
  | ok n w' =>
    cases n with
    | value v => exact hk _ _ h
    | skip => exact hk _ _ h
    | defer d => exact hk _ _ h
    | enter f args =>
      refine ⟨fun h => (by cases h), callsFW (Calls.mono h fun e w'' he => ?_)⟩
      cases e with
      | returned v => exact hk _ _ he
      | panicked c => exact he
      | outgrown => exact he
    | row row args => exact ⟨fun h => (by cases h), rowsFW (Rows.mono h fun v w'' he => hk _ _ he)⟩
    | _ => exact h.elim
  | halt x w' => cases x <;> first | exact h | exact h.elim
theorem wpOp_in {ops : Array Oper} {Q : Exit → Act → World → Prop} [hq : NoOut Q] (hn : noDefer ops = true) {i : Nat} {K K' : Act → World → Prop} (hk : ∀ a w, K a w → K' a w) {a : Act} {w : World} (h : wpOp P ops Q i K a w) : wpOpIn (FW ro) m P ops Q i K' a w := by
  unfold wpOp at h
  unfold wpOpIn
  cases ho : ops[i]? with
  | none => simp only [ho] at h ⊢; exact hk _ _ h
  | some o =>
    simp only [ho] at h ⊢
    by_cases hw : Region.wanted o (yielded ops a.tmps) = true
    · simp only [hw, if_true] at h ⊢
      rcases h with h | ⟨_, a', w', h⟩
      · refine op_in ?_ hk h
        have := List.all_eq_true.1 hn o (List.mem_of_getElem? (by rw [Array.getElem?_toList]; exact ho))
        simpa using this
      · exact (hq.no _ _ h).elim
    · simp only [hw] at h ⊢
      exact ⟨fun _ _ => trivial, hk _ _ h⟩
theorem wpOps_in {ops : Array Oper} {Q : Exit → Act → World → Prop} [hq : NoOut Q] (hn : noDefer ops = true) : ∀ (l : List Nat) (a : Act) (w : World), wpOps P ops Q l a w → wpOpsIn (FW ro) m P ops Q l a w
  | [], a, w, h => h
  | i :: l, a, w, h => by
    rw [wpOps_cons] at h
    rw [wpOpsIn_cons]
    exact wpOp_in hn (fun a w => wpOps_in hn l a w) h
theorem wpAny_in {ops : Array Oper} {Q : Exit → Act → World → Prop} [hq : NoOut Q] (hn : noDefer ops = true) {md : Region.Mode} : ∀ (fuel : Nat) (listed : Array Bool) (a : Act) (w : World), wpAny P md ops Q fuel listed a w → wpAnyIn (FW ro) m P md ops Q fuel listed a w
  | 0, listed, a, w, h => h
  | fuel + 1, listed, a, w, h => ⟨h.1, fun i hi => wpOp_in hn (fun a w => wpAny_in hn fuel _ a w) (h.2 i hi)⟩
/-- The same walk with calls deferred. -/
theorem mix_ds {ops : Array Oper} {C : World → Prop} {anc : Nat → Bool} {R R' : Act → (World → Prop) → Prop} (ds : List Deferred) (hR : ∀ a W, R a W → R' { a with defers := ds } W) : ∀ (l : List Nat) (a : Act) (W : World → Prop), mix P ops C anc R l a W → mix P ops C anc R' l { a with defers := ds } W
  | [], a, W, h => hR a W h
  | i :: l, a, W, h => by
    have hp : ∀ (d : Option Tmp) (v : Value), ({ a with defers := ds } : Act).put d v = { a.put d v with defers := ds } := fun d v => by cases d <;> rfl
    simp only [mix] at h ⊢
    cases ho : ops[i]? with
    | none => simp only [ho] at h ⊢; exact mix_ds ds hR l a W h
    | some o =>
      simp only [ho] at h ⊢
      have he : ({ a with defers := ds } : Act).eval = a.eval := by funext x; cases x <;> rfl
      by_cases hw : Region.wanted o (yielded ops a.tmps) = true
      · simp only [hw, if_true, he] at h ⊢
        by_cases ha : anc i = true
        · simp only [ha, if_true] at h ⊢
          exact fun w hw => runs_mono (h w hw) fun v w' ⟨W', h1, h2, h3, h4⟩ => ⟨W', h1, h2, h3, by rw [hp]; exact mix_ds ds hR l _ W' h4⟩
        · simp only [ha] at h ⊢
          obtain ⟨v, h1, h2⟩ := h
          exact ⟨v, h1, by rw [hp]; exact mix_ds ds hR l _ W h2⟩
      · simp only [hw] at h ⊢
        rw [hp]
        exact mix_ds ds hR l _ W h
/-- What a region that draws its order comes to. -/
theorem any_region {ops : Array Oper} {C : World → Prop} {anc : Nat → Bool} {R : Act → (World → Prop) → Prop} {Q : Exit → Act → World → Prop} {a : Act} {w : World} {W : World → Prop} (ord : List Nat) (hk : chk ops anc ord = true)
    (hR : ∀ a W, R a W → ∀ w, W w → Q .normal a w) (hs : Stb W) (hc : ∀ w, W w → C w) (hw : W w) (h : mix P ops C anc R ord a W) : wpAny P .any ops Q ops.size (Array.replicate ops.size false) a w := by
  simp only [chk, Bool.and_eq_true, beq_iff_eq] at hk
  obtain ⟨⟨⟨⟨h1, h2⟩, h3⟩, h4⟩, h5⟩ := hk
  have h4' : ∀ i ∈ ord, i < ops.size ∧ chkOne ops i = true := fun i hi => by
    have := List.all_eq_true.1 h4 i hi
    simpa using this
  have hall : ∀ i, (Array.replicate ops.size false).getD i false = false := fun i => by
    rcases Nat.lt_or_ge i ops.size with h' | h'
    · simp [h']
    · simp [h']
  refine any_of_mix h1 hR ops.size ord _ a W _ h2 ⟨by simp, fun i hi => ⟨fun _ => by simp [hi], fun _ => ?_⟩, fun i hi => (h4' i hi).1, fun i hi => (h4' i hi).2, fun j oj _ hj => (by rw [hall] at hj; cases hj), h5⟩ hs hc hw h
  have := List.all_eq_true.1 h3 i (List.mem_range.2 hi)
  simpa using this
end
/-- Behind calls deferred. -/
def Qd (ds : List Deferred) (Q : Exit → Act → World → Prop) : Exit → Act → World → Prop := fun e a w => Q e { a with defers := ds } w
/-- A piece of code, in a round or in none, with calls deferred. -/
structure CG (ro : Option Nat) (ds : List Deferred) (m : Nat) (P : Program) (c : Code) (Q : Exit → Act → World → Prop) (n : Nat) (st : Slots) (S : Nat → Prop) (w0 : World) (H : List Res) : Prop where
  mk' :: (run : ∀ w, Ok S w0 H w → c.wpIn (FW ro) m P Q { fr n st with defers := ds } w)
section
variable {ro : Option Nat} {ds : List Deferred} {m : Nat} {P : Program} {Q : Exit → Act → World → Prop} {n : Nat} {st : Slots} {S : Nat → Prop} {w0 : World} {H H' HC : List Res} {x y c : Code} {e : Exit}
theorem eval_frd (z : Operand) : ({ fr n st with defers := ds } : Act).eval z = ev n st z := by rw [← eval_fr]; cases z <;> rfl
theorem cg_seq (h : CG ro ds m P x (Exit.then (y.wpIn (FW ro) m P Q) Q) n st S w0 H) : CG ro ds m P (.seq x y) Q n st S w0 H := ⟨fun w hw => wpIn_seq (h.run w hw)⟩
theorem cg_skip (h : PW (Qd ds Q) .normal n st S w0 H) : CG ro ds m P .skip Q n st S w0 H := ⟨fun w hw => wpIn_skip (h.run w hw)⟩
theorem cg_exit {id : Nat} (h : PW (Qd ds Q) (.exit id) n st S w0 H) : CG ro ds m P (.exit id) Q n st S w0 H := ⟨fun w hw => wpIn_exit (h.run w hw)⟩
theorem cg_ret (h : PW (Qd ds Q) .ret n st S w0 H) : CG ro ds m P .ret Q n st S w0 H := ⟨fun w hw => wpIn_ret (h.run w hw)⟩
theorem cg_block {id : Nat} (h : CG ro ds m P c (Exit.inBlock id Q) n st S w0 H) : CG ro ds m P (.block id c) Q n st S w0 H := ⟨fun w hw => wpIn_block (h.run w hw)⟩
theorem cg_cond_t {z : Operand} (hz : ev n st z = .bool true) (h : CG ro ds m P x Q n st S w0 H) : CG ro ds m P (.cond z x y) Q n st S w0 H := ⟨fun w hw => wpIn_cond_true (by rw [eval_frd]; exact hz) (h.run w hw)⟩
theorem cg_cond_f {z : Operand} (hz : ev n st z = .bool false) (h : CG ro ds m P y Q n st S w0 H) : CG ro ds m P (.cond z x y) Q n st S w0 H := ⟨fun w hw => wpIn_cond_false (by rw [eval_frd]; exact hz) (h.run w hw)⟩
theorem cg_line {id : Nat} {ops : List Oper} {l : List Nat} [hq : NoOut Q] (hn : noDefer ops.toArray = true) (hl : List.range ops.length = l) (h : MX P ops (fun _ => True) (fun _ => true) (RW (Qd ds Q)) l n st S w0 H) : CG ro ds m P (.region id ops.toArray false) Q n st S w0 H := ⟨fun w hw =>
  wpIn_region (wpOps_in hn _ _ _ (ops_of_mix (anc := fun _ => true) (C := fun _ => True) (R := fun a W => ∀ w, W w → Q .normal a w) (fun _ _ _ _ => trivial) (fun a W h => h) _ _ _ w stb_ok (fun _ _ => trivial) hw (mix_ds ds (fun a W h => h) _ _ _ (by rw [List.size_toArray, hl]; exact h.run fun _ _ => trivial))))⟩
theorem cg_draw {id : Nat} {ops : List Oper} [hq : NoOut Q] (hn : noDefer ops.toArray = true) (ord : List Nat) (anc : Nat → Bool) (HC : List Res) (hm : P.follows .mixedOrders = true) (hk : chk ops.toArray anc ord = true) (hc : ∀ w, Ok S w0 H w → Ok S w0 HC w)
    (h : MX P ops (Ok S w0 HC) anc (RW (Qd ds Q)) ord n st S w0 H) : CG ro ds m P (.region id ops.toArray true) Q n st S w0 H := ⟨fun w hw =>
  wpIn_region_any hm (wpAny_in hn _ _ _ _ (any_region (C := Ok S w0 HC) (R := fun a W => ∀ w, W w → Q .normal a w) ord hk (fun a W h => h) stb_ok hc hw.drawn (mix_ds ds (fun a W h => h) _ _ _ (h.run hc))))⟩
theorem cg_drawq {id : Nat} {ops : List Oper} {l : List Nat} [hq : NoOut Q] (hn : noDefer ops.toArray = true) (hm : P.follows .mixedOrders = true) (hq : quiet ops = true) (hk : chkM ops (fun _ => false) (List.range ops.length) = true) (hl : List.range ops.length = l)
    (h : MX P ops (Ok S w0 H) (fun _ => false) (RW (Qd ds Q)) l n st S w0 H) : CG ro ds m P (.region id ops.toArray true) Q n st S w0 H := cg_draw hn l (fun _ => false) H hm (hl ▸ chk_of hk) (fun _ h => h) h
theorem cg_drawm {id : Nat} {ops : List Oper} [hq : NoOut Q] (hn : noDefer ops.toArray = true) (ord : List Nat) (anc : Nat → Bool) (HC : List Res) (hm : P.follows .mixedOrders = true) (hk : chkM ops anc ord = true) (hc : ∀ w, Ok S w0 H w → Ok S w0 HC w)
    (h : MX P ops (Ok S w0 HC) anc (RW (Qd ds Q)) ord n st S w0 H) : CG ro ds m P (.region id ops.toArray true) Q n st S w0 H := cg_draw hn ord anc HC hm (chk_of hk) hc h
theorem cg_weak (hH : ∀ w, Ok S w0 H w → Ok S w0 H' w) (h : CG ro ds m P c Q n st S w0 H') : CG ro ds m P c Q n st S w0 H := ⟨fun w hw => h.run w (hH w hw)⟩
theorem cg_know {p : Prop} (hp : ∀ w, Ok S w0 H w → p) (h : p → CG ro ds m P c Q n st S w0 H) : CG ro ds m P c Q n st S w0 H := ⟨fun w hw => (h (hp w hw)).run w hw⟩
theorem pg_then (h : CG ro ds m P y Q n st S w0 H) : PW (Qd ds (Exit.then (y.wpIn (FW ro) m P Q) Q)) .normal n st S w0 H := ⟨h.run⟩
theorem pg_then_x {nx : Act → World → Prop} {id : Nat} (h : PW (Qd ds Q) (.exit id) n st S w0 H) : PW (Qd ds (Exit.then nx Q)) (.exit id) n st S w0 H := ⟨h.run⟩
theorem pg_then_r {nx : Act → World → Prop} (h : PW (Qd ds Q) .ret n st S w0 H) : PW (Qd ds (Exit.then nx Q)) .ret n st S w0 H := ⟨h.run⟩
theorem pg_block {id : Nat} (h : PW (Qd ds Q) .normal n st S w0 H) : PW (Qd ds (Exit.inBlock id Q)) .normal n st S w0 H := ⟨h.run⟩
theorem pg_block_e {id : Nat} (h : PW (Qd ds Q) .normal n st S w0 H) : PW (Qd ds (Exit.inBlock id Q)) (.exit id) n st S w0 H := ⟨fun w hw => by simp only [Qd, Exit.inBlock, if_true]; exact h.run w hw⟩
theorem pg_block_n {id id' : Nat} (hn : Nat.beq id' id = false) (h : PW (Qd ds Q) (.exit id') n st S w0 H) : PW (Qd ds (Exit.inBlock id Q)) (.exit id') n st S w0 H := ⟨fun w hw => by
  have hne : id' ≠ id := fun e => by subst e; rw [Nat.beq_refl] at hn; cases hn
  simp only [Qd, Exit.inBlock, hne, if_false]; exact h.run w hw⟩
theorem pg_block_r {id : Nat} (h : PW (Qd ds Q) .ret n st S w0 H) : PW (Qd ds (Exit.inBlock id Q)) .ret n st S w0 H := ⟨h.run⟩
end
/-! ### A function that holds a range over a function -/
/-- The mark of a range that has been gone through. -/
def coll (D : Nat) : Deferred := { target := .collected D, args := #[] }
def dR (D : Nat) : Res where
  dom := fun k => k = D
  holds := fun w => w.heap[D]? = some (.deferred (some []))
  loc := fun w w' h hh => (h D rfl).trans hh
class NoOutE (R : Ending → World → Prop) : Prop where
  no : ∀ w, ¬ R .outgrown w
instance {F : Fence} {m : Nat} {P : Program} {fn : Func} {R : Ending → World → Prop} [h : NoOutE R] : NoOut (bodyPostM F m P fn R) := ⟨fun a w h' => h.no w h'⟩
instance {v : Value} {p : World → Prop} : NoOutE (fun e w => e = .returned v ∧ p w) := ⟨fun w h => by cases h.1⟩
instance {α : Type} {v : α → Value} {p : α → World → Prop} : NoOutE (fun e w => ∃ a, e = .returned (v a) ∧ p a w) := ⟨fun w ⟨a, h, _⟩ => by cases h⟩
instance {p : World → Prop} : NoOutE (fun e w => (∃ v, e = .returned v) ∧ p w) := ⟨fun w ⟨⟨v, h⟩, _⟩ => by cases h⟩
section
variable {P : Program} {ro : Option Nat} {m n : Nat} {st : Slots} {S : Nat → Prop} {w0 : World} {H : List Res} {c : Code} {e : Exit}
theorem enterG {f : FuncId} {fn : Func} (hf : P.funcs[f]? = some fn) (hb : fn.body = some c) (hn : fn.ntmps = n) {args : List Value} (ha : args.length ≤ n) {st0 : Slots} (hs : argSlots 0 args = st0) {R : Ending → World → Prop} {w : World} (hok : Ok S w0 H w)
    (h : CG none [] m P c (bodyPostM (FW none) m P fn R) n st0 S w0 H) : Calls P f args.toArray w R := by
  subst hn hs
  refine (callsIn_wide (n := m)).1 (callsIn_of_wp_marks (F := FW none) hf hb trivial ?_ rfl)
  have := h.run w hok
  have e : ({ tmps := args.toArray ++ Array.replicate (fn.ntmps - args.toArray.size) undef, defers := [] } : Act) = { fr fn.ntmps (argSlots 0 args) with defers := [] } := by
    congr 1
    apply Array.ext
    · simp [fr]; omega
    · intro i h1 h2
      have hi : i < fn.ntmps := by simpa [fr] using h2
      simp only [fr, Array.getElem_ofFn, lk_argSlots]
      by_cases hil : i < args.length
      · rw [Array.getElem_append_left (by simpa using hil)]
        simp [List.getD, hil]
      · rw [Array.getElem_append_right (by simpa using Nat.le_of_not_lt hil)]
        simp [List.getD, List.getElem?_eq_none (Nat.le_of_not_lt hil)]
  rw [e]
  exact this
theorem enterGI {f : FuncId} {fn : Func} (n : Nat) (hf : P.funcs[f]? = some fn) (hb : fn.body = some c) (hn : fn.ntmps = n) {args : List Value} (ha : Nat.ble args.length n = true) {st0 : Slots} (hs : argSlots 0 args = st0) {R : Ending → World → Prop} {w : World} (hok : Ok S w0 H w)
    (h : CG none [] m P c (bodyPostM (FW none) m P fn R) n st0 S w0 H) : CallsIn (FW none) m P f args.toArray w R := (callsIn_wide (n := m)).2 (enterG hf hb hn (Nat.le_of_ble_eq_true ha) hs hok h)
theorem enterG2 {f : FuncId} {fn : Func} (n : Nat) (hf : P.funcs[f]? = some fn) (hb : fn.body = some c) (hn : fn.ntmps = n) {v0 v1 : Value} (ha : Nat.ble 2 n = true) {R : Ending → World → Prop} {w : World} (hok : Ok S w H w)
    (h : CG none [] m P c (bodyPostM (FW none) m P fn R) n [(0, v0), (1, v1)] S w H) : Calls P f #[v0, v1] w R := enterG (args := [v0, v1]) hf hb hn (Nat.le_of_ble_eq_true ha) rfl hok h
theorem enterG3 {f : FuncId} {fn : Func} (n : Nat) (hf : P.funcs[f]? = some fn) (hb : fn.body = some c) (hn : fn.ntmps = n) {v0 v1 v2 : Value} (ha : Nat.ble 3 n = true) {R : Ending → World → Prop} {w : World} (hok : Ok S w H w)
    (h : CG none [] m P c (bodyPostM (FW none) m P fn R) n [(0, v0), (1, v1), (2, v2)] S w H) : Calls P f #[v0, v1, v2] w R := enterG (args := [v0, v1, v2]) hf hb hn (Nat.le_of_ble_eq_true ha) rfl hok h
theorem enterG1 {f : FuncId} {fn : Func} (n : Nat) (hf : P.funcs[f]? = some fn) (hb : fn.body = some c) (hn : fn.ntmps = n) {v0 : Value} (ha : Nat.ble 1 n = true) {R : Ending → World → Prop} {w : World} (hok : Ok S w H w)
    (h : CG none [] m P c (bodyPostM (FW none) m P fn R) n [(0, v0)] S w H) : Calls P f #[v0] w R := enterG (args := [v0]) hf hb hn (Nat.le_of_ble_eq_true ha) rfl hok h
/-- A return with no range gone through. -/
theorem pg_ret0 {fn : Func} {R : Ending → World → Prop} (h : PW (bodyPost P fn R) e n st S w0 H) (hn : (match e with | .normal | .ret => true | _ => false) = true) : PW (Qd [] (bodyPostM (FW none) m P fn R)) e n st S w0 H := ⟨fun w hw => by
  have h1 := h.run w hw
  cases e <;> first | exact h1.2 | cases hn⟩
theorem Ok.putD {D : Nat} {w : World} {o : Obj} (h : Ok S w0 (dR D :: H) w) : Ok S w0 H (w.putObj D o) := by
  have hD : (dR D).holds w := h.holds 0 _ rfl
  have hlt := (Array.getElem?_eq_some_iff.1 hD).1
  have hoth : ∀ k, k ≠ D → (w.putObj D o).heap[k]? = w.heap[k]? := fun k hk => World.putObj_heap_other (fun e => hk e)
  have hown := h.own 0 _ rfl D rfl
  have hsz : (w.putObj D o).heap.size = w.heap.size := by simp [World.putObj]
  refine ⟨⟨h.keep.os, h.keep.tape, h.keep.output, by rw [hsz]; exact h.keep.size, fun k hk hn => ?_⟩, fun i r hi => ?_, fun i r hi b hb => ?_, fun i j r r' hi hj hij => h.sep (i + 1) (j + 1) r r' hi hj (by omega)⟩
  · rw [hoth k fun e => by subst e; exact hn (hown.2 hk)]
    exact h.keep.old k hk hn
  · exact r.loc w _ (fun b hb => hoth b fun e => by subst e; exact h.sep 0 (i + 1) _ _ rfl hi (by omega) b rfl hb) (h.holds (i + 1) r hi)
  · rw [hsz]; exact h.own (i + 1) r hi b hb
/-- A return behind a range. -/
theorem pg_retm {fn : Func} {R : Ending → World → Prop} {D : Nat} (h : PW (bodyPost P fn R) e n st S w0 H) (hn : (match e with | .normal | .ret => true | _ => false) = true) : PW (Qd [coll D] (bodyPostM (FW none) m P fn R)) e n st S w0 (dR D :: H) := ⟨fun w hw => by
  have hD : (dR D).holds w := hw.holds 0 _ rfl
  have h1 := h.run _ (hw.putD (o := .deferred none))
  have key : LeavesInM (FW none) m P fn (fr n st).tmps R [coll D] .returning w := by
    refine ⟨by simp, .inl ⟨D, _, rfl, run_takeDeferred hD, ?_⟩⟩
    cases e <;> first | exact h1.2 | cases hn
  cases e <;> first | exact key | cases hn⟩
end
/-! ### The range itself -/
/-- What an iterator wants kept. -/
def KpR (KR : List Res) (W W' : World) : Prop := ∀ r ∈ KR, r.holds W → r.holds W'
theorem Ok.turn {S : Nat → Prop} {w0 W W' : World} {H : List Res} {row : Option Nat} (h : Ok S w0 H W) (hg : W.grownBy W' row) (B : Nat) (hB : w0.heap.size ≤ B) (hd : ∀ b, domL H b → b < B) (hr : ∀ r, row = some r → B ≤ r) : Ok S w0 H W' := by
  have hk : ∀ k, k < W.heap.size → k < B → W'.heap[k]? = W.heap[k]? := fun k h1 h2 => hg.block k h1 fun e => by have := hr k e.symm; omega
  refine ⟨⟨hg.os.trans h.keep.os, hg.tape.trans h.keep.tape, hg.output.trans h.keep.output, Nat.le_trans h.keep.size hg.size, fun k h1 hn => (hk k (Nat.lt_of_lt_of_le h1 h.keep.size) (by omega)).trans (h.keep.old k h1 hn)⟩, fun i r hi => ?_, fun i r hi b hb => ?_, h.sep⟩
  · exact r.loc W W' (fun b hb => hk b (h.own i r hi b hb).1 (hd b ⟨i, r, hi, hb⟩)) (h.holds i r hi)
  · exact ⟨Nat.lt_of_lt_of_le (h.own i r hi b hb).1 hg.size, (h.own i r hi b hb).2⟩
theorem domL_eq {L L' : List Res} (h : L'.map (·.dom) = L.map (·.dom)) {b : Nat} (hb : domL L' b) : domL L b := by
  obtain ⟨i, r, hi, hr⟩ := hb
  have h1 := congrArg (fun l => l[i]?) h
  simp only [List.getElem?_map, hi, Option.map_some] at h1
  cases hl : L[i]? with
  | none => rw [hl] at h1; cases h1
  | some q =>
    rw [hl] at h1
    have h2 : r.dom = q.dom := by simpa using h1
    exact ⟨i, q, hl, h2 ▸ hr⟩
theorem put_nil (n : Nat) (st : Slots) (ds : List Deferred) : ({ tmps := (fr n st).tmps, defers := ds } : Act) = { fr n st with defers := ds } := rfl
section
variable {P : Program} {m n : Nat} {st : Slots} {S : Nat → Prop} {w0 : World} {H : List Res} {Q : Exit → Act → World → Prop}
/-- Loop variables told. -/
def asn (o : Oper) : Option (Nat × Operand) := match o.dst, o.op, o.guard with
  | some d, .assign y, none => some (d, y)
  | _, _, _ => none
theorem asn_eq {o : Oper} {d : Nat} {y : Operand} (h : asn o = some (d, y)) : o.dst = some d ∧ o.op = .assign y ∧ o.guard = none := by
  unfold asn at h
  split at h
  · rename_i d' y' h1 h2 h3
    obtain ⟨rfl, rfl⟩ : d' = d ∧ y' = y := by simpa using h
    exact ⟨h1, h2, h3⟩
  · cases h
def runA (n : Nat) : List Oper → Slots → Option Slots
  | [], st => some st
  | o :: os, st => match asn o with
    | some q => runA n os ((q.1, ev n st q.2) :: st)
    | none => none
theorem runA_ops {ro : Option Nat} {k : Nat} {ops : List Oper} {Q : Exit → Act → World → Prop} {W : World} : ∀ (os pre : List Oper) (st st' : Slots), ops = pre ++ os → runA n os st = some st' → Q .normal (fr n st') W → wpOpsIn (FW ro) k P ops.toArray Q (List.range' pre.length os.length) (fr n st) W
  | [], pre, st, st', _, h, hq => by
    obtain rfl : st = st' := by simpa [runA] using h
    exact hq
  | o :: os, pre, st, st', he, h, hq => by
    have ho : ops.toArray[pre.length]? = some o := by rw [he]; simp
    simp only [runA] at h
    cases ha : asn o with
    | none => rw [ha] at h; cases h
    | some q =>
      obtain ⟨d, y⟩ := q
      rw [ha] at h
      obtain ⟨h1, h2, h3⟩ := asn_eq ha
      rw [List.length_cons, List.range'_succ, wpOpsIn_cons]
      unfold wpOpIn
      simp only [ho]
      have hw : Region.wanted o (yielded ops.toArray (fr n st).tmps) = true := by unfold Region.wanted; rw [h3]
      simp only [hw, if_true]
      refine ⟨fun _ _ => trivial, ?_⟩
      have hs : o.semAt (FW ro).round (fr n st).eval = execOp (fr n st).eval o := by
        cases ro with
        | none => rfl
        | some l => exact Oper.semAt_some l _ _ (fun c hc => by rw [h2] at hc; cases hc)
      rw [hs]
      have hr : (execOp (fr n st).eval o).run P W = .ok (.value (ev n st y)) W := by simp [execOp, h2, eval_fr]
      rw [hr]
      show wpOpsIn (FW ro) k P ops.toArray Q (List.range' (pre.length + 1) os.length) ((fr n st).put o.dst (ev n st y)) W
      rw [h1, put_fr]
      have := runA_ops (ro := ro) (k := k) (ops := ops) (Q := Q) (W := W) os (pre ++ [o]) ((d, ev n st y) :: st) st' (by rw [he]; simp) h hq
      rwa [List.length_append] at this
theorem Ok.mark {W : World} {D : Nat} (h : Ok S w0 H W) (hD : W.heap[D]? = some (.deferred (some []))) (hB : w0.heap.size ≤ D) (hd : ∀ b, domL H b → b ≠ D) : Ok S w0 (dR D :: H) W := by
  have key : ∀ j x, (dR D :: H)[j]? = some x → (j = 0 ∧ x = dR D) ∨ (∃ j', j = j' + 1 ∧ H[j']? = some x) := by
    intro j x hx
    cases j with
    | zero => simp at hx; exact .inl ⟨rfl, hx.symm⟩
    | succ j => simp at hx; exact .inr ⟨j, rfl, hx⟩
  refine ⟨h.keep, fun i r hi => ?_, fun i r hi b hb => ?_, fun i j r r' hi hj hij b hb hb' => ?_⟩
  · rcases key i r hi with ⟨_, rfl⟩ | ⟨_, _, hi⟩
    · exact hD
    · exact h.holds _ r hi
  · rcases key i r hi with ⟨_, rfl⟩ | ⟨_, _, hi⟩
    · obtain rfl : b = D := hb
      exact ⟨(Array.getElem?_eq_some_iff.1 hD).1, fun hl => by omega⟩
    · exact h.own _ r hi b hb
  · rcases key i r hi with ⟨ei, rfl⟩ | ⟨i', ei, hi2⟩
    · rcases key j r' hj with ⟨ej, _⟩ | ⟨j', ej, hj2⟩
      · omega
      · obtain rfl : b = D := hb
        exact hd b ⟨j', r', hj2, hb'⟩ rfl
    · rcases key j r' hj with ⟨ej, rfl⟩ | ⟨j', ej, hj2⟩
      · obtain rfl : b = D := hb'
        exact hd b ⟨i', r, hi2, hb⟩ rfl
      · exact h.sep i' j' r r' hi2 hj2 (by omega) b hb hb'
theorem eg_of {f : FuncId} {fn : Func} (hf : P.funcs[f]? = some fn) (hb : fn.body.isSome = true) (hn : (fn.name == "runtime.NumGoroutine") = false) : ∀ (args : Array Value) (w : World), (callFunc f args).run P w = .ok (.enter f args) w := fun args w => by
  have hb' : ¬ fn.body = none := by intro hq; simp [hq] at hb
  have hn' : ¬ fn.name = "runtime.NumGoroutine" := by simpa using hn
  simp [callFunc, hf, hb', hn']
/-- How a round may end. -/
def RQ {α : Type} (HH : List α → List Res) (HX : Code → List α → List Res) (pI : List α → Prop) (pX : Code → List α → Prop) (pre : List α) (x : α) (w : World) : Exit → Act → World → Prop := fun e a w' => match e with
    | .normal => Ok (domL (HH pre)) w (HH (pre ++ [x])) w' ∧ pI (pre ++ [x])
    | .ret => Ok (domL (HH pre)) w (HX .ret (pre ++ [x])) w' ∧ pX .ret (pre ++ [x])
    | .exit id => Ok (domL (HH pre)) w (HX (.exit id) (pre ++ [x])) w' ∧ pX (.exit id) (pre ++ [x])
    | _ => False
instance {α : Type} {HH : List α → List Res} {HX : Code → List α → List Res} {pI : List α → Prop} {pX : Code → List α → Prop} {pre : List α} {x : α} {w : World} : NoOut (RQ HH HX pI pX pre x w) := ⟨fun _ _ h => h⟩
section
variable {α : Type} {HH : List α → List Res} {HX : Code → List α → List Res} {pI : List α → Prop} {pX : Code → List α → Prop} {pre : List α} {x : α}
theorem pg_rn (hH : ∀ w', Ok S w0 H w' → Ok (domL (HH pre)) w0 (HH (pre ++ [x])) w') (hp : pI (pre ++ [x])) : PW (Qd [] (RQ HH HX pI pX pre x w0)) .normal n st S w0 H := ⟨fun w' h => ⟨hH w' h, hp⟩⟩
theorem pg_rr (hH : ∀ w', Ok S w0 H w' → Ok (domL (HH pre)) w0 (HX .ret (pre ++ [x])) w') (hp : pX .ret (pre ++ [x])) : PW (Qd [] (RQ HH HX pI pX pre x w0)) .ret n st S w0 H := ⟨fun w' h => ⟨hH w' h, hp⟩⟩
theorem pg_re {id : Nat} (hH : ∀ w', Ok S w0 H w' → Ok (domL (HH pre)) w0 (HX (.exit id) (pre ++ [x])) w') (hp : pX (.exit id) (pre ++ [x])) : PW (Qd [] (RQ HH HX pI pX pre x w0)) (.exit id) n st S w0 H := ⟨fun w' h => ⟨hH w' h, hp⟩⟩
end
/-- One loop variable told. -/
theorem pst1 {p : Tmp} {v : Value} : ((#[p] : Array Tmp).zip #[v]).foldl (fun t (p, v) => t.setIfInBounds p v) (fr n st).tmps = (fr n ((p, v) :: st)).tmps := by
  have h := put_fr n st (some p) v
  have := congrArg Act.tmps h
  simpa [Act.put, up] using this
/-- The body of a round, from what stands. -/
def Round (α : Type) (m : Nat) (P : Program) (body : Code) (n : Nat) (st1 : α → Slots) (S : Nat → Prop) (w0 : World) (HH : List α → List Res) (HX : Code → List α → List Res) (pI : List α → Prop) (pX : Code → List α → Prop) (N : Nat) : Prop :=
  ∀ (l : Nat) (pre : List α) (x : α) (w : World), Ok S w0 (HH pre) w → pI pre → pre.length < N → CG (some l) [] m P body (RQ HH HX pI pX pre x w) n (st1 x) (domL (HH pre)) w (HH pre)
/-- What lay there stays out of what is held. -/
theorem Ok.oldN {w : World} (h : Ok S w0 H w) {b : Nat} (hb : b < w0.heap.size) (hS : ¬ S b) : ¬ domL H b := fun ⟨i, r, hi, hr⟩ => hS ((h.own i r hi b hr).2 hb)
theorem cg_range {α : Type} {g : Operand} {ps : Array Tmp} {aid : Nat} {aops : List Oper} {body : Code} (hm : 3 ≤ m) {gf : Nat} {lb : Array Value} (hg : ev n st g = .func (.func gf) #[] lb) (eg : ∀ args w, (callFunc gf args).run P w = .ok (.enter gf args) w)
    {encs : α → Array Value} (KR : List Res) {Sf Sp : List α → Prop} {N : Nat} (hseq : ∀ w, Ok S w0 H w → SeqStopsK (FW none) (m - 1) P gf lb encs (KpR KR) Sf Sp N w) (hps : ∀ x, (encs x).size = ps.size)
    (pst st1 : α → Slots) (hpst : ∀ x, (ps.zip (encs x)).foldl (fun t (p, v) => t.setIfInBounds p v) (fr n st).tmps = (fr n (pst x)).tmps)
    (hassign : ∀ x, runA n aops (pst x) = some (st1 x))
    (HH : List α → List Res) (HX : Code → List α → List Res) (pI : List α → Prop) (pX : Code → List α → Prop) (hdm : ∀ pre, (HH pre).map (·.dom) = H.map (·.dom)) (hdx : ∀ c pre, pX c pre → (HX c pre).map (·.dom) = H.map (·.dom)) (hKR : ∀ pre r, r ∈ KR → r ∈ HH pre ∨ (r.holds w0 ∧ ∀ b, r.dom b → b < w0.heap.size ∧ ¬ S b))
    (h0 : HH [] = H) (hp0 : pI [])
    (hbody : Round α (m - 1 - 1) P body n st1 S w0 HH HX pI pX N)
    (hdone : ∀ (D : Nat) (xs : List α), Sf xs → pI xs → PW (Qd [coll D] Q) .normal n st S w0 (dR D :: HH xs))
    (hstop : ∀ (D : Nat) (c : Code) (pre : List α), Sp pre → pX c pre → CG none [coll D] m P c Q n st S w0 (dR D :: HX c pre)) :
    CG none [] m P (.rangeFunc g ps (.region aid aops.toArray false) body) Q n st S w0 H := ⟨fun w hw => by
  have hB : w0.heap.size ≤ w.heap.size := hw.keep.size
  have hdl : ∀ b, domL H b → b < w.heap.size := fun b ⟨i, r, hi, hr⟩ => (hw.own i r hi b hr).1
  have hdI : ∀ pre b, domL (HH pre) b → b < w.heap.size := fun pre b hb => hdl b (domL_eq (hdm pre) hb)
  have hdX : ∀ c pre, pX c pre → ∀ b, domL (HX c pre) b → b < w.heap.size := fun c pre hp b hb => hdl b (domL_eq (hdx c pre hp) hb)
  refine wpIn_rangeFunc_ownG (F := FW none) rfl (by omega) (gf := gf) (lb := lb) (by rw [eval_frd]; exact hg) trivial eg (hseq w hw) (fun h k r hr hh => k r hr (h r hr hh)) (fun W l o o' hl hh hc hwk r hr hh2 => ?_) (Below.refl _ _) hps
    (fun pre W => Ok S w0 (HH pre) W ∧ pI pre) (fun c pre W => Ok S w0 (HX c pre) W ∧ pX c pre) (fun pre W W' row hI hg2 hr => ⟨hI.1.turn hg2 w.heap.size hB (hdI pre) fun r e => (hr r e).1, hI.2⟩) (fun c pre W W' row hI hg2 hr => ⟨hI.1.turn hg2 w.heap.size hB (hdX c pre hI.2) fun r e => (hr r e).1, hI.2⟩) ⟨by rw [h0]; exact hw, hp0⟩ (fun x => fr n (st1 x)) (fun l x W K hK => ?_) (fun l pre x W hI hlen => ?_) (fun D xs W hD hS hI hd => ?_) (fun D c pre W hD hS hI hd => ?_)
  · refine r.loc W _ (fun b hb => ?_) hh2
    have : b < w.heap.size := by
      rcases hKR [] r hr with hr' | hr'
      · obtain ⟨i, hi, he⟩ := List.mem_iff_getElem.1 hr'
        exact hdI [] b ⟨i, r, by rw [List.getElem?_eq_getElem hi, he], hb⟩
      · have := (hr'.2 b hb).1
        omega
    exact World.putObj_heap_other (fun e => by omega)
  · rw [hpst x]
    refine wpIn_region ?_
    have := runA_ops (P := P) (ro := some l) (k := m - 1 - 1) (Q := Exit.then K (fun _ _ _ => False)) (W := W) aops [] (pst x) (st1 x) rfl (hassign x) hK
    rw [List.size_toArray, List.range_eq_range']
    exact this
  · have hI1 : Ok S w0 (HH pre ++ []) W := by rw [List.append_nil]; exact hI.1
    have hkeep : ∀ {H' : List Res} {W' : World}, Ok (domL (HH pre)) W H' W' → KeepsFrom w.heap.size W W' := fun h => ⟨h.keep.size, fun k o hk ho _ => (h.keep.old k (Array.getElem?_eq_some_iff.1 ho).1 fun hd => by have := hdI pre k hd; omega).trans ho⟩
    have hback : ∀ {H' : List Res} {W' : World}, Ok (domL (HH pre)) W H' W' → Ok S w0 H' W' := fun h => by have := hI1.backL h; rwa [List.append_nil] at this
    refine wpIn_mono ((hbody l pre x W hI.1 hI.2 hlen).run W hI1.enterL) fun e a W' hq => ?_
    cases e with
    | normal => exact ⟨hkeep hq.1, fun r hr hrW => by
        rcases hKR (pre ++ [x]) r hr with hr' | hr'
        · exact hq.1.mem hr'
        · refine r.loc W W' (fun b hb => ?_) hrW
          obtain ⟨h1, h2⟩ := hr'.2 b hb
          exact hq.1.keep.old b (Nat.lt_of_lt_of_le h1 hI.1.keep.size) (hI.1.oldN h1 h2), hback hq.1, hq.2⟩
    | ret => exact ⟨hkeep hq.1, hback hq.1, hq.2⟩
    | exit id => exact ⟨hkeep hq.1, hback hq.1, hq.2⟩
    | _ => exact hq.elim
  · exact (hdone D xs hS hI.2).run W (hI.1.mark hd (by omega) fun b hb => by have := hdI xs b hb; omega)
  · exact (hstop D c pre hS hI.2).run W (hI.1.mark hd (by omega) fun b hb => by have := hdX c pre hI.2 b hb; omega)⟩
end
/-! ### A function that yields -/
section
variable {P : Program} {ro : Option Nat} {ds : List Deferred} {m n : Nat} {st : Slots} {S : Nat → Prop} {w0 : World} {H : List Res} {Q : Exit → Act → World → Prop}
theorem opsIn_app {F : Fence} {ops : Array Oper} {rest : List Nat} : ∀ (l : List Nat) (a : Act) (w : World), wpOpsIn F m P ops (Exit.then (wpOpsIn F m P ops Q rest) Q) l a w → wpOpsIn F m P ops Q (l ++ rest) a w
  | [], a, w, h => h
  | i :: l, a, w, h => by
    rw [wpOpsIn_cons] at h
    rw [List.cons_append, wpOpsIn_cons]
    unfold wpOpIn at h ⊢
    cases ho : ops[i]? with
    | none => simp only [ho] at h ⊢; exact opsIn_app l a w h
    | some o =>
      simp only [ho] at h ⊢
      by_cases hw : Region.wanted o (yielded ops a.tmps) = true
      · simp only [hw, if_true] at h ⊢
        refine Oper.wpIn_mono (K := wpOpsIn F m P ops (Exit.then (wpOpsIn F m P ops Q rest) Q) l) (fun a w => opsIn_app l a w) ?_
        exact h
      · simp only [hw] at h ⊢
        exact ⟨h.1, opsIn_app l _ w h.2⟩
/-- What is left of a region at an operation that yields. -/
structure YR (ro : Option Nat) (ds : List Deferred) (m : Nat) (P : Program) (ops : List Oper) (Q : Exit → Act → World → Prop) (i : Nat) (l : List Nat) (a : Act) (W : World → Prop) : Prop where
  run : ∀ w, W w → wpOpsIn (FW ro) m P ops.toArray Q (i :: l) { a with defers := ds } w
theorem cg_yield {id : Nat} {ops : List Oper} [hq : NoOut Q] (l1 : List Nat) (i : Nat) (l2 : List Nat) (hn : noDefer ops.toArray = true) (hl : List.range ops.length = l1 ++ i :: l2) (h : MX P ops (fun _ => True) (fun _ => true) (YR ro ds m P ops Q i l2) l1 n st S w0 H) : CG ro ds m P (.region id ops.toArray false) Q n st S w0 H := ⟨fun w hw => by
  refine wpIn_region ?_
  rw [List.size_toArray, hl]
  refine opsIn_app l1 _ w (wpOps_in hn _ _ _ (ops_of_mix (anc := fun _ => true) (C := fun _ => True) (R := fun a W => ∀ w, W w → wpOpsIn (FW ro) m P ops.toArray Q (i :: l2) a w) (fun _ _ _ _ => trivial) (fun a W h => h) l1 _ _ w stb_ok (fun _ _ => trivial) hw (mix_ds ds (fun a W h => h.run) l1 _ _ (h.run fun _ _ => trivial))))⟩
theorem Oper.wpIn_round {F : Fence} {o : Oper} {a : Act} {w : World} {K : Act → World → Prop} {y : Operand} {xs : Array Operand} {ts : Array TypeId} (hop : o.op = .call { callee := .value y, args := xs, argTypes := ts }) {lp : Nat} (hy : a.eval y = .func (.yield lp) #[] #[]) {args : Array Value} (hx : xs.map a.eval = args) {R : Ending → World → Prop} (hd : F.depth = none) (hf : ∀ f, F.fn f) (hY : YieldAt F (m - 1) P lp args w R) (hK : ∀ e w', R e w' → ∃ v, e = .returned v ∧ K (a.put o.dst v) w') : o.wpIn F m P a w K Q := by
  obtain ⟨fn, tmps, assign, body, hr, hround⟩ := hY
  refine ⟨fun f _ => hf f, ?_⟩
  have hs : o.semAt F.round a.eval = execOp a.eval o := by
    cases hro : F.round with
    | none => rfl
    | some l => exact Oper.semAt_some l _ _ (fun c hc => by rw [hop] at hc; cases hc)
  rw [hs]
  have he : (execOp a.eval o).run P w = .ok (.round lp fn tmps assign body) w := by
    subst hx
    simp [execOp, hop, resolve, hy, Deferred.ofValue, invoke, hr]
  rw [he]
  refine ⟨fun h => (by rw [hd] at h; cases h), hround.mono fun e w' hR => ?_⟩
  obtain ⟨v, rfl, hv⟩ := hK e w' hR
  exact hv
theorem yield_op {ops : List Oper} {i : Nat} {l : List Nat} {o : Oper} (ho : nthO ops i = some o) (hg : o.guard = none) {y : Operand} {xs : Array Operand} {ts : Array TypeId} (hop : o.op = .call { callee := .value y, args := xs, argTypes := ts }) {lp : Nat} (hy : ev n st y = .func (.yield lp) #[] #[]) (vs : List Value) (hx : xs.toList.map (ev n st) = vs) {w : World} {R : Ending → World → Prop} (hY : YieldAt (FW ro) (m - 1) P lp vs.toArray w R)
    (hK : ∀ e w', R e w' → ∃ v, e = .returned v ∧ wpOpsIn (FW ro) m P ops.toArray Q l { fr n (up o.dst v st) with defers := ds } w') : wpOpsIn (FW ro) m P ops.toArray Q (i :: l) { fr n st with defers := ds } w := by
  rw [wpOpsIn_cons]
  unfold wpOpIn
  have ho' : ops.toArray[i]? = some o := by rw [nthO_eq]; exact ho
  simp only [ho']
  have hw : Region.wanted o (yielded ops.toArray ({ fr n st with defers := ds } : Act).tmps) = true := by unfold Region.wanted; rw [hg]
  simp only [hw, if_true]
  refine Oper.wpIn_round hop (by rw [eval_frd]; exact hy) (by rw [← hx]; apply Array.ext'; simp [eval_frd]) rfl (fun _ => trivial) hY fun e w' hR => ?_
  obtain ⟨v, he, hv⟩ := hK e w' hR
  refine ⟨v, he, ?_⟩
  have : ({ fr n st with defers := ds } : Act).put o.dst v = { fr n (up o.dst v st) with defers := ds } := by
    have h := put_fr n st o.dst v
    rw [← h]
    cases o.dst <;> rfl
  rw [this]
  exact hv
theorem mx_yr {ops : List Oper} {C : World → Prop} {anc : Nat → Bool} {i : Nat} {l2 : List Nat} (h : ∀ w, Ok S w0 H w → wpOpsIn (FW ro) m P ops.toArray Q (i :: l2) { fr n st with defers := ds } w) : MX P ops C anc (YR ro ds m P ops Q i l2) [] n st S w0 H := ⟨fun _ => ⟨h⟩⟩
theorem abides_grow {β : Type} {B : Nat} {J : β → World → Prop} (hJ : AbidesFrom B J) {s : β} {W W' : World} (h : J s W) (g : Grow W W') : J s W' := hJ s W W' none h ⟨g.os, g.tape, g.output, g.size, fun k hk _ => g.block k hk⟩ fun r e => by cases e
/-- The rest of a region. -/
theorem opsIn_rest {ops : List Oper} [hq : NoOut Q] (hn : noDefer ops.toArray = true) {l : List Nat} {w : World} (h : MX P ops (fun _ => True) (fun _ => true) (RW (Qd ds Q)) l n st S w0 H) (hw : Ok S w0 H w) : wpOpsIn (FW ro) m P ops.toArray Q l { fr n st with defers := ds } w :=
  wpOps_in hn _ _ _ (ops_of_mix (anc := fun _ => true) (C := fun _ => True) (R := fun a W => ∀ w, W w → Q .normal a w) (fun _ _ _ _ => trivial) (fun a W h => h) _ _ _ w stb_ok (fun _ _ => trivial) hw (mix_ds ds (fun a W h => h) _ _ _ (h.run fun _ _ => trivial)))
/-! ### Loops told by the world -/
def LX (n : Nat) (live : Nat → Slots) (I : Nat → World → Prop) (μ : Nat → Nat) (i : Nat) (a : Act) (w : World) : Prop := ∃ i' jk, μ i' < μ i ∧ I i' w ∧ a = fr n (live i' ++ jk)
theorem cg_loopX {c : Code} (live : Nat → Slots) (I : Nat → World → Prop) (μ : Nat → Nat) (i0 : Nat) (h0 : ∀ w, Ok S w0 H w → I i0 w) (hs : agree (live i0) st)
    (round : ∀ i jk w, I i w → CG ro [] m P c (Exit.then (LX n live I μ i) Q) n (live i ++ jk) (fun _ => False) w []) : CG ro [] m P (.loop c) Q n st S w0 H := ⟨fun w hw => by
  have key : ∀ k i jk w, μ i < k → I i w → Code.roundsIn (FW ro) m P c Q k (fr n (live i ++ jk)) w := by
    intro k
    induction k with
    | zero => intro i jk w h; omega
    | succ k ih =>
      intro i jk w hk hI
      refine wpIn_mono ((round i jk w hI).run w (Ok.start w)) fun e a w hq => ?_
      cases e with
      | normal => obtain ⟨i', jk', h1, h2, rfl⟩ := hq; exact ih i' jk' w (by omega) h2
      | _ => exact hq
  have e : ({ fr n st with defers := [] } : Act) = fr n (live i0 ++ st) := (fr_agree hs).symm
  rw [e]
  exact wpIn_loop_rounds (μ i0 + 1) (key _ i0 st w (Nat.lt_succ_self _) (h0 w hw))⟩
theorem pg_roundX {live : Nat → Slots} {I : Nat → World → Prop} {μ : Nat → Nat} {i : Nat} (i' : Nat) (hm : μ i' < μ i) (hs : agree (live i') st) (hI : ∀ w, Ok S w0 H w → I i' w) : PW (Qd [] (Exit.then (LX n live I μ i) Q)) .normal n st S w0 H := ⟨fun w hw => ⟨i', st, hm, hI w hw, (fr_agree hs).symm⟩⟩
end
end Go.Sx
