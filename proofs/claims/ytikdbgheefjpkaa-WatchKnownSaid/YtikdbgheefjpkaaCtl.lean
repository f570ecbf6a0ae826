/- Control: sequences, tests, blocks, loops, returns, entering a function. Plain theorems over any program. -/
import Derived.Test.YtikdbgheefjpkaaStep
import Derived.Deep.LoopGhost
set_option linter.unusedVariables false
set_option linter.unusedSimpArgs false
namespace Go.Sx
open Go.RowKit
/-- A piece of code, from a frame and what is known of memory. -/
structure CW (P : Program) (c : Code) (Q : Exit → Act → World → Prop) (n : Nat) (st : Slots) (S : Nat → Prop) (w0 : World) (H : List Res) : Prop where
  mk' :: (run : ∀ w, Ok S w0 H w → c.wp P Q (fr n st) w)
/-- An end of a piece. -/
structure PW (Q : Exit → Act → World → Prop) (e : Exit) (n : Nat) (st : Slots) (S : Nat → Prop) (w0 : World) (H : List Res) : Prop where
  mk' :: (run : ∀ w, Ok S w0 H w → Q e (fr n st) w)
/-- Behind a region. -/
def RW (Q : Exit → Act → World → Prop) (a : Act) (W : World → Prop) : Prop := ∀ w, W w → Q .normal a w
section
variable {P : Program} {Q : Exit → Act → World → Prop} {n : Nat} {st : Slots} {S : Nat → Prop} {w0 : World} {H H' HC : List Res} {x y c : Code} {e : Exit}
theorem mx_end {ops : List Oper} {C : World → Prop} {anc : Nat → Bool} (h : PW Q .normal n st S w0 H) : MX P ops C anc (RW Q) [] n st S w0 H := ⟨fun _ => h.run⟩
theorem cw_seq (h : CW P x (Exit.then (y.wp P Q) Q) n st S w0 H) : CW P (.seq x y) Q n st S w0 H := ⟨fun w hw => wp_seq (h.run w hw)⟩
theorem cw_skip (h : PW Q .normal n st S w0 H) : CW P .skip Q n st S w0 H := ⟨fun w hw => wp_skip (h.run w hw)⟩
theorem cw_label {l : Nat} (h : PW Q .normal n st S w0 H) : CW P (.label l) Q n st S w0 H := ⟨fun w hw => wp_label (h.run w hw)⟩
theorem cw_exit {id : Nat} (h : PW Q (.exit id) n st S w0 H) : CW P (.exit id) Q n st S w0 H := ⟨fun w hw => wp_exit (h.run w hw)⟩
theorem cw_ret (h : PW Q .ret n st S w0 H) : CW P .ret Q n st S w0 H := ⟨fun w hw => wp_ret (h.run w hw)⟩
theorem cw_block {id : Nat} (h : CW P c (Exit.inBlock id Q) n st S w0 H) : CW P (.block id c) Q n st S w0 H := ⟨fun w hw => wp_block (h.run w hw)⟩
theorem cw_cond {z : Operand} {b : Bool} (hz : ev n st z = .bool b) (ht : b = true → CW P x Q n st S w0 H) (hf : b = false → CW P y Q n st S w0 H) : CW P (.cond z x y) Q n st S w0 H := ⟨fun w hw =>
  wp_cond_split (by rw [eval_fr]; exact hz) (fun h => (ht h).run w hw) (fun h => (hf h).run w hw)⟩
theorem cw_cond_t {z : Operand} (hz : ev n st z = .bool true) (h : CW P x Q n st S w0 H) : CW P (.cond z x y) Q n st S w0 H := ⟨fun w hw => wp_cond_true (by rw [eval_fr]; exact hz) (h.run w hw)⟩
theorem cw_cond_f {z : Operand} (hz : ev n st z = .bool false) (h : CW P y Q n st S w0 H) : CW P (.cond z x y) Q n st S w0 H := ⟨fun w hw => wp_cond_false (by rw [eval_fr]; exact hz) (h.run w hw)⟩
theorem cw_line {id : Nat} {ops : List Oper} {l : List Nat} (hl : List.range ops.length = l) (h : MX P ops (fun _ => True) (fun _ => true) (RW Q) l n st S w0 H) : CW P (.region id ops.toArray false) Q n st S w0 H := ⟨fun w hw =>
  wp_region_line (anc := fun _ => true) (C := fun _ => True) (fun _ _ _ _ => trivial) (fun a W h => h) stb_ok (fun _ _ => trivial) hw (by rw [List.size_toArray, hl]; exact h.run fun _ _ => trivial)⟩
theorem Ok.drawn {w : World} (h : Ok S w0 H w) : Ok S w0 H { w with drawn := w.drawn + 1 } := h.grow (Below.drew (Below.refl _ _))
theorem cw_draw {id : Nat} {ops : List Oper} (ord : List Nat) (anc : Nat → Bool) (HC : List Res) (hm : P.follows .mixedOrders = true) (hk : chk ops.toArray anc ord = true) (hc : ∀ w, Ok S w0 H w → Ok S w0 HC w)
    (h : MX P ops (Ok S w0 HC) anc (RW Q) ord n st S w0 H) : CW P (.region id ops.toArray true) Q n st S w0 H := ⟨fun w hw =>
  wp_region_mix (C := Ok S w0 HC) ord hm hk (fun a W h => h) stb_ok hc hw.drawn (h.run hc)⟩
/-- A region that only reads, whatever its order. -/
theorem cw_drawf {id : Nat} {ops : List Oper} {l : List Nat} (hm : P.follows .mixedOrders = true) (hk : chk ops.toArray (fun _ => false) (List.range ops.length) = true) (hl : List.range ops.length = l)
    (h : MX P ops (Ok S w0 H) (fun _ => false) (RW Q) l n st S w0 H) : CW P (.region id ops.toArray true) Q n st S w0 H :=
  cw_draw l (fun _ => false) H hm (hl ▸ hk) (fun _ h => h) h
/-- A region whose floating operations need nothing of memory. -/
theorem cw_drawt {id : Nat} {ops : List Oper} (ord : List Nat) (anc : Nat → Bool) (hm : P.follows .mixedOrders = true) (hk : chk ops.toArray anc ord = true)
    (h : MX P ops (fun _ => True) anc (RW Q) ord n st S w0 H) : CW P (.region id ops.toArray true) Q n st S w0 H := ⟨fun w hw =>
  wp_region_mix (C := fun _ => True) ord hm hk (fun a W h => h) stb_ok (fun _ _ => trivial) hw.drawn (h.run fun _ _ => trivial)⟩
theorem Ok.nil {w : World} (h : Ok S w0 H w) : Ok S w0 [] w := h.pick [] (by simp) (by simp)
theorem Ok.only {r : Res} {w : World} (h : Ok S w0 H w) (j : Nat) (hj : H[j]? = some r) : Ok S w0 [r] w := h.pick [j] (by simp) (by simp [hj])
/-- What is known may be told otherwise. -/
theorem cw_weak (hH : ∀ w, Ok S w0 H w → Ok S w0 H' w) (h : CW P c Q n st S w0 H') : CW P c Q n st S w0 H := ⟨fun w hw => h.run w (hH w hw)⟩
theorem pw_weak (hH : ∀ w, Ok S w0 H w → Ok S w0 H' w) (h : PW Q e n st S w0 H') : PW Q e n st S w0 H := ⟨fun w hw => h.run w (hH w hw)⟩
/-- What memory tells. -/
theorem cw_know {p : Prop} (hp : ∀ w, Ok S w0 H w → p) (h : p → CW P c Q n st S w0 H) : CW P c Q n st S w0 H := ⟨fun w hw => (h (hp w hw)).run w hw⟩
/-- Slots that stand so may be told ahead. -/
def agree : Slots → Slots → Prop
  | [], _ => True
  | (k, v) :: l, st => lk st k = v ∧ agree l st
theorem lk_append : ∀ (l st : Slots) (t : Nat), agree l st → lk (l ++ st) t = lk st t
  | [], _, _, _ => rfl
  | (k, v) :: l, st, t, h => by
    simp only [List.cons_append, lk]
    cases hb : Nat.beq k t with
    | true =>
      have : k = t := Nat.eq_of_beq_eq_true hb
      subst this
      exact h.1.symm
    | false => exact lk_append l st t h.2
theorem fr_agree {l st : Slots} (h : agree l st) : fr n (l ++ st) = fr n st := by
  unfold fr
  congr 1
  congr 1
  funext i
  exact lk_append l st i.val h
theorem cw_live (l : Slots) (hl : agree l st) (h : ∀ jk, CW P c Q n (l ++ jk) S w0 H) : CW P c Q n st S w0 H := ⟨fun w hw => by
  rw [← fr_agree hl]
  exact (h st).run w hw⟩
/-! ### Ends -/
theorem pw_then (h : CW P y Q n st S w0 H) : PW (Exit.then (y.wp P Q) Q) .normal n st S w0 H := ⟨h.run⟩
theorem pw_then_x {nx : Act → World → Prop} {id : Nat} (h : PW Q (.exit id) n st S w0 H) : PW (Exit.then nx Q) (.exit id) n st S w0 H := ⟨h.run⟩
theorem pw_then_r {nx : Act → World → Prop} (h : PW Q .ret n st S w0 H) : PW (Exit.then nx Q) .ret n st S w0 H := ⟨h.run⟩
theorem pw_then_g {nx : Act → World → Prop} {id : Nat} (h : PW Q (.goto id) n st S w0 H) : PW (Exit.then nx Q) (.goto id) n st S w0 H := ⟨h.run⟩
theorem pw_block {id : Nat} (h : PW Q .normal n st S w0 H) : PW (Exit.inBlock id Q) .normal n st S w0 H := ⟨h.run⟩
theorem pw_block_e {id : Nat} (h : PW Q .normal n st S w0 H) : PW (Exit.inBlock id Q) (.exit id) n st S w0 H := ⟨fun w hw => by simp only [Exit.inBlock, if_true]; exact h.run w hw⟩
theorem pw_block_n {id id' : Nat} (hn : Nat.beq id' id = false) (h : PW Q (.exit id') n st S w0 H) : PW (Exit.inBlock id Q) (.exit id') n st S w0 H := ⟨fun w hw => by
  have : ¬ id' = id := fun e => by subst e; rw [Nat.beq_refl] at hn; cases hn
  simp only [Exit.inBlock, this, if_false]; exact h.run w hw⟩
theorem pw_block_r {id : Nat} (h : PW Q .ret n st S w0 H) : PW (Exit.inBlock id Q) .ret n st S w0 H := ⟨h.run⟩
theorem pw_block_g {id l : Nat} (h : PW Q (.goto l) n st S w0 H) : PW (Exit.inBlock id Q) (.goto l) n st S w0 H := ⟨h.run⟩
/-! ### Loops -/
def LQ (ι : Type) (n : Nat) (S : Nat → Prop) (w0 : World) (live : ι → Slots) (H : ι → List Res) (I : ι → Prop) (μ : ι → Nat) (i : ι) (a : Act) (w : World) : Prop :=
  ∃ i' jk, I i' ∧ μ i' < μ i ∧ a = fr n (live i' ++ jk) ∧ Ok S w0 (H i') w
theorem cw_loop {ι : Type} (live : ι → Slots) (HH : ι → List Res) (I : ι → Prop) (μ : ι → Nat) (i0 : ι) (h0 : I i0) (hs : agree (live i0) st) (hH : ∀ w, Ok S w0 H w → Ok S w0 (HH i0) w)
    (round : ∀ i jk, I i → CW P c (Exit.then (LQ ι n S w0 live HH I μ i) Q) n (live i ++ jk) S w0 (HH i)) : CW P (.loop c) Q n st S w0 H := by
  refine ⟨fun w hw => ?_⟩
  refine wp_loop_ghost (fun m a w => ∃ i jk, μ i = m ∧ I i ∧ a = fr n (live i ++ jk) ∧ Ok S w0 (HH i) w) (μ i0) ⟨i0, st, rfl, h0, (fr_agree hs).symm, hH w hw⟩ ?_
  rintro m a w ⟨i, jk, rfl, hI, rfl, hok⟩
  refine wp_mono ((round i jk hI).run w hok) fun e a w hq => ?_
  cases e with
  | normal => obtain ⟨i', jk', h1, h2, h3, h4⟩ := hq; exact ⟨μ i', h2, i', jk', rfl, h1, h3, h4⟩
  | _ => exact hq
theorem pw_round {ι : Type} {live : ι → Slots} {HH : ι → List Res} {I : ι → Prop} {μ : ι → Nat} {i : ι} (i' : ι) (hI : I i') (hm : μ i' < μ i) (hs : agree (live i') st) (hH : ∀ w, Ok S w0 H w → Ok S w0 (HH i') w) :
    PW (Exit.then (LQ ι n S w0 live HH I μ i) Q) .normal n st S w0 H := ⟨fun w hw => ⟨i', st, hI, hm, (fr_agree hs).symm, hH w hw⟩⟩
/-! ### A place where roads meet -/
def MidW (ι : Type) (n : Nat) (S : Nat → Prop) (w0 : World) (live : ι → Slots) (HH : ι → List Res) (I : ι → Prop) (a : Act) (w : World) : Prop :=
  ∃ i jk, I i ∧ a = fr n (live i ++ jk) ∧ Ok S w0 (HH i) w
theorem cw_mid {ι : Type} (live : ι → Slots) (HH : ι → List Res) (I : ι → Prop) (hx : CW P x (Exit.then (MidW ι n S w0 live HH I) Q) n st S w0 H) (hy : ∀ i jk, I i → CW P y Q n (live i ++ jk) S w0 (HH i)) : CW P (.seq x y) Q n st S w0 H := ⟨fun w hw => by
  refine wp_seq (wp_mono (hx.run w hw) fun e a w hq => ?_)
  cases e with
  | normal => obtain ⟨i, jk, h1, rfl, h3⟩ := hq; exact (hy i jk h1).run w h3
  | _ => exact hq⟩
theorem pw_mid {ι : Type} {live : ι → Slots} {HH : ι → List Res} {I : ι → Prop} (i : ι) (hI : I i) (hs : agree (live i) st) (hH : ∀ w, Ok S w0 H w → Ok S w0 (HH i) w) : PW (Exit.then (MidW ι n S w0 live HH I) Q) .normal n st S w0 H := ⟨fun w hw => ⟨i, st, hI, (fr_agree hs).symm, hH w hw⟩⟩
/-! ### Returning and entering -/
theorem pw_ret {fn : Func} {R : Ending → World → Prop} (hn : (match e with | .normal | .ret => true | _ => false) = true) {t : Tmp} (hr : fn.results = #[.tmp t]) (ht : Nat.blt t n = true) {v : Value} (hv : lk st t = v) (h : ∀ w, Ok S w0 H w → R (.returned v) w) : PW (bodyPost P fn R) e n st S w0 H := by
  have key : ∀ w, Ok S w0 H w → (fr n st).defers = [] ∧ ∃ v, (results fn (fr n st).tmps).run P w = .ok v w ∧ R (.returned v) w := fun w hw => by
    refine ⟨rfl, v, ?_, h w hw⟩
    rw [results_tmp hr]
    have := eval_fr n st (.tmp t)
    simp only [Act.eval, ev, ht, cond_true, hv] at this
    rw [this]
  cases e <;> first | exact ⟨key⟩ | cases hn
theorem pw_ret0 {fn : Func} {R : Ending → World → Prop} (hn : (match e with | .normal | .ret => true | _ => false) = true) (hr : fn.results = #[]) (h : ∀ w, Ok S w0 H w → R (.returned (.tuple #[])) w) : PW (bodyPost P fn R) e n st S w0 H := by
  have key : ∀ w, Ok S w0 H w → (fr n st).defers = [] ∧ ∃ v, (results fn (fr n st).tmps).run P w = .ok v w ∧ R (.returned v) w := fun w hw => ⟨rfl, _, results_none hr _ _ _, h w hw⟩
  cases e <;> first | exact ⟨key⟩ | cases hn
/-- Several results, those in slots as they stand, those in memory read. -/
def resAt (n : Nat) (st : Slots) (P : Program) (W : World → Prop) : ResultVar → Value → Prop
  | .tmp t, v => ev n st (.tmp t) = v
  | .cell p ty, v => ∃ ad, ev n st (.tmp p) = .pointer (some ad) ∧ ∀ w, W w → (loadVar ty ad).run P w = .ok v w
def resAll (n : Nat) (st : Slots) (P : Program) (W : World → Prop) : List ResultVar → List Value → Prop
  | [], [] => True
  | r :: rs, v :: vs => resAt n st P W r v ∧ resAll n st P W rs vs
  | _, _ => False
def resOne (tmps : Array Value) : ResultVar → Sem Value
  | .tmp t => pure (tmps.getD t undef)
  | .cell a t => do loadVar t (← asAddr (tmps.getD a undef))
theorem run_resAll {W : World → Prop} : ∀ (rs : List ResultVar) (vs : List Value), resAll n st P W rs vs → ∀ w, W w → (rs.mapM (resOne (fr n st).tmps)).run P w = Result.ok vs w
  | [], [], _, w, _ => rfl
  | [], _ :: _, h, _, _ => False.elim h
  | _ :: _, [], h, _, _ => False.elim h
  | r :: rs, v :: vs, h, w, hw => by
    have ih := run_resAll rs vs h.2 w hw
    have h1 : (resOne (fr n st).tmps r).run P w = Result.ok v w := by
      cases r with
      | tmp t =>
        have h0 : ev n st (.tmp t) = v := h.1
        have := eval_fr n st (.tmp t)
        simp only [Act.eval] at this
        simp only [resOne, Sem.run_pure]
        rw [this, h0]
      | cell p ty =>
        obtain ⟨ad, h0, h2⟩ := h.1
        have := eval_fr n st (.tmp p)
        simp only [Act.eval] at this
        simp only [resOne]
        rw [this, h0]
        simp [asAddr, h2 w hw]
    simp only [List.mapM_cons, Sem.run_bind, h1, Result.andThen_ok, ih, Sem.run_pure]
def tupOf : List Value → Value
  | [v] => v
  | vs => .tuple vs.toArray
theorem pw_rets {fn : Func} {R : Ending → World → Prop} (hn : (match e with | .normal | .ret => true | _ => false) = true) (vs : List Value) (hr : resAll n st P (Ok S w0 H) fn.results.toList vs) {v : Value} (hv : tupOf vs = v) (h : ∀ w, Ok S w0 H w → R (.returned v) w) : PW (bodyPost P fn R) e n st S w0 H := by
  have key : ∀ w, Ok S w0 H w → (fr n st).defers = [] ∧ ∃ v, (results fn (fr n st).tmps).run P w = .ok v w ∧ R (.returned v) w := fun w hw => by
    refine ⟨rfl, v, ?_, h w hw⟩
    have h1 := run_resAll fn.results.toList vs hr w hw
    have h2 : (fn.results.mapM (resOne (fr n st).tmps)).run P w = .ok vs.toArray w := by
      rw [Array.mapM_eq_mapM_toList, Sem.run_map, h1]; rfl
    have h3 : results fn (fr n st).tmps = (fn.results.mapM (resOne (fr n st).tmps) >>= fun vs => pure (if h : vs.size = 1 then vs[0] else .tuple vs)) := by
      unfold results
      congr 1
    rw [h3, Sem.run_bind, h2]
    simp only [Result.andThen_ok, Sem.run_pure, ← hv]
    match vs with
    | [] => rfl
    | [v] => rfl
    | a :: b :: l => simp [tupOf]
  cases e <;> first | exact ⟨key⟩ | cases hn
def argSlots : Nat → List Value → Slots
  | _, [] => []
  | k, v :: l => (k, v) :: argSlots (k + 1) l
theorem lk_argSlots : ∀ (l : List Value) (k t : Nat), lk (argSlots k l) t = if k ≤ t then l.getD (t - k) undef else undef
  | [], k, t => by simp [argSlots, lk]
  | v :: l, k, t => by
    simp only [argSlots, lk]
    cases hb : Nat.beq k t with
    | true =>
      have : k = t := Nat.eq_of_beq_eq_true hb
      subst this
      simp
    | false =>
      have hne : k ≠ t := fun e => by subst e; rw [Nat.beq_refl] at hb; cases hb
      simp only [cond_false, lk_argSlots l (k + 1) t]
      by_cases h : k ≤ t
      · have h1 : k + 1 ≤ t := by omega
        have h2 : t - k = (t - (k + 1)) + 1 := by omega
        simp [h, h1, h2]
      · have h1 : ¬ k + 1 ≤ t := by omega
        simp [h, h1]
theorem enter {f : FuncId} {fn : Func} (hf : P.funcs[f]? = some fn) (hb : fn.body = some c) (hn : fn.ntmps = n) {args : List Value} (ha : args.length ≤ n) {st0 : Slots} (hs : argSlots 0 args = st0) {R : Ending → World → Prop} {w : World} (hok : Ok S w0 H w)
    (h : CW P c (bodyPost P fn R) n st0 S w0 H) : Calls P f args.toArray w R := by
  subst hs; subst hn
  refine calls_of_wp hf hb ?_
  have := h.run w hok
  have e : ({ tmps := args.toArray ++ Array.replicate (fn.ntmps - args.toArray.size) undef, defers := [] } : Act) = fr fn.ntmps (argSlots 0 args) := by
    unfold fr
    congr 1
    apply Array.ext
    · simp; omega
    · intro i h1 h2
      simp only [Array.getElem_ofFn, lk_argSlots, Nat.zero_le, if_true, Nat.sub_zero]
      rw [Array.getElem_append]
      split
      · rename_i hi; simp at hi; simp [hi]
      · rename_i hi; simp at hi; simp [List.getElem?_eq_none hi]
  rw [e]
  exact this
theorem enter0 {f : FuncId} {fn : Func} (n : Nat) (hf : P.funcs[f]? = some fn) (hb : fn.body = some c) (hn : fn.ntmps = n)  (ha : Nat.ble 0 n = true) {R : Ending → World → Prop} {w : World} (hok : Ok S w H w)
    (h : CW P c (bodyPost P fn R) n [] S w H) : Calls P f #[] w R := enter (args := []) hf hb hn (Nat.le_of_ble_eq_true ha) rfl hok h
theorem enter1 {f : FuncId} {fn : Func} (n : Nat) (hf : P.funcs[f]? = some fn) (hb : fn.body = some c) (hn : fn.ntmps = n) {v0 : Value} (ha : Nat.ble 1 n = true) {R : Ending → World → Prop} {w : World} (hok : Ok S w H w)
    (h : CW P c (bodyPost P fn R) n [(0, v0)] S w H) : Calls P f #[v0] w R := enter (args := [v0]) hf hb hn (Nat.le_of_ble_eq_true ha) rfl hok h
theorem enter2 {f : FuncId} {fn : Func} (n : Nat) (hf : P.funcs[f]? = some fn) (hb : fn.body = some c) (hn : fn.ntmps = n) {v0 v1 : Value} (ha : Nat.ble 2 n = true) {R : Ending → World → Prop} {w : World} (hok : Ok S w H w)
    (h : CW P c (bodyPost P fn R) n [(0, v0), (1, v1)] S w H) : Calls P f #[v0, v1] w R := enter (args := [v0, v1]) hf hb hn (Nat.le_of_ble_eq_true ha) rfl hok h
theorem enter3 {f : FuncId} {fn : Func} (n : Nat) (hf : P.funcs[f]? = some fn) (hb : fn.body = some c) (hn : fn.ntmps = n) {v0 v1 v2 : Value} (ha : Nat.ble 3 n = true) {R : Ending → World → Prop} {w : World} (hok : Ok S w H w)
    (h : CW P c (bodyPost P fn R) n [(0, v0), (1, v1), (2, v2)] S w H) : Calls P f #[v0, v1, v2] w R := enter (args := [v0, v1, v2]) hf hb hn (Nat.le_of_ble_eq_true ha) rfl hok h
theorem enter4 {f : FuncId} {fn : Func} (n : Nat) (hf : P.funcs[f]? = some fn) (hb : fn.body = some c) (hn : fn.ntmps = n) {v0 v1 v2 v3 : Value} (ha : Nat.ble 4 n = true) {R : Ending → World → Prop} {w : World} (hok : Ok S w H w)
    (h : CW P c (bodyPost P fn R) n [(0, v0), (1, v1), (2, v2), (3, v3)] S w H) : Calls P f #[v0, v1, v2, v3] w R := enter (args := [v0, v1, v2, v3]) hf hb hn (Nat.le_of_ble_eq_true ha) rfl hok h
theorem enter5 {f : FuncId} {fn : Func} (n : Nat) (hf : P.funcs[f]? = some fn) (hb : fn.body = some c) (hn : fn.ntmps = n) {v0 v1 v2 v3 v4 : Value} (ha : Nat.ble 5 n = true) {R : Ending → World → Prop} {w : World} (hok : Ok S w H w)
    (h : CW P c (bodyPost P fn R) n [(0, v0), (1, v1), (2, v2), (3, v3), (4, v4)] S w H) : Calls P f #[v0, v1, v2, v3, v4] w R := enter (args := [v0, v1, v2, v3, v4]) hf hb hn (Nat.le_of_ble_eq_true ha) rfl hok h
theorem enter6 {f : FuncId} {fn : Func} (n : Nat) (hf : P.funcs[f]? = some fn) (hb : fn.body = some c) (hn : fn.ntmps = n) {v0 v1 v2 v3 v4 v5 : Value} (ha : Nat.ble 6 n = true) {R : Ending → World → Prop} {w : World} (hok : Ok S w H w)
    (h : CW P c (bodyPost P fn R) n [(0, v0), (1, v1), (2, v2), (3, v3), (4, v4), (5, v5)] S w H) : Calls P f #[v0, v1, v2, v3, v4, v5] w R := enter (args := [v0, v1, v2, v3, v4, v5]) hf hb hn (Nat.le_of_ble_eq_true ha) rfl hok h
theorem enter7 {f : FuncId} {fn : Func} (n : Nat) (hf : P.funcs[f]? = some fn) (hb : fn.body = some c) (hn : fn.ntmps = n) {v0 v1 v2 v3 v4 v5 v6 : Value} (ha : Nat.ble 7 n = true) {R : Ending → World → Prop} {w : World} (hok : Ok S w H w)
    (h : CW P c (bodyPost P fn R) n [(0, v0), (1, v1), (2, v2), (3, v3), (4, v4), (5, v5), (6, v6)] S w H) : Calls P f #[v0, v1, v2, v3, v4, v5, v6] w R := enter (args := [v0, v1, v2, v3, v4, v5, v6]) hf hb hn (Nat.le_of_ble_eq_true ha) rfl hok h
end
end Go.Sx
