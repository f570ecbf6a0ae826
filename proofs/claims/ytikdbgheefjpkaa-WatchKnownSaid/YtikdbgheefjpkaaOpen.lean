/- What came in, opened: flat values, lists of flat elements; and what is carried to the end of a call that writes nothing old. Plain theorems over any program. -/
import Derived.Test.YtikdbgheefjpkaaMore
import Derived.WalkKit
import Derived.ProofKit
import Derived.OpenShut
import Derived.ShutString
import Derived.ChangeOld
import Derived.Below
import Derived.Deep.Slices
import Derived.Handed
import Derived.WideWitness
set_option linter.unusedVariables false
set_option linter.unusedSimpArgs false
namespace Go.Sx
open Go.ChangeShapes Go.WideShapes Go.ChangeAt Go.RowKit
/-- A whole number within its kind. -/
def okv : Value → Bool
  | .int k n => (Lit.int k n).wf
  | _ => true
/-- Cells that fit, in range. -/
def fitW (ks : List LK) (vs : List Value) : Prop := allFit ks vs = true ∧ vs.all okv = true
theorem fitW_append {ks ks' : List LK} {vs vs' : List Value} (h : fitW ks vs) (h' : fitW ks' vs') : fitW (ks ++ ks') (vs ++ vs') := ⟨allFit_append h.1 h'.1, by rw [List.all_append, h.2, h'.2]; rfl⟩
theorem take_len {α : Type} (xs : List α) (m q : Nat) (h : (xs.take m).length = q) : xs.take m = xs.take q := by
  rw [List.length_take] at h
  subst h
  by_cases hm : m ≤ xs.length
  · rw [Nat.min_eq_left hm]
  · rw [Nat.min_eq_right (by omega), List.take_of_length_le (by omega), List.take_of_length_le (by omega)]
section
variable {H : Type} {enc : TypeId × Value → H} {P : Program} {w : World} {base : Nat} {sp : Nat → Bool} {held : Bool}
theorem trod_fs {d fuel : Nat} (ih : ∀ (t : Nat) (l : List LK), flatT P d t = some l → ∀ (cs : List Value) (x : DataW H × List MemPlace), DataW.trod enc P w base sp held fuel t cs = some x → fitW l cs) (cs : List Value) :
    ∀ (fs : List Field) (acc l : List LK), flatFs (flatT P d) fs acc = some l → (∀ f ∈ fs, ∃ x, DataW.trod enc P w base sp held fuel f.type ((cs.drop f.offset).take (P.cellsOf f.type)) = some x) → fitW acc (cs.take acc.length) → fitW l (cs.take l.length)
  | [], acc, l, h, _, ha => by
    simp [flatFs] at h; subst h; exact ha
  | f :: fs, acc, l, h, hx, ha => by
    simp only [flatFs] at h
    split at h
    · cases h
    · split at h
      · cases h
      · rename_i ho
        have ho : f.offset = acc.length := by simpa using ho
        split at h
        · rename_i lf hf
          obtain ⟨x, hxx⟩ := hx f (by simp)
          have h1 := ih f.type lf hf _ x hxx
          have h2 := allFit_len h1.1
          rw [take_len _ _ _ h2, ho] at h1
          refine trod_fs ih cs fs (acc ++ lf) l h (fun g hg => hx g (List.mem_cons_of_mem _ hg)) ?_
          rw [List.length_append, List.take_add]
          exact fitW_append ha h1
        · cases h
theorem trod_flat : ∀ (d t : Nat) (l : List LK), flatT P d t = some l → ∀ (fuel : Nat) (cs : List Value) (x : DataW H × List MemPlace), DataW.trod enc P w base sp held fuel t cs = some x → fitW l cs
  | 0, t, l, h, _, _, _, _ => by simp [flatT] at h
  | d + 1, t, l, h, fuel, cs, x, hx => by
    have hall := h
    simp only [flatT] at h
    split at h
    · rename_i k hu
      simp at h; subst h
      obtain ⟨n, rfl, _, hw⟩ := DataW.trod_int hu hx
      exact ⟨by simp [allFit, LK.fits], by simp [okv, hw]⟩
    · rename_i hu
      simp at h; subst h
      obtain ⟨n, rfl, _⟩ := DataW.trod_bool hu hx
      exact ⟨rfl, rfl⟩
    · rename_i fs hu
      split at h
      · cases h
      · split at h
        · rename_i l' hl'
          split at h
          · rename_i hs
            simp at h; subst h
            obtain ⟨xs, n, rfl, _, hlen, hxl, hf⟩ := DataW.trod_struct hu hx
            have hc : P.cellsOf t = l'.length := by simp [Program.cellsOf, hs]
            have := trod_fs (d := d) (fuel := n) (fun t l h cs x hx => trod_flat d t l h n cs x hx) cs fs.toList [] l' hl' (fun f hf' => ?_) ⟨rfl, rfl⟩
            · rwa [List.take_of_length_le (by omega)] at this
            · obtain ⟨i, hi⟩ := List.getElem?_of_mem hf'
              have h1 := hf i f (by simpa using hi)
              have hil : i < xs.length := by
                have := (List.getElem?_eq_some_iff.1 hi).1
                simp at this
                omega
              rw [List.getElem?_eq_getElem hil] at h1
              exact ⟨_, h1⟩
          · cases h
        · cases h
    · rename_i n e hu
      split at h
      · rename_i le hle
        split at h
        · rename_i hse
          split at h
          · rename_i hst
            simp at h; subst h
            obtain ⟨xs, m, rfl, _, hlen, hxl, hf⟩ := DataW.trod_array hu hx
            have hce : P.cellsOf e = le.length := by simp [Program.cellsOf, hse]
            have hct : P.cellsOf t = n * le.length := by simp [Program.cellsOf, hst]
            have key : ∀ k, k ≤ n → fitW (tab k fun _ => le) (cs.take (k * le.length)) := by
              intro k
              induction k with
              | zero => intro _; rw [Nat.zero_mul, List.take_zero]; exact ⟨rfl, rfl⟩
              | succ k ihk =>
                intro hk
                rw [tab_succ, Nat.add_mul, Nat.one_mul, List.take_add]
                refine fitW_append (ihk (by omega)) ?_
                have h1 := hf k (by omega)
                rw [List.getElem?_eq_getElem (by omega : k < xs.length), hce] at h1
                exact trod_flat d e le hle m _ _ h1
            have := key n (Nat.le_refl _)
            rwa [List.take_of_length_le (by omega)] at this
          · cases h
        · cases h
      · cases h
    · cases h
theorem open_flat {r : Reach} {b0 : Nat} {t : TypeId} {ks : List LK} (hf : Flat P t ks) {v : Value} {dd : DataW H} {ps : List MemPlace} (hval : Value.okWide P w r b0 t v) (hd : DataW.Trod enc P w base sp held t v dd ps) :
    ∃ cs : List Value, v = .agg cs.toArray ∧ fitW ks cs := by
  obtain ⟨cs, rfl⟩ : ∃ cs, v = .agg cs := by
    have hag := hf.agg
    unfold isAg at hag
    unfold Value.okWide at hval
    cases hu : P.underlying t with
    | none => simp [hu] at hag
    | some D =>
      rw [hu] at hag hval
      cases D <;> simp at hag <;> (obtain ⟨cs, h, _⟩ := hval; exact ⟨cs, h⟩)
  obtain ⟨fuel, hx⟩ := hd
  exact ⟨cs.toList, by simp, trod_flat 40 t ks hf.flat fuel _ _ hx⟩
end
section
variable {H : Type} {enc : TypeId × Value → H} {P : Program} {w : World} {base : Nat} {sp : Nat → Bool} {held : Bool}
/-- A list of flat elements. -/
theorem open_in {α : Type} [Inhabited α] {c : α → List Value} {ks : List LK} (hof : ∀ vs, allFit ks vs = true → ∃ x, vs = c x) {r : Reach} {b0 : Nat} {t e z : Nat} (ht : P.underlying t = some (.slice e)) (hf : flatT P 40 e = some ks) (hz : P.cellsOf e = z) (hz0 : 0 < z)
    {v : Value} {dd : DataW H} {ps : List MemPlace} (hval : Value.okWide P w r b0 t v) (hd : DataW.Trod enc P w base sp held t v dd ps) :
    ∃ (ad : Option Addr) (cap : Nat) (l : List α), v = .slice ad l.length cap ∧ l.length ≤ cap ∧ cap ≤ maxLen ∧ InL w ad z c l ∧ ∀ x ∈ l, (c x).all okv = true := by
  subst hz
  obtain ⟨ad, len, cap, rfl⟩ := okWide_slice ht hval
  obtain ⟨fuel, hx⟩ := hd
  rcases Go.Deep.open_slice ht hx with ⟨h1, _⟩ | ⟨a, len', cap', m, n, D, Pl, h1, _, hl, hm, hmm, _, hel⟩
  · simp [Value.cells] at h1
    obtain ⟨rfl, rfl, rfl⟩ := h1
    exact ⟨none, 0, [], rfl, by simp, by simp, fun h => absurd rfl h, by simp⟩
  · simp [Value.cells] at h1
    obtain ⟨rfl, rfl, rfl⟩ := h1
    have hlm : len ≤ m := by rw [hmm]; split <;> omega
    have hch : ∀ i, ∃ x : α, i < len → (∀ k v, (c x)[k]? = some v → w.cell? ((a.add (i * P.cellsOf e)).add k) = some v) ∧ (c x).all okv = true ∧ (c x).length = P.cellsOf e := fun i => by
      by_cases hi : i < len
      · obtain ⟨cs, hc, htr⟩ := hel i (by omega)
        obtain ⟨h1, h2⟩ := trod_flat 40 e ks hf n cs _ htr
        obtain ⟨x, rfl⟩ := hof cs h1
        obtain ⟨_, h3, h4⟩ := World.cells?_some hc
        refine ⟨x, fun _ => ⟨fun k v hk => ?_, h2, h3⟩⟩
        rw [h4 k (by rw [← h3]; exact (List.getElem?_eq_some_iff.1 hk).1), hk]
      · exact ⟨default, fun h => absurd h hi⟩
    let f : Nat → α := fun i => Classical.choose (hch i)
    have hsp : ∀ i, i < len → _ := fun i => Classical.choose_spec (hch i)
    refine ⟨some a, cap, (List.range len).map f, by simp, by simpa using hl, hm, fun hne => ?_, fun x hx => ?_⟩
    · have hlen : 0 < len := by
        cases len with
        | zero => simp at hne
        | succ k => omega
      obtain ⟨h1, _, h3⟩ := hsp 0 hlen
      have hspot : a.spot = none := by
        have h4 : 0 < (c (Classical.choose (hch 0))).length := by omega
        have h5 := h1 0 _ (List.getElem?_eq_getElem h4)
        have e0 : (a.add (0 * P.cellsOf e)).add 0 = a := by simp [Addr.add]
        have h6 := World.cell?_spot h5
        rwa [e0] at h6
      obtain ⟨b, off, spot⟩ := a
      have hspot : spot = none := hspot
      subst hspot
      refine ⟨b, off, rfl, fun i x hx k v hk => ?_⟩
      have hi : i < len := by have := (List.getElem?_eq_some_iff.1 hx).1; simpa using this
      have hxe : x = f i := by simp [hi] at hx; exact hx.symm
      subst hxe
      have := (hsp i hi).1 k v hk
      simpa only [Addr.add_lit] using this
    · obtain ⟨i, hi, rfl⟩ := List.mem_map.1 hx
      exact (hsp i (by simpa using hi)).2.1
end
/-! ### An input that fits, told in time -/
def zipOk (P : Program) (w : World) : List TypeId → List Value → Bool
  | [], [] => true
  | u :: us, v :: vs => Cell.okWideB P w u v && zipOk P w us vs
  | _, _ => false
theorem zipOk_at {P : Program} {w : World} : ∀ {us : List TypeId} {vs : List Value}, zipOk P w us vs = true → us.length = vs.length ∧ ∀ (i : Nat) (v : Value), vs[i]? = some v → ∃ u, us[i]? = some u ∧ Cell.okWideB P w u v = true
  | [], [], _ => ⟨rfl, by simp⟩
  | [], _ :: _, h => by simp [zipOk] at h
  | _ :: _, [], h => by simp [zipOk] at h
  | u :: us, v :: vs, h => by
    simp only [zipOk, Bool.and_eq_true] at h
    obtain ⟨h1, h2⟩ := zipOk_at h.2
    refine ⟨by simp [h1], fun i x hx => ?_⟩
    cases i with
    | zero => simp at hx; subst hx; exact ⟨u, rfl, h.1⟩
    | succ i => simpa using h2 i x (by simpa using hx)
def valLin (P : Program) (w : World) (t : TypeId) (v : Value) : Bool :=
  match P.underlying t with
  | some (.struct _) | some (.array _ _) =>
    match v with
    | .agg cs => cs.size == P.cellsOf t && (match P.cellTypes P.depth t with
      | some ts => zipOk P w ts cs.toList
      | none => false)
    | _ => false
  | _ => Cell.okWideB P w t v
theorem valLin_ok {P : Program} {w : World} {base : Nat} {t : TypeId} {v : Value} (h : valLin P w t v = true) : Value.okWide P w .any base t v := by
  have key : ∀ cs : Array Value, (cs.size == P.cellsOf t && (match P.cellTypes P.depth t with
      | some ts => zipOk P w ts cs.toList
      | none => false)) = true → cs.size = P.cellsOf t ∧ Row.okWide P w .any base t cs := fun cs h => by
    simp only [Bool.and_eq_true, beq_iff_eq] at h
    refine ⟨h.1, ?_⟩
    cases hts : P.cellTypes P.depth t with
    | none => simp [hts] at h
    | some ts =>
      simp only [hts] at h
      obtain ⟨h1, h2⟩ := zipOk_at h.2
      refine ⟨ts, hts, ⟨1, by simp at h1; omega⟩, fun i v hv => ?_⟩
      obtain ⟨u, hu, hc⟩ := h2 i v (by simpa using hv)
      have hi : i < ts.length := (List.getElem?_eq_some_iff.1 hu).1
      rw [Nat.mod_eq_of_lt hi]
      exact ⟨u, hu, Cell.okWide_of_okWideB hc⟩
  unfold valLin at h
  unfold Value.okWide
  split at h
  · rename_i fs hu
    simp only [hu]
    split at h
    · exact ⟨_, rfl, key _ h⟩
    · cases h
  · rename_i n e hu
    simp only [hu]
    split at h
    · exact ⟨_, rfl, key _ h⟩
    · cases h
  · rename_i h1 h2
    split
    · rename_i fs hu; exact absurd hu (h1 fs)
    · rename_i n e hu; exact absurd hu (h2 n e)
    · exact Cell.okWide_of_okWideB h
def inLin (P : Program) (w : World) (f : FuncId) (args : Array Value) : Bool :=
  (P.inits.idxOf? f).isNone &&
  match P.funcs[f]? with
  | some fn => fn.body.isSome && !fn.ours && fn.nfree == 0 && args.size == fn.params.size && ((List.range fn.params.size).all fun j =>
        match fn.params[j]?, args[j]? with
        | some t, some v => valLin P w t v
        | _, _ => false)
  | none => false
theorem inLin_ok {P : Program} {w : World} {base : Nat} {f : FuncId} {args : Array Value} (h : inLin P w f args = true) : Input.okWide P w .any base f ⟨#[], args, []⟩ := by
  unfold inLin at h
  simp only [Bool.and_eq_true, Option.isNone_iff_eq_none] at h
  obtain ⟨hi, hf⟩ := h
  refine ⟨by simp, by simp, hi, ?_⟩
  cases hfn : P.funcs[f]? with
  | none => simp [hfn] at hf
  | some fn =>
    simp only [hfn, Bool.and_eq_true, Bool.not_eq_true', beq_iff_eq, List.all_eq_true, List.mem_range] at hf
    obtain ⟨⟨⟨⟨h1, h2⟩, h3⟩, h4⟩, h6⟩ := hf
    refine ⟨fn, rfl, h1, h2, h3, h4, fun j t v hj hv => ?_⟩
    have hlt : j < fn.params.size := (Array.getElem?_eq_some_iff.1 hj).1
    have := h6 j hlt
    rw [hj, hv] at this
    exact valLin_ok this
theorem witnessL {H : Type} {enc : TypeId × Value → H} {C : Checked} {os : Os} {f : FuncId} {fn : Func} {s : ChangeSpec} {conds : List PathCond} {apart : Bool} (modest : Bool) (i : Input) (fuel : Nat)
    (hv : (World.plainHolding C.prog os i).variablesB C.prog = true)
    (hr : ((World.plainHolding C.prog os i).heap.toList.drop C.prog.globals.size).take ((begin C.prog (fun _ _ => 0) default).world.heap.size - C.prog.globals.size) =
      (begin C.prog (fun _ _ => 0) default).world.heap.toList.drop C.prog.globals.size)
    (hok : inLin C.prog (World.plainHolding C.prog os i) f i.args = true)
    (hpre : s.preB enc C.prog fn conds apart (World.plainHolding C.prog os i).memory i.args fuel = true)
    (hsz : s.sizedB enc C.prog fn apart (World.plainHolding C.prog os i).memory i.args fuel = true) :
    ∃ (w : World) (tape : Tape) (i : Input), w.os = os ∧ (w.forCall tape i).Shaped C.prog ∧ i.vars = [] ∧ Input.okWide C.prog (w.forCall tape i) .any w.heap.size f i ∧
      s.pre6 enc C.prog fn conds apart (w.forCall tape i).memory i.args ∧ ({ modest := modest } : Assume).holds C.prog (lone (Frame.enter C.prog f i.args .normal) [] (w.forCall tape i)) :=
  ⟨World.holding C.prog os i, fun _ _ => 0, ⟨#[], i.args, []⟩, rfl, World.shaped_of_B hv hr, rfl, inLin_ok hok, ⟨ChangeSpec.pre_of_preB hpre, sizedMet_of_sizedB hsz⟩, by
    simp only [Assume.holds]
    exact ⟨by simp, by simp, fun _ => Modest.zero, by simp, by simp⟩⟩
end Go.Sx
