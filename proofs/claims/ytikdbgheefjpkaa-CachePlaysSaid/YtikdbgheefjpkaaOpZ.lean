/- What came in, opened, with how much memory it takes: lists, structs, forms. -/
import Derived.Test.YtikdbgheefjpkaaQf
import Derived.Test.YtikdbgheefjpkaaOpU
import Derived.Test.YtikdbgheefjpkaaOp2
import Derived.SizedLaws
set_option linter.unusedVariables false
set_option linter.unusedSimpArgs false
namespace Go.Sx
open Go.ChangeShapes Go.WideShapes Go.ChangeAt Go.RowKit
section
variable {H : Type} {enc : TypeId × Value → H} {P : Program} {w : World} {base : Nat} {sp : Nat → Bool} {held : Bool}
/-- Nothing of it takes more than there is. -/
def Wt (P : Program) (t : TypeId) (d : DataW H) : Prop := ∀ n ∈ d.weights P t, n ≤ reachBytes
theorem weightsAll_mem {e : TypeId} : ∀ {l : List (DataW H)} {d : DataW H}, d ∈ l → ∀ n ∈ d.weights P e, n ∈ DataW.weightsAll P e l
  | d0 :: l, d, hd, n, hn => by
    simp only [DataW.weightsAll, List.mem_append]
    rcases List.mem_cons.1 hd with rfl | hd
    · exact .inl hn
    · exact .inr (weightsAll_mem hd n hn)
theorem open_listw {α : Type} [Inhabited α] {c : α → List Value} {p : α → Prop} {t e z : Nat} (ht : P.underlying t = some (.slice e)) (hz : P.cellsOf e = z) (hz0 : 0 < z) (hel : ∀ n cs x, DataW.trod enc P w base sp held n e cs = some x → Wt P e x.1 → ∃ a : α, cs = c a ∧ p a)
    {n : Nat} {cs : List Value} {x : DataW H × List MemPlace} (hx : DataW.trod enc P w base sp held n t cs = some x) (hW : Wt P t x.1) :
    ∃ (ad : Option Addr) (cap : Nat) (l : List α), cs = [.slice ad l.length cap] ∧ l.length ≤ cap ∧ l.length * P.bytesOf e ≤ reachBytes ∧ InL w ad z c l ∧ ∀ x ∈ l, p x := by
  subst hz
  rcases Go.Deep.open_slice ht hx with ⟨h1, _⟩ | ⟨a, len', cap', m, n, D, Pl, h1, _, hl, hm, hmm, hxx, hel'⟩
  · exact ⟨none, 0, [], h1, by simp, by simp, fun h => absurd rfl h, by simp⟩
  · have hlm : len' ≤ m := by rw [hmm]; split <;> omega
    have hw1 : (len' + (m - len')) * P.bytesOf e ≤ reachBytes := by
      refine hW _ ?_
      rw [hxx]
      simp [DataW.weights, ht]
    have hw2 : ∀ i, i < len' → Wt P e (D i) := fun i hi k hk => by
      refine hW _ ?_
      rw [hxx]
      simp only [DataW.weights, ht, List.mem_cons, List.mem_append]
      exact .inr (.inl (weightsAll_mem (List.mem_map.2 ⟨i, by simpa using hi, rfl⟩) k hk))
    have hw3 : len' * P.bytesOf e ≤ reachBytes := Nat.le_trans (Nat.mul_le_mul_right _ (Nat.le_add_right _ _)) hw1
    have hch : ∀ i, ∃ x : α, i < len' → (∀ k v, (c x)[k]? = some v → w.cell? ((a.add (i * P.cellsOf e)).add k) = some v) ∧ p x ∧ (c x).length = P.cellsOf e := fun i => by
      by_cases hi : i < len'
      · obtain ⟨cs, hc, htr⟩ := hel' i (by omega)
        obtain ⟨x, rfl, hp⟩ := hel _ _ _ htr (hw2 i hi)
        obtain ⟨_, h3, h4⟩ := World.cells?_some hc
        refine ⟨x, fun _ => ⟨fun k v hk => ?_, hp, h3⟩⟩
        rw [h4 k (by rw [← h3]; exact (List.getElem?_eq_some_iff.1 hk).1), hk]
      · exact ⟨default, fun h => absurd h hi⟩
    let f : Nat → α := fun i => Classical.choose (hch i)
    have hsp : ∀ i, i < len' → _ := fun i => Classical.choose_spec (hch i)
    refine ⟨some a, cap', (List.range len').map f, by simpa using h1, by simpa using hl, by simpa using hw3, fun hne => ?_, fun x hx => ?_⟩
    · have hlen : 0 < len' := by
        cases len' with
        | zero => simp at hne
        | succ k => omega
      obtain ⟨h1, _, h3⟩ := hsp 0 hlen
      have hspot : a.spot = none := by
        have h4 : 0 < (c (Classical.choose (hch 0))).length := by omega
        have h5 := h1 0 _ (List.getElem?_eq_getElem h4)
        have e0 : (a.add (0 * P.cellsOf e)).add 0 = a := by simp [Addr.add]
        have h6 := World.cell?_spot h5
        rwa [e0] at h6
      obtain ⟨b, off, spot⟩ := a
      have hspot : spot = none := hspot
      subst hspot
      refine ⟨b, off, rfl, fun i x hx k v hk => ?_⟩
      have hi : i < len' := by have := (List.getElem?_eq_some_iff.1 hx).1; simpa using this
      have hxe : x = f i := by simp [hi] at hx; exact hx.symm
      subst hxe
      have := (hsp i hi).1 k v hk
      simpa only [Addr.add_lit] using this
    · obtain ⟨i, hi, rfl⟩ := List.mem_map.1 hx
      exact (hsp i (by simpa using hi)).2.1
theorem open_fieldsw {t : TypeId} {fl : List (Nat × Nat)} (h : fldOk P t fl = true) {n : Nat} {cs : List Value} {x : DataW H × List MemPlace} (hx : DataW.trod enc P w base sp held n t cs = some x) (hW : Wt P t x.1) :
    cs.length = P.cellsOf t ∧ ∀ (i ty off : Nat), fl[i]? = some (ty, off) → ∃ n' x', DataW.trod enc P w base sp held n' ty ((cs.drop off).take (P.cellsOf ty)) = some x' ∧ Wt P ty x'.1 := by
  unfold fldOk at h
  split at h
  · rename_i fs hu
    obtain ⟨xs, m, rfl, hxe, hl, hxl, hf⟩ := DataW.trod_struct hu hx
    refine ⟨hl, fun i ty off hi => ?_⟩
    have h' : (fs.toList.map fun f => (f.type, f.offset)) = fl := by simpa using h
    rw [← h'] at hi
    simp only [List.getElem?_map, Option.map_eq_some_iff] at hi
    obtain ⟨f, hf1, hf2⟩ := hi
    simp only [Prod.mk.injEq] at hf2
    obtain ⟨rfl, rfl⟩ := hf2
    have h1 := hf i f (by simpa using hf1)
    have hil : i < xs.length := by
      have := (List.getElem?_eq_some_iff.1 hf1).1
      simp at this
      omega
    rw [List.getElem?_eq_getElem hil] at h1
    refine ⟨m, _, h1, fun k hk => hW _ ?_⟩
    rw [hxe]
    show k ∈ DataW.weights P t (.agg (xs.map (·.1)))
    unfold DataW.weights
    rw [hu]
    exact DataW.weights_mem_each (j := i) (by simp [hf1]) (by simp [List.getElem?_eq_getElem hil]) k hk
  · cases h
theorem open_listW {α : Type} [Inhabited α] {c : α → List Value} {p : α → Prop} {r : Reach} {b0 : Nat} {t e z : Nat} (ht : P.underlying t = some (.slice e)) (hz : P.cellsOf e = z) (hz0 : 0 < z) (hel : ∀ n cs x, DataW.trod enc P w base sp held n e cs = some x → Wt P e x.1 → ∃ a : α, cs = c a ∧ p a)
    {v : Value} {dd : DataW H} {ps : List MemPlace} (hval : Value.okWide P w r b0 t v) (hd : DataW.Trod enc P w base sp held t v dd ps) (hW : Wt P t dd) :
    ∃ (ad : Option Addr) (cap : Nat) (l : List α), v = .slice ad l.length cap ∧ l.length ≤ cap ∧ l.length * P.bytesOf e ≤ reachBytes ∧ InL w ad z c l ∧ ∀ x ∈ l, p x := by
  obtain ⟨ad, len, cap, rfl⟩ := okWide_slice ht hval
  obtain ⟨fuel, hx⟩ := hd
  obtain ⟨ad', cap', l, h1, h2⟩ := open_listw ht hz hz0 hel hx hW
  simp [Value.cells] at h1
  obtain ⟨rfl, rfl, rfl⟩ := h1
  exact ⟨_, _, l, rfl, h2⟩
end
end Go.Sx
set_option maxRecDepth 100000
set_option linter.unusedVariables false
set_option linter.unusedSimpArgs false
namespace Go.Proofs.Ytikdbgheefjpkaa
open Go Go.Sx Go.RowKit Go.ChangeShapes Go.WideShapes Go.ChangeAt
theorem len16 {n : Nat} (h : n * Try.prog.bytesOf 122 ≤ reachBytes) : n ≤ 8796093022208 := by
  have e : Try.prog.bytesOf 122 = 16 := by kernel_rfl
  rw [e] at h
  unfold reachBytes at h
  omega
theorem len1 {n : Nat} (h : n * Try.prog.bytesOf 5 ≤ reachBytes) : n ≤ 140737488355328 := by
  have e : Try.prog.bytesOf 5 = 1 := by kernel_rfl
  rw [e] at h
  unfold reachBytes at h
  omega
section
variable {H : Type} {enc : TypeId × Value → H} {w : World} {base : Nat} {sp : Nat → Bool} {held : Bool}
theorem open_fl (n : Nat) (cs : List Value) (x : DataW H × List MemPlace) (h : DataW.trod enc Try.prog w base sp held n 122 cs = some x) (hW : Wt Try.prog 122 x.1) : ∃ a : FL, cs = cFL a ∧ True := by
  obtain ⟨h1, _⟩ := trod_flat 40 122 [.int .i64, .int .u64] (by kernel_rfl) n cs x h
  match cs, h1 with
  | [], h1 => simp [allFit] at h1
  | [v], h1 => cases v <;> simp [allFit] at h1
  | v :: u :: t :: l, h1 => simp [allFit] at h1
  | [v, u], h1 =>
    cases v <;> cases u <;> simp [allFit, LK.fits] at h1
    obtain ⟨rfl, rfl⟩ := h1
    exact ⟨⟨_, _⟩, rfl, trivial⟩
def opP (W : World) (o : OP) : Prop := InL W o.ha 2 cFL o.v.held ∧ o.v.held.length ≤ 8796093022208 ∧ InL W o.na 2 cFL o.v.need ∧ o.v.need.length ≤ 8796093022208
def evZ (W : World) (e : EV) : Prop := InL W e.ka 1 cU e.v.key ∧ e.v.key.length ≤ 140737488355328
theorem open_i {n : Nat} {cs : List Value} {x : DataW H × List MemPlace} (h : DataW.trod enc Try.prog w base sp held n 3 cs = some x) : ∃ a : Int, cs = cI a := by
  obtain ⟨k0, e0, _⟩ := DataW.trod_int (P := Try.prog) (t := 3) (k := .i64) (by kernel_rfl) h
  exact ⟨k0, e0⟩
theorem open_opn (n : Nat) (cs : List Value) (x : DataW H × List MemPlace) (h : DataW.trod enc Try.prog w base sp held n 112 cs = some x) (hW : Wt Try.prog 112 x.1) : ∃ a : OP, cs = cOP a ∧ opP w a := by
  obtain ⟨hl, hf⟩ := open_fieldsw (fl := [(3, 0), (3, 1), (3, 2), (3, 3), (3, 4), (109, 5), (3, 10), (3, 11), (3, 12), (110, 13), (110, 14)]) (by kernel_rfl) h hW
  have hc : Try.prog.cellsOf 112 = 15 := by kernel_rfl
  rw [hc] at hl
  obtain ⟨n0, x0, h0, W0⟩ := hf 0 3 0 rfl
  obtain ⟨n1, x1, h1, W1⟩ := hf 1 3 1 rfl
  obtain ⟨n2, x2, h2, W2⟩ := hf 2 3 2 rfl
  obtain ⟨n3, x3, h3, W3⟩ := hf 3 3 3 rfl
  obtain ⟨n4, x4, h4, W4⟩ := hf 4 3 4 rfl
  obtain ⟨n5, x5, h5, W5⟩ := hf 5 109 5 rfl
  obtain ⟨n6, x6, h6, W6⟩ := hf 6 3 10 rfl
  obtain ⟨n7, x7, h7, W7⟩ := hf 7 3 11 rfl
  obtain ⟨n8, x8, h8, W8⟩ := hf 8 3 12 rfl
  obtain ⟨n9, x9, h9, W9⟩ := hf 9 110 13 rfl
  obtain ⟨n10, x10, h10, W10⟩ := hf 10 110 14 rfl
  have c3 : Try.prog.cellsOf 3 = 1 := by kernel_rfl
  have c33 : Try.prog.cellsOf 109 = 5 := by kernel_rfl
  have c34 : Try.prog.cellsOf 110 = 1 := by kernel_rfl
  rw [c3] at h0 h1 h2 h3 h4 h6 h7 h8
  rw [c33] at h5
  rw [c34] at h9 h10
  match cs, hl with
  | [v0, v1, v2, v3, v4, v5, v6, v7, v8, v9, v10, v11, v12, v13, v14], _ =>
    simp only [List.drop_succ_cons, List.drop_zero, List.take_succ_cons, List.take_zero] at h0 h1 h2 h3 h4 h5 h6 h7 h8 h9 h10
    obtain ⟨k0, e0⟩ := open_i h0
    obtain ⟨k1, e1⟩ := open_i h1
    obtain ⟨k2, e2⟩ := open_i h2
    obtain ⟨k3, e3⟩ := open_i h3
    obtain ⟨k4, e4⟩ := open_i h4
    obtain ⟨h51, _⟩ := trod_flat 40 109 [.int .i64, .int .i64, .int .i64, .int .i64, .int .i64] (by kernel_rfl) n5 _ _ h5
    obtain ⟨k6, e6⟩ := open_i h6
    obtain ⟨k7, e7⟩ := open_i h7
    obtain ⟨k8, e8⟩ := open_i h8
    obtain ⟨ad9, cap9, d9, e9, q1, q2, q3, _⟩ := open_listw (c := cFL) (p := fun _ => True) (t := 110) (e := 122) (z := 2) (by kernel_rfl) (by kernel_rfl) (by omega) open_fl h9 W9
    obtain ⟨ad10, cap10, d10, e10, r1, r2, r3, _⟩ := open_listw (c := cFL) (p := fun _ => True) (t := 110) (e := 122) (z := 2) (by kernel_rfl) (by kernel_rfl) (by omega) open_fl h10 W10
    have h5x : ∃ a b c d e : Int, v5 = .int .i64 a ∧ v6 = .int .i64 b ∧ v7 = .int .i64 c ∧ v8 = .int .i64 d ∧ v9 = .int .i64 e := by
      cases v5 <;> simp [allFit, LK.fits] at h51
      cases v6 <;> simp [allFit, LK.fits] at h51
      cases v7 <;> simp [allFit, LK.fits] at h51
      cases v8 <;> simp [allFit, LK.fits] at h51
      cases v9 <;> simp [allFit, LK.fits] at h51
      obtain ⟨rfl, rfl, rfl, rfl, rfl⟩ := h51
      exact ⟨_, _, _, _, _, rfl, rfl, rfl, rfl, rfl⟩
    obtain ⟨i0, i1, i2, i3, i4, rfl, rfl, rfl, rfl, rfl⟩ := h5x
    refine ⟨⟨⟨k0, k1, k2, k3, k4, i0, i1, i2, i3, i4, k6, k7, k8, d9, d10⟩, ad9, cap9, ad10, cap10⟩, ?_, q3, len16 q2, r3, len16 r2⟩
    simp only [cI, List.cons.injEq, and_true] at e0 e1 e2 e3 e4 e6 e7 e8 e9 e10
    subst e0 e1 e2 e3 e4 e6 e7 e8 e9 e10
    rfl
theorem open_ev (n : Nat) (cs : List Value) (x : DataW H × List MemPlace) (h : DataW.trod enc Try.prog w base sp held n 49 cs = some x) (hW : Wt Try.prog 49 x.1) : ∃ a : EV, cs = cEV a ∧ evZ w a := by
  obtain ⟨hl, hf⟩ := open_fieldsw (fl := [(3, 0), (3, 1), (3, 2), (3, 3), (47, 4)]) (by kernel_rfl) h hW
  have hc : Try.prog.cellsOf 49 = 5 := by kernel_rfl
  rw [hc] at hl
  obtain ⟨n0, x0, h0, W0⟩ := hf 0 3 0 rfl
  obtain ⟨n1, x1, h1, W1⟩ := hf 1 3 1 rfl
  obtain ⟨n2, x2, h2, W2⟩ := hf 2 3 2 rfl
  obtain ⟨n3, x3, h3, W3⟩ := hf 3 3 3 rfl
  obtain ⟨n4, x4, h4, W4⟩ := hf 4 47 4 rfl
  have c3 : Try.prog.cellsOf 3 = 1 := by kernel_rfl
  have c45 : Try.prog.cellsOf 47 = 1 := by kernel_rfl
  rw [c3] at h0 h1 h2 h3
  rw [c45] at h4
  match cs, hl with
  | [v0, v1, v2, v3, v4], _ =>
    simp only [List.drop_succ_cons, List.drop_zero, List.take_succ_cons, List.take_zero] at h0 h1 h2 h3 h4
    obtain ⟨k0, e0⟩ := open_i h0
    obtain ⟨k1, e1⟩ := open_i h1
    obtain ⟨k2, e2⟩ := open_i h2
    obtain ⟨k3, e3⟩ := open_i h3
    obtain ⟨ad, cap, d, e4, q1, q2, q3, q4⟩ := open_listw (c := cU) (p := fun a => 0 ≤ a ∧ a < 256) (t := 47) (e := 5) (z := 1) (by kernel_rfl) (by kernel_rfl) (by omega) (fun n cs x h _ => open_byte n cs x h) h4 W4
    refine ⟨⟨⟨k0, k1, k2, k3, d⟩, ad, cap⟩, ?_, q3, len1 q2⟩
    simp only [cI, List.cons.injEq, and_true] at e0 e1 e2 e3 e4
    subst e0 e1 e2 e3 e4
    rfl
theorem open_ii (n : Nat) (cs : List Value) (x : DataW H × List MemPlace) (h : DataW.trod enc Try.prog w base sp held n 3 cs = some x) (hW : Wt Try.prog 3 x.1) : ∃ a : Int, cs = cI a ∧ True := by
  obtain ⟨a, e⟩ := open_i h
  exact ⟨a, e, trivial⟩
theorem open_code (n : Nat) (cs : List Value) (x : DataW H × List MemPlace) (h : DataW.trod enc Try.prog w base sp held n 59 cs = some x) (hW : Wt Try.prog 59 x.1) : ∃ a : CD, cs = cCD a ∧ RdD w a ∧ wfI a.prog := by
  obtain ⟨hl, hf⟩ := open_fieldsw (fl := [(3, 0), (57, 1), (35, 2), (29, 3)]) (by kernel_rfl) h hW
  have hc : Try.prog.cellsOf 59 = 4 := by kernel_rfl
  rw [hc] at hl
  obtain ⟨n0, x0, h0, W0⟩ := hf 0 3 0 rfl
  obtain ⟨n1, x1, h1, W1⟩ := hf 1 57 1 rfl
  obtain ⟨n2, x2, h2, W2⟩ := hf 2 35 2 rfl
  obtain ⟨n3, x3, h3, W3⟩ := hf 3 29 3 rfl
  have c3 : Try.prog.cellsOf 3 = 1 := by kernel_rfl
  have c22 : Try.prog.cellsOf 57 = 1 := by kernel_rfl
  have c23 : Try.prog.cellsOf 35 = 1 := by kernel_rfl
  have c24 : Try.prog.cellsOf 29 = 1 := by kernel_rfl
  rw [c3] at h0
  rw [c22] at h1
  rw [c23] at h2
  rw [c24] at h3
  match cs, hl with
  | [v0, v1, v2, v3], _ =>
    simp only [List.drop_succ_cons, List.drop_zero, List.take_succ_cons, List.take_zero] at h0 h1 h2 h3
    obtain ⟨k0, e0⟩ := open_i h0
    have hwf : wfI k0 := by
      obtain ⟨_, h2⟩ := trod_flat 40 3 [.int .i64] (by kernel_rfl) n0 _ _ h0
      simp only [cI, List.cons.injEq, and_true] at e0
      subst e0
      unfold wfI
      simpa [okv] using h2
    obtain ⟨ad1, cap1, d1, e1, q1, q2, q3, q4⟩ := open_listw (c := cOP) (p := opP w) (t := 57) (e := 112) (z := 15) (by kernel_rfl) (by kernel_rfl) (by omega) open_opn h1 W1
    obtain ⟨ad2, cap2, d2, e2, r1, r2, r3, _⟩ := open_listw (c := cI) (p := fun _ => True) (t := 35) (e := 3) (z := 1) (by kernel_rfl) (by kernel_rfl) (by omega) open_ii h2 W2
    obtain ⟨ad3, cap3, d3, e3, s1, s2, s3, s4⟩ := open_listw (c := cEV) (p := evZ w) (t := 29) (e := 49) (z := 5) (by kernel_rfl) (by kernel_rfl) (by omega) open_ev h3 W3
    refine ⟨⟨k0, ad1, cap1, d1, ad2, cap2, d2, ad3, cap3, d3⟩, ?_, ⟨q3, fun x hx => ⟨(q4 x hx).1, (q4 x hx).2.2.1, (q4 x hx).2.1, (q4 x hx).2.2.2⟩, r3, s3, s4⟩, hwf⟩
    simp only [cI, List.cons.injEq, and_true] at e0 e1 e2 e3
    subst e0 e1 e2 e3
    rfl
theorem open_codeV {r : Reach} {b0 : Nat} {v : Value} {dd : DataW H} {ps : List MemPlace} (hval : Value.okWide Try.prog w r b0 59 v) (hd : DataW.Trod enc Try.prog w base sp held 59 v dd ps) (hW : Wt Try.prog 59 dd) : ∃ a : CD, v = .agg (cCD a).toArray ∧ RdD w a ∧ wfI a.prog := by
  obtain ⟨cs, rfl⟩ : ∃ cs, v = .agg cs := by
    unfold Value.okWide at hval
    have hu : ∃ fs, Try.prog.underlying 59 = some (.struct fs) := ⟨_, by rfl⟩
    obtain ⟨fs, hu⟩ := hu
    rw [hu] at hval
    obtain ⟨cs, h, _⟩ := hval
    exact ⟨cs, h⟩
  obtain ⟨fuel, hx⟩ := hd
  obtain ⟨a, h1, h2⟩ := open_code fuel _ _ hx hW
  refine ⟨a, ?_, h2⟩
  have h1 : cs.toList = cCD a := h1
  rw [← h1]
end
end Go.Proofs.Ytikdbgheefjpkaa
