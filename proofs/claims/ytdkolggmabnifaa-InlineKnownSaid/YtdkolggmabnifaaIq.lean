/- What is joined: where all lead, and in which order forms are laid: plain. -/
import Derived.Test.YtdkolggmabnifaaIm
set_option linter.unusedVariables false
set_option linter.unusedSimpArgs false
namespace Go.Proofs.Ytdkolggmabnifaa
open Go Go.Sx Go.RowKit
/-- But for its Target. -/
def sk (v : VO) : VO := { v with tgt := 0 }
theorem sk_kind {x y : VO} (h : sk x = sk y) : x.kind = y.kind := by have := congrArg VO.kind h; exact this
theorem sk_next {x y : VO} (h : sk x = sk y) : x.next = y.next := by have := congrArg VO.next h; exact this
theorem sk_set {x y : VO} (h : sk x = sk y) : { x with tgt := y.tgt } = y := by
  obtain ⟨a0, a1, a2, a3, a4, a5, a6, a7, a8, a9, a10, a11, a12, a13, a14⟩ := x
  obtain ⟨b0, b1, b2, b3, b4, b5, b6, b7, b8, b9, b10, b11, b12, b13, b14⟩ := y
  simp [sk] at h ⊢
  obtain ⟨rfl, rfl, rfl, rfl, rfl, rfl, rfl, rfl, rfl, rfl, rfl, rfl, rfl, rfl⟩ := h
  simp
def Sim (x y : VO) : Prop := sk x = sk y ∧ (x.kind ≠ 5 → x.tgt = y.tgt)
theorem Sim.refl (x : VO) : Sim x x := ⟨rfl, fun _ => rfl⟩
theorem Sim.trans {x y z : VO} (h : Sim x y) (g : Sim y z) : Sim x z := ⟨h.1.trans g.1, fun hk => (h.2 hk).trans (g.2 (by rw [← sk_kind h.1]; exact hk))⟩
theorem sk_mv (d : Int) (x : VO) : sk (x.mv d) = sk x := by
  unfold VO.mv
  split <;> rfl
theorem mv_kind (d : Int) (x : VO) : (x.mv d).kind = x.kind := sk_kind (sk_mv d x)
/-- All of a list stand in another one, but for where entering ones lead. -/
def Ext (k : Nat) (l m : List VO) : Prop := l.length ≤ m.length ∧ ∀ (p : Nat) (x : VO), l[p]? = some x → ∃ y, m[p]? = some y ∧ Sim x y ∧ (p < k → y = x)
theorem Ext.refl (k : Nat) (l : List VO) : Ext k l l := ⟨Nat.le_refl _, fun p x h => ⟨x, h, Sim.refl x, fun _ => rfl⟩⟩
theorem Ext.trans {k j : Nat} {l m r : List VO} (h : Ext k l m) (g : Ext j m r) (hk : k ≤ j) : Ext k l r := ⟨Nat.le_trans h.1 g.1, fun p x hx => by
  obtain ⟨y, h1, h2, h3⟩ := h.2 p x hx
  obtain ⟨z, g1, g2, g3⟩ := g.2 p y h1
  exact ⟨z, g1, h2.trans g2, fun hp => by rw [g3 (by omega), h3 hp]⟩⟩
theorem Ext.app (k : Nat) (l m : List VO) : Ext k l (l ++ m) := ⟨by simp, fun p x hx => ⟨x, by rw [List.getElem?_append_left (List.getElem?_eq_some_iff.1 hx).1]; exact hx, Sim.refl x, fun _ => rfl⟩⟩
theorem ext_setT {k : Nat} {t : Int} {l : List VO} (h : ∀ x, l[k]? = some x → x.kind = 5) : Ext k l (setT k t l) := by
  refine ⟨Nat.le_of_eq (setT_len k t l).symm, fun p x hx => ?_⟩
  unfold setT
  cases hy : l[k]? with
  | none => exact ⟨x, hx, Sim.refl x, fun _ => rfl⟩
  | some y =>
    dsimp only
    by_cases hpk : k = p
    · subst hpk
      obtain rfl : x = y := by rw [hx] at hy; exact Option.some.inj hy
      exact ⟨{ x with tgt := t }, by rw [List.getElem?_set_self (List.getElem?_eq_some_iff.1 hx).1], ⟨rfl, fun hk => absurd (h x hx) hk⟩, fun hp => by omega⟩
    · exact ⟨x, by rw [List.getElem?_set_ne hpk]; exact hx, Sim.refl x, fun _ => rfl⟩
theorem setT_at {k : Nat} {t : Int} {l : List VO} {x : VO} (h : l[k]? = some x) : (setT k t l)[k]? = some { x with tgt := t } := by
  unfold setT
  rw [h]
  dsimp only
  rw [List.getElem?_set_self (List.getElem?_eq_some_iff.1 h).1]
/-- The first form of a program. -/
def frm (c : VC) (others : List VC) (p : Int) : Option VC := (c :: others).find? fun x => decide (x.prog = p)
structure RtV (c : VC) : Prop where
  a0 : 0 ≤ c.at'.headD 0 ∧ c.at'.headD 0 < c.ops.length
  os : ∀ o ∈ c.ops, -1 ≤ o.tgt ∧ o.tgt < c.ops.length
/-- What a form leads to, that is laid at a place. -/
def Beg (c : VC) (others : List VC) (ops : List VO) (p b : Int) : Prop := ∃ f, frm c others p = some f ∧ ∃ z y, f.ops[(f.at'.headD 0).toNat]? = some z ∧ 0 ≤ b ∧ ops[b.toNat]? = some y ∧ sk y = sk z
theorem Beg.ext {c : VC} {others : List VC} {k : Nat} {l m : List VO} {p b : Int} (h : Beg c others l p b) (g : Ext k l m) : Beg c others m p b := by
  obtain ⟨f, hf, z, y, hz, hb, hy, e⟩ := h
  obtain ⟨y', h1, h2, _⟩ := g.2 _ y hy
  exact ⟨f, hf, z, y', hz, hb, h1, h2.1.symm.trans e⟩
structure JInv (c : VC) (others : List VC) (s : VJ) : Prop where
  bg : ∀ p b, (p, b) ∈ s.bg → Beg c others s.ops p b
  hd : ∃ b, (c.prog, b) ∈ s.bg
  tg : ∀ (p : Nat) (y : VO), s.ops[p]? = some y → y.kind ≠ 5 → -1 ≤ y.tgt ∧ y.tgt < s.ops.length
  so : ∀ (p : Nat) (y : VO), s.ops[p]? = some y → ∃ f ∈ c :: others, ∃ z ∈ f.ops, sk y = sk z
  ev : s.evs.Nodup ∧ ∀ v ∈ s.evs, ∃ f ∈ c :: others, v ∈ f.evs
  pr : s.prog = c.prog ∧ s.at' = c.at'
theorem bgL_mem {k a : Int} {l : List (Int × Int)} (h : bgL k l = some a) : (k, a) ∈ l := by
  unfold bgL at h
  cases hf : l.find? (fun p => decide (p.1 = k)) with
  | none => rw [hf] at h; cases h
  | some q =>
    rw [hf] at h
    obtain rfl : q.2 = a := by simpa using h
    have h1 := List.mem_of_find?_eq_some hf
    have h2 := List.find?_some hf
    obtain rfl : q.1 = k := by simpa using h2
    exact h1
theorem bgL_not {k : Int} {l : List (Int × Int)} (h : bgL k l = none) : k ∉ l.map (·.1) := fun hm => by
  unfold bgL at h
  have h1 : l.find? (fun p => decide (p.1 = k)) = none := by simpa using h
  obtain ⟨q, hq, e⟩ := List.mem_map.1 hm
  have := List.find?_eq_none.1 h1 q hq
  exact this (by simpa using e)
theorem layV_ext {s : VJ} {c : VC} (k : Nat) : Ext k s.ops (layV s c).ops := Ext.app k _ _
theorem layV_beg {c f : VC} {others : List VC} {s : VJ} (hf : frm c others f.prog = some f) (hr : RtV f) : Beg c others (layV s f).ops f.prog (s.ops.length + f.at'.headD 0) := by
  have h0 := hr.a0
  have hlt : (f.at'.headD 0).toNat < f.ops.length := by omega
  refine ⟨f, hf, f.ops[(f.at'.headD 0).toNat], (f.ops[(f.at'.headD 0).toNat]).mv s.ops.length, List.getElem?_eq_getElem hlt, by omega, ?_, sk_mv _ _⟩
  show (s.ops ++ f.ops.map (VO.mv s.ops.length))[((s.ops.length : Int) + f.at'.headD 0).toNat]? = _
  have e : ((s.ops.length : Int) + f.at'.headD 0).toNat = s.ops.length + (f.at'.headD 0).toNat := by omega
  rw [e, List.getElem?_append_right (by omega), Nat.add_sub_cancel_left, List.getElem?_map, List.getElem?_eq_getElem hlt]
  rfl
theorem mv_tg {c : VC} {d : Nat} {o : VO} (hr : RtV c) (ho : o ∈ c.ops) (hk : o.kind ≠ 5) : -1 ≤ (o.mv d).tgt ∧ (o.mv d).tgt < (d : Int) + c.ops.length := by
  have := hr.os o ho
  unfold VO.mv
  split
  · show -1 ≤ o.tgt + d ∧ o.tgt + d < _; omega
  · omega
theorem layV_inv' {c f : VC} {others : List VC} {s : VJ} (h : JInv c others s) (hf : frm c others f.prog = some f) (hr : RtV f) : JInv c others (layV s f) := by
  have hfm : f ∈ c :: others := List.mem_of_find?_eq_some hf
  refine ⟨fun p b hm => ?_, ?_, fun p y hy hk => ?_, fun p y hy => ?_, ⟨fold_nd _ _ h.ev.1, fun v hv => ?_⟩, h.pr⟩
  rotate_left 3
  · have hy : (s.ops ++ f.ops.map (VO.mv s.ops.length))[p]? = some y := hy
    by_cases hp : p < s.ops.length
    · rw [List.getElem?_append_left hp] at hy
      exact h.so p y hy
    · rw [List.getElem?_append_right (by omega), List.getElem?_map] at hy
      cases ho : f.ops[p - s.ops.length]? with
      | none => rw [ho] at hy; cases hy
      | some o =>
        rw [ho] at hy
        obtain rfl : o.mv s.ops.length = y := by simpa using hy
        exact ⟨f, hfm, o, List.mem_of_getElem? ho, sk_mv _ _⟩
  · rcases fold_mem hv with h1 | h1
    · exact h.ev.2 v h1
    · exact ⟨f, hfm, h1⟩
  · rcases List.mem_append.1 hm with h1 | h1
    · exact (h.bg p b h1).ext (layV_ext 0)
    · obtain ⟨rfl, rfl⟩ : p = f.prog ∧ b = s.ops.length + f.at'.headD 0 := by simpa using h1
      exact layV_beg hf hr
  · obtain ⟨b, hb⟩ := h.hd
    exact ⟨b, List.mem_append_left _ hb⟩
  · have hl : ((layV s f).ops.length : Int) = s.ops.length + f.ops.length := by show (((s.ops ++ f.ops.map _).length : Nat) : Int) = _; simp
    have hy : (s.ops ++ f.ops.map (VO.mv s.ops.length))[p]? = some y := hy
    by_cases hp : p < s.ops.length
    · rw [List.getElem?_append_left hp] at hy
      have := h.tg p y hy hk
      omega
    · rw [List.getElem?_append_right (by omega), List.getElem?_map] at hy
      cases ho : f.ops[p - s.ops.length]? with
      | none => rw [ho] at hy; cases hy
      | some o =>
        rw [ho] at hy
        obtain rfl : o.mv s.ops.length = y := by simpa using hy
        have := mv_tg (d := s.ops.length) hr (List.mem_of_getElem? ho) (by rw [← mv_kind s.ops.length o]; exact hk)
        omega
theorem iniV_inv {c : VC} {others : List VC} (hr : RtV c) : JInv c others (layV (iniV c) c) := by
  have hf : frm c others c.prog = some c := by unfold frm; rw [List.find?_cons]; simp
  refine ⟨fun p b hm => ?_, ⟨_, List.mem_append_right _ (List.mem_singleton.2 rfl)⟩, fun p y hy hk => ?_, fun p y hy => ?_, ⟨fold_nd _ _ List.nodup_nil, fun v hv => ?_⟩, rfl, rfl⟩
  rotate_left 2
  · have hy : ([] ++ c.ops.map (VO.mv ((0 : Nat) : Int)))[p]? = some y := hy
    rw [List.nil_append, List.getElem?_map] at hy
    cases ho : c.ops[p]? with
    | none => rw [ho] at hy; cases hy
    | some o =>
      rw [ho] at hy
      obtain rfl : o.mv ((0 : Nat) : Int) = y := by simpa using hy
      exact ⟨c, by simp, o, List.mem_of_getElem? ho, sk_mv _ _⟩
  · rcases fold_mem hv with h1 | h1
    · cases h1
    · exact ⟨c, by simp, h1⟩
  · rcases List.mem_append.1 hm with h1 | h1
    · cases h1
    · obtain ⟨rfl, rfl⟩ : p = c.prog ∧ b = (iniV c).ops.length + c.at'.headD 0 := by simpa using h1
      exact layV_beg hf hr
  · have hl : ((layV (iniV c) c).ops.length : Int) = c.ops.length := by show ((([] ++ c.ops.map _).length : Nat) : Int) = _; simp
    have hy : ([] ++ c.ops.map (VO.mv ((0 : Nat) : Int)))[p]? = some y := hy
    rw [List.nil_append, List.getElem?_map] at hy
    cases ho : c.ops[p]? with
    | none => rw [ho] at hy; cases hy
    | some o =>
      rw [ho] at hy
      obtain rfl : o.mv ((0 : Nat) : Int) = y := by simpa using hy
      have := mv_tg (d := 0) hr (List.mem_of_getElem? ho) (by rw [← mv_kind ((0 : Nat) : Int) o]; exact hk)
      omega
/-- How a program that is entered is dealt with. -/
theorem target_cases {c : VC} {others : List VC} {s : VJ} (h : JInv c others s) (p : Int) :
    (∃ a, targetV s others p = (a, s) ∧ (p, a) ∈ s.bg) ∨ (targetV s others p = (-1, s) ∧ p ∉ s.bg.map (·.1)) ∨
    ∃ f, f ∈ others ∧ f.prog = p ∧ frm c others p = some f ∧ p ∉ s.bg.map (·.1) ∧ targetV s others p = (s.ops.length + f.at'.headD 0, layV s f) := by
  unfold targetV
  cases hb : bgL p s.bg with
  | some a => exact .inl ⟨a, rfl, bgL_mem hb⟩
  | none =>
    have hn := bgL_not hb
    dsimp only
    cases hf : others.find? fun c => decide (c.prog = p) with
    | none => exact .inr (.inl ⟨rfl, hn⟩)
    | some o =>
      dsimp only
      split
      · exact .inr (.inl ⟨rfl, hn⟩)
      · refine .inr (.inr ⟨o, List.mem_of_find?_eq_some hf, by simpa using List.find?_some hf, ?_, hn, rfl⟩)
        unfold frm
        rw [List.find?_cons, decide_eq_false (fun e => ?_)]
        · exact hf
        · obtain ⟨b, hb2⟩ := h.hd
          exact hn (List.mem_map.2 ⟨_, hb2, e⟩)
/-- One step: what stands is kept. -/
structure StepR (c : VC) (others : List VC) (k : Nat) (s s' : VJ) : Prop where
  e : Ext k s.ops s'.ops
  m : ∀ q ∈ s.bg, q ∈ s'.bg
  i : JInv c others s'
  p : ∀ y, s'.ops[k]? = some y → y.kind = 5 → y.tgt = -1 ∨ (y.next, y.tgt) ∈ s'.bg
  /-- Nothing is laid, -/
  q : (s'.bg = s.bg ∧ s'.ops.length = s.ops.length ∧ ∀ y, s'.ops[k]? = some y → y.kind = 5 → y.tgt < 0 ∨ y.next ∈ s.bg.map (·.1)) ∨
  /- or one form. -/
    ∃ f y, s'.ops[k]? = some y ∧ y.kind = 5 ∧ 0 ≤ y.tgt ∧ y.next ∉ s.bg.map (·.1) ∧ f ∈ others ∧ frm c others y.next = some f ∧ s'.bg.map (·.1) = s.bg.map (·.1) ++ [y.next] ∧ s'.ops.length = s.ops.length + f.ops.length ∧ ∀ (j : Nat) (z : VO), f.ops[j]? = some z → ∃ y', s'.ops[s.ops.length + j]? = some y' ∧ Sim (z.mv s.ops.length) y'
theorem stepR {c : VC} {others : List VC} {s : VJ} (h : JInv c others s) (ho : ∀ f ∈ others, RtV f) (k : Nat) : StepR c others k s (stepV others s k) := by
  unfold stepV
  cases hx : s.ops[k]? with
  | none =>
    dsimp only
    exact ⟨Ext.refl k _, fun q h => h, h, fun y hy => (by rw [hx] at hy; cases hy), .inl ⟨rfl, rfl, fun y hy => by rw [hx] at hy; cases hy⟩⟩
  | some x =>
    dsimp only
    by_cases hk : x.kind = 5
    case neg =>
      rw [if_neg hk]
      refine ⟨Ext.refl k _, fun q h => h, h, fun y hy h5 => ?_, .inl ⟨rfl, rfl, fun y hy h5 => ?_⟩⟩ <;>
      · rw [hx] at hy
        obtain rfl := Option.some.inj hy
        exact absurd h5 hk
    rw [if_pos hk]
    have hkl := (List.getElem?_eq_some_iff.1 hx).1
    have keep : ∀ (s2 : VJ) (t : Int), JInv c others s2 → s2.ops[k]? = some x → JInv c others { s2 with ops := setT k t s2.ops } := fun s2 t h2 hx2 => by
      have hE : Ext k s2.ops (setT k t s2.ops) := ext_setT fun y hy => by rw [hx2] at hy; rw [← Option.some.inj hy]; exact hk
      have hold : ∀ (p : Nat) (y : VO), (setT k t s2.ops)[p]? = some y → ∃ hpl : p < s2.ops.length, Sim s2.ops[p] y := fun p y hy => by
        have hpl : p < s2.ops.length := by have h9 := (List.getElem?_eq_some_iff.1 hy).1; rw [setT_len] at h9; exact h9
        obtain ⟨y', h3, h4, _⟩ := hE.2 p _ (List.getElem?_eq_getElem hpl)
        obtain rfl : y' = y := by rw [hy] at h3; exact (Option.some.inj h3).symm
        exact ⟨hpl, h4⟩
      refine ⟨fun p b hm => (h2.bg p b hm).ext hE, h2.hd, fun p y hy h5 => ?_, fun p y hy => ?_, h2.ev, h2.pr⟩
      rotate_left
      · obtain ⟨hpl, h4⟩ := hold p y hy
        obtain ⟨f, hf, z, hz, e⟩ := h2.so p _ (List.getElem?_eq_getElem hpl)
        exact ⟨f, hf, z, hz, h4.1.symm.trans e⟩
      obtain ⟨hpl, h4⟩ := hold p y hy
      show -1 ≤ y.tgt ∧ y.tgt < ((setT k t s2.ops).length : Int)
      rw [setT_len]
      have h6 : (s2.ops[p]).kind ≠ 5 := by rw [sk_kind h4.1]; exact h5
      have h7 := h2.tg p _ (List.getElem?_eq_getElem hpl) h6
      rw [h4.2 h6] at h7
      exact h7
    rcases target_cases h x.next with ⟨a, ht, ha⟩ | ⟨ht, hn⟩ | ⟨f, hfm, hfp, hff, hn, ht⟩
    · rw [ht]
      dsimp only
      refine ⟨ext_setT fun y hy => by rw [hx] at hy; rw [← Option.some.inj hy]; exact hk, fun q h => h, keep s a h hx, fun y hy _ => ?_, .inl ⟨rfl, setT_len _ _ _, fun y hy _ => ?_⟩⟩ <;>
      · have hy : (setT k a s.ops)[k]? = some y := hy
        rw [setT_at hx] at hy
        obtain rfl := Option.some.inj hy
        first | exact .inr ha | exact .inr (List.mem_map.2 ⟨_, ha, rfl⟩)
    · rw [ht]
      dsimp only
      refine ⟨ext_setT fun y hy => by rw [hx] at hy; rw [← Option.some.inj hy]; exact hk, fun q h => h, keep s (-1) h hx, fun y hy _ => ?_, .inl ⟨rfl, setT_len _ _ _, fun y hy _ => ?_⟩⟩ <;>
      · have hy : (setT k (-1) s.ops)[k]? = some y := hy
        rw [setT_at hx] at hy
        obtain rfl := Option.some.inj hy
        first | exact .inl rfl | exact .inl (by show (-1 : Int) < 0; omega)
    · rw [ht]
      dsimp only
      have hr := ho f hfm
      have hx2 : (layV s f).ops[k]? = some x := by show (s.ops ++ _)[k]? = _; rw [List.getElem?_append_left hkl]; exact hx
      have hE : Ext k (layV s f).ops (setT k (s.ops.length + f.at'.headD 0) (layV s f).ops) := ext_setT fun y hy => by rw [hx2] at hy; rw [← Option.some.inj hy]; exact hk
      refine ⟨(layV_ext k).trans hE (Nat.le_refl _), fun q hq => List.mem_append_left _ hq, keep _ _ (layV_inv' h (by rw [hfp]; exact hff) hr) hx2, fun y hy _ => ?_, .inr ⟨f, { x with tgt := s.ops.length + f.at'.headD 0 }, setT_at hx2, hk, ?_, hn, hfm, hff, ?_, ?_, fun j z hz => ?_⟩⟩
      · have hy : (setT k _ (layV s f).ops)[k]? = some y := hy
        rw [setT_at hx2] at hy
        obtain rfl := Option.some.inj hy
        refine .inr ?_
        show (x.next, (s.ops.length : Int) + f.at'.headD 0) ∈ s.bg ++ [(f.prog, (s.ops.length : Int) + f.at'.headD 0)]
        rw [hfp]
        simp
      · show 0 ≤ (s.ops.length : Int) + f.at'.headD 0
        have := hr.a0
        omega
      · show (s.bg ++ [(f.prog, (s.ops.length : Int) + f.at'.headD 0)]).map (·.1) = _
        rw [List.map_append, List.map_singleton, hfp]
      · show (setT _ _ _).length = _
        rw [setT_len]
        show (s.ops ++ _).length = _
        simp
      · have h1 : (layV s f).ops[s.ops.length + j]? = some (z.mv s.ops.length) := by
          show (s.ops ++ f.ops.map _)[s.ops.length + j]? = _
          rw [List.getElem?_append_right (by omega), Nat.add_sub_cancel_left, List.getElem?_map, hz]
          rfl
        obtain ⟨y', h2, h3, _⟩ := hE.2 _ _ h1
        exact ⟨y', h2, h3⟩
structure RunR (c : VC) (others : List VC) (k : Nat) (s : VJ) : Prop where
  i : JInv c others s
  p : ∀ (j : Nat) (y : VO), j < k → s.ops[j]? = some y → y.kind = 5 → y.tgt = -1 ∨ (y.next, y.tgt) ∈ s.bg
theorem runR {c : VC} {others : List VC} (hc : RtV c) (ho : ∀ f ∈ others, RtV f) : ∀ k, RunR c others k (runV others (layV (iniV c) c) k)
  | 0 => ⟨iniV_inv hc, fun j y h => by omega⟩
  | k + 1 => by
    have ih := runR hc ho k
    have st := stepR ih.i ho k
    refine ⟨st.i, fun j y hj hy h5 => ?_⟩
    have hy : (stepV others (runV others (layV (iniV c) c) k) k).ops[j]? = some y := hy
    by_cases hjk : j = k
    · subst hjk; exact st.p y hy h5
    · by_cases hl : j < (runV others (layV (iniV c) c) k).ops.length
      · obtain ⟨y', h1, h2, h3⟩ := st.e.2 j _ (List.getElem?_eq_getElem hl)
        have e : y = (runV others (layV (iniV c) c) k).ops[j] := by rw [hy] at h1; rw [Option.some.inj h1]; exact h3 (by omega)
        rcases ih.p j y (by omega) (by rw [e]; exact List.getElem?_eq_getElem hl) h5 with h6 | h6
        · exact .inl h6
        · exact .inr (st.m _ h6)
      · exfalso
        have hlt := (List.getElem?_eq_some_iff.1 hy).1
        rcases st.q with ⟨_, h1, _⟩ | ⟨f, y2, h1, h2, h3, h4, h5', h6, h7, h8, h9⟩
        · omega
        · have hk2 : k < (runV others (layV (iniV c) c) k).ops.length := by
            refine Decidable.byContradiction fun hge => ?_
            have hst : stepV others (runV others (layV (iniV c) c) k) k = runV others (layV (iniV c) c) k := by
              unfold stepV
              rw [List.getElem?_eq_none (by omega)]
            rw [hst] at h7
            have := congrArg List.length h7
            simp at this
          omega
theorem run_ext {c : VC} {others : List VC} (hc : RtV c) (ho : ∀ f ∈ others, RtV f) (k : Nat) : ∀ j, Ext k (runV others (layV (iniV c) c) k).ops (runV others (layV (iniV c) c) (k + j)).ops
  | 0 => Ext.refl k _
  | j + 1 => (run_ext hc ho k j).trans (stepR (runR hc ho (k + j)).i ho (k + j)).e (by omega)
/-- Where all lead. -/
theorem leadsV {c a : VC} {others : List VC} (hc : RtV c) (ho : ∀ f ∈ others, RtV f) (h : IsJ others c a) : ∀ (i : Nat) (x : VO), a.ops[i]? = some x → -1 ≤ x.tgt ∧ x.tgt < a.ops.length ∧ (x.kind = 5 → 0 ≤ x.tgt → Beg c others a.ops x.next x.tgt) := by
  obtain ⟨k, h1, h2, h3, h4, h5⟩ := h.ex
  have r := runR hc ho k
  rw [← h3]
  intro i x hx
  have hi : i < k := by have := (List.getElem?_eq_some_iff.1 hx).1; rw [h3] at this; omega
  by_cases hk : x.kind = 5
  · rcases r.p i x hi hx hk with h6 | h6
    · exact ⟨by omega, by omega, fun _ h => by omega⟩
    · have hb := r.i.bg _ _ h6
      have hb2 := hb
      obtain ⟨f, hf, z, y, hz, hb, hy, e⟩ := hb2
      have := (List.getElem?_eq_some_iff.1 hy).1
      exact ⟨by omega, by omega, fun _ _ => r.i.bg _ _ h6⟩
  · have := r.i.tg i x hx hk
    exact ⟨this.1, this.2, fun h => absurd h hk⟩
structure JF (c : VC) (others : List VC) (a : VC) : Prop where
  l1 : c.ops.length ≤ a.ops.length
  l2 : a.ops.length ≤ 1024
  so : ∀ y ∈ a.ops, ∃ f ∈ c :: others, ∃ z ∈ f.ops, sk y = sk z
  ev : a.evs.Nodup ∧ (∀ v ∈ a.evs, ∃ f ∈ c :: others, v ∈ f.evs) ∧ a.evs.length ≤ 400
  pr : a.prog = c.prog ∧ a.at' = c.at'
  own : ∀ (j : Nat) (z : VO), c.ops[j]? = some z → ∃ y, a.ops[j]? = some y ∧ Sim z y
theorem mv00 (z : VO) : z.mv ((0 : Nat) : Int) = z := mv0 z
theorem ini_ops (c : VC) : (layV (iniV c) c).ops = c.ops := by
  rw [lay0]
theorem joinF {c a : VC} {others : List VC} (hc : RtV c) (ho : ∀ f ∈ others, RtV f) (kc : OkV c) (ko : ∀ f ∈ others, OkV f) (h : IsJ others c a) : JF c others a := by
  obtain ⟨k, h1, h2, h3, h4, h5⟩ := h.ex
  have r := (runR hc ho k).i
  have e0 := run_ext hc ho 0 k
  rw [Nat.zero_add] at e0
  have e0 : Ext 0 (layV (iniV c) c).ops (runV others (layV (iniV c) c) k).ops := e0
  have hinv0 : InvV (layV (iniV c) c) := layV_inv (s := iniV c) (by show 0 ≤ 3; omega) (Nat.zero_le _) (fun v hv => by cases hv) kc (by show 0 + c.ops.length ≤ 1024; have := kc.ol; omega)
  have hinv := runV_inv hinv0 ko k
  rw [h3, ini_ops] at e0
  refine ⟨e0.1, ?_, fun y hy => ?_, ⟨?_, fun v hv => ?_, ?_⟩, ⟨?_, ?_⟩, fun j z hz => ?_⟩
  · rw [← h3]; exact hinv.o
  · obtain ⟨p, hp⟩ := List.getElem?_of_mem hy
    rw [← h3] at hp
    exact r.so p y hp
  · rw [← h5]; exact r.ev.1
  · rw [← h5] at hv; exact r.ev.2 v hv
  · rw [← h5]; have := hinv.e; have := hinv.b.2; omega
  · rw [← h2]; exact r.pr.1
  · rw [← h4]; exact r.pr.2
  · obtain ⟨y, h6, h7, _⟩ := e0.2 j z hz
    exact ⟨y, h6, h7⟩
end Go.Proofs.Ytdkolggmabnifaa
