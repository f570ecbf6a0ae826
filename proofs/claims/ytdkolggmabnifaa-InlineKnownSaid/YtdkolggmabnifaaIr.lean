/- In which order forms are laid: plain. -/
import Derived.Test.YtdkolggmabnifaaIp
set_option linter.unusedVariables false
set_option linter.unusedSimpArgs false
namespace Go.Proofs.Ytdkolggmabnifaa
open Go Go.Sx Go.RowKit
/-- How a form is read from its first operation on: which programs are laid, and where the next one will be. -/
structure SA (c : CD) (l : List CD) (a : CD) (bgs : Nat → List Int) (ats : Nat → Nat) : Prop where
  b0 : bgs 0 = [c.prog]
  a0 : ats 0 = c.ops.length
  st : ∀ (i : Nat) (y : OP), a.ops[i]? = some y → ((y.v.kind ≠ 5 ∨ y.v.tgt < 0 ∨ y.v.next ∈ bgs i) ∧ bgs (i + 1) = bgs i ∧ ats (i + 1) = ats i) ∨
    (y.v.kind = 5 ∧ 0 ≤ y.v.tgt ∧ y.v.next ∉ bgs i ∧ ∃ f ∈ l, frmC c l y.v.next = some f ∧ bgs (i + 1) = bgs i ++ [y.v.next] ∧ ats (i + 1) = ats i + f.ops.length ∧ ∀ (j : Nat) (z : OP), f.ops[j]? = some z → ∃ t, a.ops[ats i + j]? = some t ∧ Sim (z.v.mv (ats i)) t.v)
  fin : ats a.ops.length = a.ops.length
  le : ∀ i, i ≤ a.ops.length → (bgs i).length ≤ 4 ∧ ats i ≤ a.ops.length
theorem sameC {c a : CD} {l : List CD} (hc : Rt c) (hl : ∀ x ∈ l, Rt x) (kc : OkV c.vc) (kl : ∀ x ∈ l, OkV x.vc) (h : IsJ (l.map CD.vc) c.vc a.vc) : ∃ bgs ats, SA c l a bgs ats := by
  have hlv : ∀ f ∈ l.map CD.vc, RtV f := fun f hf => by obtain ⟨x, hx, rfl⟩ := List.mem_map.1 hf; exact (hl x hx).v
  have hkv : ∀ f ∈ l.map CD.vc, OkV f := fun f hf => by obtain ⟨x, hx, rfl⟩ := List.mem_map.1 hf; exact kl x hx
  obtain ⟨k, h1, h2, h3, h4, h5⟩ := h.ex
  have e1 : a.vc.ops.length = a.ops.length := List.length_map _
  have hinv0 : InvV (layV (iniV c.vc) c.vc) := layV_inv (s := iniV c.vc) (by show 0 ≤ 3; omega) (Nat.zero_le _) (fun v hv => by cases hv) kc (by show 0 + c.vc.ops.length ≤ 1024; have := kc.ol; omega)
  let s := runV (l.map CD.vc) (layV (iniV c.vc) c.vc)
  have hinv := fun i => runV_inv hinv0 hkv i
  have hlen : ∀ i, i < k → i < (s i).ops.length := fun i hi => by
    refine Decidable.byContradiction fun hge => ?_
    have := runV_stop (others := l.map CD.vc) (s0 := layV (iniV c.vc) c.vc) (k := i) (by show (s i).ops.length ≤ i; omega) (k - i)
    rw [show i + (k - i) = k by omega] at this
    have h6 : (s k).ops = (s i).ops := congrArg VJ.ops this
    have h7 : (s k).ops.length = k := by show (runV _ _ k).ops.length = k; rw [h3, h1]
    rw [h6] at h7
    omega
  have hext : ∀ i, i ≤ k → Ext i (s i).ops a.vc.ops := fun i hi => by
    have := run_ext hc.v hlv i (k - i)
    rw [show i + (k - i) = k by omega, h3] at this
    exact this
  have hk : k = a.ops.length := by omega
  refine ⟨fun i => (s i).bg.map (·.1), fun i => (s i).ops.length, ?_, ?_, fun i y hy => ?_, ?_, fun i hi => ⟨?_, ?_⟩⟩
  · show (layV (iniV c.vc) c.vc).bg.map (·.1) = _
    rw [lay0]
    rfl
  · show (layV (iniV c.vc) c.vc).ops.length = _
    rw [ini_ops]
    show (c.ops.map (·.v)).length = _
    rw [List.length_map]
  · have hik : i < k := by have := (List.getElem?_eq_some_iff.1 hy).1; omega
    have st := stepR (runR hc.v hlv i).i hlv i
    have hx1 := hext (i + 1) (by omega)
    have hy1 : (s (i + 1)).ops[i]? = some y.v := by
      have hl1 : i < (s (i + 1)).ops.length := Nat.lt_of_lt_of_le (hlen i hik) st.e.1
      obtain ⟨y', h6, _, h7⟩ := hx1.2 i _ (List.getElem?_eq_getElem hl1)
      have h8 : a.vc.ops[i]? = some y.v := vget hy
      rw [h6] at h8
      rw [List.getElem?_eq_getElem hl1, ← h7 (by omega)]
      exact h8
    rcases st.q with ⟨q1, q2, q3⟩ | ⟨f, y2, q1, q2, q3, q4, q5, q6, q7, q8, q9⟩
    · refine .inl ⟨?_, ?_, q2⟩
      · by_cases h5 : y.v.kind = 5
        · exact .inr (q3 y.v hy1 h5)
        · exact .inl h5
      · show (s (i + 1)).bg.map (·.1) = _
        have : (s (i + 1)).bg = (s i).bg := q1
        rw [this]
    · have hy2 : (s (i + 1)).ops[i]? = some y2 := q1
      obtain rfl : y2 = y.v := by rw [hy1] at hy2; exact (Option.some.inj hy2).symm
      obtain ⟨g, hg, rfl⟩ := List.mem_map.1 q5
      obtain ⟨f', hf', e⟩ := frm_C q6
      refine .inr ⟨q2, q3, q4, f', ?_, hf', q7, ?_, fun j z hz => ?_⟩
      · unfold frmC at hf'
        rw [List.find?_cons] at hf'
        by_cases hcp : c.prog = y.v.next
        · exfalso
          obtain ⟨b, hb⟩ := (runR hc.v hlv i).i.hd
          exact q4 (List.mem_map.2 ⟨_, hb, hcp⟩)
        · rw [decide_eq_false hcp] at hf'
          exact List.mem_of_find?_eq_some hf'
      · have e2 : f'.ops.length = g.vc.ops.length := by rw [← e]; exact (List.length_map _).symm
        rw [e2]
        exact q8
      · have hz2 : g.vc.ops[j]? = some z.v := by rw [← e]; exact vget hz
        obtain ⟨y', h6, h7⟩ := q9 j z.v hz2
        obtain ⟨t, h8, h9, _⟩ := hx1.2 _ y' h6
        obtain ⟨t', ht', rfl⟩ := getv h8
        exact ⟨t', ht', h7.trans h9⟩
  · show (s a.ops.length).ops.length = _
    rw [← hk]
    show (runV _ _ k).ops.length = k
    rw [h3, h1]
  · show ((s i).bg.map (·.1)).length ≤ 4
    rw [List.length_map]
    exact (hinv i).b.2
  · have := (hext i (by omega)).1
    show (s i).ops.length ≤ _
    omega
structure JE (c : CD) (a : CD) : Prop where
  own : ∀ (j : Nat) (z : OP), c.ops[j]? = some z → ∃ y, a.ops[j]? = some y ∧ Sim z.v y.v
  prog : a.prog = c.prog
  at0 : a.at' = c.at'
  nd : (a.evs.map (·.v)).Nodup
  ks : ∀ e ∈ a.evs, BytK e.v.key ∧ e.v.key.length ≤ 1000
  el : a.evs.length ≤ 400
theorem je_of {c a : CD} {l : List CD} (hc : Rt c) (hl : ∀ x ∈ l, Rt x) (kc : OkV c.vc) (kl : ∀ x ∈ l, OkV x.vc) (h : IsJ (l.map CD.vc) c.vc a.vc) : JE c a := by
  have hlv : ∀ f ∈ l.map CD.vc, RtV f := fun f hf => by obtain ⟨x, hx, rfl⟩ := List.mem_map.1 hf; exact (hl x hx).v
  have hkv : ∀ f ∈ l.map CD.vc, OkV f := fun f hf => by obtain ⟨x, hx, rfl⟩ := List.mem_map.1 hf; exact kl x hx
  have hJ := joinF hc.v hlv kc hkv h
  refine ⟨fun j z hz => ?_, hJ.pr.1, hJ.pr.2, hJ.ev.1, fun e he => ?_, ?_⟩
  · obtain ⟨y, h1, h2⟩ := hJ.own j z.v (vget hz)
    obtain ⟨y', h3, rfl⟩ := getv h1
    exact ⟨y', h3, h2⟩
  · obtain ⟨f, hf, hv⟩ := hJ.ev.2.1 e.v (List.mem_map.2 ⟨e, he, rfl⟩)
    have hf' : f ∈ (c :: l).map CD.vc := hf
    obtain ⟨g, hg, rfl⟩ := List.mem_map.1 hf'
    obtain ⟨x, hx, hxe⟩ := List.mem_map.1 hv
    rw [← hxe]
    rcases List.mem_cons.1 hg with rfl | hg
    · exact ⟨kc.k x.v (List.mem_map.2 ⟨x, hx, rfl⟩), by have := hc.ks x hx; omega⟩
    · exact ⟨(kl g hg).k x.v (List.mem_map.2 ⟨x, hx, rfl⟩), by have := (hl g hg).ks x hx; omega⟩
  · have := hJ.ev.2.2
    have e1 : a.vc.evs.length = a.evs.length := List.length_map _
    omega
end Go.Proofs.Ytdkolggmabnifaa
