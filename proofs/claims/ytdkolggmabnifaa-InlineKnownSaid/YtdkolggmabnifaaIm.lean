/- Without others a form is as it was, but for where it enters programs: plain. -/
import Derived.Test.YtdkolggmabnifaaIl
set_option linter.unusedVariables false
set_option linter.unusedSimpArgs false
namespace Go.Proofs.Ytdkolggmabnifaa
open Go Go.Sx Go.RowKit
theorem mv0 (v : VO) : VO.mv 0 v = v := by
  unfold VO.mv
  split
  · rw [Int.add_zero]
  · rfl
/-- Where it enters programs. -/
def entV (prog a0 : Int) (x : VO) : VO := if x.kind = 5 then { x with tgt := if prog = x.next then a0 else -1 } else x
theorem entV_idem (prog a0 : Int) (x : VO) : entV prog a0 (entV prog a0 x) = entV prog a0 x := by
  unfold entV
  by_cases h : x.kind = 5
  · rw [if_pos h, if_pos h]
  · rw [if_neg h, if_neg h]
theorem lay0 (c : VC) : layV (iniV c) c = ⟨c.prog, c.ops, c.at', c.evs.foldl addE [], [(c.prog, c.at'.headD 0)]⟩ := by
  unfold layV iniV
  have e : c.ops.map (VO.mv 0) = c.ops := by
    conv => rhs; rw [← List.map_id c.ops]
    exact List.map_congr_left fun x _ => mv0 x
  simp only [List.nil_append, List.length_nil]
  have e2 : c.ops.map (VO.mv ((0 : Nat) : Int)) = c.ops := e
  rw [e2]
  simp
theorem bgL_one (p a k : Int) : bgL k [(p, a)] = if p = k then some a else none := by
  unfold bgL
  rw [List.find?_cons]
  by_cases h : p = k
  · rw [decide_eq_true h, if_pos h]; rfl
  · rw [decide_eq_false h, if_neg h]; rfl
theorem mpM_none {α : Type} {f : α → α} {l : List α} {i : Nat} (h : l.length ≤ i) : mpM f (i + 1) l = mpM f i l := by
  unfold mpM
  rw [List.take_of_length_le (by omega), List.take_of_length_le h, List.drop_of_length_le (by omega), List.drop_of_length_le h]
theorem mpM_same {α : Type} {f : α → α} {l : List α} {i : Nat} {x : α} (hx : l[i]? = some x) (h : f x = x) : mpM f (i + 1) l = mpM f i l := by
  rw [← mpM_s hx, h]
  obtain ⟨h1, h2⟩ := List.getElem?_eq_some_iff.1 (mpM_at (f := f) hx)
  conv => lhs; arg 3; rw [← h2]
  exact List.set_getElem_self _
theorem alone_run (c : VC) : ∀ k, runV [] (layV (iniV c) c) k = ⟨c.prog, mpM (entV c.prog (c.at'.headD 0)) k c.ops, c.at', c.evs.foldl addE [], [(c.prog, c.at'.headD 0)]⟩
  | 0 => by
    show layV (iniV c) c = _
    rw [lay0]
    simp [mpM]
  | k + 1 => by
    show stepV [] (runV [] (layV (iniV c) c) k) k = _
    rw [alone_run c k]
    unfold stepV
    cases hx : c.ops[k]? with
    | none =>
      have hl : c.ops.length ≤ k := by simpa using hx
      have : (mpM (entV c.prog (c.at'.headD 0)) k c.ops)[k]? = none := by
        rw [List.getElem?_eq_none]
        unfold mpM
        simp
        omega
      dsimp only
      rw [this, mpM_none hl]
    | some x =>
      dsimp only
      rw [mpM_at hx]
      dsimp only
      by_cases hk : x.kind = 5
      · rw [if_pos hk]
        have ht : targetV ⟨c.prog, mpM (entV c.prog (c.at'.headD 0)) k c.ops, c.at', c.evs.foldl addE [], [(c.prog, c.at'.headD 0)]⟩ [] x.next = (if c.prog = x.next then c.at'.headD 0 else -1, ⟨c.prog, mpM (entV c.prog (c.at'.headD 0)) k c.ops, c.at', c.evs.foldl addE [], [(c.prog, c.at'.headD 0)]⟩) := by
          unfold targetV
          dsimp only
          rw [bgL_one]
          by_cases h : c.prog = x.next
          · rw [if_pos h, if_pos h]
          · rw [if_neg h, if_neg h]; rfl
        rw [ht]
        dsimp only
        unfold setT
        rw [mpM_at hx]
        dsimp only
        have e : entV c.prog (c.at'.headD 0) x = { x with tgt := if c.prog = x.next then c.at'.headD 0 else -1 } := by unfold entV; rw [if_pos hk]
        rw [← e, mpM_s hx]
      · rw [if_neg hk, mpM_same hx]
        unfold entV
        rw [if_neg hk]
theorem isJ_alone {c a : VC} (h : IsJ [] c a) : a = ⟨c.prog, c.ops.map (entV c.prog (c.at'.headD 0)), c.at', c.evs.foldl addE []⟩ := by
  have e : mpM (entV c.prog (c.at'.headD 0)) c.ops.length c.ops = c.ops.map (entV c.prog (c.at'.headD 0)) := by unfold mpM; simp
  have hk := alone_run c c.ops.length
  rw [e] at hk
  obtain ⟨h1, h2, h3, h4⟩ := isJ_eq h (k := c.ops.length) (by rw [hk]; simp)
  rw [hk] at h1 h2 h3 h4
  obtain ⟨p, o, t, e⟩ := a
  dsimp only at h1 h2 h3 h4
  subst h1 h2 h3 h4
  rfl
/-! ### Nothing twice -/
theorem addE_new {acc : List VE} {x : VE} (h : x ∉ acc) : addE acc x = acc ++ [x] := by
  unfold addE
  rw [if_neg]
  intro h2
  obtain ⟨y, hy, e⟩ := List.any_eq_true.1 h2
  exact h (of_decide_eq_true e ▸ hy)
theorem addE_old {acc : List VE} {x : VE} (h : x ∈ acc) : addE acc x = acc := by
  unfold addE
  rw [if_pos (List.any_eq_true.2 ⟨x, h, decide_eq_true rfl⟩)]
theorem fold_nd : ∀ (l acc : List VE), acc.Nodup → (l.foldl addE acc).Nodup
  | [], _, h => h
  | x :: l, acc, h => by
    rw [List.foldl_cons]
    refine fold_nd l _ ?_
    by_cases hx : x ∈ acc
    · rw [addE_old hx]; exact h
    · rw [addE_new hx]
      exact List.nodup_append.2 ⟨h, by simp, fun a ha b hb e => by
        obtain rfl := List.mem_singleton.1 hb
        exact hx (e ▸ ha)⟩
theorem fold_self : ∀ (l acc : List VE), (acc ++ l).Nodup → l.foldl addE acc = acc ++ l
  | [], acc, _ => by simp
  | x :: l, acc, h => by
    have h1 := List.nodup_append.1 h
    have hx : x ∉ acc := fun hx => h1.2.2 x hx x (by simp) rfl
    rw [List.foldl_cons, addE_new hx, fold_self l (acc ++ [x]) (by rwa [List.append_assoc, List.singleton_append]), List.append_assoc, List.singleton_append]
theorem alone_twice {c a b : VC} (h1 : IsJ [] c a) (h2 : IsJ [] a b) : b = a := by
  rw [isJ_alone h2, isJ_alone h1]
  dsimp only
  rw [List.map_map]
  have e1 : (entV c.prog (c.at'.headD 0)) ∘ (entV c.prog (c.at'.headD 0)) = entV c.prog (c.at'.headD 0) := funext fun x => entV_idem _ _ x
  have e2 := fold_self (c.evs.foldl addE []) [] (by simpa using fold_nd c.evs [] List.nodup_nil)
  rw [e1, e2, List.nil_append]
end Go.Proofs.Ytdkolggmabnifaa
