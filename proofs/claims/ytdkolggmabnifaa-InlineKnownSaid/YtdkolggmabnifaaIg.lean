/- Forms joined: the walk of Join. -/
import Derived.Test.YtdkolggmabnifaaIf
import Derived.ScopeJumps
set_option maxRecDepth 100000
set_option maxHeartbeats 8000000
set_option linter.unusedSimpArgs false
set_option linter.unusedVariables false
namespace Go.Sx
open Go.RowKit
theorem exists_least {p : Nat → Prop} (h : ∃ k, p k) : ∃ k, p k ∧ ∀ j, p j → k ≤ j := by
  obtain ⟨k, hk⟩ := h
  induction k using Nat.strongRecOn with
  | _ k ih =>
    by_cases h : ∃ j, j < k ∧ p j
    · obtain ⟨j, hj, hp⟩ := h
      exact ih j hj hp
    · exact ⟨k, hk, fun j hj => Nat.le_of_not_lt fun hlt => h ⟨j, hlt, hj⟩⟩
section
variable {P : Program} {Q Q1 Q2 : Exit → Act → World → Prop} {n : Nat} {st : Slots} {S : Nat → Prop} {w0 : World} {H : List Res} {e : Exit}
theorem cw_mono {c : Code} (h : CW P c Q1 n st S w0 H) (hq : ∀ e a w, Q1 e a w → Q2 e a w) : CW P c Q2 n st S w0 H := ⟨fun w hw => wp_mono (h.run w hw) hq⟩
theorem cw_goto {l : Nat} (h : PW Q (.goto l) n st S w0 H) : CW P (.goto l) Q n st S w0 H := ⟨fun w hw => wp_goto (h.run w hw)⟩
theorem pw_jump_r {l : Nat} {J : Act → World → Prop} (h : PW Q .ret n st S w0 H) : PW (Exit.jump l J Q) .ret n st S w0 H := ⟨h.run⟩
theorem pw_jump {ι : Type} {l : Nat} {live : ι → Slots} {HH : ι → List Res} {I : ι → Prop} {μ : ι → Nat} {i : ι} (i' : ι) (hI : I i') (hm : μ i' < μ i) (hs : agree (live i') st) (hH : ∀ w, Ok S w0 H w → Ok S w0 (HH i') w) :
    PW (Exit.jump l (LQ ι n S w0 live HH I μ i) Q) (.goto l) n st S w0 H := ⟨fun w hw => ⟨rfl, i', st, hI, hm, (fr_agree hs).symm, hH w hw⟩⟩
/-- A scope in which the run jumps back to one label. -/
theorem cw_scope {ι : Type} {c X : Code} (l : Nat) (live : ι → Slots) (HH : ι → List Res) (I : ι → Prop) (μ : ι → Nat) (hf : findLabel c l = some (.seq .skip X))
    (pass : ∀ i jk, I i → CW P X (Exit.jump l (LQ ι n S w0 live HH I μ i) Q) n (live i ++ jk) S w0 (HH i))
    (first : (∀ i jk, I i → CW P X (Exit.jump l (MidW ι n S w0 live HH I) Q) n (live i ++ jk) S w0 (HH i)) → CW P c (Exit.jump l (MidW ι n S w0 live HH I) Q) n st S w0 H) : CW P (.scope c) Q n st S w0 H := by
  have hlm : ∀ i e a w, Exit.jump l (LQ ι n S w0 live HH I μ i) Q e a w → Exit.jump l (MidW ι n S w0 live HH I) Q e a w := fun i e a w h => by
    cases e with
    | goto l' => obtain ⟨h1, i', jk, h2, h3, h4, h5⟩ := h; exact ⟨h1, i', jk, h2, h4, h5⟩
    | _ => exact h
  have f := first fun i jk hI => cw_mono (pass i jk hI) (hlm i)
  have hex : ∀ a w, ∃ k : Nat, MidW ι n S w0 live HH I a w → (∃ i jk, μ i = k ∧ I i ∧ a = fr n (live i ++ jk) ∧ Ok S w0 (HH i) w) ∧ ∀ i jk, I i → a = fr n (live i ++ jk) → Ok S w0 (HH i) w → k ≤ μ i := fun a w => by
    by_cases h : MidW ι n S w0 live HH I a w
    · obtain ⟨i, jk, h1, h2, h3⟩ := h
      obtain ⟨k, hk, hmin⟩ := exists_least (p := fun k => ∃ i jk, μ i = k ∧ I i ∧ a = fr n (live i ++ jk) ∧ Ok S w0 (HH i) w) ⟨μ i, i, jk, rfl, h1, h2, h3⟩
      exact ⟨k, fun _ => ⟨hk, fun i jk h1 h2 h3 => hmin _ ⟨i, jk, rfl, h1, h2, h3⟩⟩⟩
    · exact ⟨0, fun h' => absurd h' h⟩
  refine ⟨fun w hw => wp_scope_jumps l (MidW ι n S w0 live HH I) (fun a w => Classical.choose (hex a w)) hf (f.run w hw) fun a w hJ => ?_⟩
  obtain ⟨⟨i, jk, hμ, hI, ha, hok⟩, _⟩ := Classical.choose_spec (hex a w) hJ
  have hs := cw_seq (P := P) (cw_skip (pw_then (pass i jk hI)))
  subst ha
  refine wp_mono (hs.run w hok) fun e a' w' h => ?_
  cases e with
  | goto l' =>
    obtain ⟨h1, i', jk', h2, h3, h4, h5⟩ := h
    have hJ' : MidW ι n S w0 live HH I a' w' := ⟨i', jk', h2, h4, h5⟩
    refine ⟨h1, hJ', ?_⟩
    have h6 := (Classical.choose_spec (hex a' w') hJ').2 i' jk' h2 h4 h5
    have : Classical.choose (hex (fr n (live i ++ jk)) w) = μ i := hμ.symm
    show Classical.choose (hex a' w') < Classical.choose (hex (fr n (live i ++ jk)) w)
    omega
  | _ => exact h
end
end Go.Sx
namespace Go.Proofs.Ytdkolggmabnifaa
open Go Go.Sx Go.RowKit
theorem b26 (p : Int) (ta : Option Addr) (n c : Nat) : Blt Try.prog 26 [(0, .int .i64 p), (2, .slice ta n c)] [.int .i64 p, .slice none 0 0, .slice ta n c, .slice none 0 0] := ⟨by kernel_rfl⟩
theorem b58 (p : Int) (ta : Option Addr) (n c : Nat) (xa : Option Addr) (xn xc mp : Nat) : Blt Try.prog 58 [(0, .agg #[.int .i64 p, .slice none 0 0, .slice ta n c, .slice none 0 0]), (1, .slice xa xn xc), (2, .map (some mp))] [.int .i64 p, .slice none 0 0, .slice ta n c, .slice none 0 0, .slice xa xn xc, .map (some mp)] := ⟨by kernel_rfl⟩
theorem vr_all {α : Type} {z : Nat} {c : α → List Value} (hz : ∀ x, (c x).length = z) {xs : List α} {j : Nat} {x : α} (hj : xs[j]? = some x) (rest : List Value) {p : Nat} (hp : p = j * z) : Vr (xs.flatMap c ++ rest) p z (c x) := by
  obtain ⟨e1, _⟩ := list_cut hj
  have hl : ((xs.take j).flatMap c).length = j * z := by
    rw [flatMap_len hz, List.length_take]
    have := (List.getElem?_eq_some_iff.1 hj).1
    rw [Nat.min_eq_left (by omega)]
  refine ⟨⟨?_⟩, hz x⟩
  have e2 : xs.flatMap c ++ rest = (xs.take j).flatMap c ++ (c x ++ ((xs.drop (j + 1)).flatMap c ++ rest)) := by
    conv => lhs; rw [e1]
    simp
  rw [e2, hp, List.drop_append, hl, Nat.sub_self, List.drop_of_length_le (by omega)]
  simp [hz x]
/-! ### What is joined, plain -/
def setT (i : Nat) (t : Int) (ops : List VO) : List VO := match ops[i]? with
  | some y => ops.set i { y with tgt := t }
  | none => ops
def stepV (others : List VC) (s : VJ) (i : Nat) : VJ := match s.ops[i]? with
  | some x => if x.kind = 5 then { (targetV s others x.next).2 with ops := setT i (targetV s others x.next).1 (targetV s others x.next).2.ops } else s
  | none => s
def runV (others : List VC) (s : VJ) : Nat → VJ
  | 0 => s
  | i + 1 => stepV others (runV others s i) i
def iniV (c : VC) : VJ := ⟨c.prog, [], c.at', [], []⟩
structure InvV (s : VJ) : Prop where
  b : 1 ≤ s.bg.length ∧ s.bg.length ≤ 4
  o : s.ops.length ≤ 1024
  e : s.evs.length ≤ 100 * s.bg.length
  k : ∀ v ∈ s.evs, BytK v.key
structure OkV (c : VC) : Prop where
  ol : c.ops.length ≤ 400
  el : c.evs.length ≤ 100
  k : ∀ v ∈ c.evs, BytK v.key
theorem fold_len : ∀ (l acc : List VE), (l.foldl addE acc).length ≤ acc.length + l.length
  | [], _ => Nat.le_refl _
  | x :: l, acc => by
    have h1 := fold_len l (addE acc x)
    have h2 := addE_len acc x
    rw [List.foldl_cons, List.length_cons]
    omega
theorem addE_mem {acc : List VE} {x v : VE} (h : v ∈ addE acc x) : v ∈ acc ∨ v = x := by
  unfold addE at h
  split at h
  · exact .inl h
  · rcases List.mem_append.1 h with h | h
    · exact .inl h
    · exact .inr (List.mem_singleton.1 h)
theorem fold_mem : ∀ {l acc : List VE} {v : VE}, v ∈ l.foldl addE acc → v ∈ acc ∨ v ∈ l
  | [], acc, v, h => .inl h
  | x :: l, acc, v, h => by
    rcases fold_mem (l := l) h with h | h
    · rcases addE_mem h with h | rfl
      · exact .inl h
      · exact .inr (by simp)
    · exact .inr (List.mem_cons_of_mem _ h)
theorem layV_inv {s : VJ} {c : VC} (hs : s.bg.length ≤ 3) (he : s.evs.length ≤ 100 * s.bg.length) (hk : ∀ v ∈ s.evs, BytK v.key) (hc : OkV c) (ho : s.ops.length + c.ops.length ≤ 1024) : InvV (layV s c) := by
  refine ⟨?_, ?_, ?_, fun v hv => ?_⟩
  · show 1 ≤ (s.bg ++ [_]).length ∧ (s.bg ++ [_]).length ≤ 4
    rw [List.length_append, List.length_singleton]
    omega
  · show (s.ops ++ c.ops.map _).length ≤ 1024
    rw [List.length_append, List.length_map]
    exact ho
  · show (c.evs.foldl addE s.evs).length ≤ 100 * (s.bg ++ [_]).length
    have := fold_len c.evs s.evs
    have := hc.el
    rw [List.length_append, List.length_singleton]
    omega
  · rcases fold_mem hv with h | h
    · exact hk v h
    · exact hc.k v h
theorem target_inv {s : VJ} {others : List VC} (h : InvV s) (ho : ∀ c ∈ others, OkV c) (prog : Int) : InvV (targetV s others prog).2 ∧ ((targetV s others prog).2 = s ∨ (targetV s others prog).2.bg.length = s.bg.length + 1) ∧ s.ops.length ≤ (targetV s others prog).2.ops.length := by
  unfold targetV
  cases bgL prog s.bg with
  | some a => exact ⟨h, .inl rfl, Nat.le_refl _⟩
  | none =>
    dsimp only
    cases hf : others.find? fun c => decide (c.prog = prog) with
    | none => exact ⟨h, .inl rfl, Nat.le_refl _⟩
    | some o =>
      dsimp only
      split
      · exact ⟨h, .inl rfl, Nat.le_refl _⟩
      · rename_i hn
        refine ⟨layV_inv (by omega) h.e h.k (ho o (List.mem_of_find?_eq_some hf)) (by omega), .inr ?_, ?_⟩
        · show (s.bg ++ [_]).length = _
          simp
        · show _ ≤ (s.ops ++ _).length
          simp
theorem setT_len (i : Nat) (t : Int) (ops : List VO) : (setT i t ops).length = ops.length := by
  unfold setT
  split
  · simp
  · rfl
end Go.Proofs.Ytdkolggmabnifaa
