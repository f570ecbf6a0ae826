/- The program's cache: its map of forms, how often programs ran; New, Run, Drop, Forget, Progs. -/
import Derived.Test.YtikdbgheefjpkaaQe
import Derived.Test.YtikdbgheefjpkaaKr
set_option maxRecDepth 100000
set_option maxHeartbeats 8000000
set_option linter.unusedSimpArgs false
set_option linter.unusedVariables false
namespace Go.Sx
open Go.RowKit
section
variable {P : Program} {ops : List Oper} {C : World → Prop} {anc : Nat → Bool} {R : Act → (World → Prop) → Prop} {i : Nat} {l : List Nat} {n : Nat} {st : Slots} {S : Nat → Prop} {w0 : World} {H : List Res} {o : Oper} {d : Nat}
/-- What is read of a key, without whether. -/
def lookW (z : Value) (k : Int) (m : List (Int × Value)) : Value := match fnd k m 0 with
  | some q => q.2
  | none => z
theorem mx_look1 {t : TypeId} {z : Value} (hm : MapT P t z) (ho : nthO ops i = some o) (hg : gd ops.toArray n st o = true) {x y : Operand} (hop : o.op = .lookup t x y false) {r : Nat} (hx : ev n st x = .map (some r)) {k : Int} (hy : ev n st y = .int .i64 k) {m : List (Int × Value)} [hr : ReadsM C anc S w0 H r m] {v : Value} (hv : lookW z k m = v) (hd : o.dst = some d)
    (h : MX P ops C anc R l n ((d, v) :: st) S w0 H) : MX P ops C anc R (i :: l) n st S w0 H := by
  obtain ⟨kt, e, h1, h2, h3⟩ := hm.spec
  have key : ∀ w, (mapR r m).holds w → (execOp (ev n st) o).run P w = .ok (.value v) w := fun w ⟨es, clock, h4, h5, _⟩ => by
    subst hv
    unfold lookW
    cases hf : fnd k m 0 with
    | none => simp [execOp, hop, hx, hy, Instr.lookup, run_underlying h1, MapKept.run_getObj_map h4, run_checkKey h2, run_findKey h2 k _ _ h5, hf, h3, Result.andThen]
    | some q => simp [execOp, hop, hx, hy, Instr.lookup, run_underlying h1, MapKept.run_getObj_map h4, run_checkKey h2, run_findKey h2 k _ _ h5, hf, Result.andThen]
  exact get_val ho hg v (hr.reads.imp (fun hh => ⟨hh.1, fun w hw => key w (hh.2 w hw)⟩) (fun hh w hw => key w (hh w hw))) hd h
end
section
variable {α : Type} (key : α → Int) (val : α → Value)
theorem fndg_none {k : Int} : ∀ {l : List α} {i : Nat}, fnd k (l.map fun a => (key a, val a)) i = none → ∀ e ∈ l, key e ≠ k
  | [], _, _, _, he => by simp at he
  | x :: l, i, h, e, he => by
    rw [List.map_cons] at h
    unfold fnd at h
    split at h
    · cases h
    · rename_i hx
      rcases List.mem_cons.1 he with rfl | he
      · exact hx
      · exact fndg_none h e he
theorem fndg_no {k : Int} : ∀ {l : List α} {i : Nat}, (∀ e ∈ l, key e ≠ k) → fnd k (l.map fun a => (key a, val a)) i = none
  | [], _, _ => rfl
  | x :: l, i, h => by
    rw [List.map_cons]
    unfold fnd
    rw [if_neg (h x (by simp))]
    exact fndg_no (fun e he => h e (List.mem_cons_of_mem _ he))
theorem fndg_some {k : Int} {l : List α} {q : Nat} {v : Value} (h : fnd k (l.map fun a => (key a, val a)) 0 = some (q, v)) : ∃ x, l[q]? = some x ∧ key x = k ∧ v = val x := by
  have h1 := (fnd_at k _ 0 q v h).2.2
  rw [Nat.sub_zero, List.getElem?_map] at h1
  cases hx : l[q]? with
  | none => rw [hx] at h1; cases h1
  | some x =>
    rw [hx] at h1
    exact ⟨x, rfl, congrArg Prod.fst (Option.some.inj h1), (congrArg Prod.snd (Option.some.inj h1)).symm⟩
theorem delKg {k : Int} : ∀ (l : List α), (l.map key).Nodup → delK k (l.map fun a => (key a, val a)) = (l.filter fun e => decide (key e ≠ k)).map fun a => (key a, val a) := by
  have hno : ∀ l : List α, (∀ e ∈ l, key e ≠ k) → (l.filter fun e => decide (key e ≠ k)) = l := fun l h => List.filter_eq_self.2 fun e he => by simpa using h e he
  have hk : ∀ (l : List α) (i : Nat), (l.map key).Nodup → (match fnd k (l.map fun a => (key a, val a)) i with
      | some q => (l.map fun a => (key a, val a)).eraseIdx (q.1 - i)
      | none => l.map fun a => (key a, val a)) = (l.filter fun e => decide (key e ≠ k)).map fun a => (key a, val a) := by
    intro l
    induction l with
    | nil => intro i _; rfl
    | cons x l ih =>
      intro i hn
      have hn' := List.nodup_cons.1 hn
      rw [List.map_cons]
      unfold fnd
      by_cases hx : key x = k
      · rw [if_pos hx]
        have h2 : ∀ e ∈ l, key e ≠ k := fun e he h => hn'.1 (List.mem_map.2 ⟨e, he, h.trans hx.symm⟩)
        rw [List.filter_cons_of_neg (by simp [hx]), hno l h2]
        simp
      · rw [if_neg hx, List.filter_cons_of_pos (by simpa using hx), List.map_cons, ← ih (i + 1) hn'.2]
        cases hf : fnd k (l.map fun a => (key a, val a)) (i + 1) with
        | none => rfl
        | some q =>
          have := (fnd_at k _ (i + 1) q.1 q.2 hf).1
          simp only
          rw [show q.1 - i = (q.1 - (i + 1)) + 1 by omega, List.eraseIdx_cons_succ]
  intro l hn
  have := hk l 0 hn
  unfold delK
  cases hf : fnd k (l.map fun a => (key a, val a)) 0 with
  | none => rw [hf] at this; exact this
  | some q => rw [hf] at this; exact this
end
end Go.Sx
namespace Go.Proofs.Ytikdbgheefjpkaa
open Go Go.Sx Go.RowKit
instance : ZeroT Try.prog 96 [.int .i64 0, .map none, .map none] := ⟨by kernel_rfl⟩
theorem b96 (m : Int) (f r : Nat) : Blt Try.prog 96 [(0, .int .i64 m), (1, .map (some f)), (2, .map (some r))] [.int .i64 m, .map (some f), .map (some r)] := ⟨by kernel_rfl⟩
def zC : Value := .agg z59.toArray
theorem mt93 : MapT Try.prog 93 zC := ⟨⟨3, 59, by kernel_rfl, by kernel_rfl, fun _ => rfl⟩⟩
theorem mt94 : MapT Try.prog 94 (.int .i64 0) := ⟨⟨3, 3, by kernel_rfl, by kernel_rfl, fun _ => rfl⟩⟩
/-! ### How often -/
@[reducible] def rV (p : Int × Int) : Int × Value := (p.1, .int .i64 p.2)
def runs (p : Int) : List (Int × Int) → Int
  | [] => 0
  | q :: l => if q.1 = p then q.2 else runs p l
theorem look_runs (p : Int) (rs : List (Int × Int)) : lookW (.int .i64 0) p (rs.map rV) = .int .i64 (runs p rs) := by
  have key : ∀ (rs : List (Int × Int)) (i : Nat), (match fnd p (rs.map rV) i with | some q => q.2 | none => Value.int .i64 0) = .int .i64 (runs p rs) := by
    intro rs
    induction rs with
    | nil => intro i; rfl
    | cons x rs ih =>
      intro i
      rw [List.map_cons]
      unfold fnd runs
      by_cases h : x.1 = p
      · rw [if_pos (show (rV x).1 = p from h), if_pos h]
      · rw [if_neg (show ¬ (rV x).1 = p from h), if_neg h]
        exact ih (i + 1)
  unfold lookW
  exact key rs 0
theorem runs_none {p : Int} {rs : List (Int × Int)} (h : ∀ e ∈ rs, e.1 ≠ p) : runs p rs = 0 := by
  induction rs with
  | nil => rfl
  | cons x rs ih =>
    unfold runs
    rw [if_neg (h x (by simp))]
    exact ih (fun e he => h e (List.mem_cons_of_mem _ he))
theorem runs_app {p v : Int} {rs : List (Int × Int)} (h : ∀ e ∈ rs, e.1 ≠ p) (q : Int) : runs q (rs ++ [(p, v)]) = if q = p then v else runs q rs := by
  induction rs with
  | nil =>
    show (if p = q then v else 0) = _
    by_cases hq : q = p
    · rw [if_pos hq, if_pos hq.symm]
    · rw [if_neg hq, if_neg (fun e => hq e.symm)]; rfl
  | cons x rs ih =>
    rw [List.cons_append]
    have hx := h x (by simp)
    have := ih (fun e he => h e (List.mem_cons_of_mem _ he))
    by_cases hq : x.1 = q
    · have : q ≠ p := fun e => hx (hq.trans e)
      rw [if_neg this]
      unfold runs
      rw [if_pos hq, if_pos hq]
    · unfold runs
      rw [if_neg hq, if_neg hq]
      exact this
theorem runs_set {p v : Int} : ∀ {rs : List (Int × Int)} {j : Nat} {x : Int × Int}, (rs.map (·.1)).Nodup → rs[j]? = some x → x.1 = p → ∀ q, runs q (rs.set j (p, v)) = if q = p then v else runs q rs
  | [], j, x, _, h, _, _ => by simp at h
  | y :: rs, 0, x, hn, h, hx, q => by
    obtain rfl : y = x := by simpa using h
    rw [List.set_cons_zero]
    unfold runs
    by_cases hq : q = p
    · rw [if_pos hq.symm, if_pos hq]
    · rw [if_neg (fun e => hq e.symm), if_neg hq, if_neg (fun e => hq (e.symm.trans hx))]
  | y :: rs, j + 1, x, hn, h, hx, q => by
    have hn' := List.nodup_cons.1 hn
    rw [List.set_cons_succ]
    have h2 : rs[j]? = some x := by simpa using h
    have ih := runs_set (v := v) hn'.2 h2 hx q
    have hy : y.1 ≠ p := fun e => hn'.1 (List.mem_map.2 ⟨x, List.mem_of_getElem? h2, hx.trans e.symm⟩)
    by_cases hq : y.1 = q
    · have : q ≠ p := fun e => hy (hq.trans e)
      rw [if_neg this]
      unfold runs
      rw [if_pos hq, if_pos hq]
    · unfold runs
      rw [if_neg hq, if_neg hq]
      exact ih
theorem runs_del {p : Int} (q : Int) : ∀ rs : List (Int × Int), runs q (rs.filter fun e => decide (e.1 ≠ p)) = if q = p then 0 else runs q rs
  | [] => by simp [runs]
  | x :: rs => by
    have ih := runs_del (p := p) q rs
    by_cases hx : x.1 = p
    · rw [List.filter_cons_of_neg (by simp [hx]), ih]
      by_cases hq : q = p
      · rw [if_pos hq, if_pos hq]
      · rw [if_neg hq, if_neg hq]
        conv => rhs; unfold runs
        rw [if_neg (fun e => hq (e.symm.trans hx))]
    · rw [List.filter_cons_of_pos (by simpa using hx)]
      unfold runs
      by_cases hq : x.1 = q
      · rw [if_pos hq, if_pos hq, if_neg (fun e => hx (hq.trans e))]
      · rw [if_neg hq, if_neg hq]
        exact ih
/-! ### Forms -/
@[reducible] def cV (c : CD) : Int × Value := (c.prog, .agg (cCD c).toArray)
def allD (l : List CD) : Res := star (l.flatMap OCd)
theorem allD_nil {S : Nat → Prop} {w0 w : World} {H : List Res} (h : Ok S w0 H w) : Ok S w0 (allD [] :: H) w := Ok.star (L := []) h
theorem fm_sub {α β : Type} (f : α → List β) : ∀ {l l' : List α}, l'.Sublist l → (l'.flatMap f).Sublist (l.flatMap f)
  | _, _, .slnil => by simp
  | _, _, .cons x h => by
    rw [List.flatMap_cons]
    exact (fm_sub f h).trans (List.sublist_append_right _ _)
  | _, _, .cons_cons x h => by
    rw [List.flatMap_cons, List.flatMap_cons]
    exact (fm_sub f h).append_left _
theorem allD_sub {S : Nat → Prop} {w0 w : World} {H : List Res} {l l' : List CD} (hp : l'.Sublist l) (h : Ok S w0 (allD l :: H) w) : Ok S w0 (allD l' :: H) w :=
  Ok.star ((Ok.unstar h).sub ((fm_sub OCd hp).append_right H))
theorem allD_perm {S : Nat → Prop} {w0 w : World} {H : List Res} {l l' : List CD} (hp : l.Perm l') (h : Ok S w0 (allD l :: H) w) : Ok S w0 (allD l' :: H) w :=
  Ok.star ((Ok.unstar h).perm ((hp.flatMap_right OCd).append_right H))
theorem allD_snoc {S : Nat → Prop} {w0 w : World} {H : List Res} {l : List CD} {c : CD} (h : Ok S w0 (OCd c ++ (allD l :: H)) w) : Ok S w0 (allD (l ++ [c]) :: H) w := by
  have h1 := star_snoc (L1 := l.flatMap OCd) (L2 := OCd c) (H := H) h
  unfold allD
  rw [List.flatMap_append]
  simpa using h1
/-- The bounds of a form. -/
structure OkF (v : VC) : Prop where
  o : v.ops.length ≤ 1000
  t : v.at'.length ≤ 1000
  e : v.evs.length ≤ 1000
  os : ∀ o ∈ v.ops, o.held.length ≤ 8796093022208 ∧ o.need.length ≤ 8796093022208
  es : ∀ e ∈ v.evs, e.key.length ≤ 140737488355328
theorem rd_own {c : CD} {L : List Res} {w : World} (h : (star L).holds w) (hL : ∀ r ∈ OCd c, r ∈ L) (ho : OkF c.vc) : RdD w c := by
  have h1 := star_holds h (hL (ownd c.oa c.oc 112 15 c.ops.length (c.ops.flatMap cOP)) (by simp [OCd]))
  have h2 := star_holds h (hL (allF c.ops) (by simp [OCd]))
  have h3 := star_holds h (hL (ownd c.ta c.tc 3 1 c.at'.length (c.at'.flatMap cI)) (by simp [OCd]))
  have h4 := star_holds h (hL (ownd c.ea c.ec 49 5 c.evs.length (c.evs.flatMap cEV)) (by simp [OCd]))
  have h5 := star_holds h (hL (allK c.evs) (by simp [OCd]))
  refine ⟨own_in len_OP h1 (Nat.le_refl _), fun x hx => ?_, own_in len_I h3 (Nat.le_refl _), own_in len_EV h4 (Nat.le_refl _), fun x hx => ⟨inK h5 hx, ho.es x.v (List.mem_map.2 ⟨x, hx, rfl⟩)⟩⟩
  have hb := ho.os x.v (List.mem_map.2 ⟨x, hx, rfl⟩)
  exact ⟨own_in len_FL (star_holds h2 (r := ownd x.ha x.hc 122 2 x.v.held.length (x.v.held.flatMap cFL)) (List.mem_flatMap.2 ⟨x, hx, by simp [RF]⟩)) (Nat.le_refl _), own_in len_FL (star_holds h2 (r := ownd x.na x.nc 122 2 x.v.need.length (x.v.need.flatMap cFL)) (List.mem_flatMap.2 ⟨x, hx, by simp [RF]⟩)) (Nat.le_refl _), hb⟩
theorem rd_all {fs : List CD} {w : World} (h : (allD fs).holds w) {c : CD} (hc : c ∈ fs) (ho : OkF c.vc) : RdD w c :=
  rd_own h (fun r hr => List.mem_flatMap.2 ⟨c, hc, hr⟩) ho
/-- The cache. -/
def OCc (bx fm rm : Nat) (most : Int) (fs : List CD) (rs : List (Int × Int)) : List Res := [row bx 96 [.int .i64 most, .map (some fm), .map (some rm)], mapR fm (fs.map cV), mapR rm (rs.map rV), allD fs]
theorem new32 (m m' : Int) (hm : max 0 m = m') (w : World) : Calls Try.prog 32 #[.int .i64 m] w fun e w' => ∃ a : Nat × Nat × Nat, e = .returned (.pointer (some ⟨a.1, 0, none⟩)) ∧ Ok (domL []) w (OCc a.1 a.2.1 a.2.2 m' [] []) w' := by
  subst hm
  refine enter1 (S := domL []) 9 Try.func32 rfl rfl rfl (Ok.start w) ?_
  (repeat (first | ((refine (?_ : MX _ _ _ _ _ _ _ _ _ _ _)); first | refine mx_end ?_ | (refine mx_mv _ rfl rfl (by conv => {lhs; whnf}) ?_) | (refine mx_as _ rfl rfl (by conv => {lhs; whnf}) ?_) | ((refine g_bi .max rfl ?_; refine mx_maxi rfl rfl rfl rfl rfl rfl rfl ?_) ) ) | refine cw_seq ?_ | refine cw_line rfl ?_ | refine pw_then ?_ ))
  refine a_mmap rfl rfl rfl rfl rfl (fun f => ?_)
  (repeat (first | ((refine (?_ : MX _ _ _ _ _ _ _ _ _ _ _)); first | refine mx_end ?_ | (refine mx_mv _ rfl rfl (by conv => {lhs; whnf}) ?_) | (refine mx_as _ rfl rfl (by conv => {lhs; whnf}) ?_) | (first | refine mx_fa0 E rfl rfl rfl rfl ?_ | refine mx_fa E rfl rfl rfl rfl ?_) | (refine g_load rfl ?_; first | refine mx_get E rfl rfl rfl rfl rfl (by first | assumption | rfl) rfl ?_ | refine mx_getn E rfl rfl rfl rfl rfl (by first | assumption | exact Vr.all rfl | exact ⟨⟨rfl⟩, rfl⟩) rfl ?_ | refine mx_oldn E rfl rfl rfl rfl rfl (by assumption) (by assumption) (rfl) rfl ?_ | refine mx_old1 E rfl rfl rfl rfl rfl (by assumption) (by assumption) rfl ?_ | refine mx_orow E rfl rfl rfl rfl rfl (by assumption) (by assumption) (by first | assumption | rfl) rfl ?_ | refine mx_orown E rfl rfl rfl rfl rfl (by assumption) (by assumption) (by first | assumption | exact Vr.all rfl | exact ⟨⟨rfl⟩, rfl⟩) rfl ?_ | refine mx_geta E rfl rfl rfl rfl rfl rfl (by first | assumption | rfl) rfl ?_ | refine mx_getna E rfl rfl rfl rfl rfl rfl (by first | assumption | exact Vr.all rfl | exact ⟨⟨rfl⟩, rfl⟩) rfl ?_) | (refine g_bin rfl ?_; first | (first | (refine mx_cmpl .eql rfl rfl rfl rfl rfl (by first | exact cmp_eq_t (by omega) | exact cmp_eq_f (by omega) | rfl) ?_) | (refine mx_cmpl .neq rfl rfl rfl rfl rfl (by first | exact cmp_ne_t (by omega) | exact cmp_ne_f (by omega) | rfl) ?_) | (refine mx_cmpl .lss rfl rfl rfl rfl rfl (by first | exact cmp_lt_t (by omega) | exact cmp_lt_f (by omega) | rfl) ?_) | (refine mx_cmpl .leq rfl rfl rfl rfl rfl (by first | exact cmp_le_t (by omega) | exact cmp_le_f (by omega) | rfl) ?_) | (refine mx_cmpl .gtr rfl rfl rfl rfl rfl (by first | exact cmp_gt_t (by omega) | exact cmp_gt_f (by omega) | rfl) ?_) | (refine mx_cmpl .geq rfl rfl rfl rfl rfl (by first | exact cmp_ge_t (by omega) | exact cmp_ge_f (by omega) | rfl) ?_)) | (first | refine mx_ar rfl rfl rfl rfl rfl rfl ((IntWalk.i64_in _ (by omega)).trans (by with_reducible assumption)) rfl ?_ | refine mx_ar rfl rfl rfl rfl rfl rfl (IntWalk.i64_in _ (by omega)) rfl ?_ | refine mx_ar rfl rfl rfl rfl rfl rfl (by with_reducible assumption) rfl ?_) | (first | refine mx_eqs rfl rfl rfl rfl rfl rfl ?_ | refine mx_nes rfl rfl rfl rfl rfl rfl ?_ | refine mx_eq rfl rfl rfl rfl rfl rfl ?_ | refine mx_ne rfl rfl rfl rfl rfl rfl ?_) | refine mx_bsame E rfl rfl rfl rfl rfl rfl rfl ?_ | refine mx_bnsame E rfl rfl rfl rfl rfl rfl rfl ?_ | refine mx_beq E rfl rfl rfl rfl rfl rfl rfl ?_ | refine mx_bne E rfl rfl rfl rfl rfl rfl rfl ?_ | refine mx_dv rfl rfl rfl rfl rfl (by decide) (congrArg some (by assumption)) rfl rfl ?_ | refine mx_dv rfl rfl rfl rfl rfl (by decide) rfl rfl rfl ?_ | refine mx_bit rfl rfl rfl rfl rfl (congrArg some (by assumption)) rfl rfl ?_ | refine mx_bit rfl rfl rfl rfl rfl rfl rfl rfl ?_ | refine mx_sh rfl rfl rfl rfl rfl (by omega) (congrArg some (by assumption)) rfl rfl ?_ | refine mx_sh rfl rfl rfl rfl rfl (by omega) rfl rfl rfl ?_) | (refine g_ix rfl ?_; first | refine mx_ixan E rfl rfl rfl rfl rfl rfl (by omega) rfl ?_ | refine mx_ixsn E rfl rfl rfl rfl rfl rfl (by omega) rfl ?_ | refine mx_ixsi E rfl rfl rfl rfl rfl rfl (by omega) (by omega) rfl ?_ | refine mx_ixa E rfl rfl rfl rfl rfl rfl (by omega) (by omega) rfl rfl ?_) | (refine mx_nc rfl rfl rfl ?_) | (refine g_bi .len rfl ?_; refine mx_len E rfl rfl rfl rfl ?_) | (refine mx_not rfl rfl rfl ?_) | (refine mx_ex _ rfl rfl rfl (by conv => {lhs; whnf}) ?_) | (refine mx_skip rfl rfl rfl ?_) | (refine g_pick rfl ?_; first | refine mx_andf rfl rfl rfl rfl rfl ?_ | refine mx_ort rfl rfl rfl rfl rfl ?_ | refine mx_and rfl rfl rfl rfl rfl rfl ?_ | refine mx_or rfl rfl rfl rfl rfl rfl ?_ | refine mx_pickt _ rfl rfl rfl rfl (by conv => {lhs; whnf}) rfl ?_ | refine mx_pickf _ rfl rfl rfl rfl (by conv => {lhs; whnf}) rfl ?_) | (refine g_store rfl ?_; first | refine s_l E rfl rfl rfl rfl rfl rfl rfl (by first | assumption | exact Sp.all rfl | exact Sp.lit rfl rfl) rfl ?_ | refine s_1 E rfl rfl rfl rfl rfl rfl rfl rfl (by first | assumption | exact sp0 | exact spS sp0 | exact spS (spS sp0) | exact Sp.lit rfl rfl) rfl ?_) | (refine g_build rfl ?_; first | refine mx_build rfl rfl rfl rfl (b96 _ _ _) rfl ?_) | (refine a_new rfl rfl rfl rfl rfl (fun _ => ?_)) | (refine g_box rfl ?_; first | refine a_boxl rfl rfl rfl rfl rfl rfl (fun _ => ?_) | refine a_box1 rfl rfl rfl rfl rfl rfl rfl (fun _ => ?_)) | (first | refine mx_indexn E rfl rfl rfl rfl rfl rfl rfl rfl (by omega) (by first | exact vr_RR _ (by omega)) rfl ?_ | refine mx_index E rfl rfl rfl rfl rfl rfl rfl rfl (by omega) (by omega) (by first | exact vr_RR _ (by omega)) rfl ?_) | (refine g_bs rfl ?_; first | refine a_bs0 E rfl rfl rfl rfl rfl rfl (fun _ => ?_) | refine a_bsi E rfl rfl rfl rfl rfl (by (repeat (first | exact EvI.nil | (apply EvI.cons; rfl)))) (by rfl) (by rfl) (by rfl) rfl (fun _ => ?_)) | (refine g_conv rfl ?_; first | refine mx_cv E rfl rfl rfl rfl rfl rfl (by assumption) rfl ?_ | refine mx_cv E rfl rfl rfl rfl rfl rfl (IntWalk.i64_in _ (by omega)) rfl ?_ | refine mx_cv E rfl rfl rfl rfl rfl rfl (IntWalk.u64_in _ (by omega)) rfl ?_ | refine mx_cv E rfl rfl rfl rfl rfl rfl (IntWalk.u8_in _ (by omega)) rfl ?_ | refine mx_cv E rfl rfl rfl rfl rfl rfl rfl rfl ?_) | (first | (refine g_bi .max rfl ?_; refine mx_maxi rfl rfl rfl rfl rfl rfl rfl ?_) | (refine g_bi .min rfl ?_; refine mx_mini rfl rfl rfl rfl rfl rfl rfl ?_)) | (first | refine mx_look1 mt94 rfl rfl rfl rfl rfl (by with_reducible assumption) rfl ?_ | refine mx_fn rfl rfl rfl rfl rfl rfl ?_) | (fail)) | refine cw_seq ?_ | refine cw_line rfl ?_ | (fail) | refine cw_block ?_ | refine cw_cond_f rfl ?_ | refine cw_cond_t rfl ?_ | refine cw_skip ?_ | refine cw_exit ?_ | refine cw_ret ?_ | refine pw_then ?_ | refine pw_then_x ?_ | refine pw_then_r ?_ | refine pw_block ?_ | refine pw_block_e ?_ | refine pw_block_n rfl ?_ | refine pw_block_r ?_))
  refine a_mmap rfl rfl rfl rfl rfl (fun r => ?_)
  (repeat (first | ((refine (?_ : MX _ _ _ _ _ _ _ _ _ _ _)); first | refine mx_end ?_ | (refine mx_as _ rfl rfl (by conv => {lhs; whnf}) ?_) | (refine g_build rfl ?_; refine mx_build rfl rfl rfl rfl (b96 _ _ _) rfl ?_) | (refine g_box rfl ?_; refine a_boxl rfl rfl rfl rfl rfl rfl (fun _ => ?_) ) ) | refine cw_ret ?_ | refine pw_then ?_ ))
  refine pw_ret rfl rfl rfl rfl fun w' hw => ⟨(_, f, r), rfl, ?_⟩
  exact (allD_nil hw).pick [1, 3, 2, 0] (by simp) rfl
theorem run33 (bx fm rm : Nat) (most : Int) (fs : List CD) (rs : List (Int × Int)) (hn : (rs.map (·.1)).Nodup) (p : Int) (hb : 0 ≤ runs p rs ∧ runs p rs ≤ 1000000) (v : Int) (hv : runs p rs + 1 = v) (w : World) (h0 : Ok (domL (OCc bx fm rm most fs rs)) w (OCc bx fm rm most fs rs) w) :
    Calls Try.prog 33 #[.pointer (some ⟨bx, 0, none⟩), .int .i64 p] w fun e w' => ∃ a : {rs' : List (Int × Int) // (rs'.map (·.1)).Nodup ∧ ∀ q, runs q rs' = if q = p then runs p rs + 1 else runs q rs}, e = .returned (.int .i64 v) ∧ Ok (domL (OCc bx fm rm most fs rs)) w (OCc bx fm rm most fs a.1) w' := by
  subst hv
  refine enter2 (S := domL (OCc bx fm rm most fs rs)) (H := [row bx 96 [.int .i64 most, .map (some fm), .map (some rm)], mapR fm (fs.map cV), mapR rm (rs.map rV), allD fs]) 18 Try.func33 rfl rfl rfl h0 ?_
  have hl := look_runs p rs
  (repeat (first | ((refine (?_ : MX _ _ _ _ _ _ _ _ _ _ _)); first | refine mx_end ?_ | (refine mx_mv _ rfl rfl (by conv => {lhs; whnf}) ?_) | (refine mx_as _ rfl rfl (by conv => {lhs; whnf}) ?_) | ( refine mx_fa E rfl rfl rfl rfl ?_) | (refine g_load rfl ?_; refine mx_get E rfl rfl rfl rfl rfl (by rfl) rfl ?_ ) | (refine g_bin rfl ?_; ( refine mx_ar rfl rfl rfl rfl rfl rfl (IntWalk.i64_in _ (by omega)) rfl ?_ ) ) | (refine mx_nc rfl rfl rfl ?_) | (refine mx_look1 mt94 rfl rfl rfl rfl rfl (by with_reducible assumption) rfl ?_ ) ) | refine cw_seq ?_ | refine cw_line rfl ?_ | refine pw_then ?_ ))
  cases hf : fnd p (rs.map rV) 0 with
  | none =>
    have hno := fndg_none (fun q : Int × Int => q.1) (fun q => .int .i64 q.2) hf
    refine a_mput (v := .int .i64 (runs p rs + 1)) mt94 rfl rfl rfl rfl rfl rfl rfl hf (fun _ _ => trivial) rfl ?_
    have hrs : ∀ q, runs q (rs ++ [(p, runs p rs + 1)]) = if q = p then runs p rs + 1 else runs q rs := runs_app hno
    have hm : rs.map rV ++ [(p, Value.int .i64 (runs p rs + 1))] = (rs ++ [(p, runs p rs + 1)]).map rV := by rw [List.map_append]; rfl
    have hn' : ((rs ++ [(p, runs p rs + 1)]).map (·.1)).Nodup := by
      rw [List.map_append]
      refine List.nodup_append.2 ⟨hn, by simp, fun a ha b hb e => ?_⟩
      obtain rfl : b = p := by simpa using hb
      obtain ⟨q, hq, rfl⟩ := List.mem_map.1 ha
      exact hno q hq e
    rw [hm]
    generalize rs ++ [(p, runs p rs + 1)] = rs' at *
    have hl' := look_runs p rs'
    rw [hrs p, if_pos rfl] at hl'
    (repeat (first | ((refine (?_ : MX _ _ _ _ _ _ _ _ _ _ _)); first | refine mx_end ?_ | (refine mx_mv _ rfl rfl (by conv => {lhs; whnf}) ?_) | (refine mx_as _ rfl rfl (by conv => {lhs; whnf}) ?_) | ( refine mx_fa E rfl rfl rfl rfl ?_) | (refine g_load rfl ?_; refine mx_get E rfl rfl rfl rfl rfl (by rfl) rfl ?_ ) | (refine mx_nc rfl rfl rfl ?_) | (refine mx_look1 mt94 rfl rfl rfl rfl rfl (by with_reducible assumption) rfl ?_ ) ) | refine cw_seq ?_ | refine cw_line rfl ?_ | refine cw_ret ?_ | refine pw_then ?_ ))
    exact pw_ret rfl rfl rfl rfl fun w' hw => ⟨⟨rs', hn', hrs⟩, rfl, hw⟩
  | some qv =>
    obtain ⟨j, v0⟩ := qv
    obtain ⟨x, hx, hxk, _⟩ := fndg_some (fun q : Int × Int => q.1) (fun q => .int .i64 q.2) hf
    refine a_mset (v := .int .i64 (runs p rs + 1)) mt94 rfl rfl rfl rfl rfl rfl rfl hf (fun _ _ => trivial) rfl ?_
    have hrs : ∀ q, runs q (rs.set j (p, runs p rs + 1)) = if q = p then runs p rs + 1 else runs q rs := runs_set hn hx hxk
    have hm : (rs.map rV).set j (p, Value.int .i64 (runs p rs + 1)) = (rs.set j (p, runs p rs + 1)).map rV := by rw [List.map_set]
    have hn' : ((rs.set j (p, runs p rs + 1)).map (·.1)).Nodup := by
      have : (rs.set j (p, runs p rs + 1)).map (·.1) = rs.map (·.1) := by
        rw [List.map_set]
        have h7 : (rs.map (·.1))[j]? = some p := by rw [List.getElem?_map, hx]; exact congrArg some hxk
        obtain ⟨h8, h9⟩ := List.getElem?_eq_some_iff.1 h7
        show (rs.map (·.1)).set j p = _
        conv => lhs; rw [← h9]
        exact List.set_getElem_self _
      rw [this]
      exact hn
    rw [hm]
    generalize rs.set j (p, runs p rs + 1) = rs' at *
    have hl' := look_runs p rs'
    rw [hrs p, if_pos rfl] at hl'
    (repeat (first | ((refine (?_ : MX _ _ _ _ _ _ _ _ _ _ _)); first | refine mx_end ?_ | (refine mx_mv _ rfl rfl (by conv => {lhs; whnf}) ?_) | (refine mx_as _ rfl rfl (by conv => {lhs; whnf}) ?_) | ( refine mx_fa E rfl rfl rfl rfl ?_) | (refine g_load rfl ?_; refine mx_get E rfl rfl rfl rfl rfl (by rfl) rfl ?_ ) | (refine mx_nc rfl rfl rfl ?_) | (refine mx_look1 mt94 rfl rfl rfl rfl rfl (by with_reducible assumption) rfl ?_ ) ) | refine cw_seq ?_ | refine cw_line rfl ?_ | refine cw_ret ?_ | refine pw_then ?_ ))
    exact pw_ret rfl rfl rfl rfl fun w' hw => ⟨⟨rs', hn', hrs⟩, rfl, hw⟩
end Go.Proofs.Ytikdbgheefjpkaa
