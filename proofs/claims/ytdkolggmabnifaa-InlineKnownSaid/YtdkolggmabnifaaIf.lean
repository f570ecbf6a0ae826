/- Where a program begins that is entered: laid in, if it must be. -/
import Derived.Test.YtdkolggmabnifaaIe
set_option maxRecDepth 100000
set_option maxHeartbeats 8000000
set_option linter.unusedSimpArgs false
set_option linter.unusedVariables false
namespace Go.Sx
open Go.RowKit
section
variable {P : Program} {ops : List Oper} {C : World → Prop} {anc : Nat → Bool} {R : Act → (World → Prop) → Prop} {i : Nat} {l : List Nat} {n : Nat} {st : Slots} {S : Nat → Prop} {w0 : World} {H : List Res} {o : Oper} {d : Nat}
/-- What is read of a key, without whether. -/
def lookW (z : Value) (k : Int) (m : List (Int × Value)) : Value := match fnd k m 0 with
  | some q => q.2
  | none => z
theorem mx_look1 {t : TypeId} {z : Value} (hm : MapT P t z) (ho : nthO ops i = some o) (hg : gd ops.toArray n st o = true) {x y : Operand} (hop : o.op = .lookup t x y false) {r : Nat} (hx : ev n st x = .map (some r)) {k : Int} (hy : ev n st y = .int .i64 k) {m : List (Int × Value)} [hr : ReadsM C anc S w0 H r m] {v : Value} (hv : lookW z k m = v) (hd : o.dst = some d)
    (h : MX P ops C anc R l n ((d, v) :: st) S w0 H) : MX P ops C anc R (i :: l) n st S w0 H := by
  obtain ⟨kt, e, h1, h2, h3⟩ := hm.spec
  have key : ∀ w, (mapR r m).holds w → (execOp (ev n st) o).run P w = .ok (.value v) w := fun w ⟨es, clock, h4, h5⟩ => by
    subst hv
    unfold lookW
    cases hf : fnd k m 0 with
    | none => simp [execOp, hop, hx, hy, Instr.lookup, run_underlying h1, MapKept.run_getObj_map h4, run_checkKey h2, run_findKey h2 k _ _ h5, hf, h3, Result.andThen]
    | some q => simp [execOp, hop, hx, hy, Instr.lookup, run_underlying h1, MapKept.run_getObj_map h4, run_checkKey h2, run_findKey h2 k _ _ h5, hf, Result.andThen]
  exact get_val ho hg v (hr.reads.imp (fun hh => ⟨hh.1, fun w hw => key w (hh.2 w hw)⟩) (fun hh w hw => key w (hh w hw))) hd h
end
end Go.Sx
namespace Go.Proofs.Ytdkolggmabnifaa
open Go Go.Sx Go.RowKit
/-- Where a program begins. -/
def bgL (k : Int) (bg : List (Int × Int)) : Option Int := (bg.find? fun p => decide (p.1 = k)).map (·.2)
theorem bgL_fnd (k : Int) : ∀ (bg : List (Int × Int)) (i : Nat), (bgL k bg = none ∧ fnd k (bgV bg) i = none) ∨ ∃ v j, bgL k bg = some v ∧ fnd k (bgV bg) i = some (j, .int .i64 v)
  | [], i => .inl ⟨rfl, rfl⟩
  | p :: bg, i => by
    have ih := bgL_fnd k bg (i + 1)
    have e1 : bgL k (p :: bg) = if p.1 = k then some p.2 else bgL k bg := by
      unfold bgL
      rw [List.find?_cons]
      by_cases h : p.1 = k
      · rw [decide_eq_true h, if_pos h]; rfl
      · rw [decide_eq_false h, if_neg h]
    have e2 : fnd k (bgV (p :: bg)) i = if p.1 = k then some (i, .int .i64 p.2) else fnd k (bgV bg) (i + 1) := rfl
    rw [e1, e2]
    by_cases h : p.1 = k
    · rw [if_pos h, if_pos h]; exact .inr ⟨_, _, rfl, rfl⟩
    · rw [if_neg h, if_neg h]; exact ih
theorem fnd_snoc {k : Int} {v : Value} : ∀ (m : List (Int × Value)) (i : Nat), fnd k m i = none → ∃ j, fnd k (m ++ [(k, v)]) i = some (j, v)
  | [], i, _ => ⟨i, by show (if k = k then _ else _) = _; rw [if_pos rfl]⟩
  | q :: m, i, h => by
    have h : (if q.1 = k then some (i, q.2) else fnd k m (i + 1)) = none := h
    by_cases e : q.1 = k
    · rw [if_pos e] at h; cases h
    · rw [if_neg e] at h
      obtain ⟨j, hj⟩ := fnd_snoc m (i + 1) h
      exact ⟨j, by show (if q.1 = k then _ else _) = _; rw [if_neg e]; exact hj⟩
def targetV (s : VJ) (others : List VC) (prog : Int) : Int × VJ := match bgL prog s.bg with
  | some a => (a, s)
  | none => match others.find? fun c => decide (c.prog = prog) with
    | none => (-1, s)
    | some o => if 3 < s.bg.length ∨ 1024 < s.ops.length + o.ops.length then (-1, s) else (s.ops.length + o.at'.headD 0, layV s o)
theorem find_map {α β : Type} (f : α → β) (p : β → Bool) : ∀ (l : List α) (i : Nat), ((l.map f).find? p = none ∧ fidx (fun x => p (f x)) l i = none) ∨ ∃ j x, fidx (fun x => p (f x)) l i = some (i + j) ∧ l[j]? = some x ∧ (l.map f).find? p = some (f x) ∧ p (f x) = true
  | [], i => .inl ⟨rfl, rfl⟩
  | x :: l, i => by
    rw [List.map_cons, List.find?_cons]
    unfold fidx
    cases h : p (f x) with
    | true => exact .inr ⟨0, x, by simp, rfl, rfl, h⟩
    | false =>
      rcases find_map f p l (i + 1) with ⟨h1, h2⟩ | ⟨j, y, h1, h2, h3, h4⟩
      · exact .inl ⟨h1, by simpa using h2⟩
      · exact .inr ⟨j + 1, y, by rw [if_neg (by simp), h1]; congr 1; omega, by simpa using h2, h3, h4⟩
theorem clo35 (c : CD) (bp : Nat) (prog : Int) (w : World) (hb : (row bp 3 [.int .i64 prog]).holds w) :
    Calls Try.prog 35 #[.agg (cCD c).toArray, .pointer (some ⟨bp, 0, none⟩)] w fun r w' => r = .returned (.bool (decide (c.prog = prog))) ∧ Grow w w' := by
  refine enter2 (S := fun _ => False) 8 Try.func35 rfl rfl rfl (Ok.start w) ?_
  have hS : ¬ (fun _ : Nat => False) bp := id
  by_cases h : c.prog = prog
  · rw [decide_eq_true h]
    (repeat (first | ((refine (?_ : MX _ _ _ _ _ _ _ _ _ _ _)); first | refine mx_end ?_ | (refine mx_as _ rfl rfl (by conv => {lhs; whnf}) ?_) | (refine mx_fa0 E rfl rfl rfl rfl ?_ ) | (refine g_load rfl ?_; first | refine mx_get E rfl rfl rfl rfl rfl (by rfl) rfl ?_ | refine mx_orow E rfl rfl rfl rfl rfl (by assumption) (by assumption) (by rfl) rfl ?_ ) | (refine g_bin rfl ?_; ((refine mx_cmpl .eql rfl rfl rfl rfl rfl (by exact cmp_eq_t (by omega) ) ?_) ) ) | (refine g_box rfl ?_; refine a_boxl rfl rfl rfl rfl rfl rfl (fun _ => ?_) ) ) | refine cw_seq ?_ | refine cw_line rfl ?_ | refine cw_ret ?_ | refine pw_then ?_ ))
    exact pw_ret rfl rfl rfl rfl fun w hw => ⟨rfl, hw.keep.grow⟩
  · rw [decide_eq_false h]
    (repeat (first | ((refine (?_ : MX _ _ _ _ _ _ _ _ _ _ _)); first | refine mx_end ?_ | (refine mx_as _ rfl rfl (by conv => {lhs; whnf}) ?_) | (refine mx_fa0 E rfl rfl rfl rfl ?_ ) | (refine g_load rfl ?_; first | refine mx_get E rfl rfl rfl rfl rfl (by rfl) rfl ?_ | refine mx_orow E rfl rfl rfl rfl rfl (by assumption) (by assumption) (by rfl) rfl ?_ ) | (refine g_bin rfl ?_; ((refine mx_cmpl .eql rfl rfl rfl rfl rfl (by exact cmp_eq_f (by omega) ) ?_) ) ) | (refine g_box rfl ?_; refine a_boxl rfl rfl rfl rfl rfl rfl (fun _ => ?_) ) ) | refine cw_seq ?_ | refine cw_line rfl ?_ | refine cw_ret ?_ | refine pw_then ?_ ))
    exact pw_ret rfl rfl rfl rfl fun w hw => ⟨rfl, hw.keep.grow⟩
@[reducible] def lJ (bx mp : Nat) (xa : Option Addr) (xn xc : Nat) (s : JS) : List Res := [row bx 58 (hdJ mp xa xn xc s), ownd s.oa s.oc 36 15 s.ops.length (s.ops.flatMap cOP), allF s.ops, ownd s.ta s.tc 3 1 s.at'.length (s.at'.flatMap cI), ownd s.ea s.ec 47 5 s.evs.length (s.evs.flatMap cEV), allK s.evs, mapR mp (bgV s.bg)]
theorem target25 (bx mp : Nat) (xa : Option Addr) (xc : Nat) (others : List CD) (s : JS) (N : Nat) (prog : Int) (hxl : others.length ≤ 1000) (hso : s.ops.length ≤ 2000) (hsn : s.evs.length ≤ 1000) (hk : ∀ v ∈ s.evs, BytK v.v.key) (w : World) (h0 : Ok (domL (OJ bx mp xa others.length xc s)) w (OJ bx mp xa others.length xc s) w) (hN : ∀ b, domL (OJ bx mp xa others.length xc s) b → N ≤ b) (hNw : N ≤ w.heap.size) (hoth : InN N w xa 4 cCD others) (hoc : ∀ c ∈ others, RdC N w c ∧ OkC c) :
    Calls Try.prog 25 #[.pointer (some ⟨bx, 0, none⟩), .int .i64 prog] w fun r w' => ∃ s' : {s' : JS // s'.vj = (targetV s.vj (others.map CD.vc) prog).2}, r = .returned (.int .i64 (targetV s.vj (others.map CD.vc) prog).1) ∧ Ok (domL (OJ bx mp xa others.length xc s)) w (OJ bx mp xa others.length xc s'.1) w' := by
  refine enter2 (S := domL (OJ bx mp xa others.length xc s)) (H := lJ bx mp xa others.length xc s) 69 Try.func25 rfl rfl rfl h0 ?_
  (repeat (first | ((refine (?_ : MX _ _ _ _ _ _ _ _ _ _ _)); first | refine mx_end ?_ | (refine mx_as _ rfl rfl (by conv => {lhs; whnf}) ?_) | (refine g_box rfl ?_; refine a_box1 rfl rfl rfl rfl rfl rfl rfl (fun _ => ?_)) ) | refine cw_seq ?_ | refine cw_line rfl ?_ | refine pw_then ?_ ))
  rename_i bp
  refine cw_drawm [0, 1, 2, 3, 4, 5, 6, 7, 8, 9, 10] (fun _ => false) [row bp 3 [.int .i64 prog], row bx 58 (hdJ mp xa others.length xc s), mapR mp (bgV s.bg)] mixed (by kernel_rfl) (fun w h => h.pick [0, 1, 7] (by simp) rfl) ?_
  have htv : targetV s.vj (others.map CD.vc) prog = (match bgL prog s.bg with
    | some a => (a, s.vj)
    | none => match (others.map CD.vc).find? fun c => decide (c.prog = prog) with
      | none => (-1, s.vj)
      | some o => if 3 < s.vj.bg.length ∨ 1024 < s.vj.ops.length + o.ops.length then (-1, s.vj) else (s.vj.ops.length + o.at'.headD 0, layV s.vj o)) := rfl
  rcases bgL_fnd prog s.bg 0 with ⟨hb1, hb2⟩ | ⟨v, j, hb1, hb2⟩
  case inr =>
    rw [hb1] at htv
    dsimp only at htv
    have hlv : lookV (.int .i64 0) prog (bgV s.bg) = .tuple #[.int .i64 v, .bool true] := by unfold lookV; rw [hb2]
    (repeat (first | ((refine (?_ : MX _ _ _ _ _ _ _ _ _ _ _)); first | refine mx_end ?_ | (refine mx_mv _ rfl rfl (by conv => {lhs; whnf}) ?_) | (refine mx_as _ rfl rfl (by conv => {lhs; whnf}) ?_) | ( refine mx_fa E rfl rfl rfl rfl ?_) | (refine g_load rfl ?_; refine mx_get E rfl rfl rfl rfl rfl (by rfl) rfl ?_ ) | (refine mx_nc rfl rfl rfl ?_) | (refine mx_ex _ rfl rfl rfl (by conv => {lhs; whnf}) ?_) | (refine mx_look mt56 rfl rfl rfl rfl rfl (by with_reducible assumption) rfl ?_ ) ) | refine cw_seq ?_ | refine cw_line rfl ?_ | refine cw_cond_t rfl ?_ | refine cw_ret ?_ | refine pw_then ?_ | refine pw_then_r ?_ ))
    refine pw_ret rfl rfl rfl rfl fun w' hw => ⟨⟨s, by rw [htv]⟩, by rw [htv]; rfl, hw.pick [1, 2, 3, 4, 5, 6, 7] (by simp) rfl⟩
  rw [hb1] at htv
  have hlv : lookV (.int .i64 0) prog (bgV s.bg) = .tuple #[.int .i64 0, .bool false] := by unfold lookV; rw [hb2]
  have fin : ∀ {w' : World}, Ok (domL (OJ bx mp xa others.length xc s)) w (row bp 3 [.int .i64 prog] :: lJ bx mp xa others.length xc s) w' → Ok (domL (OJ bx mp xa others.length xc s)) w (OJ bx mp xa others.length xc s) w' := fun hw => hw.pick [1, 2, 3, 4, 5, 6, 7] (by simp) rfl
  rcases find_map CD.vc (fun c => decide (c.prog = prog)) others 0 with ⟨hf1, hfx⟩ | ⟨i, c, hfx, hi, hf1, hpc⟩
  case inl =>
    rw [hf1] at htv
    dsimp only at htv
    have hfx : fidx (fun c : CD => decide (c.prog = prog)) others 0 = none := hfx
    (repeat (first | ((refine (?_ : MX _ _ _ _ _ _ _ _ _ _ _)); first | refine mx_end ?_ | (refine mx_mv _ rfl rfl (by conv => {lhs; whnf}) ?_) | (refine mx_as _ rfl rfl (by conv => {lhs; whnf}) ?_) | ( refine mx_fa E rfl rfl rfl rfl ?_) | (refine g_load rfl ?_; refine mx_get E rfl rfl rfl rfl rfl (by rfl) rfl ?_ ) | (refine mx_nc rfl rfl rfl ?_) | (refine mx_ex _ rfl rfl rfl (by conv => {lhs; whnf}) ?_) | (first | refine mx_look mt56 rfl rfl rfl rfl rfl (by with_reducible assumption) rfl ?_ | refine mx_fn rfl rfl rfl rfl rfl rfl ?_) ) | refine cw_seq ?_ | refine cw_line rfl ?_ | refine cw_cond_f rfl ?_ | refine cw_skip ?_ | refine pw_then ?_ ))
    refine g_cf 34 rfl ?_; refine a_callv rfl rfl rfl rfl Try.func34 rfl rfl rfl (.int .i64 (-1)) (fun w' hw => by have h34 := ixf34 _ xc others (by omega) [.pointer (some ⟨bp, 0, none⟩)] (fun c => decide (c.prog = prog)) w' (hoth.keep hw hN).1 (fun r hr w'' hg => clo35 r bp prog w'' ((row bp 3 [.int .i64 prog]).loc w' w'' (fun b hb' => hg.block b (row_lt (hw.holds 0 _ rfl) b hb')) (hw.holds 0 _ rfl))); rw [hfx] at h34; exact h34) rfl ?_
    (repeat (first | ((refine (?_ : MX _ _ _ _ _ _ _ _ _ _ _)); first | refine mx_end ?_ | (refine mx_as _ rfl rfl (by conv => {lhs; whnf}) ?_) ) | refine cw_seq ?_ | refine pw_then ?_ ))
    refine cw_drawm [0, 1, 2, 3, 4, 5, 6, 7, 8, 9, 10, 11, 12, 13, 14, 15, 16, 17, 18, 19, 20, 21, 22, 23, 24, 25, 26, 27, 28] (fun _ => false) [row bx 58 (hdJ mp xa others.length xc s), mapR mp (bgV s.bg)] mixed (by kernel_rfl) (fun w h => h.pick [1, 7] (by simp) rfl) ?_
    (repeat (first | ((refine (?_ : MX _ _ _ _ _ _ _ _ _ _ _)); first | refine mx_end ?_ | (refine mx_mv _ rfl rfl (by conv => {lhs; whnf}) ?_) | (refine mx_as _ rfl rfl (by conv => {lhs; whnf}) ?_) | (refine g_bin rfl ?_; ( (refine mx_cmpl .lss rfl rfl rfl rfl rfl (by first | exact cmp_lt_t (by omega) | rfl) ?_) ) ) | (refine mx_skip rfl rfl rfl ?_) | (refine g_pick rfl ?_; refine mx_ort rfl rfl rfl rfl rfl ?_ ) ) | refine cw_seq ?_ | refine cw_line rfl ?_ | refine cw_cond_t rfl ?_ | refine cw_ret ?_ | refine pw_then ?_ | refine pw_then_r ?_ ))
    exact pw_ret rfl rfl rfl rfl fun w' hw => ⟨⟨s, by rw [htv]⟩, by rw [htv]; rfl, fin hw⟩
  rw [Nat.zero_add] at hfx
  have hfx : fidx (fun c : CD => decide (c.prog = prog)) others 0 = some i := hfx
  rw [hf1] at htv
  dsimp only at htv
  have hcm := List.mem_of_getElem? hi
  have hil := (List.getElem?_eq_some_iff.1 hi).1
  obtain ⟨hrc, hokc⟩ := hoc c hcm
  have hcol := hokc.ol
  obtain ⟨b4, off, hadd, hcc⟩ := inl_at hoth.1 hi
  have hS4 : ¬ domL (OJ bx mp xa others.length xc s) b4 := hoth.ns hN hadd (by intro e0; subst e0; simp at hi)
  subst hadd
  have hc1 : w.cell? ⟨b4, off + i * 4 + 1, none⟩ = some (.slice c.oa c.ops.length c.oc) := hcc 1 _ rfl
  have hc0 : ∀ (k : Nat) (v : Value), (cCD c)[k]? = some v → w.cell? ⟨b4, off + i * 4 + k, none⟩ = some v := hcc
  have hbl : (bgV s.bg).length = s.vj.bg.length := by unfold bgV; rw [List.length_map]; rfl
  have hvo : s.vj.ops.length = s.ops.length := by show (s.ops.map _).length = _; rw [List.length_map]
  have hco : c.vc.ops.length = c.ops.length := by show (c.ops.map _).length = _; rw [List.length_map]
  have hcp : c.prog = prog := of_decide_eq_true hpc
  by_cases h3 : ((bgV s.bg).length : Int) > 3
  · rw [if_pos (.inl (by omega))] at htv
    (repeat (first | ((refine (?_ : MX _ _ _ _ _ _ _ _ _ _ _)); first | refine mx_end ?_ | (refine mx_mv _ rfl rfl (by conv => {lhs; whnf}) ?_) | (refine mx_as _ rfl rfl (by conv => {lhs; whnf}) ?_) | ( refine mx_fa E rfl rfl rfl rfl ?_) | (refine g_load rfl ?_; refine mx_get E rfl rfl rfl rfl rfl (by rfl) rfl ?_ ) | (refine mx_nc rfl rfl rfl ?_) | (refine mx_ex _ rfl rfl rfl (by conv => {lhs; whnf}) ?_) | (first | refine mx_look mt56 rfl rfl rfl rfl rfl (by with_reducible assumption) rfl ?_ | refine mx_fn rfl rfl rfl rfl rfl rfl ?_) ) | refine cw_seq ?_ | refine cw_line rfl ?_ | refine cw_cond_f rfl ?_ | refine cw_skip ?_ | refine pw_then ?_ ))
    refine g_cf 34 rfl ?_; refine a_callv rfl rfl rfl rfl Try.func34 rfl rfl rfl (.int .i64 (i)) (fun w' hw => by have h34 := ixf34 _ xc others (by omega) [.pointer (some ⟨bp, 0, none⟩)] (fun c => decide (c.prog = prog)) w' (hoth.keep hw hN).1 (fun r hr w'' hg => clo35 r bp prog w'' ((row bp 3 [.int .i64 prog]).loc w' w'' (fun b hb' => hg.block b (row_lt (hw.holds 0 _ rfl) b hb')) (hw.holds 0 _ rfl))); rw [hfx] at h34; exact h34) rfl ?_
    (repeat (first | ((refine (?_ : MX _ _ _ _ _ _ _ _ _ _ _)); first | refine mx_end ?_ | (refine mx_as _ rfl rfl (by conv => {lhs; whnf}) ?_) ) | refine cw_seq ?_ | refine pw_then ?_ ))
    refine cw_drawm [0, 1, 2, 3, 4, 5, 6, 7, 8, 9, 10, 11, 12, 13, 14, 15, 16, 17, 18, 19, 20, 21, 22, 23, 24, 25, 26, 27, 28] (fun _ => false) [row bx 58 (hdJ mp (some ⟨b4, off, none⟩) others.length xc s), mapR mp (bgV s.bg)] mixed (by kernel_rfl) (fun w h => h.pick [1, 7] (by simp) rfl) ?_
    (repeat (first | ((refine (?_ : MX _ _ _ _ _ _ _ _ _ _ _)); first | refine mx_end ?_ | (refine mx_mv _ rfl rfl (by conv => {lhs; whnf}) ?_) | (refine mx_as _ rfl rfl (by conv => {lhs; whnf}) ?_) | ( refine mx_fa E rfl rfl rfl rfl ?_) | (refine g_load rfl ?_; refine mx_get E rfl rfl rfl rfl rfl (by rfl) rfl ?_ ) | (refine g_bin rfl ?_; (first | (refine mx_cmpl .lss rfl rfl rfl rfl rfl (by first | exact cmp_lt_t (by omega) | exact cmp_lt_f (by omega) ) ?_) | (refine mx_cmpl .gtr rfl rfl rfl rfl rfl (by first | exact cmp_gt_t (by omega) | rfl) ?_) ) ) | (refine mx_nc rfl rfl rfl ?_) | (refine mx_skip rfl rfl rfl ?_) | (refine g_pick rfl ?_; first | refine mx_ort rfl rfl rfl rfl rfl ?_ | refine mx_or rfl rfl rfl rfl rfl rfl ?_ ) | ( (refine g_bi .len rfl ?_; refine mx_mlen mt56 rfl rfl rfl rfl rfl ?_) ) ) | refine cw_seq ?_ | refine cw_line rfl ?_ | refine cw_cond_t rfl ?_ | refine cw_ret ?_ | refine pw_then ?_ | refine pw_then_r ?_ ))
    exact pw_ret rfl rfl rfl rfl fun w' hw => ⟨⟨s, by rw [htv]⟩, by rw [htv]; rfl, fin hw⟩
  by_cases h4 : (s.ops.length : Int) + (c.ops.length : Int) > 1024
  · rw [if_pos (.inr (by omega))] at htv
    (repeat (first | ((refine (?_ : MX _ _ _ _ _ _ _ _ _ _ _)); first | refine mx_end ?_ | (refine mx_mv _ rfl rfl (by conv => {lhs; whnf}) ?_) | (refine mx_as _ rfl rfl (by conv => {lhs; whnf}) ?_) | ( refine mx_fa E rfl rfl rfl rfl ?_) | (refine g_load rfl ?_; refine mx_get E rfl rfl rfl rfl rfl (by rfl) rfl ?_ ) | (refine mx_nc rfl rfl rfl ?_) | (refine mx_ex _ rfl rfl rfl (by conv => {lhs; whnf}) ?_) | (first | refine mx_look mt56 rfl rfl rfl rfl rfl (by with_reducible assumption) rfl ?_ | refine mx_fn rfl rfl rfl rfl rfl rfl ?_) ) | refine cw_seq ?_ | refine cw_line rfl ?_ | refine cw_cond_f rfl ?_ | refine cw_skip ?_ | refine pw_then ?_ ))
    refine g_cf 34 rfl ?_; refine a_callv rfl rfl rfl rfl Try.func34 rfl rfl rfl (.int .i64 (i)) (fun w' hw => by have h34 := ixf34 _ xc others (by omega) [.pointer (some ⟨bp, 0, none⟩)] (fun c => decide (c.prog = prog)) w' (hoth.keep hw hN).1 (fun r hr w'' hg => clo35 r bp prog w'' ((row bp 3 [.int .i64 prog]).loc w' w'' (fun b hb' => hg.block b (row_lt (hw.holds 0 _ rfl) b hb')) (hw.holds 0 _ rfl))); rw [hfx] at h34; exact h34) rfl ?_
    (repeat (first | ((refine (?_ : MX _ _ _ _ _ _ _ _ _ _ _)); first | refine mx_end ?_ | (refine mx_as _ rfl rfl (by conv => {lhs; whnf}) ?_) ) | refine cw_seq ?_ | refine pw_then ?_ ))
    refine cw_drawm [0, 1, 2, 3, 4, 5, 6, 7, 8, 9, 10, 11, 12, 13, 14, 15, 16, 17, 18, 19, 20, 21, 22, 23, 24, 25, 26, 27, 28] (fun _ => false) [row bx 58 (hdJ mp (some ⟨b4, off, none⟩) others.length xc s), mapR mp (bgV s.bg)] mixed (by kernel_rfl) (fun w h => h.pick [1, 7] (by simp) rfl) ?_
    (repeat (first | ((refine (?_ : MX _ _ _ _ _ _ _ _ _ _ _)); first | refine mx_end ?_ | (refine mx_mv _ rfl rfl (by conv => {lhs; whnf}) ?_) | (refine mx_as _ rfl rfl (by conv => {lhs; whnf}) ?_) | (first | refine mx_fa0 E rfl rfl rfl rfl ?_ | refine mx_fa E rfl rfl rfl rfl ?_) | (refine g_load rfl ?_; first | refine mx_get E rfl rfl rfl rfl rfl (by rfl) rfl ?_ | refine mx_old1 E rfl rfl rfl rfl rfl (by assumption) (by assumption) rfl ?_ ) | (refine g_bin rfl ?_; first | (first | (refine mx_cmpl .lss rfl rfl rfl rfl rfl (by first | exact cmp_lt_t (by omega) | exact cmp_lt_f (by omega) ) ?_) | (refine mx_cmpl .gtr rfl rfl rfl rfl rfl (by first | exact cmp_gt_t (by omega) | exact cmp_gt_f (by omega) ) ?_) ) | ( refine mx_ar rfl rfl rfl rfl rfl rfl (IntWalk.i64_in _ (by omega)) rfl ?_ ) ) | (refine g_ix rfl ?_; refine mx_ixsn E rfl rfl rfl rfl rfl rfl (by omega) rfl ?_ ) | (refine mx_nc rfl rfl rfl ?_) | (refine g_bi .len rfl ?_; refine mx_len E rfl rfl rfl rfl ?_) | (refine g_pick rfl ?_; refine mx_or rfl rfl rfl rfl rfl rfl ?_ ) | ( (refine g_bi .len rfl ?_; refine mx_mlen mt56 rfl rfl rfl rfl rfl ?_) ) ) | refine cw_seq ?_ | refine cw_line rfl ?_ | refine cw_cond_t rfl ?_ | refine cw_ret ?_ | refine pw_then ?_ | refine pw_then_r ?_ ))
    exact pw_ret rfl rfl rfl rfl fun w' hw => ⟨⟨s, by rw [htv]⟩, by rw [htv]; rfl, fin hw⟩
  rw [if_neg (by omega)] at htv
  obtain ⟨a0, al, hat, ha0, ha1⟩ := hokc.a0
  have hhd : c.vc.at'.headD 0 = a0 := by show c.at'.headD 0 = a0; rw [hat]; rfl
  rw [hhd, hvo] at htv
  (repeat (first | ((refine (?_ : MX _ _ _ _ _ _ _ _ _ _ _)); first | refine mx_end ?_ | (refine mx_mv _ rfl rfl (by conv => {lhs; whnf}) ?_) | (refine mx_as _ rfl rfl (by conv => {lhs; whnf}) ?_) | ( refine mx_fa E rfl rfl rfl rfl ?_) | (refine g_load rfl ?_; refine mx_get E rfl rfl rfl rfl rfl (by rfl) rfl ?_ ) | (refine mx_nc rfl rfl rfl ?_) | (refine mx_ex _ rfl rfl rfl (by conv => {lhs; whnf}) ?_) | (first | refine mx_look mt56 rfl rfl rfl rfl rfl (by with_reducible assumption) rfl ?_ | refine mx_fn rfl rfl rfl rfl rfl rfl ?_) ) | refine cw_seq ?_ | refine cw_line rfl ?_ | refine cw_cond_f rfl ?_ | refine cw_skip ?_ | refine pw_then ?_ ))
  refine g_cf 34 rfl ?_; refine a_callv rfl rfl rfl rfl Try.func34 rfl rfl rfl (.int .i64 (i)) (fun w' hw => by have h34 := ixf34 _ xc others (by omega) [.pointer (some ⟨bp, 0, none⟩)] (fun c => decide (c.prog = prog)) w' (hoth.keep hw hN).1 (fun r hr w'' hg => clo35 r bp prog w'' ((row bp 3 [.int .i64 prog]).loc w' w'' (fun b hb' => hg.block b (row_lt (hw.holds 0 _ rfl) b hb')) (hw.holds 0 _ rfl))); rw [hfx] at h34; exact h34) rfl ?_
  (repeat (first | ((refine (?_ : MX _ _ _ _ _ _ _ _ _ _ _)); first | refine mx_end ?_ | (refine mx_as _ rfl rfl (by conv => {lhs; whnf}) ?_) ) | refine cw_seq ?_ | refine pw_then ?_ ))
  refine cw_drawm [0, 1, 2, 3, 4, 5, 6, 7, 8, 9, 10, 11, 12, 13, 14, 15, 16, 17, 18, 19, 20, 21, 22, 23, 24, 25, 26, 27, 28] (fun _ => false) [row bx 58 (hdJ mp (some ⟨b4, off, none⟩) others.length xc s), mapR mp (bgV s.bg)] mixed (by kernel_rfl) (fun w h => h.pick [1, 7] (by simp) rfl) ?_
  (repeat (first | ((refine (?_ : MX _ _ _ _ _ _ _ _ _ _ _)); first | refine mx_end ?_ | (refine mx_mv _ rfl rfl (by conv => {lhs; whnf}) ?_) | (first | refine mx_fa0 E rfl rfl rfl rfl ?_ | refine mx_fa E rfl rfl rfl rfl ?_) | (refine g_load rfl ?_; first | refine mx_get E rfl rfl rfl rfl rfl (by rfl) rfl ?_ | refine mx_oldn E rfl rfl rfl rfl rfl (by assumption) (by assumption) (rfl) rfl ?_ | refine mx_old1 E rfl rfl rfl rfl rfl (by assumption) (by assumption) rfl ?_ ) | (refine g_bin rfl ?_; first | (first | (refine mx_cmpl .lss rfl rfl rfl rfl rfl (by exact cmp_lt_f (by omega) ) ?_) | (refine mx_cmpl .gtr rfl rfl rfl rfl rfl (by exact cmp_gt_f (by omega) ) ?_) ) | ( refine mx_ar rfl rfl rfl rfl rfl rfl (IntWalk.i64_in _ (by omega)) rfl ?_ ) ) | (refine g_ix rfl ?_; refine mx_ixsn E rfl rfl rfl rfl rfl rfl (by omega) rfl ?_ ) | (refine mx_nc rfl rfl rfl ?_) | (refine g_bi .len rfl ?_; refine mx_len E rfl rfl rfl rfl ?_) | (refine g_pick rfl ?_; refine mx_or rfl rfl rfl rfl rfl rfl ?_ ) | ( (refine g_bi .len rfl ?_; refine mx_mlen mt56 rfl rfl rfl rfl rfl ?_) ) ) | refine cw_seq ?_ | refine cw_line rfl ?_ | refine cw_cond_f rfl ?_ | refine cw_skip ?_ | refine pw_then ?_ ))
  refine g_cf 24 rfl ?_
  refine mx_weak (H' := [Sx.star (OJ bx mp (some ⟨b4, off, none⟩) others.length xc s), row bp 3 [.int .i64 prog]]) (fun w1 h => (h.pick (H' := lJ bx mp (some ⟨b4, off, none⟩) others.length xc s ++ [row bp 3 [.int .i64 prog]]) [1, 2, 3, 4, 5, 6, 7, 0] (by simp) rfl).star) (fun _ _ => trivial) ?_
  refine a_callo rfl rfl rfl rfl Try.func24 rfl rfl rfl 0 rfl (fun s' : {s' : JS // s'.vj = layV s.vj c.vc} => .tuple #[]) (fun _ => []) (fun s' => OJ bx mp (some ⟨b4, off, none⟩) others.length xc s'.1) (fun w' hw h => lay24 bx mp (some ⟨b4, off, none⟩) others.length xc s N c hokc hso hsn hk (by rw [hcp]; exact hb2) w' h (fun b hb => by
    by_cases hbw : b < w.heap.size
    · exact hN b ((hw.own 0 _ rfl b hb).2 hbw)
    · omega) (Nat.le_trans hNw hw.keep.size) (hrc.keep hw hN)) (fun _ => rfl) (fun _ _ _ => trivial) (fun s' => ?_)
  obtain ⟨s', hs'⟩ := s'
  (repeat (first | ((refine (?_ : MX _ _ _ _ _ _ _ _ _ _ _)); refine mx_end ?_ ) | refine cw_seq ?_ | refine pw_then ?_ ))
  have hbg : s'.bg = s.bg ++ [(prog, (s.ops.length : Int) + a0)] := by
    have h5 := congrArg VJ.bg hs'
    have h6 : s'.bg = s.bg ++ [(c.vc.prog, (s.vj.ops.length : Int) + c.vc.at'.headD 0)] := h5
    rw [h6, hhd, hvo, ← hcp]
    rfl
  have hlw : lookW (.int .i64 0) prog (bgV s'.bg) = .int .i64 ((s.ops.length : Int) + a0) := by
    rw [hbg, bgV_snoc]
    obtain ⟨j, hj⟩ := fnd_snoc (v := .int .i64 ((s.ops.length : Int) + a0)) (bgV s.bg) 0 hb2
    unfold lookW
    rw [hj]
  refine cw_weak (H' := lJ bx mp (some ⟨b4, off, none⟩) others.length xc s' ++ [row bp 3 [.int .i64 prog]]) (fun w1 h => Ok.unstar (L := OJ bx mp (some ⟨b4, off, none⟩) others.length xc s') (H := [row bp 3 [.int .i64 prog]]) h) ?_
  refine cw_weak (H' := [row bp 3 [.int .i64 prog], row bx 58 (hdJ mp (some ⟨b4, off, none⟩) others.length xc s'), ownd s'.oa s'.oc 36 15 s'.ops.length (s'.ops.flatMap cOP), allF s'.ops, ownd s'.ta s'.tc 3 1 s'.at'.length (s'.at'.flatMap cI), ownd s'.ea s'.ec 47 5 s'.evs.length (s'.evs.flatMap cEV), allK s'.evs, mapR mp (bgV s'.bg)]) (fun w1 h => h.pick [7, 0, 1, 2, 3, 4, 5, 6] (by simp) rfl) ?_
  refine cw_drawm [0, 1, 2, 3, 4, 5, 6] (fun _ => false) [row bp 3 [.int .i64 prog], row bx 58 (hdJ mp (some ⟨b4, off, none⟩) others.length xc s'), mapR mp (bgV s'.bg)] mixed (by kernel_rfl) (fun w h => h.pick [0, 1, 7] (by simp) rfl) ?_
  (repeat (first | ((refine (?_ : MX _ _ _ _ _ _ _ _ _ _ _)); first | refine mx_end ?_ | (refine mx_mv _ rfl rfl (by conv => {lhs; whnf}) ?_) | (refine mx_as _ rfl rfl (by conv => {lhs; whnf}) ?_) | ( refine mx_fa E rfl rfl rfl rfl ?_) | (refine g_load rfl ?_; refine mx_get E rfl rfl rfl rfl rfl (by rfl) rfl ?_ ) | (refine mx_nc rfl rfl rfl ?_) | ( refine mx_look1 mt56 rfl rfl rfl rfl rfl (by with_reducible assumption) rfl ?_ ) ) | refine cw_ret ?_ | refine pw_then ?_ ))
  exact pw_ret rfl rfl rfl rfl fun w' hw => ⟨⟨s', by rw [htv]; exact hs'⟩, by rw [htv]; rfl, hw.pick [1, 2, 3, 4, 5, 6, 7] (by simp) rfl⟩
end Go.Proofs.Ytdkolggmabnifaa
