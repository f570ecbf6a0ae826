/- A watch behind some calls, and on what each of ten programs leans. -/
import Derived.Test.YtikdbgheefjpkaaLWatchRuns
import Derived.Test.YtikdbgheefjpkaaKn
import Derived.Test.YtikdbgheefjpkaaPk
set_option maxRecDepth 100000
set_option maxHeartbeats 8000000
set_option linter.unusedSimpArgs false
set_option linter.unusedVariables false
namespace Go.Proofs.Ytikdbgheefjpkaa
open Go Go.Sx Go.RowKit
theorem b49z : Blt Try.prog 49 [] [.int .i64 0, .int .i64 0, .int .i64 0, .int .i64 0, .slice none 0 0] := ⟨by kernel_rfl⟩
attribute [instance] ze29
@[reducible] def zEV : EV := ⟨⟨0, 0, 0, 0, []⟩, none, 0⟩
/-- A list, or none. -/
structure LE where
  ad : Option Addr
  cap : Nat
  es : List EV
  deriving Inhabited
@[reducible] def cLE (e : LE) : List Value := [.slice e.ad e.es.length e.cap]
theorem len_LE (x : LE) : (cLE x).length = 1 := rfl
def RL (e : LE) : List Res := [ownd e.ad e.cap 49 5 e.es.length (e.es.flatMap cEV)]
def allE (l : List LE) : Res := star (l.flatMap RL)
theorem allE_cons {S : Nat → Prop} {w0 w : World} {H : List Res} {l : List LE} {e : LE} (h : Ok S w0 (ownd e.ad e.cap 49 5 e.es.length (e.es.flatMap cEV) :: allE l :: H) w) : Ok S w0 (allE (e :: l) :: H) w := by
  have h1 : Ok S w0 (star (l.flatMap RL) :: ownd e.ad e.cap 49 5 e.es.length (e.es.flatMap cEV) :: H) w := h.perm (List.Perm.swap _ _ _)
  have h2 := Ok.unstar h1
  have h3 : Ok S w0 ((e :: l).flatMap RL ++ H) w := h2.perm (List.perm_middle)
  exact Ok.star h3
theorem allE_rep {S : Nat → Prop} {w0 w : World} {H : List Res} (h : Ok S w0 H w) : ∀ n, Ok S w0 (allE (List.replicate n ⟨none, 0, []⟩) :: H) w
  | 0 => Ok.star (L := []) h
  | n + 1 => allE_cons ((allE_rep h n).own_nil 49 5)
theorem flatMap_sub' {α β : Type} (f : α → List β) {l l' : List α} (h : l'.Sublist l) : (l'.flatMap f).Sublist (l.flatMap f) := flatMap_sub f h
theorem allE_set {S : Nat → Prop} {w0 w : World} {H : List Res} {l : List LE} {q : Nat} {x e : LE} (hq : l[q]? = some x) (h : Ok S w0 (ownd e.ad e.cap 49 5 e.es.length (e.es.flatMap cEV) :: allE l :: H) w) : Ok S w0 (allE (l.set q e) :: H) w := by
  obtain ⟨e1, e2⟩ := list_cut hq
  have hsub : (l.take q ++ l.drop (q + 1)).Sublist l := by
    conv => rhs; rw [e1]
    exact (List.sublist_cons_self _ _).append_left _
  have h1 : Ok S w0 (star (l.flatMap RL) :: ownd e.ad e.cap 49 5 e.es.length (e.es.flatMap cEV) :: H) w := h.perm (List.Perm.swap _ _ _)
  have h2 := (Ok.unstar h1).sub ((flatMap_sub RL hsub).append_right _)
  have hp : ((l.take q ++ l.drop (q + 1)).flatMap RL ++ (ownd e.ad e.cap 49 5 e.es.length (e.es.flatMap cEV) :: H)).Perm ((l.set q e).flatMap RL ++ H) := by
    rw [e2 e]
    simp only [List.flatMap_append, List.flatMap_cons, RL, List.append_assoc, List.singleton_append]
    refine List.Perm.append_left _ ?_
    exact List.perm_middle
  exact Ok.star (h2.perm hp)
theorem inE {l : List LE} {w : World} (h : (allE l).holds w) {e : LE} (he : e ∈ l) : InL w e.ad 5 cEV e.es ∧ e.es.length ≤ e.cap := by
  have h1 := star_holds h (r := ownd e.ad e.cap 49 5 e.es.length (e.es.flatMap cEV)) (List.mem_flatMap.2 ⟨e, he, by simp [RL]⟩)
  exact ⟨own_in len_EV h1 (Nat.le_refl _), (own_at h1).2.2⟩
/-! ### What begin leaves -/
def begS (L : List (Int × List VE)) (o : OPW) : List (Int × List VE) := if o.kind = 0 then addV (o.prog % 10) (o.evs.map EV.v) L else L
def begV (ops : List OPW) : List (Int × List VE) := ops.foldl begS []
theorem begV_snoc {ops : List OPW} {i : Nat} {o : OPW} (h : ops[i]? = some o) : begV (ops.take (i + 1)) = begS (begV (ops.take i)) o := by
  unfold begV
  rw [List.take_add_one, h, List.foldl_append]
  rfl
/-- On what each leans, by Add alone. -/
structure WL (ops : List OPW) (L : List (Int × List VE)) (ls : List LE) : Prop where
  len : ls.length = 10
  at' : ∀ (p : Nat) (e : LE), ls[p]? = some e → (e.es = [] ∧ ∀ q ∈ L, q.1 ≠ (p : Int)) ∨ ∃ o ∈ ops, e.es = zEV :: o.evs ∧ ((p : Int), o.evs.map EV.v) ∈ L
  key : ∀ q ∈ L, 0 ≤ q.1 ∧ q.1 < 10
theorem WL.nil (ops : List OPW) : WL ops [] (List.replicate 10 ⟨none, 0, []⟩) := ⟨rfl, fun p e h => .inl ⟨by
  have := List.mem_of_getElem? h
  rw [List.eq_of_mem_replicate this], fun q hq => by cases hq⟩, fun q hq => by cases hq⟩
theorem WL.add {ops : List OPW} {L : List (Int × List VE)} {ls : List LE} (h : WL ops L ls) {o : OPW} (ho : o ∈ ops) {p : Nat} (hp : o.prog % 10 = (p : Int)) (a : Option Addr) (c : Nat) : WL ops (addV (p : Int) (o.evs.map EV.v) L) (ls.set p ⟨a, c, zEV :: o.evs⟩) := by
  have hp10 : p < 10 := by omega
  refine ⟨by rw [List.length_set]; exact h.len, fun q e he => ?_, fun q hq => ?_⟩
  · rw [List.getElem?_set] at he
    by_cases hq : p = q
    · subst hq
      rw [if_pos rfl, if_pos (by rw [h.len]; exact hp10)] at he
      obtain rfl := Option.some.inj he
      exact .inr ⟨o, ho, rfl, List.mem_append_right _ (by simp)⟩
    · rw [if_neg hq] at he
      rcases h.at' q e he with ⟨h1, h2⟩ | ⟨o', h1, h2, h3⟩
      · refine .inl ⟨h1, fun x hx => ?_⟩
        rcases List.mem_append.1 hx with hx | hx
        · exact h2 x (List.mem_filter.1 hx).1
        · obtain rfl := List.mem_singleton.1 hx
          show (p : Int) ≠ q
          omega
      · exact .inr ⟨o', h1, h2, List.mem_append_left _ (List.mem_filter.2 ⟨h3, by simp; omega⟩)⟩
  · rcases List.mem_append.1 hq with hq | hq
    · exact h.key q (List.mem_filter.1 hq).1
    · obtain rfl := List.mem_singleton.1 hq
      show 0 ≤ (p : Int) ∧ (p : Int) < 10
      omega
theorem ok_full {S : Nat → Prop} {w0 w : World} {H : List Res} {b : Nat} {x : EV} (h : Ok S w0 (row b 49 (cEV x) :: H) w) : Ok S w0 (ownd (some ⟨b, 0, none⟩) 1 49 5 1 (cEV x) :: H) w :=
  ok_close (cap := 1) (len := 1) (z := 5) (rest := []) (xs := cEV x) 0 (by rw [List.append_nil]; rfl) rfl rfl (by decide) (by decide) h
theorem oldGrow' {w0 w1 w' : World} {H : List Res} (hw : Ok (domL []) w0 H w1) (j : Nat) {L : List Res} (hj : H[j]? = some (star L)) (hc : Chg (domL L) w1 w') : Grow w0 w' :=
  (⟨hc.os.trans hw.keep.os, hc.tape.trans hw.keep.tape, hc.output.trans hw.keep.output, Nat.le_trans hw.keep.size hc.size, fun k hk _ => (hc.old k (Nat.lt_of_lt_of_le hk hw.keep.size) (fun hd => no_dom _ ((hw.own j _ hj k hd).2 hk))).trans (hw.keep.old k hk (no_dom k))⟩ : Chg (fun _ => False) w0 w').grow
structure BI where
  i : Nat
  l : List WE
  ls : List LE
theorem begin28 (ad : Option Addr) (cap : Nat) (ops : List OPW) (hf : Fits ops) (w : World) (hr : OpsR w ad ops) :
    Calls Try.prog 28 #[.slice ad ops.length cap] w fun e w' => ∃ a : {q : (Nat × Nat × Nat) × List WE × List LE // (q.2.1.map WE.vw).Perm (begV ops) ∧ WL ops (begV ops) q.2.2 ∧ OkP (begV ops) 100}, e = .returned (.tuple #[.pointer (some ⟨a.1.1.1, 0, none⟩), .slice (some ⟨a.1.1.2.2, 0, none⟩) 10 10]) ∧ Ok (domL []) w [star (OW a.1.1.1 a.1.1.2.1 a.1.2.1), row a.1.1.2.2 29 (a.1.2.2.flatMap cLE), allE a.1.2.2] w' := by
  have hon := hf.n
  refine enter1 (S := domL []) 49 Try.func28 rfl rfl rfl (Ok.start w) ?_
  (repeat (first | ((refine (?_ : MX _ _ _ _ _ _ _ _ _ _ _)); first | refine mx_end ?_ | (refine mx_as _ rfl rfl (by conv => {lhs; whnf}) ?_) ) | refine cw_seq ?_ | refine cw_line rfl ?_ | refine pw_then ?_ ))
  refine g_cf 13 rfl ?_
  refine a_callL rfl rfl rfl rfl Try.func13 rfl rfl rfl [] _ rfl (fun a : Nat × Nat => .pointer (some ⟨a.1, 0, none⟩)) (fun a => OW a.1 a.2 []) (fun w' hw _ => new13 w') (fun _ => rfl) (fun _ _ _ => trivial) (fun qn => ?_)
  obtain ⟨bx, mp⟩ := qn
  refine mx_weak (H' := [star (OW bx mp [])]) (fun w h => Ok.star (H := []) h) (fun _ _ => trivial) ?_
  (repeat (first | ((refine (?_ : MX _ _ _ _ _ _ _ _ _ _ _)); first | refine mx_end ?_ | (refine mx_as _ rfl rfl (by conv => {lhs; whnf}) ?_) ) | refine cw_seq ?_ | refine cw_line rfl ?_ | refine pw_then ?_ ))
  refine a_make E rfl rfl rfl rfl (p := 10) (c := 10) rfl rfl rfl (by decide) (by decide) rfl (fun b => ?_)
  (repeat (first | ((refine (?_ : MX _ _ _ _ _ _ _ _ _ _ _)); first | refine mx_end ?_ | (refine mx_as _ rfl rfl (by conv => {lhs; whnf}) ?_) ) | refine cw_seq ?_ | refine cw_line rfl ?_ | refine cw_block ?_ | refine pw_then ?_ ))
  refine cw_loop (ι := BI) (fun q => [(6, .int .i64 q.i), (5, .slice (some ⟨b, 0, none⟩) 10 10), (4, .pointer (some ⟨bx, 0, none⟩)), (0, .slice ad ops.length cap)]) (fun q => [star (OW bx mp q.l), row b 29 (q.ls.flatMap cLE), allE q.ls]) (fun q => q.i ≤ ops.length ∧ (q.l.map WE.vw).Perm (begV (ops.take q.i)) ∧ WL ops (begV (ops.take q.i)) q.ls ∧ OkP (begV (ops.take q.i)) q.i) (fun q => ops.length - q.i) ⟨0, [], List.replicate 10 ⟨none, 0, []⟩⟩ ⟨Nat.zero_le _, .refl _, WL.nil ops, OkP.nil⟩ ⟨rfl, rfl, rfl, rfl, trivial⟩ (fun w h => (allE_rep h 10).pick [2, 1, 0] (by simp) rfl) ?_
  rintro ⟨i, l, ls⟩ jk ⟨hi, hP, hW, hK⟩
  dsimp only at hi hP hW hK ⊢
  by_cases h0 : (i : Int) < ops.length
  case neg =>
    obtain rfl : i = ops.length := by omega
    rw [List.take_length] at hP hW hK
    (repeat (first | ((refine (?_ : MX _ _ _ _ _ _ _ _ _ _ _)); first | refine mx_end ?_ | (refine mx_mv _ rfl rfl (by conv => {lhs; whnf}) ?_) | (refine mx_as _ rfl rfl (by conv => {lhs; whnf}) ?_) | (refine g_bin rfl ?_; ( (refine mx_cmpl .lss rfl rfl rfl rfl rfl (by exact cmp_lt_f (by omega) ) ?_) ) ) | (refine g_bi .len rfl ?_; refine mx_len E rfl rfl rfl rfl ?_) ) | refine cw_seq ?_ | refine cw_line rfl ?_ | refine cw_cond_f rfl ?_ | refine cw_exit ?_ | refine cw_ret ?_ | refine pw_then ?_ | refine pw_then_x ?_ | refine pw_block_e ?_ ))
    exact pw_rets rfl [_, _] ⟨rfl, rfl, trivial⟩ rfl fun w hw => ⟨⟨((bx, mp, b), l, ls), hP, hW, hK.le hon⟩, rfl, hw⟩
  obtain ⟨o, ho⟩ := getElem_some (xs := ops) (i := i) (by omega)
  have hom := List.mem_of_getElem? ho
  have hfe := hf.e o hom
  have hok := okM_of hr hf hom
  have hev := hr.ev hf hom
  have hbs := begV_snoc ho
  obtain ⟨b4, off, e, hcc⟩ := inl_at hr.l ho
  subst e
  have hS : ¬ (domL [] : Nat → Prop) b4 := no_dom _
  have hc0 : w.cell? ⟨b4, off + i * 3, none⟩ = some (.int .i64 o.kind) := hcc 0 _ rfl
  have hc1 : w.cell? ⟨b4, off + i * 3 + 1, none⟩ = some (.int .i64 o.prog) := hcc 1 _ rfl
  have hc2 : w.cell? ⟨b4, off + i * 3 + 2, none⟩ = some (.slice o.la o.evs.length o.lc) := hcc 2 _ rfl
  by_cases k0 : o.kind = 0
  case neg =>
    unfold begS at hbs
    rw [if_neg k0] at hbs
    (repeat (first | ((refine (?_ : MX _ _ _ _ _ _ _ _ _ _ _)); first | refine mx_end ?_ | (refine mx_mv _ rfl rfl (by conv => {lhs; whnf}) ?_) | (refine mx_as _ rfl rfl (by conv => {lhs; whnf}) ?_) | (refine mx_fa0 E rfl rfl rfl rfl ?_ ) | (refine g_load rfl ?_; refine mx_old1 E rfl rfl rfl rfl rfl (by assumption) (by assumption) rfl ?_ ) | (refine g_bin rfl ?_; first | (first | (refine mx_cmpl .neq rfl rfl rfl rfl rfl (by exact cmp_ne_t (by omega) ) ?_) | (refine mx_cmpl .lss rfl rfl rfl rfl rfl (by exact cmp_lt_t (by omega) ) ?_) ) | ( refine mx_ar rfl rfl rfl rfl rfl rfl (IntWalk.i64_in _ (by omega)) rfl ?_ ) ) | (refine g_ix rfl ?_; refine mx_ixsn E rfl rfl rfl rfl rfl rfl (by omega) rfl ?_ ) | (refine g_bi .len rfl ?_; refine mx_len E rfl rfl rfl rfl ?_) ) | refine cw_seq ?_ | refine cw_line rfl ?_ | refine cw_block ?_ | refine cw_cond_t rfl ?_ | refine cw_skip ?_ | refine cw_exit ?_ | refine pw_then ?_ | refine pw_then_x ?_ | refine pw_block_e ?_ ))
    exact pw_round ⟨i + 1, l, ls⟩ ⟨by show i + 1 ≤ ops.length; omega, by show (l.map WE.vw).Perm (begV (ops.take (i + 1))); rw [hbs]; exact hP, by show WL ops (begV (ops.take (i + 1))) ls; rw [hbs]; exact hW, by show OkP (begV (ops.take (i + 1))) (i + 1); rw [hbs]; exact hK.le (by omega)⟩ (by show ops.length - (i + 1) < ops.length - i; omega) ⟨rfl, rfl, rfl, rfl, trivial⟩ (fun w h => h)
  unfold begS at hbs
  rw [if_pos k0] at hbs
  obtain ⟨p, hp⟩ : ∃ p : Nat, o.prog % 10 = (p : Int) := ⟨(o.prog % 10).toNat, by omega⟩
  have hp10 : p < 10 := by omega
  rw [hp] at hbs
  (repeat (first | ((refine (?_ : MX _ _ _ _ _ _ _ _ _ _ _)); first | refine mx_end ?_ | (refine mx_mv _ rfl rfl (by conv => {lhs; whnf}) ?_) | (first | refine mx_fa0 E rfl rfl rfl rfl ?_ | refine mx_fa E rfl rfl rfl rfl ?_) | (refine g_load rfl ?_; refine mx_old1 E rfl rfl rfl rfl rfl (by assumption) (by assumption) rfl ?_ ) | (refine g_bin rfl ?_; (first | (refine mx_cmpl .neq rfl rfl rfl rfl rfl (by exact cmp_ne_f (by omega) ) ?_) | (refine mx_cmpl .lss rfl rfl rfl rfl rfl (by exact cmp_lt_t (by omega) ) ?_) ) ) | (refine g_ix rfl ?_; refine mx_ixsn E rfl rfl rfl rfl rfl rfl (by omega) rfl ?_ ) | (refine g_bi .len rfl ?_; refine mx_len E rfl rfl rfl rfl ?_) ) | refine cw_seq ?_ | refine cw_line rfl ?_ | refine cw_block ?_ | refine cw_cond_f rfl ?_ | refine cw_cond_t rfl ?_ | refine cw_skip ?_ | refine pw_then ?_ ))
  refine g_cf 46 rfl ?_
  refine a_callv rfl rfl rfl rfl Try.func46 rfl rfl rfl (.int .i64 (p : Int)) (fun w' hw => pickE o.prog 10 (p : Int) (by decide) (by decide) hp w') rfl ?_
  (repeat (first | ((refine (?_ : MX _ _ _ _ _ _ _ _ _ _ _)); first | refine mx_end ?_ | (refine mx_mv _ rfl rfl (by conv => {lhs; whnf}) ?_) | (refine mx_as _ rfl rfl (by conv => {lhs; whnf}) ?_) | ( refine mx_fa E rfl rfl rfl rfl ?_) | (refine g_load rfl ?_; refine mx_old1 E rfl rfl rfl rfl rfl (by assumption) (by assumption) rfl ?_ ) | (refine g_ix rfl ?_; refine mx_ixsn E rfl rfl rfl rfl rfl rfl (by omega) rfl ?_ ) ) | refine cw_seq ?_ | refine cw_line rfl ?_ | refine pw_then ?_ ))
  refine g_cf 16 rfl ?_
  refine a_co0 rfl rfl rfl rfl Try.func16 rfl rfl rfl (OW bx mp l) (fun a : {l' : List WE // (l'.map WE.vw).Perm (addV (p : Int) (o.evs.map EV.v) (l.map WE.vw))} => .tuple #[]) (fun a => OW bx mp a.1) (fun w' hw h => add16 bx mp l (nd_k (hK.perm hP.symm)) p o.la o.lc o.evs (by omega) w' (fun w2 hc => hev.grow (oldGrow' hw 0 rfl hc)) h) (fun _ => rfl) (fun _ _ _ => trivial) (fun qa => ?_)
  obtain ⟨l', hl'⟩ := qa
  refine mx_weak (H' := [star (OW bx mp l'), row b 29 (ls.flatMap cLE), allE ls]) (fun w h => h) (fun _ _ => trivial) ?_
  (repeat (first | ((refine (?_ : MX _ _ _ _ _ _ _ _ _ _ _)); first | refine mx_end ?_ | (refine mx_mv _ rfl rfl (by conv => {lhs; whnf}) ?_) | (refine g_build rfl ?_; refine mx_build rfl rfl rfl rfl b49z rfl ?_ ) ) | refine cw_line rfl ?_ | refine pw_then ?_ ))
  refine g_bs rfl ?_
  refine a_bslice1 E rfl rfl rfl rfl (us := cEV zEV) rfl rfl rfl rfl rfl rfl (fun b9 => ?_)
  refine mx_weak (H' := [ownd (some ⟨b9, 0, none⟩) 1 49 5 1 (cEV zEV), star (OW bx mp l'), row b 29 (ls.flatMap cLE), allE ls]) (fun w h => ok_full h) (fun _ _ => trivial) ?_
  (repeat (((refine (?_ : MX _ _ _ _ _ _ _ _ _ _ _)); first | (refine mx_mv _ rfl rfl (by conv => {lhs; whnf}) ?_) | ( refine mx_fa E rfl rfl rfl rfl ?_) | (refine g_load rfl ?_; refine mx_old1 E rfl rfl rfl rfl rfl (by assumption) (by assumption) rfl ?_ ) | (refine g_ix rfl ?_; refine mx_ixsn E rfl rfl rfl rfl rfl rfl (by omega) rfl ?_ ) ) ))
  refine g_bi .append rfl ?_
  refine a_app E rfl rfl rfl rfl rfl rfl rfl rfl (o.evs.flatMap cEV) (by rw [flatMap_len len_EV]) (fun w hw => (hev.keep' hw).l.src len_EV) (one_fm (fun _ => rfl) o.evs) (by omega) rfl (fun _ _ _ _ => trivial) (fun a2 c2 => ?_)
  have e1 : cEV zEV ++ o.evs.flatMap cEV = (zEV :: o.evs).flatMap cEV := rfl
  have e2 : 1 + o.evs.length = (zEV :: o.evs).length := by simp; omega
  rw [e1, e2]
  obtain ⟨x, hx⟩ := getElem_some (xs := ls) (i := p) (by rw [hW.len]; exact hp10)
  have hsp : Sp (ls.flatMap cLE) (0 + p * 1) [.slice a2 (zEV :: o.evs).length c2] ((ls.set p (⟨a2, c2, zEV :: o.evs⟩ : LE)).flatMap cLE) := by
    have h2 := sp_at len_LE hx (x' := (⟨a2, c2, zEV :: o.evs⟩ : LE)) (o := 0) (us := [.slice a2 (zEV :: o.evs).length c2]) (Sp.lit rfl rfl) [] (p := 0 + p * 1) (by omega)
    rwa [List.append_nil, List.append_nil] at h2
  (repeat (first | ((refine (?_ : MX _ _ _ _ _ _ _ _ _ _ _)); first | refine mx_end ?_ | (refine mx_mv _ rfl rfl (by conv => {lhs; whnf}) ?_) | (refine mx_as _ rfl rfl (by conv => {lhs; whnf}) ?_) | (refine g_bin rfl ?_; ( refine mx_ar rfl rfl rfl rfl rfl rfl (IntWalk.i64_in _ (by omega)) rfl ?_ ) ) | (refine g_ix rfl ?_; refine mx_ixsn E rfl rfl rfl rfl rfl rfl (by omega) rfl ?_ ) | (refine g_store rfl ?_; refine s_1 E rfl rfl rfl rfl rfl rfl rfl rfl (by assumption ) rfl ?_) ) | refine cw_line rfl ?_ | refine pw_then ?_ | refine pw_block ?_ ))
  have hP' : (l'.map WE.vw).Perm (begV (ops.take (i + 1))) := by
    rw [hbs]
    exact hl'.trans (addV_perm hP _ _)
  exact pw_round ⟨i + 1, l', ls.set p ⟨a2, c2, zEV :: o.evs⟩⟩ ⟨by show i + 1 ≤ ops.length; omega, hP', by show WL ops (begV (ops.take (i + 1))) _; rw [hbs]; exact hW.add hom hp a2 c2, by show OkP (begV (ops.take (i + 1))) (i + 1); rw [hbs]; exact hK.add _ hok⟩ (by show ops.length - (i + 1) < ops.length - i; omega) ⟨rfl, rfl, rfl, rfl, trivial⟩ (fun w h => (allE_set (e := (⟨a2, c2, zEV :: o.evs⟩ : LE)) hx (h.pick (H' := [ownd a2 c2 49 5 (zEV :: o.evs).length ((zEV :: o.evs).flatMap cEV), allE ls, star (OW bx mp l'), row b 29 ((ls.set p (⟨a2, c2, zEV :: o.evs⟩ : LE)).flatMap cLE)]) [0, 3, 1, 2] (by simp) rfl)).pick [1, 2, 0] (by simp) rfl)
end Go.Proofs.Ytikdbgheefjpkaa
