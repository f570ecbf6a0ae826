/- The calls of chapter 8 on the program's cells, each told by one function of the cells; a call of the law, whichever it is. -/
import Derived.Test.YtfekmflnfhjebaaCj
set_option maxRecDepth 100000
set_option maxHeartbeats 8000000
set_option linter.unusedSimpArgs false
set_option linter.unusedVariables false
namespace Go.Sx
open Go.RowKit
section
variable {P : Program} {ops : List Oper} {C : World → Prop} {anc : Nat → Bool} {R : Act → (World → Prop) → Prop} {n : Nat} {st : Slots} {i : Nat} {l : List Nat} {o : Oper} {S : Nat → Prop} {w0 : World} {H : List Res} {d : Tmp}
/-- Nothing is copied. -/
theorem a_copy0 (E : Env P) (ho : nthO ops i = some o) (hg : gd ops.toArray n st o = true) (ha : anc i = true) {t t' : TypeId} {x y : Operand} (hop : o.op = .call { callee := .builtin .copy, args := #[x, y], argTypes := #[t, t'] }) {ad ads : Option Addr} {dc sl sc : Nat} (hx : ev n st x = .slice ad 0 dc) (hy : ev n st y = .slice ads sl sc) {e z : Nat} (ht : at1 E.sl t = some (e, z))
    (hd : o.dst = some d) (h : MX P ops C anc R l n ((d, .int .i64 0) :: st) S w0 H) : MX P ops C anc R (i :: l) n st S w0 H := by
  refine a_val ho hg ha (.int .i64 0) (fun w hw => ?_) (by rw [hd]; rfl) h
  obtain ⟨hu, ii, hi, hz⟩ := E.sl_spec ht
  have hmin : Nat.min sl 0 = 0 := Nat.min_eq_right (Nat.zero_le _)
  have hf : (Builtin.firstCells z (Nat.min sl 0) (.slice ads sl sc)).run P w = .ok #[] w := by
    rw [hmin]
    cases ads with
    | none => rfl
    | some a => simp [Builtin.firstCells, loadCells, loadCellsFrom]
  rw [hmin] at hf
  cases ad with
  | none => simp [execOp, hop, resolve, invoke, builtin, hx, hy, Builtin.copy_, run_underlying hu, Builtin.lenOf, sizeOf, typeInfo, hi, hz, hf, goInt]
  | some a => simp [execOp, hop, resolve, invoke, builtin, hx, hy, Builtin.copy_, run_underlying hu, Builtin.lenOf, sizeOf, typeInfo, hi, hz, hf, goInt, storeCells]
end
end Go.Sx
namespace Go.Proofs.Ytfekmflnfhjebaa
open Go Go.Sx Go.RowKit
theorem wf_bs {cs : List PC} {L n : Nat} (h : WF cs L n) (hn : n ≤ 900) : ∀ c ∈ cs, c.bs.length ≤ 100000 := fun c hc => by have := h.bs c hc; omega
theorem ld_own {cs : List PC} {L n : Nat} (h : WF cs L n) (hn : n ≤ 900) (w : World) {c : PC} (hc : c ∈ cs) {k : Nat} (hk : 0 < k) (hf : k ≤ c.bs.length) (h3 : (allC cs).holds w) : ∃ b, c.ba = some ⟨b, 0, none⟩ := by
  obtain ⟨b, e, _⟩ := (own_at (inB h3 hc)).2.1 (by omega)
  exact ⟨b, e⟩
section
variable {cs : List PC} {L n : Nat} (h : WF cs L n) (hn : n ≤ 900) (bx r : Nat) (w : World)
include h hn
theorem live33u (h1 : (row bx 83 (hdC r L)).holds w) (h2 : (mapR r (kvC cs)).holds w) (h3 : (allC cs).holds w) :
    Calls Try.prog 33 #[.pointer (some ⟨bx, 0, none⟩)] w fun e w' => e = .returned (.int .i64 (liv cs)) ∧ Grow w w' := by
  have h4 := h.len
  have h5 := h.le
  have := live33 bx r L cs (by omega) (by omega) w h1 h2 h3
  have hg := gone_len h.uni h.ids
  rw [show (cs.length : Int) - ((goneTo cs L).length : Int) = (liv cs : Int) by omega] at this
  exact this
theorem load49u (k off size : Int) (ho : -9223372036854775808 ≤ off ∧ off < 9223372036854775808) (h1 : (row bx 83 (hdC r L)).holds w) (h2 : (mapR r (kvC cs)).holds w) (h3 : (allC cs).holds w) :
    Calls Try.prog 49 #[.pointer (some ⟨bx, 0, none⟩), .int .i64 k, .int .i64 off, .int .i64 size] w fun e w' => e = .returned (.tuple #[.int .u64 (ldV k off size cs), .bool (ldB k off size cs)]) ∧ Grow w w' := by
  cases hs : ldB k off size cs with
  | false =>
    have := load49n bx r L k off size cs (ldB_not hs) ho (wf_bs h hn) w h1 h2 h3
    rw [ldV_not hs]
    exact this
  | true =>
    obtain ⟨c, hc, f1, f2, f3⟩ := ldB_some hs
    obtain ⟨ob, hob⟩ := Int.eq_ofNat_of_zero_le f2
    obtain ⟨nb, hnb⟩ := Int.eq_ofNat_of_zero_le (show 0 ≤ size by omega)
    subst hob hnb
    obtain ⟨bb, hbb⟩ := ld_own h hn w (lc_mem hc).1 (k := 1) (by omega) (by omega) h3
    have := load49y bx r L k cs c hc ob nb bb hbb (by omega) (by omega) (h.by' c (lc_mem hc).1) (wf_bs h hn c (lc_mem hc).1) w h1 h2 h3
    rw [ldV_some hc ⟨f1, f2, f3⟩]
    exact this
theorem store48u (o : CO) (ho : -9223372036854775808 ≤ o.off ∧ o.off < 9223372036854775808) (h0 : Ok (domL (OC bx r L cs)) w (OC bx r L cs) w) :
    Calls Try.prog 48 #[.pointer (some ⟨bx, 0, none⟩), .int .i64 o.id, .int .i64 o.off, .int .i64 o.size, .int .u64 o.v, .int .i64 o.now] w fun e w' => e = .returned (.bool (okS o cs)) ∧ Ok (domL (OC bx r L cs)) w (OC bx r L (stpS o cs)) w' := by
  unfold stpS
  cases hs : okS o cs with
  | false =>
    rw [if_neg (by simp)]
    exact (store48n bx r L o.id o.off o.size o.v o.now cs (okS_not hs) ho (wf_bs h hn) w (h0.holds 0 _ rfl) (h0.holds 1 _ rfl) (h0.holds 2 _ rfl)).mono fun e w' h => ⟨h.1, h0.grow h.2⟩
  | true =>
    rw [if_pos rfl]
    obtain ⟨c, hc, f1, f2, f3⟩ := okS_some hs
    obtain ⟨i, hi⟩ := List.mem_iff_getElem?.1 (lc_mem hc).1
    obtain ⟨ob, hob⟩ := Int.eq_ofNat_of_zero_le f2
    obtain ⟨nb, hnb⟩ := Int.eq_ofNat_of_zero_le (show 0 ≤ o.size by omega)
    have hok := h.ok c (lc_mem hc).1
    have := store48y bx r L o.id cs i c hi hc ob nb o.v o.now (by omega) (by omega) (wf_bs h hn c (lc_mem hc).1) hok.1 (by omega) (by omega) w h0
    rw [← set_updC (f := putS o) h.uni hi (lc_mem hc).2, hob, hnb]
    have e : putS o c = c.put (wrB c.bs ob (byts o.v nb)) o.now := by unfold putS; rw [hob, hnb]; rfl
    rw [e]
    exact this
theorem write44z (o : CO) (c : PC) (hc : lc o.id cs = some c) (hz : c.bs = []) (hb : o.bs = []) (ad : Option Addr) (capx : Nat) (h0 : Ok (domL (OC bx r L cs)) w (OC bx r L cs) w) :
    Calls Try.prog 44 #[.pointer (some ⟨bx, 0, none⟩), .int .i64 o.id, .slice ad 0 capx, .int .i64 o.now] w fun e w' => e = .returned (.bool true) ∧ Ok (domL (OC bx r L cs)) w (OC bx r L (updC o.id (putW o) cs)) w' := by
  obtain ⟨i, hi⟩ := List.mem_iff_getElem?.1 (lc_mem hc).1
  have hok := h.ok c (lc_mem hc).1
  rw [← set_updC (f := putW o) h.uni hi (lc_mem hc).2]
  have h1 : Ok (domL (OC bx r L cs)) w [row c.p 94 (cPC c), ownd c.ba c.cap 5 1 c.bs.length (c.bs.flatMap cU), allC (cs.eraseIdx i), row bx 83 (hdC r L), mapR r (kvC cs)] w := unplug (perm_at hi) (h0.pick [2, 0, 1] (by simp) rfl)
  obtain ⟨id, p, ba, cap, bs, wr, bt, dr⟩ := c
  have hz : bs = [] := hz
  subst hz
  dsimp only at hok h1
  have hlv := look_some hc
  dsimp only at hlv
  refine enter4 (S := domL (OC bx r L cs)) (H := [row p 94 [.slice ba 0 cap, .int .i64 wr, .complex .f64 (fe bt.x) (fe bt.y), .int .i64 bt.n, .int .i64 bt.last, .bool dr], ownd ba cap 5 1 0 [], allC (cs.eraseIdx i), row bx 83 (hdC r L), mapR r (kvC cs)]) 41 Try.func44 rfl rfl rfl h1 ?_
  (repeat (first | ((refine (?_ : MX _ _ _ _ _ _ _ _ _ _ _)); first | refine mx_end ?_ | (refine mx_mv _ rfl rfl (by conv => {lhs; whnf}) ?_) | (refine mx_as _ rfl rfl (by conv => {lhs; whnf}) ?_) | (refine mx_fa0 E rfl rfl rfl rfl ?_ ) | (refine g_load rfl ?_; refine mx_get E rfl rfl rfl rfl rfl (by rfl) rfl ?_ ) | (refine g_bin rfl ?_; ( (refine mx_cmpl .neq rfl rfl rfl rfl rfl (by exact cmp_ne_f (by omega) ) ?_) ) ) | (refine mx_nc rfl rfl rfl ?_) | (refine g_bi .len rfl ?_; refine mx_len E rfl rfl rfl rfl ?_) | (refine mx_not rfl rfl rfl ?_) | (refine mx_ex _ rfl rfl rfl (by conv => {lhs; whnf}) ?_) | (refine g_pick rfl ?_; refine mx_or rfl rfl rfl rfl rfl rfl ?_ ) | (refine mx_look mt81 rfl rfl rfl rfl rfl (by with_reducible assumption) rfl ?_ ) ) | refine cw_seq ?_ | refine cw_line rfl ?_ | refine cw_cond_f rfl ?_ | refine cw_skip ?_ | refine pw_then ?_ ))
  refine g_bi .copy rfl ?_
  refine a_copy0 E rfl rfl rfl rfl rfl rfl rfl rfl ?_
  (repeat (first | ((refine (?_ : MX _ _ _ _ _ _ _ _ _ _ _)); first | refine mx_end ?_ | (refine mx_mv _ rfl rfl (by conv => {lhs; whnf}) ?_) ) | refine cw_seq ?_ | refine cw_line rfl ?_ | refine pw_then ?_ ))
  refine g_cf 65 rfl ?_
  refine a_callr rfl rfl rfl rfl Try.func65 rfl rfl rfl p (cPC (PC.wrt ⟨id, p, ba, cap, [], wr, bt, dr⟩ o.now)) (.tuple #[]) (fun w' hw h => written65 ⟨id, p, ba, cap, [], wr, bt, dr⟩ o.now hok.1 (by show bt.n ≤ 999; omega) (by show wr ≤ 100000; omega) w' h) rfl ?_
  (repeat (first | ((refine (?_ : MX _ _ _ _ _ _ _ _ _ _ _)); first | refine mx_end ?_ | (refine mx_as _ rfl rfl (by conv => {lhs; whnf}) ?_) ) | refine cw_seq ?_ | refine cw_line rfl ?_ | refine cw_ret ?_ | refine pw_then ?_ ))
  refine pw_ret rfl rfl rfl rfl fun w' hw => ⟨rfl, ?_⟩
  have e1 : putW o ⟨id, p, ba, cap, [], wr, bt, dr⟩ = PC.put ⟨id, p, ba, cap, [], wr, bt, dr⟩ [] o.now := by unfold putW; rw [hb]
  rw [e1]
  have h6 := plug (c := PC.put ⟨id, p, ba, cap, [], wr, bt, dr⟩ [] o.now) (H := [row bx 83 (hdC r L), mapR r (kvC cs)]) (perm_set hi) hw
  have h7 : Ok (domL (OC bx r L cs)) w [allC (cs.set i (PC.put ⟨id, p, ba, cap, [], wr, bt, dr⟩ [] o.now)), row bx 83 (hdC r L), mapR r (kvC (cs.set i (PC.put ⟨id, p, ba, cap, [], wr, bt, dr⟩ [] o.now)))] w' := by
    rw [kvC_set (c' := PC.put ⟨id, p, ba, cap, [], wr, bt, dr⟩ [] o.now) hi rfl rfl]
    exact h6
  exact h7.pick [1, 2, 0] (by simp) rfl
theorem write44u (o : CO) (hb : o.bs.length ≤ 200) (ad : Option Addr) (capx : Nat) (h0 : Ok (domL (OC bx r L cs)) w (OC bx r L cs) w) (hl : InL w ad 1 cU o.bs) (hne : o.bs ≠ [] → ∀ b off, ad = some ⟨b, off, none⟩ → ¬ domL (OC bx r L cs) b) :
    Calls Try.prog 44 #[.pointer (some ⟨bx, 0, none⟩), .int .i64 o.id, .slice ad o.bs.length capx, .int .i64 o.now] w fun e w' => e = .returned (.bool (okW o cs)) ∧ Ok (domL (OC bx r L cs)) w (OC bx r L (stpW o cs)) w' := by
  unfold stpW
  cases hs : okW o cs with
  | false =>
    rw [if_neg (by simp)]
    exact (write44n bx r L o.id cs ad o.bs.length capx o.now (by omega) (okW_not hs) w (h0.holds 0 _ rfl) (h0.holds 1 _ rfl) (h0.holds 2 _ rfl)).mono fun e w' h => ⟨h.1, h0.grow h.2⟩
  | true =>
    rw [if_pos rfl]
    obtain ⟨c, hc, hlen⟩ := okW_some hs
    rcases Nat.eq_zero_or_pos o.bs.length with hz | hp
    · have e1 := List.eq_nil_of_length_eq_zero hz
      rw [hz]
      exact write44z h hn bx r w o c hc (List.eq_nil_of_length_eq_zero (by omega)) e1 ad capx h0
    · obtain ⟨i, hi⟩ := List.mem_iff_getElem?.1 (lc_mem hc).1
      have hok := h.ok c (lc_mem hc).1
      rw [← set_updC (f := putW o) h.uni hi (lc_mem hc).2]
      exact write44 bx r L o.id cs i c hi hc ad o.bs.length capx o.bs rfl hlen hp (by omega) o.now hok.1 (by omega) (by omega) w h0 hl hne
end
theorem drop50u {cs : List PC} {L n : Nat} (h : WF cs L n) (hn : n ≤ 900) (bx r : Nat) (w : World) (k : Int) (h0 : Ok (domL (OC bx r L cs)) w (OC bx r L cs) w) :
    Calls Try.prog 50 #[.pointer (some ⟨bx, 0, none⟩), .int .i64 k] w fun e w' => e = .returned (.bool (okD k cs)) ∧ Ok (domL (OC bx r L cs)) w (OC bx r L (stpD k cs)) w' := by
  unfold stpD
  cases hs : okD k cs with
  | false =>
    rw [if_neg (by simp)]
    exact (drop50n bx r L k cs (okD_not hs) w (h0.holds 0 _ rfl) (h0.holds 1 _ rfl) (h0.holds 2 _ rfl)).mono fun e w' h => ⟨h.1, h0.grow h.2⟩
  | true =>
    rw [if_pos rfl]
    obtain ⟨c, hc, hd⟩ := okD_some hs
    obtain ⟨i, hi⟩ := List.mem_iff_getElem?.1 (lc_mem hc).1
    have := drop50y bx r L k cs i c hi hc hd w h0
    rw [← set_updC (f := PC.gon) h.uni hi (lc_mem hc).2]
    exact this
def doesR (o : CO) (cs : List PC) : Bool := if o.kind = 1 then okS o cs else if o.kind = 2 then okS o cs else if o.kind = 3 then okW o cs else if o.kind = 4 then okD o.id cs else true
theorem ldB_okS (o : CO) (cs : List PC) : ldB o.id o.off o.size cs = okS o cs := rfl
theorem does53 {cs : List PC} {L n : Nat} (h : WF cs L n) (hn : n ≤ 900) (bx r : Nat) (o : CO) (hb : o.bs.length ≤ 200) (hcap : o.bs.length ≤ o.cap) (ho : -9223372036854775808 ≤ o.off ∧ o.off < 9223372036854775808) (w : World) (h0 : Ok (domL (OC bx r L cs)) w (OC bx r L cs) w) (hl : InL w o.ad 1 cU o.bs) (hne : o.bs ≠ [] → ∀ b off, o.ad = some ⟨b, off, none⟩ → ¬ domL (OC bx r L cs) b) :
    Calls Try.prog 53 #[.pointer (some ⟨bx, 0, none⟩), .agg (cCO o).toArray] w fun e w' => ∃ a : Nat × Option Addr × Nat, e = .returned (.bool (doesR o cs)) ∧ Ok (domL (OC bx r L cs)) w (OC bx r ((stpL o L : Nat) : Int) (stpC o a cs L)) w' := by
  have hle := h.le
  refine enter2 (S := domL (OC bx r L cs)) (H := OC bx r L cs) 63 Try.func53 rfl rfl rfl h0 ?_
  refine cw_weak (H' := [star (OC bx r L cs)]) (fun w h => Ok.star (H := []) (by rw [List.append_nil]; exact h)) ?_
  have fin : ∀ {cs' : List PC} {L' : Nat} {b : Nat} {w' : World}, Ok (domL (OC bx r L cs)) w [row b 71 (cCO o), star (OC bx r ((L' : Nat) : Int) cs')] w' → Ok (domL (OC bx r L cs)) w (OC bx r ((L' : Nat) : Int) cs') w' := fun hw => by
    have h2 := Ok.unstar (hw.pick (H' := [star (OC bx r _ _)]) [1] (by simp) rfl)
    rwa [List.append_nil] at h2
  have hs1 : ∀ {w' : World}, (star (OC bx r L cs)).holds w' → (row bx 83 (hdC r L)).holds w' := fun h => star_holds h (by simp [OC])
  have hs2 : ∀ {w' : World}, (star (OC bx r L cs)).holds w' → (mapR r (kvC cs)).holds w' := fun h => star_holds h (by simp [OC])
  have hs3 : ∀ {w' : World}, (star (OC bx r L cs)).holds w' → (allC cs).holds w' := fun h => star_holds h (by simp [OC])
  by_cases k0 : o.kind = 0
  · have f1 : ∀ a, stpC o a cs L = cs ++ [newC L a o.bs] := fun a => by unfold stpC; rw [if_pos k0]
    have f2 : stpL o L = L + 1 := by unfold stpL; rw [if_pos k0]
    have f3 : doesR o cs = true := by unfold doesR; rw [if_neg (by omega), if_neg (by omega), if_neg (by omega), if_neg (by omega)]
    (repeat (first | ((refine (?_ : MX _ _ _ _ _ _ _ _ _ _ _)); first | refine mx_end ?_ | (refine mx_mv _ rfl rfl (by conv => {lhs; whnf}) ?_) | (refine mx_as _ rfl rfl (by conv => {lhs; whnf}) ?_) | (first | refine mx_fa0 E rfl rfl rfl rfl ?_ | refine mx_fa E rfl rfl rfl rfl ?_) | (refine g_load rfl ?_; refine mx_get E rfl rfl rfl rfl rfl (by rfl) rfl ?_ ) | (refine g_bin rfl ?_; ((refine mx_cmpl .eql rfl rfl rfl rfl rfl (by exact cmp_eq_t (by omega) ) ?_) ) ) | (refine g_box rfl ?_; refine a_boxl rfl rfl rfl rfl rfl rfl (fun _ => ?_) ) ) | refine cw_seq ?_ | refine cw_line rfl ?_ | refine cw_block ?_ | refine cw_cond_t rfl ?_ | refine pw_then ?_ ))
    refine g_cf 45 rfl ?_
    refine a_callo rfl rfl rfl rfl Try.func45 rfl rfl rfl 1 rfl (fun a : Nat × Option Addr × Nat => .int .i64 ((L + 1 : Nat) : Int)) (fun a => []) (fun a => OC bx r ((L + 1 : Nat) : Int) (cs ++ [newC L a o.bs])) (fun w' hw h' => make45n bx r L cs o.ad o.bs.length o.cap o.bs rfl hcap (by omega) (by omega) (fun c hc => by have := h.ids c hc; omega) w' h' (hl.keep' hw hne) (fun q b off e => hne q b off e)) (fun _ => rfl) (fun _ _ _ => trivial) (fun a => ?_)
    (repeat (first | ((refine (?_ : MX _ _ _ _ _ _ _ _ _ _ _)); first | refine mx_end ?_ | (refine mx_as _ rfl rfl (by conv => {lhs; whnf}) ?_) ) | refine cw_seq ?_ | refine cw_line rfl ?_ | refine cw_ret ?_ | refine pw_then ?_ | refine pw_block ?_ ))
    refine pw_ret rfl rfl rfl rfl fun w' hw => ⟨(a), by rw [f3]; rfl, ?_⟩; rw [f1, f2]; exact fin hw
  have f2 : stpL o L = L := by unfold stpL; rw [if_neg k0]
  by_cases k1 : o.kind = 1
  · have f1 : ∀ a, stpC o a cs L = cs := fun a => by unfold stpC; rw [if_neg (by omega), if_neg (by omega), if_neg (by omega), if_neg (by omega), if_neg (by omega)]
    have f3 : doesR o cs = okS o cs := by unfold doesR; rw [if_pos k1]
    (repeat (first | ((refine (?_ : MX _ _ _ _ _ _ _ _ _ _ _)); first | refine mx_end ?_ | (refine mx_mv _ rfl rfl (by conv => {lhs; whnf}) ?_) | (refine mx_as _ rfl rfl (by conv => {lhs; whnf}) ?_) | (first | refine mx_fa0 E rfl rfl rfl rfl ?_ | refine mx_fa E rfl rfl rfl rfl ?_) | (refine g_load rfl ?_; refine mx_get E rfl rfl rfl rfl rfl (by rfl) rfl ?_ ) | (refine g_bin rfl ?_; ((refine mx_cmpl .eql rfl rfl rfl rfl rfl (by first | exact cmp_eq_t (by omega) | exact cmp_eq_f (by omega) ) ?_) ) ) | (refine g_box rfl ?_; refine a_boxl rfl rfl rfl rfl rfl rfl (fun _ => ?_) ) ) | refine cw_seq ?_ | refine cw_line rfl ?_ | refine cw_block ?_ | refine cw_cond_f rfl ?_ | refine cw_cond_t rfl ?_ | refine pw_then ?_ ))
    refine g_cf 49 rfl ?_
    refine a_callv rfl rfl rfl rfl Try.func49 rfl rfl rfl _ (fun w' hw => load49u h hn bx r w' o.id o.off o.size ho (hs1 (hw.holds 1 _ rfl)) (hs2 (hw.holds 1 _ rfl)) (hs3 (hw.holds 1 _ rfl))) rfl ?_
    rw [ldB_okS]
    (repeat (first | ((refine (?_ : MX _ _ _ _ _ _ _ _ _ _ _)); first | refine mx_end ?_ | (refine mx_mv _ rfl rfl (by conv => {lhs; whnf}) ?_) | (refine mx_as _ rfl rfl (by conv => {lhs; whnf}) ?_) | (refine mx_ex _ rfl rfl rfl (by conv => {lhs; whnf}) ?_) ) | refine cw_seq ?_ | refine cw_line rfl ?_ | refine cw_ret ?_ | refine pw_then ?_ | refine pw_then_r ?_ | refine pw_block_r ?_))
    refine pw_ret rfl rfl rfl rfl fun w' hw => ⟨((0, none, 0)), by rw [f3]; rfl, ?_⟩; rw [f1, f2]; exact fin hw
  by_cases k2 : o.kind = 2
  · have f1 : ∀ a, stpC o a cs L = stpS o cs := fun a => by unfold stpC; rw [if_neg (by omega), if_pos k2]
    have f3 : doesR o cs = okS o cs := by unfold doesR; rw [if_neg (by omega), if_pos k2]
    (repeat (first | ((refine (?_ : MX _ _ _ _ _ _ _ _ _ _ _)); first | refine mx_end ?_ | (refine mx_mv _ rfl rfl (by conv => {lhs; whnf}) ?_) | (refine mx_as _ rfl rfl (by conv => {lhs; whnf}) ?_) | (first | refine mx_fa0 E rfl rfl rfl rfl ?_ | refine mx_fa E rfl rfl rfl rfl ?_) | (refine g_load rfl ?_; refine mx_get E rfl rfl rfl rfl rfl (by rfl) rfl ?_ ) | (refine g_bin rfl ?_; ((refine mx_cmpl .eql rfl rfl rfl rfl rfl (by first | exact cmp_eq_t (by omega) | exact cmp_eq_f (by omega) ) ?_) ) ) | (refine g_box rfl ?_; refine a_boxl rfl rfl rfl rfl rfl rfl (fun _ => ?_) ) ) | refine cw_seq ?_ | refine cw_line rfl ?_ | refine cw_block ?_ | refine cw_cond_f rfl ?_ | refine cw_cond_t rfl ?_ | refine pw_then ?_ ))
    refine g_cf 48 rfl ?_
    refine a_callo rfl rfl rfl rfl Try.func48 rfl rfl rfl 1 rfl (fun a : Unit => .bool (okS o cs)) (fun a => []) (fun a => OC bx r L (stpS o cs)) (fun w' hw h' => (store48u h hn bx r w' o ho h').mono fun e w' h => ⟨(), h.1, h.2⟩) (fun _ => rfl) (fun _ _ _ => trivial) (fun a => ?_)
    (repeat (first | ((refine (?_ : MX _ _ _ _ _ _ _ _ _ _ _)); first | refine mx_end ?_ | (refine mx_as _ rfl rfl (by conv => {lhs; whnf}) ?_) ) | refine cw_ret ?_ | refine pw_then ?_ | refine pw_then_r ?_ | refine pw_block_r ?_))
    refine pw_ret rfl rfl rfl rfl fun w' hw => ⟨((0, none, 0)), by rw [f3]; rfl, ?_⟩; rw [f1, f2]; exact fin hw
  by_cases k3 : o.kind = 3
  · have f1 : ∀ a, stpC o a cs L = stpW o cs := fun a => by unfold stpC; rw [if_neg (by omega), if_neg (by omega), if_pos k3]
    have f3 : doesR o cs = okW o cs := by unfold doesR; rw [if_neg (by omega), if_neg (by omega), if_pos k3]
    (repeat (first | ((refine (?_ : MX _ _ _ _ _ _ _ _ _ _ _)); first | refine mx_end ?_ | (refine mx_mv _ rfl rfl (by conv => {lhs; whnf}) ?_) | (refine mx_as _ rfl rfl (by conv => {lhs; whnf}) ?_) | (first | refine mx_fa0 E rfl rfl rfl rfl ?_ | refine mx_fa E rfl rfl rfl rfl ?_) | (refine g_load rfl ?_; refine mx_get E rfl rfl rfl rfl rfl (by rfl) rfl ?_ ) | (refine g_bin rfl ?_; ((refine mx_cmpl .eql rfl rfl rfl rfl rfl (by first | exact cmp_eq_t (by omega) | exact cmp_eq_f (by omega) ) ?_) ) ) | (refine g_box rfl ?_; refine a_boxl rfl rfl rfl rfl rfl rfl (fun _ => ?_) ) ) | refine cw_seq ?_ | refine cw_line rfl ?_ | refine cw_block ?_ | refine cw_cond_f rfl ?_ | refine cw_cond_t rfl ?_ | refine pw_then ?_ ))
    refine g_cf 44 rfl ?_
    refine a_callo rfl rfl rfl rfl Try.func44 rfl rfl rfl 1 rfl (fun a : Unit => .bool (okW o cs)) (fun a => []) (fun a => OC bx r L (stpW o cs)) (fun w' hw h' => (write44u h hn bx r w' o hb o.ad o.cap h' (hl.keep' hw hne) hne).mono fun e w' h => ⟨(), h.1, h.2⟩) (fun _ => rfl) (fun _ _ _ => trivial) (fun a => ?_)
    (repeat (first | ((refine (?_ : MX _ _ _ _ _ _ _ _ _ _ _)); first | refine mx_end ?_ | (refine mx_as _ rfl rfl (by conv => {lhs; whnf}) ?_) ) | refine cw_ret ?_ | refine pw_then ?_ | refine pw_then_r ?_ | refine pw_block_r ?_))
    refine pw_ret rfl rfl rfl rfl fun w' hw => ⟨((0, none, 0)), by rw [f3]; rfl, ?_⟩; rw [f1, f2]; exact fin hw
  by_cases k4 : o.kind = 4
  · have f1 : ∀ a, stpC o a cs L = stpD o.id cs := fun a => by unfold stpC; rw [if_neg (by omega), if_neg (by omega), if_neg (by omega), if_pos k4]
    have f3 : doesR o cs = okD o.id cs := by unfold doesR; rw [if_neg (by omega), if_neg (by omega), if_neg (by omega), if_pos k4]
    (repeat (first | ((refine (?_ : MX _ _ _ _ _ _ _ _ _ _ _)); first | refine mx_end ?_ | (refine mx_mv _ rfl rfl (by conv => {lhs; whnf}) ?_) | (refine mx_as _ rfl rfl (by conv => {lhs; whnf}) ?_) | (first | refine mx_fa0 E rfl rfl rfl rfl ?_ | refine mx_fa E rfl rfl rfl rfl ?_) | (refine g_load rfl ?_; refine mx_get E rfl rfl rfl rfl rfl (by rfl) rfl ?_ ) | (refine g_bin rfl ?_; ((refine mx_cmpl .eql rfl rfl rfl rfl rfl (by first | exact cmp_eq_t (by omega) | exact cmp_eq_f (by omega) ) ?_) ) ) | (refine g_box rfl ?_; refine a_boxl rfl rfl rfl rfl rfl rfl (fun _ => ?_) ) ) | refine cw_seq ?_ | refine cw_line rfl ?_ | refine cw_block ?_ | refine cw_cond_f rfl ?_ | refine cw_cond_t rfl ?_ | refine pw_then ?_ ))
    refine g_cf 50 rfl ?_
    refine a_callo rfl rfl rfl rfl Try.func50 rfl rfl rfl 1 rfl (fun a : Unit => .bool (okD o.id cs)) (fun a => []) (fun a => OC bx r L (stpD o.id cs)) (fun w' hw h' => (drop50u h hn bx r w' o.id h').mono fun e w' h => ⟨(), h.1, h.2⟩) (fun _ => rfl) (fun _ _ _ => trivial) (fun a => ?_)
    (repeat (first | ((refine (?_ : MX _ _ _ _ _ _ _ _ _ _ _)); first | refine mx_end ?_ | (refine mx_as _ rfl rfl (by conv => {lhs; whnf}) ?_) ) | refine cw_ret ?_ | refine pw_then ?_ | refine pw_then_r ?_ | refine pw_block_r ?_))
    refine pw_ret rfl rfl rfl rfl fun w' hw => ⟨((0, none, 0)), by rw [f3]; rfl, ?_⟩; rw [f1, f2]; exact fin hw
  have f3 : doesR o cs = true := by unfold doesR; rw [if_neg k1, if_neg k2, if_neg k3, if_neg k4]
  by_cases k5 : o.kind = 5
  · have f1 : ∀ a, stpC o a cs L = cs.filter (fun c => !c.dr) := fun a => by unfold stpC; rw [if_neg (by omega), if_neg (by omega), if_neg (by omega), if_neg (by omega), if_pos k5]
    (repeat (first | ((refine (?_ : MX _ _ _ _ _ _ _ _ _ _ _)); first | refine mx_end ?_ | (refine mx_mv _ rfl rfl (by conv => {lhs; whnf}) ?_) | (refine mx_as _ rfl rfl (by conv => {lhs; whnf}) ?_) | (refine mx_fa0 E rfl rfl rfl rfl ?_ ) | (refine g_load rfl ?_; refine mx_get E rfl rfl rfl rfl rfl (by rfl) rfl ?_ ) | (refine g_bin rfl ?_; ((refine mx_cmpl .eql rfl rfl rfl rfl rfl (by first | exact cmp_eq_t (by omega) | exact cmp_eq_f (by omega) ) ?_) ) ) | (refine g_box rfl ?_; refine a_boxl rfl rfl rfl rfl rfl rfl (fun _ => ?_) ) ) | refine cw_seq ?_ | refine cw_line rfl ?_ | refine cw_block ?_ | refine cw_cond_f rfl ?_ | refine cw_cond_t rfl ?_ | refine pw_then ?_ ))
    refine g_cf 46 rfl ?_
    refine a_callo rfl rfl rfl rfl Try.func46 rfl rfl rfl 1 rfl (fun a : Unit => .int .i64 ((goneTo cs L).length : Nat)) (fun a => []) (fun a => OC bx r L (cs.filter fun c => !c.dr)) (fun w' hw h' => (sweep46g bx r L cs h.uni h.ids (by omega) w' h').mono fun e w' h => ⟨(), h.1, h.2⟩) (fun _ => rfl) (fun _ _ _ => trivial) (fun a => ?_)
    (repeat (first | ((refine (?_ : MX _ _ _ _ _ _ _ _ _ _ _)); first | refine mx_end ?_ | (refine mx_as _ rfl rfl (by conv => {lhs; whnf}) ?_) ) | refine cw_seq ?_ | refine cw_line rfl ?_ | refine cw_ret ?_ | refine pw_then ?_ | refine pw_block ?_ ))
    refine pw_ret rfl rfl rfl rfl fun w' hw => ⟨((0, none, 0)), by rw [f3]; rfl, ?_⟩; rw [f1, f2]; exact fin hw
  · have f1 : ∀ a, stpC o a cs L = cs := fun a => by unfold stpC; rw [if_neg k0, if_neg k2, if_neg k3, if_neg k4, if_neg k5]
    (repeat (first | ((refine (?_ : MX _ _ _ _ _ _ _ _ _ _ _)); first | refine mx_end ?_ | (refine mx_as _ rfl rfl (by conv => {lhs; whnf}) ?_) | (refine mx_fa0 E rfl rfl rfl rfl ?_ ) | (refine g_load rfl ?_; refine mx_get E rfl rfl rfl rfl rfl (by rfl) rfl ?_ ) | (refine g_bin rfl ?_; ((refine mx_cmpl .eql rfl rfl rfl rfl rfl (by exact cmp_eq_f (by omega) ) ?_) ) ) | (refine g_box rfl ?_; refine a_boxl rfl rfl rfl rfl rfl rfl (fun _ => ?_) ) ) | refine cw_seq ?_ | refine cw_line rfl ?_ | refine cw_block ?_ | refine cw_cond_f rfl ?_ | refine cw_skip ?_ | refine cw_ret ?_ | refine pw_then ?_ | refine pw_block ?_ ))
    refine pw_ret rfl rfl rfl rfl fun w' hw => ⟨((0, none, 0)), by rw [f3]; rfl, ?_⟩; rw [f1, f2]; exact fin hw
end Go.Proofs.Ytfekmflnfhjebaa
