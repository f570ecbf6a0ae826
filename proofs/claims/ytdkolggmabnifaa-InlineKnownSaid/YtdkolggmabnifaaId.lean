/- What is being joined: events behind others, a form laid in. -/
import Derived.Test.YtdkolggmabnifaaIc
set_option maxRecDepth 100000
set_option maxHeartbeats 8000000
set_option linter.unusedSimpArgs false
set_option linter.unusedVariables false
namespace Go.Proofs.Ytdkolggmabnifaa
open Go Go.Sx Go.RowKit
/-- What is being joined. -/
structure JS where
  prog : Int
  oa : Option Addr
  oc : Nat
  ops : List OP
  ta : Option Addr
  tc : Nat
  at' : List Int
  ea : Option Addr
  ec : Nat
  evs : List EV
  bg : List (Int × Int)
  deriving Inhabited
def RK (e : EV) : List Res := [ownd e.ka e.kc 5 1 e.v.key.length (e.v.key.flatMap cU)]
def allK (l : List EV) : Res := star (l.flatMap RK)
theorem allK_nil {S : Nat → Prop} {w0 w : World} {H : List Res} (h : Ok S w0 H w) : Ok S w0 (allK [] :: H) w := Ok.star (L := []) h
theorem allK_snoc {S : Nat → Prop} {w0 w : World} {H : List Res} {l : List EV} {o : EV} (h : Ok S w0 (ownd o.ka o.kc 5 1 o.v.key.length (o.v.key.flatMap cU) :: allK l :: H) w) : Ok S w0 (allK (l ++ [o]) :: H) w := by
  have h1 := star_snoc (L1 := l.flatMap RK) (L2 := RK o) (H := H) h
  unfold allK
  rw [List.flatMap_append]
  simpa [RK] using h1
theorem inK {l : List EV} {w : World} (h : (allK l).holds w) {e : EV} (he : e ∈ l) : InL w e.ka 1 cU e.v.key := own_in len_U (star_holds h (r := ownd e.ka e.kc 5 1 e.v.key.length (e.v.key.flatMap cU)) (List.mem_flatMap.2 ⟨e, he, by simp [RK]⟩)) (Nat.le_refl _)
def bgV (bg : List (Int × Int)) : List (Int × Value) := bg.map fun p => (p.1, .int .i64 p.2)
@[reducible] def hdJ (mp : Nat) (xa : Option Addr) (xn xc : Nat) (s : JS) : List Value := [.int .i64 s.prog, .slice s.oa s.ops.length s.oc, .slice s.ta s.at'.length s.tc, .slice s.ea s.evs.length s.ec, .slice xa xn xc, .map (some mp)]
def OJ (bx mp : Nat) (xa : Option Addr) (xn xc : Nat) (s : JS) : List Res := [row bx 58 (hdJ mp xa xn xc s), ownd s.oa s.oc 36 15 s.ops.length (s.ops.flatMap cOP), allF s.ops, ownd s.ta s.tc 3 1 s.at'.length (s.at'.flatMap cI), ownd s.ea s.ec 47 5 s.evs.length (s.evs.flatMap cEV), allK s.evs, mapR mp (bgV s.bg)]
@[reducible] def hdE (mp : Nat) (xa : Option Addr) (xn xc : Nat) (s : JS) (a : Option Addr) (c n : Nat) : List Value := [.int .i64 s.prog, .slice s.oa s.ops.length s.oc, .slice s.ta s.at'.length s.tc, .slice a n c, .slice xa xn xc, .map (some mp)]
/-- What is old, below a place. -/
def InN {α : Type} (N : Nat) (w : World) (ad : Option Addr) (z : Nat) (c : α → List Value) (xs : List α) : Prop := InL w ad z c xs ∧ (xs ≠ [] → ∀ b off, ad = some ⟨b, off, none⟩ → b < N)
theorem InN.keep {α : Type} {N : Nat} {S : Nat → Prop} {w0 w : World} {H : List Res} {ad : Option Addr} {z : Nat} {c : α → List Value} {xs : List α} (h : InN N w0 ad z c xs) (hw : Ok S w0 H w) (hS : ∀ b, S b → N ≤ b) : InN N w ad z c xs :=
  ⟨h.1.keep' hw (fun hne b off e hb => by have := h.2 hne b off e; have := hS b hb; omega), h.2⟩
theorem InN.ns {α : Type} {N : Nat} {S : Nat → Prop} {w : World} {ad : Option Addr} {z : Nat} {c : α → List Value} {xs : List α} (h : InN N w ad z c xs) (hS : ∀ b, S b → N ≤ b) {b off : Nat} (e : ad = some ⟨b, off, none⟩) (hne : xs ≠ []) : ¬ S b := fun hb => by have := h.2 hne b off e; have := hS b hb; omega
def RdE (N : Nat) (w : World) (e : EV) : Prop := InN N w e.ka 1 cU e.v.key ∧ BytK e.v.key ∧ e.v.key.length ≤ 1000
def RdO (N : Nat) (w : World) (o : OP) : Prop := InN N w o.ha 2 cFL o.v.held ∧ InN N w o.na 2 cFL o.v.need ∧ o.v.held.length ≤ 1000 ∧ o.v.need.length ≤ 1000
theorem RdE.keep {N : Nat} {S : Nat → Prop} {w0 w : World} {H : List Res} {e : EV} (h : RdE N w0 e) (hw : Ok S w0 H w) (hS : ∀ b, S b → N ≤ b) : RdE N w e := ⟨h.1.keep hw hS, h.2⟩
theorem RdO.keep {N : Nat} {S : Nat → Prop} {w0 w : World} {H : List Res} {e : OP} (h : RdO N w0 e) (hw : Ok S w0 H w) (hS : ∀ b, S b → N ≤ b) : RdO N w e := ⟨h.1.keep hw hS, h.2.1.keep hw hS, h.2.2⟩
/-- A list's events behind others, but those that are there. -/
def addE (acc : List VE) (x : VE) : List VE := if acc.any (fun y => decide (y = x)) = true then acc else acc ++ [x]
theorem addE_len (acc : List VE) (x : VE) : (addE acc x).length ≤ acc.length + 1 := by unfold addE; split <;> simp
theorem any_v (evs : List EV) (x : VE) : (evs.any fun y => decide (y.v = x)) = (evs.map (·.v)).any fun y => decide (y = x) := by rw [List.any_map]; rfl
def JS.ev (s : JS) (a : Option Addr × Nat) (evs : List EV) : JS := { s with ea := a.1, ec := a.2, evs := evs }
theorem assume33 (bx mp : Nat) (xa : Option Addr) (xn xc : Nat) (s : JS) (N : Nat) (ad : Option Addr) (cap : Nat) (l : List EV) (hs : l.length ≤ 1000) (hsn : s.evs.length ≤ 1000) (hk : ∀ v ∈ s.evs, BytK v.v.key) (w : World) (h0 : Ok (domL (OJ bx mp xa xn xc s)) w (OJ bx mp xa xn xc s) w) (hN : ∀ b, domL (OJ bx mp xa xn xc s) b → N ≤ b) (hl : InN N w ad 5 cEV l) (he : ∀ e ∈ l, RdE N w e) :
    Calls Try.prog 33 #[.pointer (some ⟨bx, 0, none⟩), .slice ad l.length cap] w fun r w' => ∃ q : (Option Addr × Nat) × {evs' : List EV // evs'.map (·.v) = (l.map (·.v)).foldl addE (s.evs.map (·.v))}, r = .returned (.tuple #[]) ∧ Ok (domL (OJ bx mp xa xn xc s)) w (OJ bx mp xa xn xc (s.ev q.1 q.2.1)) w' := by
  refine enter2 (S := domL (OJ bx mp xa xn xc s)) (H := [row bx 58 (hdJ mp xa xn xc s), ownd s.oa s.oc 36 15 s.ops.length (s.ops.flatMap cOP), allF s.ops, ownd s.ta s.tc 3 1 s.at'.length (s.at'.flatMap cI), ownd s.ea s.ec 47 5 s.evs.length (s.evs.flatMap cEV), allK s.evs, mapR mp (bgV s.bg)]) 39 Try.func33 rfl rfl rfl h0 ?_
  (repeat (first | ((refine (?_ : MX _ _ _ _ _ _ _ _ _ _ _)); first | refine mx_end ?_ | (refine mx_mv _ rfl rfl (by conv => {lhs; whnf}) ?_) | (refine g_bi .len rfl ?_; refine mx_len E rfl rfl rfl rfl ?_) ) | refine cw_seq ?_ | refine cw_line rfl ?_ | refine cw_block ?_ | refine pw_then ?_ ))
  refine cw_loop (ι := Nat × (Option Addr × Nat) × List EV) (fun q => [(9, .int .i64 q.1), (8, .int .i64 l.length), (7, .slice ad l.length cap), (0, .pointer (some ⟨bx, 0, none⟩))]) (fun q => [row bx 58 (hdE mp xa xn xc s q.2.1.1 q.2.1.2 q.2.2.length), ownd s.oa s.oc 36 15 s.ops.length (s.ops.flatMap cOP), allF s.ops, ownd s.ta s.tc 3 1 s.at'.length (s.at'.flatMap cI), ownd q.2.1.1 q.2.1.2 47 5 q.2.2.length (q.2.2.flatMap cEV), allK q.2.2, mapR mp (bgV s.bg)]) (fun q => q.1 ≤ l.length ∧ q.2.2.map (·.v) = ((l.take q.1).map (·.v)).foldl addE (s.evs.map (·.v)) ∧ q.2.2.length ≤ 1000 + q.1 ∧ ∀ v ∈ q.2.2, BytK v.v.key) (fun q => l.length - q.1) (0, (s.ea, s.ec), s.evs) ⟨Nat.zero_le _, rfl, by show s.evs.length ≤ 1000 + 0; omega, hk⟩ ⟨rfl, rfl, rfl, rfl, trivial⟩ (fun w h => h) ?_
  rintro ⟨i, ⟨a1, c1⟩, evs⟩ jk ⟨hi, hev, hel, hkb⟩
  dsimp only at hi hev hel hkb ⊢
  by_cases hil : (i : Int) < l.length
  case neg =>
    have hin : i = l.length := by omega
    rw [hin, List.take_length] at hev
    (repeat (first | ((refine (?_ : MX _ _ _ _ _ _ _ _ _ _ _)); first | refine mx_end ?_ | (refine g_bin rfl ?_; ( (refine mx_cmpl .lss rfl rfl rfl rfl rfl (by exact cmp_lt_f (by omega) ) ?_) ) ) ) | refine cw_seq ?_ | refine cw_line rfl ?_ | refine cw_cond_f rfl ?_ | refine cw_exit ?_ | refine pw_then ?_ | refine pw_then_x ?_ | refine pw_block_e ?_ ))
    exact pw_ret0 rfl rfl fun w' hw => ⟨((a1, c1), ⟨evs, hev⟩), rfl, hw⟩
  obtain ⟨e, hx⟩ := getElem_some (xs := l) (i := i) (by omega)
  obtain ⟨b4, off, hadd, hcc⟩ := inl_at hl.1 hx
  have hS : ¬ domL (OJ bx mp xa xn xc s) b4 := hl.ns hN hadd (by intro e0; subst e0; simp at hx)
  subst hadd
  have hc0 : ∀ (k : Nat) (v : Value), (cEV e)[k]? = some v → w.cell? ⟨b4, off + i * 5 + k, none⟩ = some v := hcc
  have hee := he e (List.mem_of_getElem? hx)
  have hst : ((l.take (i + 1)).map (·.v)).foldl addE (s.evs.map (·.v)) = addE (evs.map (·.v)) e.v := by
    rw [List.take_add_one, hx, List.map_append, List.foldl_append, ← hev]
    rfl
  have hanv := any_v evs e.v
  (repeat (first | ((refine (?_ : MX _ _ _ _ _ _ _ _ _ _ _)); first | refine mx_end ?_ | (refine mx_mv _ rfl rfl (by conv => {lhs; whnf}) ?_) | (refine mx_as _ rfl rfl (by conv => {lhs; whnf}) ?_) | (first | refine mx_fa0 E rfl rfl rfl rfl ?_ | refine mx_fa E rfl rfl rfl rfl ?_) | (refine g_load rfl ?_; first | refine mx_get E rfl rfl rfl rfl rfl (by rfl) rfl ?_ | refine mx_oldn E rfl rfl rfl rfl rfl (by assumption) (by assumption) (rfl) rfl ?_ ) | (refine g_bin rfl ?_; ( (refine mx_cmpl .lss rfl rfl rfl rfl rfl (by exact cmp_lt_t (by omega) ) ?_) ) ) | (refine g_ix rfl ?_; refine mx_ixsn E rfl rfl rfl rfl rfl rfl (by omega) rfl ?_ ) | (refine mx_nc rfl rfl rfl ?_) | (refine g_store rfl ?_; refine s_l E rfl rfl rfl rfl rfl rfl rfl (by exact Sp.all rfl ) rfl ?_ ) | (refine a_new rfl rfl rfl rfl rfl (fun _ => ?_)) | ( refine mx_fn rfl rfl rfl rfl rfl rfl ?_) ) | refine cw_seq ?_ | refine cw_line rfl ?_ | refine cw_block ?_ | refine cw_cond_t rfl ?_ | refine cw_skip ?_ | refine pw_then ?_ ))
  rename_i be
  refine g_cf 48 rfl ?_
  cases hB : (evs.any fun x => decide (x.v = e.v)) with
  | true =>
    refine a_callv rfl rfl rfl rfl Try.func48 rfl rfl rfl (.bool true) (fun w' hw => has48 a1 c1 evs e be (by omega) hkb hee.2.1 true hB w' (own_in len_EV (hw.holds 5 _ rfl) (Nat.le_refl _)) (fun x hx => inK (hw.holds 6 _ rfl) hx) (hw.holds 0 _ rfl) (hee.1.keep hw hN).1) rfl ?_
    have hst2 : addE (evs.map (·.v)) e.v = evs.map (·.v) := by unfold addE; rw [← hanv, hB]; rfl
    (repeat (first | ((refine (?_ : MX _ _ _ _ _ _ _ _ _ _ _)); first | refine mx_end ?_ | (refine mx_mv _ rfl rfl (by conv => {lhs; whnf}) ?_) | (refine g_bin rfl ?_; ( refine mx_ar rfl rfl rfl rfl rfl rfl (IntWalk.i64_in _ (by omega)) rfl ?_ ) ) | (refine mx_not rfl rfl rfl ?_) ) | refine cw_line rfl ?_ | refine cw_cond_f rfl ?_ | refine cw_skip ?_ | refine pw_then ?_ | refine pw_block ?_ ))
    exact pw_round (i + 1, (a1, c1), evs) ⟨by show i + 1 ≤ l.length; omega, by rw [hst, hst2], by show evs.length ≤ 1000 + (i + 1); omega, hkb⟩ (by show l.length - (i + 1) < l.length - i; omega) ⟨rfl, rfl, rfl, rfl, trivial⟩ (fun w h => h.pick [1, 2, 3, 4, 5, 6, 7] (by simp) rfl)
  | false =>
    refine a_callv rfl rfl rfl rfl Try.func48 rfl rfl rfl (.bool false) (fun w' hw => has48 a1 c1 evs e be (by omega) hkb hee.2.1 false hB w' (own_in len_EV (hw.holds 5 _ rfl) (Nat.le_refl _)) (fun x hx => inK (hw.holds 6 _ rfl) hx) (hw.holds 0 _ rfl) (hee.1.keep hw hN).1) rfl ?_
    have hst2 : addE (evs.map (·.v)) e.v = evs.map (·.v) ++ [e.v] := by unfold addE; rw [← hanv, hB]; rfl
    (repeat (first | ((refine (?_ : MX _ _ _ _ _ _ _ _ _ _ _)); first | refine mx_end ?_ | ( refine mx_fa E rfl rfl rfl rfl ?_) | (refine g_load rfl ?_; refine mx_get E rfl rfl rfl rfl rfl (by rfl) rfl ?_ ) | (refine mx_not rfl rfl rfl ?_) ) | refine cw_seq ?_ | refine cw_line rfl ?_ | refine cw_cond_t rfl ?_ | refine pw_then ?_ ))
    refine g_cf 49 rfl ?_
    refine a_cn1 rfl rfl rfl rfl Try.func49 rfl rfl rfl (fun a : Option Addr × Nat => .slice a.1 e.v.key.length a.2) (fun a => ownd a.1 a.2 5 1 e.v.key.length (e.v.key.flatMap cU)) (fun w' hw => clone49 e.ka e.kc e.v.key (by have := hee.2.2; omega) w' (hee.1.keep hw hN).1) (fun _ => rfl) (fun _ _ _ => trivial) (fun a => ?_)
    obtain ⟨k1, k2⟩ := a
    dsimp only
    (repeat (first | ((refine (?_ : MX _ _ _ _ _ _ _ _ _ _ _)); first | refine mx_end ?_ | ( refine mx_fa E rfl rfl rfl rfl ?_) | (refine g_store rfl ?_; refine s_1 E rfl rfl rfl rfl rfl rfl rfl rfl (by exact Sp.lit rfl rfl) rfl ?_) ) | refine pw_then ?_ ))
    refine cw_weak (H' := [ownd k1 k2 5 1 e.v.key.length (e.v.key.flatMap cU), row be 47 [.int .i64 e.v.kind, .int .i64 e.v.map, .int .i64 e.v.index, .int .i64 e.v.cell, .slice k1 e.v.key.length k2], row bx 58 (hdE mp xa xn xc s a1 c1 evs.length), ownd s.oa s.oc 36 15 s.ops.length (s.ops.flatMap cOP), allF s.ops, ownd s.ta s.tc 3 1 s.at'.length (s.at'.flatMap cI), ownd a1 c1 47 5 evs.length (evs.flatMap cEV), allK evs, mapR mp (bgV s.bg)]) (fun w h => h) ?_
    refine cw_bar [0, 1, 2, 3, 4, 5, 6, 7, 8, 9, 10, 11] 12 [] (fun i => or (Nat.beq i 7) (or (Nat.beq i 8) (Nat.beq i 12))) [row be 47 [.int .i64 e.v.kind, .int .i64 e.v.map, .int .i64 e.v.index, .int .i64 e.v.cell, .slice k1 e.v.key.length k2], row bx 58 (hdE mp xa xn xc s a1 c1 evs.length)] (fun _ => True) mixed (by kernel_rfl) (fun w h => h.pick [1, 2] (by simp) rfl) ?_
    (repeat (((refine (?_ : MX _ _ _ _ _ _ _ _ _ _ _)); first | (refine mx_mv _ rfl rfl (by conv => {lhs; whnf}) ?_) | (first | refine mx_fa0 E rfl rfl rfl rfl ?_ | refine mx_fa E rfl rfl rfl rfl ?_) | (refine g_load rfl ?_; first | refine mx_get E rfl rfl rfl rfl rfl (by rfl) rfl ?_ | refine mx_getn E rfl rfl rfl rfl rfl (by exact Vr.all rfl ) rfl ?_ ) | (refine mx_nc rfl rfl rfl ?_) ) ))
    refine g_bs rfl ?_
    refine a_bslice1 E rfl rfl rfl rfl (us := cEV ⟨e.v, k1, k2⟩) rfl rfl rfl rfl rfl rfl (fun b9 => ?_)
    refine g_bi .append rfl ?_
    refine a_app E rfl rfl rfl rfl rfl rfl rfl rfl (cEV ⟨e.v, k1, k2⟩) rfl (fun w hw => fun _ => ⟨b9, 0, rfl, fun j u hj => by rw [add_at, Nat.zero_add]; exact row_cell (hw.holds 0 _ rfl) hj⟩) rfl (by omega) rfl (fun _ _ w h => h.pick [2, 3] (by simp) rfl) (fun a2 c2 => ?_)
    (repeat (((refine (?_ : MX _ _ _ _ _ _ _ _ _ _ _)); first | (first | refine mx_fa0 E rfl rfl rfl rfl ?_ | refine mx_fa E rfl rfl rfl rfl ?_) | (refine mx_nc rfl rfl rfl ?_) ) ))
    refine mx_bar (fun _ _ => trivial) ?_
    (repeat (first | ((refine (?_ : MX _ _ _ _ _ _ _ _ _ _ _)); first | refine mx_end ?_ | (refine mx_mv _ rfl rfl (by conv => {lhs; whnf}) ?_) | (refine g_bin rfl ?_; ( refine mx_ar rfl rfl rfl rfl rfl rfl (IntWalk.i64_in _ (by omega)) rfl ?_ ) ) | (refine g_store rfl ?_; refine s_1 E rfl rfl rfl rfl rfl rfl rfl rfl (by exact Sp.lit rfl rfl) rfl ?_) ) | refine cw_line rfl ?_ | refine pw_then ?_ | refine pw_block ?_ ))
    have e3 : evs.flatMap cEV ++ cEV ⟨e.v, k1, k2⟩ = (evs ++ [(⟨e.v, k1, k2⟩ : EV)]).flatMap cEV := by rw [List.flatMap_append]; rfl
    have e4 : (evs ++ [(⟨e.v, k1, k2⟩ : EV)]).length = evs.length + 1 := by simp
    have hI : i + 1 ≤ l.length ∧ (evs ++ [(⟨e.v, k1, k2⟩ : EV)]).map (·.v) = ((l.take (i + 1)).map (·.v)).foldl addE (s.evs.map (·.v)) ∧ (evs ++ [(⟨e.v, k1, k2⟩ : EV)]).length ≤ 1000 + (i + 1) ∧ ∀ v ∈ evs ++ [(⟨e.v, k1, k2⟩ : EV)], BytK v.v.key := by
      refine ⟨by omega, by rw [hst, hst2, List.map_append]; rfl, by omega, fun v hv => ?_⟩
      rcases List.mem_append.1 hv with h | h
      · exact hkb v h
      · obtain rfl := List.mem_singleton.1 h
        exact hee.2.1
    refine pw_weak (H' := [row bx 58 (hdE mp xa xn xc s a2 c2 (evs ++ [(⟨e.v, k1, k2⟩ : EV)]).length), ownd s.oa s.oc 36 15 s.ops.length (s.ops.flatMap cOP), allF s.ops, ownd s.ta s.tc 3 1 s.at'.length (s.at'.flatMap cI), ownd a2 c2 47 5 (evs ++ [(⟨e.v, k1, k2⟩ : EV)]).length ((evs ++ [(⟨e.v, k1, k2⟩ : EV)]).flatMap cEV), allK (evs ++ [(⟨e.v, k1, k2⟩ : EV)]), mapR mp (bgV s.bg)]) (fun w1 h => ?_) ?_
    · rw [e3, ← e4] at h
      have h5 := allK_snoc (o := (⟨e.v, k1, k2⟩ : EV)) (h.pick (H' := [ownd k1 k2 5 1 e.v.key.length (e.v.key.flatMap cU), allK evs, row bx 58 (hdE mp xa xn xc s a2 c2 (evs ++ [(⟨e.v, k1, k2⟩ : EV)]).length), ownd s.oa s.oc 36 15 s.ops.length (s.ops.flatMap cOP), allF s.ops, ownd s.ta s.tc 3 1 s.at'.length (s.at'.flatMap cI), ownd a2 c2 47 5 (evs ++ [(⟨e.v, k1, k2⟩ : EV)]).length ((evs ++ [(⟨e.v, k1, k2⟩ : EV)]).flatMap cEV), mapR mp (bgV s.bg)]) [1, 8, 3, 4, 5, 6, 7, 9] (by simp) rfl)
      exact h5.pick [1, 2, 3, 4, 5, 0, 6] (by simp) rfl
    · rw [← e4]
      exact pw_round (i + 1, (a2, c2), evs ++ [(⟨e.v, k1, k2⟩ : EV)]) hI (by show l.length - (i + 1) < l.length - i; omega) ⟨rfl, rfl, rfl, rfl, trivial⟩ (fun w h => h)
end Go.Proofs.Ytdkolggmabnifaa
