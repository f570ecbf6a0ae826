/- The document's cache: Forget, Get, Resize. -/
import Derived.Test.YtikdbgheefjpkaaQp
set_option maxRecDepth 100000
set_option maxHeartbeats 8000000
set_option linter.unusedSimpArgs false
set_option linter.unusedVariables false
namespace Go.Proofs.Ytikdbgheefjpkaa
open Go Go.Sx Go.RowKit
theorem b59n : Blt Try.prog 59 [] z59 := ⟨by kernel_rfl⟩
/-- What stays of what ran. -/
@[reducible] def woI (p : Int) (rl : List Int) : List Int := rl.filter fun q => decide (q ≠ p)
theorem forget74 (bx : Nat) (most : Int) (oa : Option Addr) (oc : Nat) (fs : List CD) (la : Option Addr) (lc : Nat) (rl : List Int) (p : Int) (hs : fs.length ≤ 100000) (hsl : rl.length ≤ 100000) (w : World) (hl : InL w oa 4 cCD fs) (hne : fs ≠ [] → ∀ b off, oa = some ⟨b, off, none⟩ → ¬ domL [row bx 106 (hdR most oa fs.length oc la rl.length lc)] b) (hll : InL w la 1 cI rl) (hlne : rl ≠ [] → ∀ b off, la = some ⟨b, off, none⟩ → ¬ domL [row bx 106 (hdR most oa fs.length oc la rl.length lc)] b) (h0 : Ok (domL [row bx 106 (hdR most oa fs.length oc la rl.length lc)]) w [row bx 106 (hdR most oa fs.length oc la rl.length lc)] w) :
    Calls Try.prog 74 #[.pointer (some ⟨bx, 0, none⟩), .int .i64 p] w fun e w' => ∃ a : (Option Addr × Nat) × (Option Addr × Nat), e = .returned (.tuple #[]) ∧ Ok (domL [row bx 106 (hdR most oa fs.length oc la rl.length lc)]) w [row bx 106 (hdR most a.1.1 (wo p fs).length a.1.2 a.2.1 (woI p rl).length a.2.2), ownd a.1.1 a.1.2 59 4 (wo p fs).length ((wo p fs).flatMap cCD), ownd a.2.1 a.2.2 3 1 (woI p rl).length ((woI p rl).flatMap cI)] w' := by
  refine enter2 (S := domL [row bx 106 (hdR most oa fs.length oc la rl.length lc)]) (H := [row bx 106 (hdR most oa fs.length oc la rl.length lc)]) 41 Try.func74 rfl rfl rfl h0 ?_
  (repeat (first | ((refine (?_ : MX _ _ _ _ _ _ _ _ _ _ _)); (refine mx_mv _ rfl rfl (by conv => {lhs; whnf}) ?_) ) | refine cw_seq ?_ | refine cw_line rfl ?_ ))
  refine g_cf 73 rfl ?_
  refine a_callL rfl rfl rfl rfl Try.func73 rfl rfl rfl [row bx 106 (hdR most oa fs.length oc la rl.length lc)] [] rfl (fun _ : Option Addr × Nat => .bool (decide ((wo p fs).length < fs.length))) (fun a => [row bx 106 (hdR most a.1 (wo p fs).length a.2 la rl.length lc), ownd a.1 a.2 59 4 (wo p fs).length ((wo p fs).flatMap cCD)]) (fun w' hw h => drop73 bx most oa oc fs la rl.length lc p _ rfl (by omega) w' (by
    intro hr
    obtain ⟨b, off, e, hc⟩ := hl hr
    exact ⟨b, off, e, fun i x hx j v hv => hw.old (hc i x hx j v hv) (hne hr b off e)⟩) hne h) (fun _ => rfl) (fun _ _ _ => trivial) (fun qd => ?_)
  obtain ⟨a0, c0⟩ := qd
  dsimp only
  refine mx_weak (H' := [row bx 106 (hdR most a0 (wo p fs).length c0 la rl.length lc), ownd a0 c0 59 4 (wo p fs).length ((wo p fs).flatMap cCD)]) (fun w h => h) (fun _ _ => trivial) ?_
  (repeat (first | ((refine (?_ : MX _ _ _ _ _ _ _ _ _ _ _)); first | refine mx_end ?_ | (refine mx_as _ rfl rfl (by conv => {lhs; whnf}) ?_) ) | refine cw_seq ?_ | refine cw_line rfl ?_ | refine cw_block ?_ | refine pw_then ?_ ))
  refine cw_loop (ι := Nat × (Option Addr × Nat)) (fun q => [(5, .int .i64 q.1), (4, .slice q.2.1 (woI p (rl.take q.1)).length q.2.2), (0, .pointer (some ⟨bx, 0, none⟩)), (1, .int .i64 p)]) (fun q => [ownd q.2.1 q.2.2 3 1 (woI p (rl.take q.1)).length ((woI p (rl.take q.1)).flatMap cI), row bx 106 (hdR most a0 (wo p fs).length c0 la rl.length lc), ownd a0 c0 59 4 (wo p fs).length ((wo p fs).flatMap cCD)]) (fun q => q.1 ≤ rl.length) (fun q => rl.length - q.1) (0, (none, 0)) (Nat.zero_le _) ⟨rfl, rfl, rfl, rfl, trivial⟩ (fun w h => h.own_nil 3 1) ?_
  rintro ⟨i, ⟨a1, c1⟩⟩ jk hi
  dsimp only at hi ⊢
  by_cases h1 : (i : Int) < rl.length
  case neg =>
    obtain rfl : i = rl.length := by omega
    rw [List.take_length]
    (repeat (first | ((refine (?_ : MX _ _ _ _ _ _ _ _ _ _ _)); first | refine mx_end ?_ | (refine mx_mv _ rfl rfl (by conv => {lhs; whnf}) ?_) | ( refine mx_fa E rfl rfl rfl rfl ?_) | (refine g_load rfl ?_; refine mx_get E rfl rfl rfl rfl rfl (by rfl) rfl ?_ ) | (refine g_bin rfl ?_; ( (refine mx_cmpl .lss rfl rfl rfl rfl rfl (by exact cmp_lt_f (by omega) ) ?_) ) ) | (refine mx_nc rfl rfl rfl ?_) | (refine g_bi .len rfl ?_; refine mx_len E rfl rfl rfl rfl ?_) | (refine g_store rfl ?_; refine s_1 E rfl rfl rfl rfl rfl rfl rfl rfl (by exact spS (spS sp0) ) rfl ?_) ) | refine cw_seq ?_ | refine cw_line rfl ?_ | refine cw_cond_f rfl ?_ | refine cw_exit ?_ | refine pw_then ?_ | refine pw_then_x ?_ | refine pw_block_e ?_ ))
    exact pw_ret0 rfl rfl fun w' hw => ⟨((a0, c0), (a1, c1)), rfl, hw.pick [1, 2, 0] (by simp) rfl⟩
  obtain ⟨x, hx⟩ := getElem_some (xs := rl) (i := i) (by omega)
  have hne' := hlne (by intro e; subst e; simp at hx)
  obtain ⟨b4, off, e, hcc⟩ := inl_at hll hx
  subst e
  have hS : ¬ (domL [row bx 106 (hdR most oa fs.length oc (some ⟨b4, off, none⟩) rl.length lc)] : Nat → Prop) b4 := hne' b4 off rfl
  have hc1 : w.cell? ⟨b4, off + i * 1, none⟩ = some (.int .i64 x) := hcc 0 _ rfl
  have htk : rl.take (i + 1) = rl.take i ++ [x] := by rw [List.take_add_one, hx]; rfl
  have hfl : (woI p (rl.take i)).length ≤ 100000 := by
    refine Nat.le_trans (List.length_filter_le ..) ?_
    rw [List.length_take]
    omega
  by_cases hk : x = p
  · have e2 : woI p (rl.take (i + 1)) = woI p (rl.take i) := by
      show (rl.take (i + 1)).filter _ = _
      rw [htk, List.filter_append, List.filter_cons_of_neg (by simp [hk])]; exact List.append_nil _
    (repeat (first | ((refine (?_ : MX _ _ _ _ _ _ _ _ _ _ _)); first | refine mx_end ?_ | (refine mx_mv _ rfl rfl (by conv => {lhs; whnf}) ?_) | (refine mx_as _ rfl rfl (by conv => {lhs; whnf}) ?_) | ( refine mx_fa E rfl rfl rfl rfl ?_) | (refine g_load rfl ?_; first | refine mx_get E rfl rfl rfl rfl rfl (by rfl) rfl ?_ | refine mx_old1 E rfl rfl rfl rfl rfl (by assumption) (by assumption) rfl ?_ ) | (refine g_bin rfl ?_; first | (first | (refine mx_cmpl .neq rfl rfl rfl rfl rfl (by exact cmp_ne_f (by omega) ) ?_) | (refine mx_cmpl .lss rfl rfl rfl rfl rfl (by exact cmp_lt_t (by omega) ) ?_) ) | ( refine mx_ar rfl rfl rfl rfl rfl rfl (IntWalk.i64_in _ (by omega)) rfl ?_ ) ) | (refine g_ix rfl ?_; refine mx_ixsn E rfl rfl rfl rfl rfl rfl (by omega) rfl ?_ ) | (refine mx_nc rfl rfl rfl ?_) | (refine g_bi .len rfl ?_; refine mx_len E rfl rfl rfl rfl ?_) ) | refine cw_seq ?_ | refine cw_line rfl ?_ | refine cw_block ?_ | refine cw_cond_f rfl ?_ | refine cw_cond_t rfl ?_ | refine cw_skip ?_ | refine pw_then ?_ | refine pw_block ?_ ))
    exact pw_round (i + 1, (a1, c1)) (by show i + 1 ≤ rl.length; omega) (by show rl.length - (i + 1) < rl.length - i; omega) (by dsimp only; rw [e2]; exact ⟨rfl, rfl, rfl, rfl, trivial⟩) (fun w h => by dsimp only; rw [e2]; exact h)
  · have e2 : woI p (rl.take (i + 1)) = woI p (rl.take i) ++ [x] := by
      show (rl.take (i + 1)).filter _ = _
      rw [htk, List.filter_append, List.filter_cons_of_pos (by simpa using hk)]; rfl
    have e3 : (woI p (rl.take i)).flatMap cI ++ [.int .i64 x] = (woI p (rl.take (i + 1))).flatMap cI := by rw [e2, List.flatMap_append]; simp
    have e4 : (woI p (rl.take i)).length + 1 = (woI p (rl.take (i + 1))).length := by rw [e2]; simp
    (repeat (first | ((refine (?_ : MX _ _ _ _ _ _ _ _ _ _ _)); first | refine mx_end ?_ | (refine mx_mv _ rfl rfl (by conv => {lhs; whnf}) ?_) | ( refine mx_fa E rfl rfl rfl rfl ?_) | (refine g_load rfl ?_; first | refine mx_get E rfl rfl rfl rfl rfl (by rfl) rfl ?_ | refine mx_old1 E rfl rfl rfl rfl rfl (by assumption) (by assumption) rfl ?_ ) | (refine g_bin rfl ?_; (first | (refine mx_cmpl .neq rfl rfl rfl rfl rfl (by exact cmp_ne_t (by omega) ) ?_) | (refine mx_cmpl .lss rfl rfl rfl rfl rfl (by exact cmp_lt_t (by omega) ) ?_) ) ) | (refine g_ix rfl ?_; refine mx_ixsn E rfl rfl rfl rfl rfl rfl (by omega) rfl ?_ ) | (refine mx_nc rfl rfl rfl ?_) | (refine g_bi .len rfl ?_; refine mx_len E rfl rfl rfl rfl ?_) | (refine g_bs rfl ?_; refine a_bsi E rfl rfl rfl rfl rfl (by (repeat (first | exact EvI.nil | (apply EvI.cons; rfl)))) (by rfl) (by rfl) (by rfl) rfl (fun _ => ?_)) ) | refine cw_seq ?_ | refine cw_line rfl ?_ | refine cw_block ?_ | refine cw_cond_t rfl ?_ | refine cw_skip ?_ | refine pw_then ?_ ))
    rename_i b9
    refine g_bi .append rfl ?_
    refine a_app E rfl rfl rfl rfl rfl rfl rfl rfl [.int .i64 x] rfl (fun w hw => fun _ => ⟨b9, 0, rfl, fun j u hj => by rw [add_at, Nat.zero_add]; exact row_cell (hw.holds 0 _ rfl) hj⟩) rfl (by omega) rfl (fun _ _ _ _ => trivial) (fun a2 c2 => ?_)
    rw [e3, e4]
    (repeat (first | ((refine (?_ : MX _ _ _ _ _ _ _ _ _ _ _)); first | refine mx_end ?_ | (refine mx_mv _ rfl rfl (by conv => {lhs; whnf}) ?_) | (refine mx_as _ rfl rfl (by conv => {lhs; whnf}) ?_) | (refine g_bin rfl ?_; ( refine mx_ar rfl rfl rfl rfl rfl rfl (IntWalk.i64_in _ (by omega)) rfl ?_ ) ) ) | refine cw_line rfl ?_ | refine pw_then ?_ | refine pw_block ?_ ))
    exact pw_round (i + 1, (a2, c2)) (by show i + 1 ≤ rl.length; omega) (by show rl.length - (i + 1) < rl.length - i; omega) ⟨rfl, rfl, rfl, rfl, trivial⟩ (fun w h => h.pick [1, 2, 3] (by simp) rfl)
/-! ### Get -/
theorem getV_no {p : Int} {L : List VC} (h : ∀ v ∈ L, v.prog ≠ p) : getV p L = zeroV ∧ hasV p L = false := by
  refine ⟨?_, List.any_eq_false.2 fun v hv => by simpa using h v hv⟩
  unfold getV
  rw [List.find?_eq_none.2 (fun v hv => by simpa using h v hv)]
  rfl
theorem getV_at {p : Int} {L : List VC} {i : Nat} {v : VC} (h : ∀ u ∈ L.take i, u.prog ≠ p) (hv : L[i]? = some v) (hp : v.prog = p) : getV p L = v ∧ hasV p L = true := by
  have hm := List.mem_of_getElem? hv
  refine ⟨?_, List.any_eq_true.2 ⟨v, hm, decide_eq_true hp⟩⟩
  have e : L = L.take i ++ v :: L.drop (i + 1) := by
    have hil : i < L.length := (List.getElem?_eq_some_iff.1 hv).1
    have h2 : L[i] = v := (List.getElem?_eq_some_iff.1 hv).2
    conv => lhs; rw [← List.take_append_drop i L, List.drop_eq_getElem_cons hil, h2]
  unfold getV
  rw [e, List.find?_append, List.find?_eq_none.2 (fun u hu => by simpa using h u hu), List.find?_cons_of_pos (by simpa using hp)]
  rfl
theorem RdD.keep0 {w0 w : World} {H : List Res} {c : CD} (h : RdD w0 c) (hw : Ok (domL []) w0 H w) : RdD w c := ⟨h.o.keep' hw fun _ _ _ _ => no_dom _, fun x hx => ⟨(h.os x hx).1.keep' hw fun _ _ _ _ => no_dom _, (h.os x hx).2.1.keep' hw fun _ _ _ _ => no_dom _, (h.os x hx).2.2⟩, h.t.keep' hw fun _ _ _ _ => no_dom _, h.e.keep' hw fun _ _ _ _ => no_dom _, fun x hx => ⟨(h.es x hx).1.keep' hw fun _ _ _ _ => no_dom _, (h.es x hx).2⟩⟩
theorem get44 (bx : Nat) (v0 v2 : Value) (oa : Option Addr) (oc : Nat) (fs : List CD) (hs : fs.length ≤ 100000) (p : Int) (v : VC) (b : Bool) (hv : getV p (fs.map CD.vc) = v ∧ hasV p (fs.map CD.vc) = b) (w : World) (h1 : (row bx 106 [v0, .slice oa fs.length oc, v2]).holds w) (hl : InL w oa 4 cCD fs) (hr : ∀ c ∈ fs, OkF c.vc ∧ RdD w c) :
    Calls Try.prog 44 #[.pointer (some ⟨bx, 0, none⟩), .int .i64 p] w fun e w' => ∃ a : {a : CD // a.vc = v}, e = .returned (.tuple #[.agg (cCD a.1).toArray, .bool b]) ∧ Ok (domL []) w (OCd a.1) w' := by
  refine enter2 (S := domL []) 35 Try.func44 rfl rfl rfl (Ok.start w) ?_
  have hS0 : ¬ (domL [] : Nat → Prop) bx := no_dom _
  (repeat (first | ((refine (?_ : MX _ _ _ _ _ _ _ _ _ _ _)); first | refine mx_end ?_ | (refine mx_as _ rfl rfl (by conv => {lhs; whnf}) ?_) | (refine a_new rfl rfl rfl rfl rfl (fun _ => ?_)) ) | refine cw_seq ?_ | refine cw_line rfl ?_ | refine cw_block ?_ | refine pw_then ?_ ))
  rename_i b4
  refine cw_loop (ι := Nat) (fun i => [(6, .int .i64 i), (4, .pointer (some ⟨b4, 0, none⟩)), (0, .pointer (some ⟨bx, 0, none⟩)), (1, .int .i64 p)]) (fun i => [row b4 59 z59]) (fun i => i ≤ fs.length ∧ ∀ u ∈ (fs.map CD.vc).take i, u.prog ≠ p) (fun i => fs.length - i) 0 ⟨Nat.zero_le _, by simp⟩ ⟨rfl, rfl, rfl, rfl, trivial⟩ (fun w h => h) ?_
  intro i jk ⟨hi, hI⟩
  by_cases h2 : (i : Int) < fs.length
  case neg =>
    obtain rfl : i = fs.length := by omega
    rw [List.take_of_length_le (by simp)] at hI
    obtain ⟨e1, e2⟩ := getV_no hI
    obtain ⟨rfl, rfl⟩ := hv
    rw [e2]
    (repeat (first | ((refine (?_ : MX _ _ _ _ _ _ _ _ _ _ _)); first | refine mx_end ?_ | (refine mx_mv _ rfl rfl (by conv => {lhs; whnf}) ?_) | (refine mx_as _ rfl rfl (by conv => {lhs; whnf}) ?_) | ( refine mx_fa E rfl rfl rfl rfl ?_) | (refine g_load rfl ?_; refine mx_orow E rfl rfl rfl rfl rfl (by assumption) (by assumption) (by rfl) rfl ?_ ) | (refine g_bin rfl ?_; ( (refine mx_cmpl .lss rfl rfl rfl rfl rfl (by exact cmp_lt_f (by omega) ) ?_) ) ) | (refine mx_nc rfl rfl rfl ?_) | (refine g_bi .len rfl ?_; refine mx_len E rfl rfl rfl rfl ?_) | (refine g_store rfl ?_; refine s_l E rfl rfl rfl rfl rfl rfl rfl (by exact Sp.all rfl ) rfl ?_ ) | (refine g_build rfl ?_; refine mx_build rfl rfl rfl rfl b59n rfl ?_) ) | refine cw_seq ?_ | refine cw_line rfl ?_ | refine cw_cond_f rfl ?_ | refine cw_exit ?_ | refine cw_ret ?_ | refine pw_then ?_ | refine pw_then_x ?_ | refine pw_block_e ?_ ))
    exact pw_retcs E (j := 0) rfl rfl rfl rfl rfl rfl rfl fun w' hw => ⟨⟨zeroC, by rw [e1]; rfl⟩, rfl, (allF_nil (((allK_nil (hw.own_nil 49 5)).own_nil 3 1).own_nil 112 15)).pick [1, 0, 2, 4, 3] (by simp) rfl⟩
  obtain ⟨x, hx⟩ := getElem_some (xs := fs) (i := i) (by omega)
  have hxm := List.mem_of_getElem? hx
  obtain ⟨hok, hrd⟩ := hr x hxm
  obtain ⟨b5, off, e, hcc⟩ := inl_at hl hx
  subst e
  have hS : ¬ (domL [] : Nat → Prop) b5 := no_dom _
  have hc0 : ∀ (k : Nat) (v : Value), (cCD x)[k]? = some v → w.cell? ⟨b5, off + i * 4 + k, none⟩ = some v := hcc
  have hc1 : w.cell? ⟨b5, off + i * 4, none⟩ = some (.int .i64 x.prog) := hcc 0 _ rfl
  have hxv : (fs.map CD.vc)[i]? = some x.vc := by rw [List.getElem?_map, hx]; rfl
  by_cases hp : x.prog = p
  · obtain ⟨e1, e2⟩ := getV_at hI hxv hp
    obtain ⟨rfl, rfl⟩ := hv
    rw [e1, e2]
    (repeat (first | ((refine (?_ : MX _ _ _ _ _ _ _ _ _ _ _)); first | refine mx_end ?_ | (refine mx_mv _ rfl rfl (by conv => {lhs; whnf}) ?_) | (first | refine mx_fa0 E rfl rfl rfl rfl ?_ | refine mx_fa E rfl rfl rfl rfl ?_) | (refine g_load rfl ?_; first | refine mx_oldn E rfl rfl rfl rfl rfl (by assumption) (by assumption) (rfl) rfl ?_ | refine mx_old1 E rfl rfl rfl rfl rfl (by assumption) (by assumption) rfl ?_ | refine mx_orow E rfl rfl rfl rfl rfl (by assumption) (by assumption) (by rfl) rfl ?_ ) | (refine g_bin rfl ?_; (first | (refine mx_cmpl .eql rfl rfl rfl rfl rfl (by exact cmp_eq_t (by omega) ) ?_) | (refine mx_cmpl .lss rfl rfl rfl rfl rfl (by exact cmp_lt_t (by omega) ) ?_) ) ) | (refine g_ix rfl ?_; refine mx_ixsn E rfl rfl rfl rfl rfl rfl (by omega) rfl ?_ ) | (refine mx_nc rfl rfl rfl ?_) | (refine g_bi .len rfl ?_; refine mx_len E rfl rfl rfl rfl ?_) ) | refine cw_seq ?_ | refine cw_line rfl ?_ | refine cw_block ?_ | refine cw_cond_t rfl ?_ | refine cw_skip ?_ | refine pw_then ?_ ))
    refine g_cf 71 rfl ?_
    refine a_callL rfl rfl rfl rfl Try.func71 rfl rfl rfl [] _ rfl (fun a : {y : CD // y.vc = x.vc} => .agg (cCD a.1).toArray) (fun a => OCd a.1) (fun w' hw _ => copyC71 x (by
      have h1 := hok.o
      have h2 := hok.t
      have h3 := hok.e
      rw [show x.vc.ops.length = x.ops.length from List.length_map ..] at h1
      rw [show x.vc.evs.length = x.evs.length from List.length_map ..] at h3
      rw [show x.vc.at' = x.at' from rfl] at h2
      omega) w' (hrd.keep0 hw)) (fun _ => rfl) (fun _ _ _ => trivial) (fun qa => ?_)
    obtain ⟨a, ha⟩ := qa
    unfold OCd
    dsimp only [List.cons_append, List.nil_append]
    (repeat (first | ((refine (?_ : MX _ _ _ _ _ _ _ _ _ _ _)); first | refine mx_end ?_ | (refine mx_as _ rfl rfl (by conv => {lhs; whnf}) ?_) | (refine g_store rfl ?_; refine s_l E rfl rfl rfl rfl rfl rfl rfl (by exact Sp.all rfl ) rfl ?_ ) ) | refine cw_ret ?_ | refine pw_then ?_ | refine pw_then_r ?_ | refine pw_block_r ?_))
    exact pw_retcs E (j := 5) rfl rfl rfl rfl rfl rfl rfl fun w' hw => ⟨⟨a, ha⟩, rfl, hw.pick [0, 1, 2, 3, 4] (by simp) rfl⟩
  · have hI2 : ∀ u ∈ (fs.map CD.vc).take (i + 1), u.prog ≠ p := fun u hu => by
      rw [List.take_add_one, hxv] at hu
      rcases List.mem_append.1 hu with h | h
      · exact hI u h
      · obtain rfl : u = x.vc := by simpa using h
        exact hp
    (repeat (first | ((refine (?_ : MX _ _ _ _ _ _ _ _ _ _ _)); first | refine mx_end ?_ | (refine mx_mv _ rfl rfl (by conv => {lhs; whnf}) ?_) | (refine mx_as _ rfl rfl (by conv => {lhs; whnf}) ?_) | (first | refine mx_fa0 E rfl rfl rfl rfl ?_ | refine mx_fa E rfl rfl rfl rfl ?_) | (refine g_load rfl ?_; first | refine mx_old1 E rfl rfl rfl rfl rfl (by assumption) (by assumption) rfl ?_ | refine mx_orow E rfl rfl rfl rfl rfl (by assumption) (by assumption) (by rfl) rfl ?_ ) | (refine g_bin rfl ?_; first | (first | (refine mx_cmpl .eql rfl rfl rfl rfl rfl (by exact cmp_eq_f (by omega) ) ?_) | (refine mx_cmpl .lss rfl rfl rfl rfl rfl (by exact cmp_lt_t (by omega) ) ?_) ) | ( refine mx_ar rfl rfl rfl rfl rfl rfl (IntWalk.i64_in _ (by omega)) rfl ?_ ) ) | (refine g_ix rfl ?_; refine mx_ixsn E rfl rfl rfl rfl rfl rfl (by omega) rfl ?_ ) | (refine mx_nc rfl rfl rfl ?_) | (refine g_bi .len rfl ?_; refine mx_len E rfl rfl rfl rfl ?_) ) | refine cw_seq ?_ | refine cw_line rfl ?_ | refine cw_block ?_ | refine cw_cond_f rfl ?_ | refine cw_cond_t rfl ?_ | refine cw_skip ?_ | refine pw_then ?_ | refine pw_block ?_ ))
    exact pw_round (i + 1) ⟨by omega, hI2⟩ (by omega) ⟨rfl, rfl, rfl, rfl, trivial⟩ (fun w h => h)
/-! ### Resize -/
def resD (r : Int → Int) (most : Int) : Nat → List CD → List Int × List CD
  | 0, L => ([], L)
  | n + 1, L => if (L.length : Int) > most then (evV r (L.map CD.prog) :: (resD r most n (wo (evV r (L.map CD.prog)) L)).1, (resD r most n (wo (evV r (L.map CD.prog)) L)).2) else ([], L)
theorem may_t (p : Int) (fs : List CD) : may true p fs = fs.map CD.prog := by
  unfold may
  exact List.filter_eq_self.2 (fun _ _ => rfl)
structure ZR where
  gs : List CD
  oa : Option Addr
  oc : Nat
  out : List Int
  a : Option Addr
  c : Nat
theorem resize75 (bx : Nat) (most : Int) (oa : Option Addr) (oc : Nat) (fs : List CD) (la : Option Addr) (lc : Nat) (rl : List Int) (hs : fs.length ≤ 1000) (hsl : rl.length ≤ 100000) (n m : Int) (hm : max 0 n = m) (gone : List Int) (left : List CD) (hres : resD (fun q => cnt q rl) m fs.length fs = (gone, left)) (w : World) (hnd : (fs.map CD.prog).Nodup) (hll : InL w la 1 cI rl) (hlne : rl ≠ [] → ∀ b off, la = some ⟨b, off, none⟩ → ¬ domL [row bx 106 (hdR most oa fs.length oc la rl.length lc), ownd oa oc 59 4 fs.length (fs.flatMap cCD)] b) (h0 : Ok (domL [row bx 106 (hdR most oa fs.length oc la rl.length lc), ownd oa oc 59 4 fs.length (fs.flatMap cCD)]) w [row bx 106 (hdR most oa fs.length oc la rl.length lc), ownd oa oc 59 4 fs.length (fs.flatMap cCD)] w) :
    Calls Try.prog 75 #[.pointer (some ⟨bx, 0, none⟩), .int .i64 n] w fun e w' => ∃ a : (Option Addr × Nat) × (Option Addr × Nat), e = .returned (.slice a.1.1 gone.length a.1.2) ∧ Ok (domL [row bx 106 (hdR most oa fs.length oc la rl.length lc), ownd oa oc 59 4 fs.length (fs.flatMap cCD)]) w [ownd a.1.1 a.1.2 3 1 gone.length (gone.flatMap cI), row bx 106 (hdR m a.2.1 left.length a.2.2 la rl.length lc), ownd a.2.1 a.2.2 59 4 left.length (left.flatMap cCD)] w' := by
  refine enter2 (S := domL [row bx 106 (hdR most oa fs.length oc la rl.length lc), ownd oa oc 59 4 fs.length (fs.flatMap cCD)]) (H := [row bx 106 (hdR most oa fs.length oc la rl.length lc), ownd oa oc 59 4 fs.length (fs.flatMap cCD)]) 32 Try.func75 rfl rfl rfl h0 ?_
  (repeat (first | ((refine (?_ : MX _ _ _ _ _ _ _ _ _ _ _)); first | refine mx_end ?_ | (refine mx_mv _ rfl rfl (by conv => {lhs; whnf}) ?_) | (refine mx_as _ rfl rfl (by conv => {lhs; whnf}) ?_) | (refine mx_fa0 E rfl rfl rfl rfl ?_ ) | (refine mx_nc rfl rfl rfl ?_) | (refine g_store rfl ?_; refine s_1 E rfl rfl rfl rfl rfl rfl rfl rfl (by exact sp0 ) rfl ?_) | ((refine g_bi .max rfl ?_; refine mx_maxi rfl rfl rfl rfl rfl rfl rfl ?_) ) ) | refine cw_seq ?_ | refine cw_line rfl ?_ | refine cw_block ?_ | refine pw_then ?_ ))
  subst hm
  generalize hm : max 0 n = m at *
  refine cw_loop (ι := ZR) (fun q => [(5, .slice q.a q.out.length q.c), (0, .pointer (some ⟨bx, 0, none⟩))]) (fun q => [row bx 106 (hdR m q.oa q.gs.length q.oc la rl.length lc), ownd q.oa q.oc 59 4 q.gs.length (q.gs.flatMap cCD), ownd q.a q.c 3 1 q.out.length (q.out.flatMap cI)]) (fun q => (q.gs.map CD.prog).Nodup ∧ q.out.length + q.gs.length ≤ 1000 ∧ q.out ++ (resD (fun q => cnt q rl) m q.gs.length q.gs).1 = gone ∧ (resD (fun q => cnt q rl) m q.gs.length q.gs).2 = left) (fun q => q.gs.length) ⟨fs, oa, oc, [], none, 0⟩ ⟨hnd, by simpa using hs, by show [] ++ (resD _ m fs.length fs).1 = gone; rw [hres]; rfl, by show (resD _ m fs.length fs).2 = left; rw [hres]⟩ ⟨rfl, rfl, trivial⟩ (fun w h => (h.own_nil 3 1).pick [1, 2, 0] (by simp) rfl) ?_
  rintro ⟨gs, oa1, oc1, out, a1, c1⟩ jk ⟨hg, hol, hr1, hr2⟩
  dsimp only at hg hol hr1 hr2 ⊢
  (repeat ( refine cw_seq ?_ ))
  refine cw_drawm [0, 1, 2, 3, 4, 5, 6, 7, 8, 9] (fun i => false) [row bx 106 (hdR m oa1 gs.length oc1 la rl.length lc)] mixed (by kernel_rfl) (fun w h => h.only 0 rfl) ?_
  by_cases hgt : (gs.length : Int) > m
  case neg =>
    have hstop : resD (fun q => cnt q rl) m gs.length gs = ([], gs) := by
      cases hgl : gs.length with
      | zero => rfl
      | succ k =>
        unfold resD
        rw [if_neg (by omega)]
    rw [hstop] at hr1 hr2
    rw [List.append_nil] at hr1
    obtain rfl : out = gone := hr1
    obtain rfl : gs = left := hr2
    (repeat (first | ((refine (?_ : MX _ _ _ _ _ _ _ _ _ _ _)); first | refine mx_end ?_ | (refine mx_mv _ rfl rfl (by conv => {lhs; whnf}) ?_) | (refine mx_as _ rfl rfl (by conv => {lhs; whnf}) ?_) | (first | refine mx_fa0 E rfl rfl rfl rfl ?_ | refine mx_fa E rfl rfl rfl rfl ?_) | (refine g_load rfl ?_; refine mx_get E rfl rfl rfl rfl rfl (by rfl) rfl ?_ ) | (refine g_bin rfl ?_; ( (refine mx_cmpl .gtr rfl rfl rfl rfl rfl (by exact cmp_gt_f (by omega) ) ?_) ) ) | (refine mx_nc rfl rfl rfl ?_) | (refine g_bi .len rfl ?_; refine mx_len E rfl rfl rfl rfl ?_) ) | refine cw_seq ?_ | refine cw_line rfl ?_ | refine cw_cond_f rfl ?_ | refine cw_exit ?_ | refine cw_ret ?_ | refine pw_then ?_ | refine pw_then_x ?_ | refine pw_block_e ?_ ))
    exact pw_ret rfl rfl rfl rfl fun w' hw => ⟨((a1, c1), (oa1, oc1)), rfl, hw.pick [2, 0, 1] (by simp) rfl⟩
  obtain ⟨k, hk1⟩ : ∃ k, gs.length = k + 1 := ⟨gs.length - 1, by omega⟩
  obtain ⟨g, hgv⟩ : ∃ g, evV (fun q => cnt q rl) (gs.map CD.prog) = g := ⟨_, rfl⟩
  have hne : gs.map CD.prog ≠ [] := fun e => by have := congrArg List.length e; simp at this; rw [this] at hk1; simp at hk1
  have hin : g ∈ gs.map CD.prog := by rw [← hgv]; exact evV_in hne
  have hdl : (wo g gs).length + 1 = gs.length := del_len hg hin
  have hstep : resD (fun q => cnt q rl) m gs.length gs = (g :: (resD (fun q => cnt q rl) m k (wo g gs)).1, (resD (fun q => cnt q rl) m k (wo g gs)).2) := by
    rw [hk1]
    conv => lhs; unfold resD
    rw [if_pos hgt, hgv]
  rw [hstep] at hr1 hr2
  dsimp only at hr1 hr2
  obtain rfl : k = (wo g gs).length := by omega
  have hnd2 : ((wo g gs).map CD.prog).Nodup := hg.sublist (List.filter_sublist.map _)
  (repeat (first | ((refine (?_ : MX _ _ _ _ _ _ _ _ _ _ _)); first | refine mx_end ?_ | (refine mx_mv _ rfl rfl (by conv => {lhs; whnf}) ?_) | (first | refine mx_fa0 E rfl rfl rfl rfl ?_ | refine mx_fa E rfl rfl rfl rfl ?_) | (refine g_load rfl ?_; refine mx_get E rfl rfl rfl rfl rfl (by rfl) rfl ?_ ) | (refine g_bin rfl ?_; ( (refine mx_cmpl .gtr rfl rfl rfl rfl rfl (by exact cmp_gt_t (by omega) ) ?_) ) ) | (refine mx_nc rfl rfl rfl ?_) | (refine g_bi .len rfl ?_; refine mx_len E rfl rfl rfl rfl ?_) ) | refine cw_seq ?_ | refine cw_line rfl ?_ | refine cw_block ?_ | refine cw_cond_t rfl ?_ | refine cw_skip ?_ | refine pw_then ?_ ))
  refine g_cf 96 rfl ?_
  refine a_callv rfl rfl rfl rfl Try.func96 rfl rfl rfl (.int .i64 g) (fun w' hw => who96 bx _ oa1 oc1 gs la lc rl (by omega) hsl 0 true (by rw [may_t]; exact hne) g (by rw [may_t]; exact hgv) w' (hw.holds 0 _ rfl) (own_in len_CD (hw.holds 1 _ rfl) (Nat.le_refl _)) (by
    intro hr
    obtain ⟨b, off, e, hc⟩ := hll hr
    exact ⟨b, off, e, fun i x hx j v hv => hw.old (hc i x hx j v hv) (hlne hr b off e)⟩)) rfl ?_
  (repeat (first | ((refine (?_ : MX _ _ _ _ _ _ _ _ _ _ _)); first | refine mx_end ?_ | (refine mx_mv _ rfl rfl (by conv => {lhs; whnf}) ?_) | (refine mx_as _ rfl rfl (by conv => {lhs; whnf}) ?_) ) | refine cw_seq ?_ | refine cw_line rfl ?_ | refine pw_then ?_ ))
  refine g_cf 73 rfl ?_
  refine a_callL rfl rfl rfl rfl Try.func73 rfl rfl rfl [row bx 106 (hdR m oa1 gs.length oc1 la rl.length lc)] [ownd oa1 oc1 59 4 gs.length (gs.flatMap cCD), ownd a1 c1 3 1 out.length (out.flatMap cI)] rfl (fun _ : Option Addr × Nat => .bool (decide ((wo g gs).length < gs.length))) (fun a => [row bx 106 (hdR m a.1 (wo g gs).length a.2 la rl.length lc), ownd a.1 a.2 59 4 (wo g gs).length ((wo g gs).flatMap cCD)]) (fun w' hw h => drop73 bx m oa1 oc1 gs la rl.length lc g _ rfl (by omega) w' (own_in len_CD (hw.holds 1 _ rfl) (Nat.le_refl _)) (fun hne => sepRO hw 0 1 rfl rfl (by decide) (List.length_pos_iff.2 hne)) h) (fun _ => rfl) (fun _ _ _ => trivial) (fun qz => ?_)
  obtain ⟨a5, c5⟩ := qz
  refine mx_weak (H' := [row bx 106 (hdR m a5 (wo g gs).length c5 la rl.length lc), ownd a5 c5 59 4 (wo g gs).length ((wo g gs).flatMap cCD), ownd a1 c1 3 1 out.length (out.flatMap cI)]) (fun w h => h.pick [0, 1, 3] (by simp) rfl) (fun _ _ => trivial) ?_
  (repeat (first | ((refine (?_ : MX _ _ _ _ _ _ _ _ _ _ _)); first | refine mx_end ?_ | (refine mx_mv _ rfl rfl (by conv => {lhs; whnf}) ?_) | (refine g_bs rfl ?_; refine a_bsi E rfl rfl rfl rfl rfl (by (repeat (first | exact EvI.nil | (apply EvI.cons; rfl)))) (by rfl) (by rfl) (by rfl) rfl (fun _ => ?_)) ) | refine cw_line rfl ?_ | refine pw_then ?_ ))
  rename_i b9
  refine g_bi .append rfl ?_
  refine a_app E rfl rfl rfl rfl rfl rfl rfl rfl [.int .i64 g] rfl (fun w hw => fun _ => ⟨b9, 0, rfl, fun j u hj => by rw [add_at, Nat.zero_add]; exact row_cell (hw.holds 0 _ rfl) hj⟩) rfl (by omega) rfl (fun _ _ _ _ => trivial) (fun a3 c3 => ?_)
  have e3 : out.flatMap cI ++ [.int .i64 g] = (out ++ [g]).flatMap cI := by rw [List.flatMap_append]; simp
  have e4 : out.length + 1 = (out ++ [g]).length := by simp
  rw [e3, e4]
  (repeat (first | ((refine (?_ : MX _ _ _ _ _ _ _ _ _ _ _)); first | refine mx_end ?_ | (refine mx_as _ rfl rfl (by conv => {lhs; whnf}) ?_) ) | refine pw_block ?_ ))
  exact pw_round ⟨wo g gs, a5, c5, out ++ [g], a3, c3⟩ ⟨hnd2, by show (out ++ [g]).length + (wo g gs).length ≤ 1000; rw [← e4]; omega, by
    show (out ++ [g]) ++ _ = gone
    rw [List.append_assoc]
    exact hr1, hr2⟩ (by show (wo g gs).length < gs.length; omega) ⟨rfl, rfl, trivial⟩ (fun w h => h.pick [1, 2, 3] (by simp) rfl)
end Go.Proofs.Ytikdbgheefjpkaa
