/- The program's cells: those that were dropped, how many there are, their bytes. -/
import Derived.Test.YtfekmflnfhjebaaCe
set_option maxRecDepth 100000
set_option maxHeartbeats 8000000
set_option linter.unusedSimpArgs false
set_option linter.unusedVariables false
namespace Go.Proofs.Ytfekmflnfhjebaa
open Go Go.Sx Go.RowKit
def lc (k : Int) (cs : List PC) : Option PC := cs.find? fun c => decide (c.id = k)
theorem fnd_lc (k : Int) : ∀ (cs : List PC) (i : Nat), (fnd k (kvC cs) i).map (·.2) = (lc k cs).map fun c => Value.pointer (some ⟨c.p, 0, none⟩)
  | [], _ => rfl
  | c :: cs, i => by
    have ih := fnd_lc k cs (i + 1)
    show (fnd k ((c.id, _) :: kvC cs) i).map (·.2) = _
    unfold fnd lc
    by_cases h : c.id = k
    · simp [h]
    · simp only [h, if_false, List.find?_cons, decide_false]
      exact ih
theorem look_some {k : Int} {cs : List PC} {c : PC} (h : lc k cs = some c) : lookV (.pointer none) k (kvC cs) = .tuple #[.pointer (some ⟨c.p, 0, none⟩), .bool true] := by
  have := fnd_lc k cs 0
  rw [h] at this
  unfold lookV
  cases hf : fnd k (kvC cs) 0 with
  | none => rw [hf] at this; simp at this
  | some q => rw [hf] at this; simp at this; simp [this]
theorem look_none {k : Int} {cs : List PC} (h : lc k cs = none) : lookV (.pointer none) k (kvC cs) = .tuple #[.pointer none, .bool false] := by
  have := fnd_lc k cs 0
  rw [h] at this
  unfold lookV
  cases hf : fnd k (kvC cs) 0 with
  | none => rfl
  | some q => rw [hf] at this; simp at this
theorem lc_mem {k : Int} {cs : List PC} {c : PC} (h : lc k cs = some c) : c ∈ cs ∧ c.id = k := ⟨List.mem_of_find?_eq_some h, by simpa using List.find?_some h⟩
theorem Ok.oldM {S : Nat → Prop} {w0 w : World} {H : List Res} {r : Nat} {m : List (Int × Value)} (h : Ok S w0 H w) (hr : (mapR r m).holds w0) (hS : ¬ S r) : (mapR r m).holds w := by
  obtain ⟨es, clock, h1, h2⟩ := hr
  exact ⟨es, clock, (h.keep.old r (Array.getElem?_eq_some_iff.1 h1).1 hS).trans h1, h2⟩
theorem all_lt {cs : List PC} {w : World} (h : (allC cs).holds w) (b : Nat) (hb : (allC cs).dom b) : b < w.heap.size := by
  obtain ⟨q, hq, hb⟩ := domL_mem hb
  obtain ⟨c, hc, hq'⟩ := List.mem_flatMap.1 hq
  have hh := star_holds h hq
  simp only [RC, List.mem_cons, List.not_mem_nil, or_false] at hq'
  rcases hq' with rfl | rfl
  · exact row_lt hh b hb
  · exact own_lt hh b hb
theorem oldA {S : Nat → Prop} {w0 w : World} {H : List Res} {cs : List PC} (h : Ok S w0 H w) (hr : (allC cs).holds w0) (hS : ∀ b, ¬ S b) : (allC cs).holds w :=
  (allC cs).loc w0 w (fun b hb => h.keep.old b (all_lt hr b hb) (hS b)) hr
theorem no_dom (b : Nat) : ¬ domL [] b := fun h => by
  obtain ⟨_, hr, _⟩ := domL_mem h
  cases hr
def isG (cs : List PC) (k : Int) : Bool := match lc k cs with
  | some c => c.dr
  | none => false
def goneTo (cs : List PC) (k : Nat) : List Int := ((List.range k).map fun i => ((i + 1 : Nat) : Int)).filter (isG cs)
theorem goneTo_s (cs : List PC) (k : Nat) : goneTo cs (k + 1) = goneTo cs k ++ if isG cs ((k + 1 : Nat) : Int) then [((k + 1 : Nat) : Int)] else [] := by
  unfold goneTo
  rw [List.range_succ, List.map_append, List.filter_append]
  congr 1
  simp [List.filter_cons]
theorem goneTo_len (cs : List PC) (k : Nat) : (goneTo cs k).length ≤ k := by
  unfold goneTo
  refine Nat.le_trans (List.length_filter_le _ _) (by simp)
theorem len_I (x : Int) : (cI x).length = 1 := rfl
theorem one_I (xs : List Int) : (xs.flatMap cI).all (·.oneCell') = true := by
  rw [List.all_eq_true]
  intro x hx
  obtain ⟨a, _, h⟩ := List.mem_flatMap.1 hx
  simp at h
  subst h
  rfl
theorem inC {cs : List PC} {w : World} (h : (allC cs).holds w) {c : PC} (hc : c ∈ cs) : (row c.p 94 (cPC c)).holds w := star_holds h (List.mem_flatMap.2 ⟨c, hc, by simp [RC]⟩)
theorem inB {cs : List PC} {w : World} (h : (allC cs).holds w) {c : PC} (hc : c ∈ cs) : (ownd c.ba c.cap 5 1 c.bs.length (c.bs.flatMap cU)).holds w := star_holds h (List.mem_flatMap.2 ⟨c, hc, by simp [RC]⟩)
theorem gone61 (bx r L : Nat) (cs : List PC) (hL : L ≤ 100000) (w : World) (h1 : (row bx 83 (hdC r L)).holds w) (h2 : (mapR r (kvC cs)).holds w) (h3 : (allC cs).holds w) :
    Calls Try.prog 61 #[.pointer (some ⟨bx, 0, none⟩)] w fun e w' => ∃ a : Option Addr × Nat, e = .returned (.slice a.1 (goneTo cs L).length a.2) ∧ Ok (domL []) w [ownd a.1 a.2 3 1 (goneTo cs L).length ((goneTo cs L).flatMap cI)] w' := by
  refine enter1 (S := domL []) 36 Try.func61 rfl rfl rfl (Ok.start w) ?_
  have hS : ¬ (domL [] : Nat → Prop) bx := no_dom bx
  (repeat (first | ((refine (?_ : MX _ _ _ _ _ _ _ _ _ _ _)); first | refine mx_end ?_ | (refine mx_as _ rfl rfl (by conv => {lhs; whnf}) ?_) ) | refine cw_seq ?_ | refine cw_line rfl ?_ | refine cw_block ?_ | refine pw_then ?_ ))
  refine cw_loop (ι := Nat × Option Addr × Nat) (fun p => [(4, .int .i64 ((p.1 + 1 : Nat) : Int)), (0, .pointer (some ⟨bx, 0, none⟩)), (3, .slice p.2.1 (goneTo cs p.1).length p.2.2)]) (fun p => [ownd p.2.1 p.2.2 3 1 (goneTo cs p.1).length ((goneTo cs p.1).flatMap cI)]) (fun p => p.1 ≤ L) (fun p => L - p.1) (0, none, 0) (by show 0 ≤ L; omega) ⟨rfl, rfl, rfl, trivial⟩ (fun w h => h.own_nil _ _) ?_
  rintro ⟨k, a1, c1⟩ jk hk
  dsimp only at hk ⊢
  have hgl := goneTo_len cs k
  by_cases hkL : ((k + 1 : Nat) : Int) ≤ L
  case neg =>
    obtain rfl : k = L := by omega
    (repeat (first | ((refine (?_ : MX _ _ _ _ _ _ _ _ _ _ _)); first | refine mx_end ?_ | (refine mx_mv _ rfl rfl (by conv => {lhs; whnf}) ?_) | (refine mx_as _ rfl rfl (by conv => {lhs; whnf}) ?_) | ( refine mx_fa E rfl rfl rfl rfl ?_) | (refine g_load rfl ?_; refine mx_orow E rfl rfl rfl rfl rfl (by assumption) (by assumption) (by rfl) rfl ?_ ) | (refine g_bin rfl ?_; ( (refine mx_cmpl .leq rfl rfl rfl rfl rfl (by exact cmp_le_f (by omega) ) ?_) ) ) | (refine mx_nc rfl rfl rfl ?_) ) | refine cw_seq ?_ | refine cw_line rfl ?_ | refine cw_cond_f rfl ?_ | refine cw_exit ?_ | refine cw_ret ?_ | refine pw_then ?_ | refine pw_then_x ?_ | refine pw_block_e ?_ ))
    exact pw_ret rfl rfl rfl rfl fun w' hw => ⟨(a1, c1), rfl, hw⟩
  case pos =>
    have hs := goneTo_s cs k
    have hk2 : k + 1 ≤ L := by omega
    cases hc : lc ((k + 1 : Nat) : Int) cs with
    | none =>
      have hlv := look_none hc
      have hg : isG cs ((k + 1 : Nat) : Int) = false := by simp only [isG, hc]
      rw [hg] at hs
      simp only [Bool.false_eq_true, if_false, List.append_nil] at hs
      (repeat (first | ((refine (?_ : MX _ _ _ _ _ _ _ _ _ _ _)); first | refine mx_end ?_ | (refine mx_mv _ rfl rfl (by conv => {lhs; whnf}) ?_) | (refine mx_as _ rfl rfl (by conv => {lhs; whnf}) ?_) | (first | refine mx_fa0 E rfl rfl rfl rfl ?_ | refine mx_fa E rfl rfl rfl rfl ?_) | (refine g_load rfl ?_; refine mx_orow E rfl rfl rfl rfl rfl (by assumption) (by assumption) (by rfl) rfl ?_ ) | (refine g_bin rfl ?_; first | ( (refine mx_cmpl .leq rfl rfl rfl rfl rfl (by exact cmp_le_t (by omega) ) ?_) ) | (refine mx_ar rfl rfl rfl rfl rfl rfl (IntWalk.i64_in _ (by omega)) rfl ?_ ) ) | (refine mx_nc rfl rfl rfl ?_) | (refine mx_ex _ rfl rfl rfl (by conv => {lhs; whnf}) ?_) | (refine mx_skip rfl rfl rfl ?_) | (refine g_pick rfl ?_; refine mx_andf rfl rfl rfl rfl rfl ?_ ) | ((refine mx_look mt81 rfl rfl rfl rfl rfl (hr := ⟨.inl ⟨fun _ => rfl, fun w' hw => Ok.oldM hw (by with_reducible assumption) (by exact no_dom _)⟩⟩) (by with_reducible assumption) rfl ?_)) ) | refine cw_seq ?_ | refine cw_line rfl ?_ | refine cw_block ?_ | refine cw_cond_f rfl ?_ | refine cw_cond_t rfl ?_ | refine cw_skip ?_ | refine pw_then ?_ | refine pw_block ?_ ))
      refine pw_round (k + 1, a1, c1) hk2 (by show L - (k + 1) < L - k; omega) ⟨rfl, rfl, by show _ = Value.slice a1 (goneTo cs (k + 1)).length c1; rw [hs]; rfl, trivial⟩ (fun w h => ?_)
      show Ok _ _ [ownd a1 c1 3 1 (goneTo cs (k + 1)).length ((goneTo cs (k + 1)).flatMap cI)] _
      rw [hs]
      exact h
    | some c =>
      have hlv := look_some hc
      have hcr := inC h3 (lc_mem hc).1
      obtain ⟨id, p, ba, cap, bs, wr, bt, dr⟩ := c
      have hSp : ¬ (domL [] : Nat → Prop) p := no_dom p
      cases dr with
      | false =>
        have hg : isG cs ((k + 1 : Nat) : Int) = false := by simp only [isG, hc]
        rw [hg] at hs
        simp only [Bool.false_eq_true, if_false, List.append_nil] at hs
        (repeat (first | ((refine (?_ : MX _ _ _ _ _ _ _ _ _ _ _)); first | refine mx_end ?_ | (refine mx_mv _ rfl rfl (by conv => {lhs; whnf}) ?_) | (refine mx_as _ rfl rfl (by conv => {lhs; whnf}) ?_) | (first | refine mx_fa0 E rfl rfl rfl rfl ?_ | refine mx_fa E rfl rfl rfl rfl ?_) | (refine g_load rfl ?_; refine mx_orow E rfl rfl rfl rfl rfl (by assumption) (by assumption) (by rfl) rfl ?_ ) | (refine g_bin rfl ?_; first | ( (refine mx_cmpl .leq rfl rfl rfl rfl rfl (by exact cmp_le_t (by omega) ) ?_) ) | (refine mx_ar rfl rfl rfl rfl rfl rfl (IntWalk.i64_in _ (by omega)) rfl ?_ ) ) | (refine mx_nc rfl rfl rfl ?_) | (refine mx_ex _ rfl rfl rfl (by conv => {lhs; whnf}) ?_) | (refine g_pick rfl ?_; refine mx_and rfl rfl rfl rfl rfl rfl ?_ ) | ((refine mx_look mt81 rfl rfl rfl rfl rfl (hr := ⟨.inl ⟨fun _ => rfl, fun w' hw => Ok.oldM hw (by with_reducible assumption) (by exact no_dom _)⟩⟩) (by with_reducible assumption) rfl ?_)) ) | refine cw_seq ?_ | refine cw_line rfl ?_ | refine cw_block ?_ | refine cw_cond_f rfl ?_ | refine cw_cond_t rfl ?_ | refine cw_skip ?_ | refine pw_then ?_ | refine pw_block ?_ ))
        refine pw_round (k + 1, a1, c1) hk2 (by show L - (k + 1) < L - k; omega) ⟨rfl, rfl, by show _ = Value.slice a1 (goneTo cs (k + 1)).length c1; rw [hs]; rfl, trivial⟩ (fun w h => ?_)
        show Ok _ _ [ownd a1 c1 3 1 (goneTo cs (k + 1)).length ((goneTo cs (k + 1)).flatMap cI)] _
        rw [hs]
        exact h
      | true =>
        have hg : isG cs ((k + 1 : Nat) : Int) = true := by simp only [isG, hc]
        rw [hg] at hs
        simp only [if_true] at hs
        (repeat (first | ((refine (?_ : MX _ _ _ _ _ _ _ _ _ _ _)); first | refine mx_end ?_ | (refine mx_mv _ rfl rfl (by conv => {lhs; whnf}) ?_) | (refine mx_as _ rfl rfl (by conv => {lhs; whnf}) ?_) | (first | refine mx_fa0 E rfl rfl rfl rfl ?_ | refine mx_fa E rfl rfl rfl rfl ?_) | (refine g_load rfl ?_; refine mx_orow E rfl rfl rfl rfl rfl (by assumption) (by assumption) (by rfl) rfl ?_ ) | (refine g_bin rfl ?_; ( (refine mx_cmpl .leq rfl rfl rfl rfl rfl (by exact cmp_le_t (by omega) ) ?_) ) ) | (refine mx_nc rfl rfl rfl ?_) | (refine mx_ex _ rfl rfl rfl (by conv => {lhs; whnf}) ?_) | (refine g_pick rfl ?_; refine mx_and rfl rfl rfl rfl rfl rfl ?_ ) | (refine g_bs rfl ?_; refine a_bsi E rfl rfl rfl rfl rfl (by (repeat (first | exact EvI.nil | (apply EvI.cons; rfl)))) (by rfl) (by rfl) (by rfl) rfl (fun _ => ?_)) | ((refine mx_look mt81 rfl rfl rfl rfl rfl (hr := ⟨.inl ⟨fun _ => rfl, fun w' hw => Ok.oldM hw (by with_reducible assumption) (by exact no_dom _)⟩⟩) (by with_reducible assumption) rfl ?_)) ) | refine cw_seq ?_ | refine cw_line rfl ?_ | refine cw_block ?_ | refine cw_cond_t rfl ?_ | refine cw_skip ?_ | refine pw_then ?_ ))
        rename_i b
        refine g_bi .append rfl ?_
        refine a_app E rfl rfl rfl rfl rfl rfl rfl rfl [.int .i64 ((k + 1 : Nat) : Int)] rfl (fun w hw => fun _ => ⟨b, 0, rfl, fun j u hj => by rw [add_at, Nat.zero_add]; exact row_cell (hw.holds 0 _ rfl) hj⟩) rfl (by omega) rfl (fun _ _ _ _ => trivial) (fun a2 c2 => ?_)
        have e1 : (goneTo cs k).flatMap cI ++ [.int .i64 ((k + 1 : Nat) : Int)] = (goneTo cs (k + 1)).flatMap cI := by rw [hs, List.flatMap_append]; rfl
        have e2 : (goneTo cs k).length + 1 = (goneTo cs (k + 1)).length := by rw [hs]; simp
        rw [e1, e2]
        (repeat (first | ((refine (?_ : MX _ _ _ _ _ _ _ _ _ _ _)); first | refine mx_end ?_ | (refine mx_mv _ rfl rfl (by conv => {lhs; whnf}) ?_) | (refine mx_as _ rfl rfl (by conv => {lhs; whnf}) ?_) | (refine g_bin rfl ?_; (refine mx_ar rfl rfl rfl rfl rfl rfl (IntWalk.i64_in _ (by omega)) rfl ?_ ) ) ) | refine cw_line rfl ?_ | refine pw_then ?_ | refine pw_block ?_ ))
        exact pw_round (k + 1, a2, c2) hk2 (by show L - (k + 1) < L - k; omega) ⟨rfl, rfl, rfl, trivial⟩ (fun w h => h.pick [1] (by simp) rfl)
theorem live33 (bx r L : Nat) (cs : List PC) (hL : L ≤ 100000) (hcl : cs.length ≤ 100000) (w : World) (h1 : (row bx 83 (hdC r L)).holds w) (h2 : (mapR r (kvC cs)).holds w) (h3 : (allC cs).holds w) :
    Calls Try.prog 33 #[.pointer (some ⟨bx, 0, none⟩)] w fun e w' => e = .returned (.int .i64 ((cs.length : Int) - (goneTo cs L).length)) ∧ Grow w w' := by
  refine enter1 (S := fun _ => False) 12 Try.func33 rfl rfl rfl (Ok.start w) ?_
  have hS : ¬ (fun _ : Nat => False) bx := id
  have hgl := goneTo_len cs L
  (repeat (first | ((refine (?_ : MX _ _ _ _ _ _ _ _ _ _ _)); first | refine mx_end ?_ | (refine mx_mv _ rfl rfl (by conv => {lhs; whnf}) ?_) | (refine mx_as _ rfl rfl (by conv => {lhs; whnf}) ?_) | (refine mx_fa0 E rfl rfl rfl rfl ?_ ) | (refine g_load rfl ?_; refine mx_orow E rfl rfl rfl rfl rfl (by assumption) (by assumption) (by rfl) rfl ?_ ) | (refine mx_nc rfl rfl rfl ?_) ) | refine cw_seq ?_ | refine cw_line rfl ?_ | refine pw_then ?_ ))
  refine mx_mlen mt81 rfl rfl rfl rfl (hr := ⟨.inl ⟨fun _ => rfl, fun w' hw => Ok.oldM hw h2 id⟩⟩) rfl ?_
  rw [show (kvC cs).length = cs.length by simp [kvC]]
  (repeat (((refine (?_ : MX _ _ _ _ _ _ _ _ _ _ _)); (refine mx_mv _ rfl rfl (by conv => {lhs; whnf}) ?_) ) ))
  refine g_cf 61 rfl ?_
  refine a_callL rfl rfl rfl rfl Try.func61 rfl rfl rfl [] _ rfl (fun a : Option Addr × Nat => .slice a.1 (goneTo cs L).length a.2) (fun a => [ownd a.1 a.2 3 1 (goneTo cs L).length ((goneTo cs L).flatMap cI)]) (fun w' hw _ => gone61 bx r L cs hL w' (hw.orow h1 id) (Ok.oldM hw h2 id) (oldA hw h3 (fun _ => id))) (fun _ => rfl) (fun _ _ _ => trivial) (fun a => ?_)
  (repeat (first | ((refine (?_ : MX _ _ _ _ _ _ _ _ _ _ _)); first | refine mx_end ?_ | (refine mx_as _ rfl rfl (by conv => {lhs; whnf}) ?_) | (refine g_bin rfl ?_; (refine mx_ar rfl rfl rfl rfl rfl rfl (IntWalk.i64_in _ (by omega)) rfl ?_ ) ) | (refine g_bi .len rfl ?_; refine mx_len E rfl rfl rfl rfl ?_) ) | refine cw_ret ?_ | refine pw_then ?_ ))
  exact pw_ret rfl rfl rfl rfl fun w' hw => ⟨rfl, hw.keep.grow⟩
def bsOf (k : Int) (cs : List PC) : List Int := match lc k cs with
  | some c => c.bs
  | none => []
theorem bytes40 (bx r : Nat) (last : Int) (k : Int) (cs : List PC) (hb : ∀ c ∈ cs, c.bs.length ≤ 100000) (w : World) (h1 : (row bx 83 (hdC r last)).holds w) (h2 : (mapR r (kvC cs)).holds w) (h3 : (allC cs).holds w) :
    Calls Try.prog 40 #[.pointer (some ⟨bx, 0, none⟩), .int .i64 k] w fun e w' => ∃ a : Option Addr × Nat, e = .returned (.slice a.1 (bsOf k cs).length a.2) ∧ Ok (domL []) w [ownd a.1 a.2 5 1 (bsOf k cs).length ((bsOf k cs).flatMap cU)] w' := by
  refine enter2 (S := domL []) 23 Try.func40 rfl rfl rfl (Ok.start w) ?_
  have hS : ¬ (domL [] : Nat → Prop) bx := no_dom bx
  cases hc : lc k cs with
  | none =>
    have hlv := look_none hc
    have hbs : bsOf k cs = [] := by simp only [bsOf, hc]
    (repeat (first | ((refine (?_ : MX _ _ _ _ _ _ _ _ _ _ _)); first | refine mx_end ?_ | (refine mx_mv _ rfl rfl (by conv => {lhs; whnf}) ?_) | (refine mx_as _ rfl rfl (by conv => {lhs; whnf}) ?_) | (refine mx_fa0 E rfl rfl rfl rfl ?_ ) | (refine g_load rfl ?_; refine mx_orow E rfl rfl rfl rfl rfl (by assumption) (by assumption) (by rfl) rfl ?_ ) | (refine mx_nc rfl rfl rfl ?_) | (refine mx_not rfl rfl rfl ?_) | (refine mx_ex _ rfl rfl rfl (by conv => {lhs; whnf}) ?_) | ((refine mx_look mt81 rfl rfl rfl rfl rfl (hr := ⟨.inl ⟨fun _ => rfl, fun w' hw => Ok.oldM hw (by with_reducible assumption) (by exact no_dom _)⟩⟩) (by with_reducible assumption) rfl ?_)) ) | refine cw_seq ?_ | refine cw_line rfl ?_ | refine cw_cond_t rfl ?_ | refine cw_ret ?_ | refine pw_then ?_ | refine pw_then_r ?_ ))
    refine pw_weak (H' := [ownd none 0 5 1 0 []]) (fun w h => h.own_nil _ _) ?_
    rw [hbs]
    exact pw_ret rfl rfl rfl rfl fun w' hw => ⟨(none, 0), rfl, hw⟩
  | some c =>
    have hlv := look_some hc
    have hcm := (lc_mem hc).1
    have hcr := inC h3 hcm
    have hbs : bsOf k cs = c.bs := by simp only [bsOf, hc]
    have hbl := hb c hcm
    have hSp : ¬ (domL [] : Nat → Prop) c.p := no_dom c.p
    have hown := inB h3 hcm
    (repeat (first | ((refine (?_ : MX _ _ _ _ _ _ _ _ _ _ _)); first | refine mx_end ?_ | (refine mx_mv _ rfl rfl (by conv => {lhs; whnf}) ?_) | (refine mx_as _ rfl rfl (by conv => {lhs; whnf}) ?_) | (refine mx_fa0 E rfl rfl rfl rfl ?_ ) | (refine g_load rfl ?_; refine mx_orow E rfl rfl rfl rfl rfl (by assumption) (by assumption) (by rfl) rfl ?_ ) | (refine mx_nc rfl rfl rfl ?_) | (refine mx_not rfl rfl rfl ?_) | (refine mx_ex _ rfl rfl rfl (by conv => {lhs; whnf}) ?_) | ((refine mx_look mt81 rfl rfl rfl rfl rfl (hr := ⟨.inl ⟨fun _ => rfl, fun w' hw => Ok.oldM hw (by with_reducible assumption) (by exact no_dom _)⟩⟩) (by with_reducible assumption) rfl ?_)) ) | refine cw_seq ?_ | refine cw_line rfl ?_ | refine cw_cond_f rfl ?_ | refine cw_skip ?_ | refine pw_then ?_ ))
    refine g_cf 63 rfl ?_
    refine a_calln rfl rfl rfl rfl Try.func63 rfl rfl rfl (fun q : Option Addr × Nat => .slice q.1 c.bs.length q.2) (fun q => ownd q.1 q.2 5 1 c.bs.length (c.bs.flatMap cU)) (fun w' hw => cloneB c.ba c.bs.length c.cap c.bs rfl (by omega) w' ((own_in len_U hown (by omega)).keep' hw fun _ _ _ _ => no_dom _)) rfl (fun q => ?_)
    (repeat (first | ((refine (?_ : MX _ _ _ _ _ _ _ _ _ _ _)); first | refine mx_end ?_ | (refine mx_as _ rfl rfl (by conv => {lhs; whnf}) ?_) ) | refine cw_ret ?_ | refine pw_then ?_ ))
    rw [hbs]
    exact pw_ret rfl rfl rfl rfl fun w' hw => ⟨(_, _), rfl, hw⟩
theorem size37 (bx r : Nat) (last : Int) (k : Int) (cs : List PC) (hb : ∀ c ∈ cs, c.bs.length ≤ 100000) (w : World) (h1 : (row bx 83 (hdC r last)).holds w) (h2 : (mapR r (kvC cs)).holds w) (h3 : (allC cs).holds w) :
    Calls Try.prog 37 #[.pointer (some ⟨bx, 0, none⟩), .int .i64 k] w fun e w' => e = .returned (.int .i64 (bsOf k cs).length) ∧ Grow w w' := by
  refine enter2 (S := fun _ => False) 9 Try.func37 rfl rfl rfl (Ok.start w) ?_
  (repeat (first | ((refine (?_ : MX _ _ _ _ _ _ _ _ _ _ _)); first | refine mx_end ?_ | (refine mx_mv _ rfl rfl (by conv => {lhs; whnf}) ?_) | (refine mx_as _ rfl rfl (by conv => {lhs; whnf}) ?_) ) | refine cw_seq ?_ | refine cw_line rfl ?_ | refine pw_then ?_ ))
  refine g_cf 40 rfl ?_
  refine a_callL rfl rfl rfl rfl Try.func40 rfl rfl rfl [] _ rfl (fun a : Option Addr × Nat => .slice a.1 (bsOf k cs).length a.2) (fun a => [ownd a.1 a.2 5 1 (bsOf k cs).length ((bsOf k cs).flatMap cU)]) (fun w' hw _ => bytes40 bx r last k cs hb w' (hw.orow h1 id) (Ok.oldM hw h2 id) (oldA hw h3 (fun _ => id))) (fun _ => rfl) (fun _ _ _ => trivial) (fun a => ?_)
  (repeat (first | ((refine (?_ : MX _ _ _ _ _ _ _ _ _ _ _)); first | refine mx_end ?_ | (refine mx_as _ rfl rfl (by conv => {lhs; whnf}) ?_) | (refine g_bi .len rfl ?_; refine mx_len E rfl rfl rfl rfl ?_) ) | refine cw_ret ?_ | refine pw_then ?_ ))
  exact pw_ret rfl rfl rfl rfl fun w' hw => ⟨rfl, hw.keep.grow⟩
end Go.Proofs.Ytfekmflnfhjebaa
