/- The chapter's examples are as the document says: the walk of the law WatchKnown. -/
import Derived.Test.YtikdbgheefjpkaaLWatchHits
import Derived.Test.YtikdbgheefjpkaaLWatchPieces
import Derived.Test.YtikdbgheefjpkaaDg2
set_option maxRecDepth 100000
set_option maxHeartbeats 8000000
set_option linter.unusedSimpArgs false
set_option linter.unusedVariables false
namespace Go.Proofs.Ytikdbgheefjpkaa
open Go Go.Sx Go.RowKit
theorem b32_12 (p : Int) (a : Option Addr) (n c : Nat) : Blt Try.prog 32 [(1, .int .i64 p), (2, .slice a n c)] [.int .i64 0, .int .i64 p, .slice a n c] := ⟨by kernel_rfl⟩
theorem b32_02 (p : Int) (a : Option Addr) (n c : Nat) : Blt Try.prog 32 [(0, .int .i64 p), (2, .slice a n c)] [.int .i64 p, .int .i64 0, .slice a n c] := ⟨by kernel_rfl⟩
theorem b32_01 (k p : Int) : Blt Try.prog 32 [(0, .int .i64 k), (1, .int .i64 p)] [.int .i64 k, .int .i64 p, .slice none 0 0] := ⟨by kernel_rfl⟩
theorem b32_0 (k : Int) : Blt Try.prog 32 [(0, .int .i64 k)] [.int .i64 k, .int .i64 0, .slice none 0 0] := ⟨by kernel_rfl⟩
theorem b32_1 (p : Int) : Blt Try.prog 32 [(1, .int .i64 p)] [.int .i64 0, .int .i64 p, .slice none 0 0] := ⟨by kernel_rfl⟩
theorem b49_e (a : Option Addr) (n c : Nat) : Blt Try.prog 49 [(0, .int .i64 1), (1, .int .i64 1), (4, .slice a n c)] [.int .i64 1, .int .i64 1, .int .i64 0, .int .i64 0, .slice a n c] := ⟨by kernel_rfl⟩
/-! ### Events and calls of the examples -/
@[reducible] def evB (kb : Nat) (x : Int) : EV := ⟨⟨1, 1, 0, 0, [x]⟩, some ⟨kb, 0, none⟩, 1⟩
theorem evL_nil (w : World) : EvL w none [] := ⟨fun h => absurd rfl h, fun x hx => by simp at hx⟩
theorem evL_cell {w : World} {b : Nat} {n : Int} (h : (row b 49 (cEV (evC n))).holds w) : EvL w (some ⟨b, 0, none⟩) [evC n] :=
  ⟨row_in (c := cEV) (xs := [evC n]) len_EV h, fun x hx => by obtain rfl := List.mem_singleton.1 hx; exact ⟨fun h => absurd rfl h, fun y hy => by simp at hy⟩⟩
theorem key_B {w : World} {kb : Nat} {x : Int} (hk : (row kb 5 [.int .u8 x]).holds w) (hx : 0 ≤ x ∧ x < 256) : InL w (evB kb x).ka 1 cU (evB kb x).v.key ∧ BytK (evB kb x).v.key :=
  ⟨row_in (c := cU) (xs := [x]) len_U hk, fun y hy => by obtain rfl := List.mem_singleton.1 hy; exact hx⟩
theorem evL_bind {w : World} {e kb : Nat} {x : Int} (h : (row e 49 (cEV (evB kb x))).holds w) (hk : (row kb 5 [.int .u8 x]).holds w) (hx : 0 ≤ x ∧ x < 256) : EvL w (some ⟨e, 0, none⟩) [evB kb x] :=
  ⟨row_in (c := cEV) (xs := [evB kb x]) len_EV h, fun y hy => by obtain rfl := List.mem_singleton.1 hy; exact key_B hk hx⟩
theorem evL_two {w : World} {a : Option Addr} {c kb : Nat} {n x : Int} (h : (ownd a c 49 5 2 ([evC n, evB kb x].flatMap cEV)).holds w) (hk : (row kb 5 [.int .u8 x]).holds w) (hx : 0 ≤ x ∧ x < 256) : EvL w a [evC n, evB kb x] :=
  ⟨own_in len_EV h (Nat.le_refl _), fun y hy => by
    simp only [List.mem_cons, List.not_mem_nil, or_false] at hy
    rcases hy with rfl | rfl
    · exact ⟨fun h => absurd rfl h, fun y hy => by simp at hy⟩
    · exact key_B hk hx⟩
theorem remT (i m : Nat) : (i : Int).tmod (m : Int) = ((i % m : Nat) : Int) := by
  rw [Int.tmod_eq_emod_of_nonneg (by omega)]
  rfl
/-- The numbers of programs. -/
def nsK : List Int := [-9223372036854775808, -1, 0, 1, 2, 7, 9223372036854775807]
theorem ns_at {j : Nat} (hj : j < 7) : ∃ x, (nsK.flatMap cI)[0 + j * 1]? = some (.int .i64 x) := by
  have : ∀ j : Nat, j < 7 → ∃ x, (nsK.flatMap cI)[0 + j * 1]? = some (.int .i64 x) := by
    intro j hj
    obtain ⟨x, hx⟩ := getElem_some (xs := nsK) (i := j) hj
    refine ⟨x, ?_⟩
    have := rd_at len_I hx (o := 0) (show 0 < 1 by omega) (v := .int .i64 x) rfl [] (p := 0 + j * 1) (by omega)
    rwa [List.append_nil] at this
  exact this j hj
/-- What is done of a round, and where it lies. -/
structure DS where
  x : Nat
  y : Nat
  z : Nat
  c1 : Nat
  c2 : Nat
  a2 : Option Addr
  p2 : Nat
  ka : Nat
  c3 : Nat
  kb : Nat
  e2 : Nat
  kc : Nat
  e8 : Nat
@[reducible] def cN (i m : Nat) : Int := ((i % m : Nat) : Int)
@[reducible] def ow1 (i : Nat) (p : Int) (c1 : Nat) : OPW := ⟨0, p, some ⟨c1, 0, none⟩, 1, [evC (cN i 3)]⟩
@[reducible] def ow2 (i : Nat) (q : Int) (a2 : Option Addr) (p2 kb : Nat) : OPW := ⟨0, q, a2, p2, [evC (i : Int), evB kb (cN i 2)]⟩
@[reducible] def ow3 (i : Nat) (c3 : Nat) : OPW := ⟨2, 0, some ⟨c3, 0, none⟩, 1, [evC (cN i 4)]⟩
@[reducible] def ow4 (r : Int) : OPW := ⟨1, r, none, 0, []⟩
@[reducible] def ow5 : OPW := ⟨9, 0, none, 0, []⟩
@[reducible] def ow6 (p : Int) : OPW := ⟨0, p, none, 0, []⟩
@[reducible] def ow7 : OPW := ⟨2, 0, none, 0, []⟩
@[reducible] def ow8 (i : Nat) (e8 kc : Nat) : OPW := ⟨2, 0, some ⟨e8, 0, none⟩, 1, [evB kc (cN i 3)]⟩
def LA (i : Nat) (p q : Int) (c1 c2 : Nat) (a2 : Option Addr) (p2 ka c3 : Nat) : Nat → Slots
  | 0 => []
  | 1 => [(19, .agg (cOW (ow1 i p c1)).toArray)]
  | 2 => [(27, .slice (some ⟨c2, 0, none⟩) 1 1), (19, .agg (cOW (ow1 i p c1)).toArray)]
  | 3 => [(35, .agg (cOW (ow2 i q a2 p2 ka)).toArray), (19, .agg (cOW (ow1 i p c1)).toArray)]
  | _ => [(39, .agg (cOW (ow3 i c3)).toArray), (35, .agg (cOW (ow2 i q a2 p2 ka)).toArray), (19, .agg (cOW (ow1 i p c1)).toArray)]
def LB (i : Nat) (kb e2 : Nat) : Nat → Slots
  | 0 => []
  | 1 => [(32, .agg (cEV (evB kb (cN i 2))).toArray)]
  | _ => [(33, .slice (some ⟨e2, 0, none⟩) 1 1)]
def LC (i : Nat) (kc e8 : Nat) : Nat → Slots
  | 0 => []
  | 1 => [(58, .agg (cEV (evB kc (cN i 3))).toArray)]
  | _ => [(60, .agg (cOW (ow8 i e8 kc)).toArray)]
def L0 (i : Nat) (p q r : Int) (oa : Option Addr) (oc m bn : Nat) : Slots :=
  [(1, .slice (some ⟨bn, 0, none⟩) 7 7), (2, .slice oa m oc), (3, .int .i64 i), (11, .slice oa m oc), (15, .int .i64 p), (17, .int .i64 (cN i 3)), (25, .int .i64 q), (26, .int .i64 i), (30, .int .u8 (cN i 2)), (37, .int .i64 (cN i 4)), (46, .agg (cOW (ow4 r)).toArray), (47, .agg (cOW ow5).toArray), (52, .agg (cOW (ow6 p)).toArray), (53, .agg (cOW ow7).toArray), (56, .int .u8 (cN i 3))]
def HA (i : Nat) (c1 c2 : Nat) (a2 : Option Addr) (p2 ka c3 : Nat) : Nat → List Res
  | 0 => []
  | 1 => [row c1 49 (cEV (evC (cN i 3)))]
  | 2 => [row c2 49 (cEV (evC (i : Int))), row c1 49 (cEV (evC (cN i 3)))]
  | 3 => [ownd a2 p2 49 5 2 ([evC (i : Int), evB ka (cN i 2)].flatMap cEV), row c1 49 (cEV (evC (cN i 3)))]
  | _ => [row c3 49 (cEV (evC (cN i 4))), ownd a2 p2 49 5 2 ([evC (i : Int), evB ka (cN i 2)].flatMap cEV), row c1 49 (cEV (evC (cN i 3)))]
def HB (i : Nat) (kb e2 : Nat) : Nat → List Res
  | 0 => []
  | 1 => [row kb 5 [.int .u8 (cN i 2)]]
  | _ => [row e2 49 (cEV (evB kb (cN i 2))), row kb 5 [.int .u8 (cN i 2)]]
def HC (i : Nat) (kc e8 : Nat) : Nat → List Res
  | 0 => []
  | 1 => [row kc 5 [.int .u8 (cN i 3)]]
  | _ => [row e8 49 (cEV (evB kc (cN i 3))), row kc 5 [.int .u8 (cN i 3)]]
@[reducible] def H0 (L : List Res) (ops : List OPW) (oa : Option Addr) (oc m bn : Nat) : List Res := [ownd oa oc 32 3 m (ops.flatMap cOW), star L, row bn 3 (nsK.flatMap cI)]
def TT (x y z : Nat) : List Blk := ([(7, [8]), (16, []), (20, [21]), (22, []), (23, [24]), (27, [28]), (46, [47]), (48, [49])] : List Blk).filter fun B => match B.1 with
  | 7 => Nat.blt x 1
  | 16 => Nat.blt x 2
  | 23 => Nat.blt x 3
  | 27 => Nat.blt x 4
  | 20 => Nat.blt y 1
  | 22 => Nat.blt y 2
  | 46 => Nat.blt z 1
  | _ => Nat.blt z 2
def nA (x y z : Nat) : List (Blk × List Blk) := match x with
  | 0 => [((7, [8]), TT 1 y z)]
  | 1 => [((16, []), TT 2 y z)]
  | 2 => if y = 2 then [((23, [24]), TT 3 y z)] else []
  | 3 => [((27, [28]), TT 4 y z)]
  | _ => []
def nB (x y z : Nat) : List (Blk × List Blk) := match y with
  | 0 => [((20, [21]), TT x 1 z)]
  | 1 => [((22, []), TT x 2 z)]
  | _ => []
def nC (x y z : Nat) : List (Blk × List Blk) := match z with
  | 0 => [((46, [47]), TT x y 1)]
  | 1 => [((48, [49]), TT x y 2)]
  | _ => []
/-- What may stand. -/
structure DOk (s : DS) : Prop where
  x : s.x ≤ 4
  y : s.y ≤ 2
  z : s.z ≤ 2
  b : 3 ≤ s.x → s.y = 2 ∧ s.ka = s.kb
@[reducible] def news (i : Nat) (p q r : Int) (c1 : Nat) (a2 : Option Addr) (p2 kb c3 kc e8 : Nat) : List OPW := [ow1 i p c1, ow2 i q a2 p2 kb, ow3 i c3, ow4 r, ow5, ow6 p, ow7, ow8 i e8 kc]
theorem perm3 {α : Type} (a : α) (X Y Z : List α) : (a :: (X ++ (Y ++ Z))).Perm (X ++ (Y ++ a :: Z)) := by
  rw [← List.append_assoc, ← List.append_assoc]
  exact List.perm_middle.symm
theorem ok_bar {S : Nat → Prop} {w0 w : World} {H : List Res} {r : Res} (h : Ok S w0 H w) (hm : r ∈ H) : Ok S w0 [r] w := h.sub (List.singleton_sublist.2 hm)
def ancK (i : Nat) : Bool := [7, 16, 20, 22, 23, 27, 46, 48, 50, 51].contains i
structure RS where
  i : Nat
  ops : List OPW
  oa : Option Addr
  oc : Nat
  L : List Res
structure ROk (q : RS) : Prop where
  i : q.i ≤ 7
  n : q.ops.length = 8 * q.i
  e : ∀ w, (star q.L).holds w → ∀ o ∈ q.ops, EvL w o.la o.evs
/-- What a round leaves in memory. -/
@[reducible] def newR (i c1 : Nat) (a2 : Option Addr) (p2 kb c3 kc e8 : Nat) : List Res := [row c3 49 (cEV (evC (cN i 4))), ownd a2 p2 49 5 2 ([evC (i : Int), evB kb (cN i 2)].flatMap cEV), row c1 49 (cEV (evC (cN i 3))), row kb 5 [.int .u8 (cN i 2)], row e8 49 (cEV (evB kc (cN i 3))), row kc 5 [.int .u8 (cN i 3)]]
theorem newE {ops : List OPW} {L : List Res} (hE : ∀ w, (star L).holds w → ∀ o ∈ ops, EvL w o.la o.evs) {i : Nat} {p q r : Int} {c1 : Nat} {a2 : Option Addr} {p2 kb c3 kc e8 : Nat} (u2 : 0 ≤ cN i 2 ∧ cN i 2 < 256) (u3 : 0 ≤ cN i 3 ∧ cN i 3 < 256) : ∀ w, (star (L ++ newR i c1 a2 p2 kb c3 kc e8)).holds w → ∀ o ∈ ops ++ news i p q r c1 a2 p2 kb c3 kc e8, EvL w o.la o.evs := fun w h o ho => by
  rcases List.mem_append.1 ho with ho | ho
  · exact hE w ⟨fun r hr => h.1 r (List.mem_append_left _ hr), (List.pairwise_append.1 h.2).1⟩ o ho
  · have hh : ∀ r ∈ newR i c1 a2 p2 kb c3 kc e8, r.holds w := fun r hr => h.1 r (List.mem_append_right _ hr)
    simp only [news, List.mem_cons, List.not_mem_nil, or_false] at ho
    rcases ho with rfl | rfl | rfl | rfl | rfl | rfl | rfl | rfl
    · exact evL_cell (hh _ (by simp))
    · exact evL_two (hh (ownd a2 p2 49 5 2 ([evC (i : Int), evB kb (cN i 2)].flatMap cEV)) (List.mem_cons_of_mem _ List.mem_cons_self)) (hh _ (by simp)) u2
    · exact evL_cell (hh _ (by simp))
    · exact evL_nil w
    · exact evL_nil w
    · exact evL_nil w
    · exact evL_nil w
    · exact evL_bind (hh (row e8 49 (cEV (evB kc (cN i 3)))) (by simp)) (hh _ (by simp)) u3
theorem newH {S : Nat → Prop} {w0 w : World} {r0 rb rn : Res} {L : List Res} {a b c d e f : Res} (h : Ok S w0 [r0, rb, a, b, c, d, e, f, star L, rn] w) : Ok S w0 [r0, star (L ++ [a, b, c, d, e, f]), rn] w := by
  have h1 : Ok S w0 (star L :: [a, b, c, d, e, f, r0, rn]) w := h.pick [8, 2, 3, 4, 5, 6, 7, 0, 9] (by decide) rfl
  have h2 := Ok.unstar h1
  have h3 : Ok S w0 ((L ++ [a, b, c, d, e, f]) ++ [r0, rn]) w := by rw [List.append_assoc]; exact h2
  exact (Ok.star h3).pick [1, 0, 2] (by decide) rfl
theorem runsN (oa : Option Addr) (oc n : Nat) (ops : List OPW) (hn : ops.length = n) (w : World) (hr : OpsR w oa ops) : Calls Try.prog 3 #[.slice oa n oc] w fun e w' => e = .returned (.bool true) ∧ Grow w w' := by
  subst hn
  exact lawWatchRuns oa oc ops w hr
theorem hitsN (oa : Option Addr) (oc n : Nat) (ops : List OPW) (hn : ops.length = n) (ad1 : Option Addr) (cap1 m : Nat) (hap : List EV) (hm : hap.length = m) (w : World) (hr : OpsR w oa ops) (he : EvL w ad1 hap) : Calls Try.prog 4 #[.slice oa n oc, .slice ad1 m cap1] w fun e w' => e = .returned (.bool true) ∧ Grow w w' := by
  subst hn hm
  exact lawWatchHits oa oc ops ad1 cap1 hap w hr he
theorem pcsN (oa : Option Addr) (oc n : Nat) (ops : List OPW) (hn : ops.length = n) (ad1 : Option Addr) (cap1 m : Nat) (ha : List EV) (hm : ha.length = m) (ad2 : Option Addr) (cap2 m2 : Nat) (hb : List EV) (hm2 : hb.length = m2) (w : World) (hr : OpsR w oa ops) (he : EvL w ad1 ha) (he2 : EvL w ad2 hb) : Calls Try.prog 5 #[.slice oa n oc, .slice ad1 m cap1, .slice ad2 m2 cap2] w fun e w' => e = .returned (.bool true) ∧ Grow w w' := by
  subst hn hm hm2
  exact lawWatchPieces oa oc ops ad1 cap1 ha ad2 cap2 hb w hr he he2
/-- The calls may be read. -/
theorem opsR_L {S : Nat → Prop} {w0 w : World} {H : List Res} {L : List Res} {ops : List OPW} {oa : Option Addr} {oc n : Nat} (hn : ops.length = n) (hE : ∀ w, (star L).holds w → ∀ o ∈ ops, EvL w o.la o.evs) (hw : Ok S w0 H w) (i j : Nat) (hi : H[i]? = some (ownd oa oc 32 3 n (ops.flatMap cOW))) (hj : H[j]? = some (star L)) : OpsR w oa ops :=
  ⟨own_in len_OW (hw.holds i _ hi) (by omega), fun o ho => (hE w (hw.holds j _ hj) o ho).l, fun o ho => (hE w (hw.holds j _ hj) o ho).k⟩
theorem cases4 {x : Nat} (h : x ≤ 4) : x = 0 ∨ x = 1 ∨ x = 2 ∨ x = 3 ∨ x = 4 := by omega
theorem cases2 {x : Nat} (h : x ≤ 2) : x = 0 ∨ x = 1 ∨ x = 2 := by omega
theorem lawWatchKnown (w : World) : Calls Try.prog 6 #[] w fun e w' => e = .returned (.bool true) ∧ Grow w w' := by
  refine enter0 (S := fun _ => False) 93 Try.func6 rfl rfl rfl (Ok.start w) ?_
  (repeat (first | ((refine (?_ : MX _ _ _ _ _ _ _ _ _ _ _)); first | refine mx_end ?_ | (refine mx_as _ rfl rfl (by conv => {lhs; whnf}) ?_) | (refine g_bs rfl ?_; refine a_bsi E rfl rfl rfl rfl rfl (by (repeat (first | exact EvI.nil | (apply EvI.cons; rfl)))) (by rfl) (by rfl) (by rfl) rfl (fun _ => ?_)) ) | refine cw_seq ?_ | refine cw_line rfl ?_ | refine cw_block ?_ | refine pw_then ?_ ))
  rename_i bn
  refine cw_loop (ι := RS) (fun q => [(1, .slice (some ⟨bn, 0, none⟩) 7 7), (2, .slice q.oa (8 * q.i) q.oc), (3, .int .i64 q.i)]) (fun q => H0 q.L q.ops q.oa q.oc (8 * q.i) bn) ROk (fun q => 7 - q.i) ⟨0, [], none, 0, []⟩ ⟨by decide, rfl, fun w h o ho => by simp at ho⟩ ⟨rfl, rfl, rfl, trivial⟩ (fun w h => (Ok.own_nil (Ok.star (L := []) h) 32 3)) ?_
  rintro ⟨i, ops, oa, oc, L⟩ jk ⟨hi, hn, hE⟩
  dsimp only at hi hn hE ⊢
  by_cases h0 : (i : Int) < 7
  case neg =>
    obtain rfl : i = 7 := by omega
    (repeat (first | ((refine (?_ : MX _ _ _ _ _ _ _ _ _ _ _)); first | refine mx_end ?_ | (refine mx_mv _ rfl rfl (by conv => {lhs; whnf}) ?_) | (refine g_bin rfl ?_; ( (refine mx_cmpl .lss rfl rfl rfl rfl rfl (by exact cmp_lt_f (by omega) ) ?_) ) ) | (refine g_bi .len rfl ?_; refine mx_len E rfl rfl rfl rfl ?_) ) | refine cw_seq ?_ | refine cw_line rfl ?_ | refine cw_cond_f rfl ?_ | refine cw_exit ?_ | refine pw_then ?_ | refine pw_then_x ?_ | refine pw_block_e ?_ ))
    refine g_cf 3 rfl ?_
    refine a_callv rfl rfl rfl rfl Try.func3 rfl rfl rfl (.bool true) (fun w' hw => runsN oa oc (8 * 7) ops hn w' (opsR_L hn hE hw 0 1 rfl rfl)) rfl ?_
    (repeat (((refine (?_ : MX _ _ _ _ _ _ _ _ _ _ _)); (refine mx_mv _ rfl rfl (by conv => {lhs; whnf}) ?_) ) ))
    refine g_cf 31 rfl ?_; refine a_cn1 rfl rfl rfl rfl Try.func31 rfl rfl rfl (fun b : Nat => .slice (some ⟨b, 0, none⟩) 1 1) (fun b => row b 49 (cEV (evC 2))) (fun w' hw => cell31 2 w') (fun _ => rfl) (fun _ _ _ => trivial) (fun b1 => ?_)
    (repeat (first | ((refine (?_ : MX _ _ _ _ _ _ _ _ _ _ _)); first | refine mx_end ?_ | (refine mx_mv _ rfl rfl (by conv => {lhs; whnf}) ?_) | (refine mx_as _ rfl rfl (by conv => {lhs; whnf}) ?_) | (first | refine mx_fa0 E rfl rfl rfl rfl ?_ | refine mx_fa E rfl rfl rfl rfl ?_) | (refine g_load rfl ?_; first | refine mx_get E rfl rfl rfl rfl rfl (by first | assumption | rfl) rfl ?_ | refine mx_getn E rfl rfl rfl rfl rfl (by first | assumption | exact Vr.all rfl | exact ⟨⟨rfl⟩, rfl⟩) rfl ?_ | refine mx_oldn E rfl rfl rfl rfl rfl (by assumption) (by assumption) (rfl) rfl ?_ | refine mx_old1 E rfl rfl rfl rfl rfl (by assumption) (by assumption) rfl ?_ | refine mx_orow E rfl rfl rfl rfl rfl (by assumption) (by assumption) (by first | assumption | rfl) rfl ?_ | refine mx_orown E rfl rfl rfl rfl rfl (by assumption) (by assumption) (by first | assumption | exact Vr.all rfl | exact ⟨⟨rfl⟩, rfl⟩) rfl ?_ | refine mx_geta E rfl rfl rfl rfl rfl rfl (by first | assumption | rfl) rfl ?_ | refine mx_getna E rfl rfl rfl rfl rfl rfl (by first | assumption | exact Vr.all rfl | exact ⟨⟨rfl⟩, rfl⟩) rfl ?_) | (refine g_bin rfl ?_; first | (first | (refine mx_cmpl .eql rfl rfl rfl rfl rfl (by first | exact cmp_eq_t (by omega) | exact cmp_eq_f (by omega) | rfl) ?_) | (refine mx_cmpl .neq rfl rfl rfl rfl rfl (by first | exact cmp_ne_t (by omega) | exact cmp_ne_f (by omega) | rfl) ?_) | (refine mx_cmpl .lss rfl rfl rfl rfl rfl (by first | exact cmp_lt_t (by omega) | exact cmp_lt_f (by omega) | rfl) ?_) | (refine mx_cmpl .leq rfl rfl rfl rfl rfl (by first | exact cmp_le_t (by omega) | exact cmp_le_f (by omega) | rfl) ?_) | (refine mx_cmpl .gtr rfl rfl rfl rfl rfl (by first | exact cmp_gt_t (by omega) | exact cmp_gt_f (by omega) | rfl) ?_) | (refine mx_cmpl .geq rfl rfl rfl rfl rfl (by first | exact cmp_ge_t (by omega) | exact cmp_ge_f (by omega) | rfl) ?_)) | (first | refine mx_ar rfl rfl rfl rfl rfl rfl ((IntWalk.i64_in _ (by omega)).trans (by with_reducible assumption)) rfl ?_ | refine mx_ar rfl rfl rfl rfl rfl rfl (IntWalk.i64_in _ (by omega)) rfl ?_ | refine mx_ar rfl rfl rfl rfl rfl rfl (by with_reducible assumption) rfl ?_) | (first | refine mx_eqs rfl rfl rfl rfl rfl rfl ?_ | refine mx_nes rfl rfl rfl rfl rfl rfl ?_ | refine mx_eq rfl rfl rfl rfl rfl rfl ?_ | refine mx_ne rfl rfl rfl rfl rfl rfl ?_) | refine mx_bsame E rfl rfl rfl rfl rfl rfl rfl ?_ | refine mx_bnsame E rfl rfl rfl rfl rfl rfl rfl ?_ | refine mx_beq E rfl rfl rfl rfl rfl rfl rfl ?_ | refine mx_bne E rfl rfl rfl rfl rfl rfl rfl ?_ | refine mx_dv rfl rfl rfl rfl rfl (by decide) (congrArg some (by assumption)) rfl rfl ?_ | refine mx_dv rfl rfl rfl rfl rfl (by decide) rfl rfl rfl ?_ | refine mx_bit rfl rfl rfl rfl rfl (congrArg some (by assumption)) rfl rfl ?_ | refine mx_bit rfl rfl rfl rfl rfl rfl rfl rfl ?_ | refine mx_sh rfl rfl rfl rfl rfl (by omega) (congrArg some (by assumption)) rfl rfl ?_ | refine mx_sh rfl rfl rfl rfl rfl (by omega) rfl rfl rfl ?_) | (refine g_ix rfl ?_; first | refine mx_ixan E rfl rfl rfl rfl rfl rfl (by omega) rfl ?_ | refine mx_ixsn E rfl rfl rfl rfl rfl rfl (by omega) rfl ?_ | refine mx_ixsi E rfl rfl rfl rfl rfl rfl (by omega) (by omega) rfl ?_ | refine mx_ixa E rfl rfl rfl rfl rfl rfl (by omega) (by omega) rfl rfl ?_) | (refine mx_nc rfl rfl rfl ?_) | (refine g_bi .len rfl ?_; refine mx_len E rfl rfl rfl rfl ?_) | (refine mx_not rfl rfl rfl ?_) | (refine mx_ex _ rfl rfl rfl (by conv => {lhs; whnf}) ?_) | (refine mx_skip rfl rfl rfl ?_) | (refine g_pick rfl ?_; first | refine mx_andf rfl rfl rfl rfl rfl ?_ | refine mx_ort rfl rfl rfl rfl rfl ?_ | refine mx_and rfl rfl rfl rfl rfl rfl ?_ | refine mx_or rfl rfl rfl rfl rfl rfl ?_ | refine mx_pickt _ rfl rfl rfl rfl (by conv => {lhs; whnf}) rfl ?_ | refine mx_pickf _ rfl rfl rfl rfl (by conv => {lhs; whnf}) rfl ?_) | (refine g_store rfl ?_; first | refine s_l E rfl rfl rfl rfl rfl rfl rfl (by first | assumption | exact Sp.all rfl | exact Sp.lit rfl rfl) rfl ?_ | refine s_1 E rfl rfl rfl rfl rfl rfl rfl rfl (by first | assumption | exact sp0 | exact spS sp0 | exact spS (spS sp0) | exact Sp.lit rfl rfl) rfl ?_) | (refine g_build rfl ?_; first | refine mx_build rfl rfl rfl rfl (b32_12 _ _ _ _) rfl ?_ | refine mx_build rfl rfl rfl rfl (b32_02 _ _ _ _) rfl ?_ | refine mx_build rfl rfl rfl rfl (b32_01 _ _) rfl ?_ | refine mx_build rfl rfl rfl rfl (b32_0 _) rfl ?_ | refine mx_build rfl rfl rfl rfl (b32_1 _) rfl ?_ | refine mx_build rfl rfl rfl rfl (b49_e _ _ _) rfl ?_) | (refine a_new rfl rfl rfl rfl rfl (fun _ => ?_)) | (refine g_box rfl ?_; first | refine a_boxl rfl rfl rfl rfl rfl rfl (fun _ => ?_) | refine a_box1 rfl rfl rfl rfl rfl rfl rfl (fun _ => ?_)) | (first | refine mx_indexn E rfl rfl rfl rfl rfl rfl rfl rfl (by omega) (by first | exact vr_RR _ (by omega)) rfl ?_ | refine mx_index E rfl rfl rfl rfl rfl rfl rfl rfl (by omega) (by omega) (by first | exact vr_RR _ (by omega)) rfl ?_) | (refine g_bs rfl ?_; first | refine a_bs0 E rfl rfl rfl rfl rfl rfl (fun _ => ?_) | refine a_bsi E rfl rfl rfl rfl rfl (by (repeat (first | exact EvI.nil | (apply EvI.cons; rfl)))) (by rfl) (by rfl) (by rfl) rfl (fun _ => ?_)) | (refine g_conv rfl ?_; first | refine mx_cv E rfl rfl rfl rfl rfl rfl (by assumption) rfl ?_ | refine mx_cv E rfl rfl rfl rfl rfl rfl (IntWalk.i64_in _ (by omega)) rfl ?_ | refine mx_cv E rfl rfl rfl rfl rfl rfl (IntWalk.u64_in _ (by omega)) rfl ?_ | refine mx_cv E rfl rfl rfl rfl rfl rfl (IntWalk.u8_in _ (by omega)) rfl ?_ | refine mx_cv E rfl rfl rfl rfl rfl rfl rfl rfl ?_) | (first | (refine g_bi .max rfl ?_; refine mx_maxi rfl rfl rfl rfl rfl rfl rfl ?_) | (refine g_bi .min rfl ?_; refine mx_mini rfl rfl rfl rfl rfl rfl rfl ?_)) | (first | refine mx_dv rfl rfl rfl rfl rfl (by omega) (congrArg some (by with_reducible assumption)) rfl rfl ?_ | refine mx_fn rfl rfl rfl rfl rfl rfl ?_) | (fail)) | refine cw_seq ?_ | refine cw_line rfl ?_ | (fail) | refine cw_block ?_ | refine cw_cond_f rfl ?_ | refine cw_cond_t rfl ?_ | refine cw_skip ?_ | refine cw_exit ?_ | refine cw_ret ?_ | refine pw_then ?_ | refine pw_then_x ?_ | refine pw_then_r ?_ | refine pw_block ?_ | refine pw_block_e ?_ | refine pw_block_n rfl ?_ | refine pw_block_r ?_))
    refine g_cf 4 rfl ?_
    refine a_callv rfl rfl rfl rfl Try.func4 rfl rfl rfl (.bool true) (fun w' hw => hitsN oa oc (8 * 7) ops hn (some ⟨b1, 0, none⟩) 1 1 [evC 2] rfl w' (opsR_L hn hE hw 1 2 rfl rfl) (evL_cell (hw.holds 0 _ rfl))) rfl ?_
    (repeat (((refine (?_ : MX _ _ _ _ _ _ _ _ _ _ _)); first | (refine mx_mv _ rfl rfl (by conv => {lhs; whnf}) ?_) | (refine g_pick rfl ?_; refine mx_and rfl rfl rfl rfl rfl rfl ?_ ) ) ))
    refine g_cf 4 rfl ?_
    refine a_callv rfl rfl rfl rfl Try.func4 rfl rfl rfl (.bool true) (fun w' hw => hitsN oa oc (8 * 7) ops hn none 0 0 [] rfl w' (opsR_L hn hE hw 1 2 rfl rfl) (evL_nil w')) rfl ?_
    (repeat (((refine (?_ : MX _ _ _ _ _ _ _ _ _ _ _)); first | (refine mx_mv _ rfl rfl (by conv => {lhs; whnf}) ?_) | (refine g_pick rfl ?_; refine mx_and rfl rfl rfl rfl rfl rfl ?_ ) ) ))
    refine g_cf 31 rfl ?_; refine a_cn1 rfl rfl rfl rfl Try.func31 rfl rfl rfl (fun b : Nat => .slice (some ⟨b, 0, none⟩) 1 1) (fun b => row b 49 (cEV (evC 1))) (fun w' hw => cell31 1 w') (fun _ => rfl) (fun _ _ _ => trivial) (fun b2 => ?_)
    (repeat (first | ((refine (?_ : MX _ _ _ _ _ _ _ _ _ _ _)); first | refine mx_end ?_ | (refine mx_mv _ rfl rfl (by conv => {lhs; whnf}) ?_) | (refine mx_as _ rfl rfl (by conv => {lhs; whnf}) ?_) | (first | refine mx_fa0 E rfl rfl rfl rfl ?_ | refine mx_fa E rfl rfl rfl rfl ?_) | (refine g_load rfl ?_; first | refine mx_get E rfl rfl rfl rfl rfl (by first | assumption | rfl) rfl ?_ | refine mx_getn E rfl rfl rfl rfl rfl (by first | assumption | exact Vr.all rfl | exact ⟨⟨rfl⟩, rfl⟩) rfl ?_ | refine mx_oldn E rfl rfl rfl rfl rfl (by assumption) (by assumption) (rfl) rfl ?_ | refine mx_old1 E rfl rfl rfl rfl rfl (by assumption) (by assumption) rfl ?_ | refine mx_orow E rfl rfl rfl rfl rfl (by assumption) (by assumption) (by first | assumption | rfl) rfl ?_ | refine mx_orown E rfl rfl rfl rfl rfl (by assumption) (by assumption) (by first | assumption | exact Vr.all rfl | exact ⟨⟨rfl⟩, rfl⟩) rfl ?_ | refine mx_geta E rfl rfl rfl rfl rfl rfl (by first | assumption | rfl) rfl ?_ | refine mx_getna E rfl rfl rfl rfl rfl rfl (by first | assumption | exact Vr.all rfl | exact ⟨⟨rfl⟩, rfl⟩) rfl ?_) | (refine g_bin rfl ?_; first | (first | (refine mx_cmpl .eql rfl rfl rfl rfl rfl (by first | exact cmp_eq_t (by omega) | exact cmp_eq_f (by omega) | rfl) ?_) | (refine mx_cmpl .neq rfl rfl rfl rfl rfl (by first | exact cmp_ne_t (by omega) | exact cmp_ne_f (by omega) | rfl) ?_) | (refine mx_cmpl .lss rfl rfl rfl rfl rfl (by first | exact cmp_lt_t (by omega) | exact cmp_lt_f (by omega) | rfl) ?_) | (refine mx_cmpl .leq rfl rfl rfl rfl rfl (by first | exact cmp_le_t (by omega) | exact cmp_le_f (by omega) | rfl) ?_) | (refine mx_cmpl .gtr rfl rfl rfl rfl rfl (by first | exact cmp_gt_t (by omega) | exact cmp_gt_f (by omega) | rfl) ?_) | (refine mx_cmpl .geq rfl rfl rfl rfl rfl (by first | exact cmp_ge_t (by omega) | exact cmp_ge_f (by omega) | rfl) ?_)) | (first | refine mx_ar rfl rfl rfl rfl rfl rfl ((IntWalk.i64_in _ (by omega)).trans (by with_reducible assumption)) rfl ?_ | refine mx_ar rfl rfl rfl rfl rfl rfl (IntWalk.i64_in _ (by omega)) rfl ?_ | refine mx_ar rfl rfl rfl rfl rfl rfl (by with_reducible assumption) rfl ?_) | (first | refine mx_eqs rfl rfl rfl rfl rfl rfl ?_ | refine mx_nes rfl rfl rfl rfl rfl rfl ?_ | refine mx_eq rfl rfl rfl rfl rfl rfl ?_ | refine mx_ne rfl rfl rfl rfl rfl rfl ?_) | refine mx_bsame E rfl rfl rfl rfl rfl rfl rfl ?_ | refine mx_bnsame E rfl rfl rfl rfl rfl rfl rfl ?_ | refine mx_beq E rfl rfl rfl rfl rfl rfl rfl ?_ | refine mx_bne E rfl rfl rfl rfl rfl rfl rfl ?_ | refine mx_dv rfl rfl rfl rfl rfl (by decide) (congrArg some (by assumption)) rfl rfl ?_ | refine mx_dv rfl rfl rfl rfl rfl (by decide) rfl rfl rfl ?_ | refine mx_bit rfl rfl rfl rfl rfl (congrArg some (by assumption)) rfl rfl ?_ | refine mx_bit rfl rfl rfl rfl rfl rfl rfl rfl ?_ | refine mx_sh rfl rfl rfl rfl rfl (by omega) (congrArg some (by assumption)) rfl rfl ?_ | refine mx_sh rfl rfl rfl rfl rfl (by omega) rfl rfl rfl ?_) | (refine g_ix rfl ?_; first | refine mx_ixan E rfl rfl rfl rfl rfl rfl (by omega) rfl ?_ | refine mx_ixsn E rfl rfl rfl rfl rfl rfl (by omega) rfl ?_ | refine mx_ixsi E rfl rfl rfl rfl rfl rfl (by omega) (by omega) rfl ?_ | refine mx_ixa E rfl rfl rfl rfl rfl rfl (by omega) (by omega) rfl rfl ?_) | (refine mx_nc rfl rfl rfl ?_) | (refine g_bi .len rfl ?_; refine mx_len E rfl rfl rfl rfl ?_) | (refine mx_not rfl rfl rfl ?_) | (refine mx_ex _ rfl rfl rfl (by conv => {lhs; whnf}) ?_) | (refine mx_skip rfl rfl rfl ?_) | (refine g_pick rfl ?_; first | refine mx_andf rfl rfl rfl rfl rfl ?_ | refine mx_ort rfl rfl rfl rfl rfl ?_ | refine mx_and rfl rfl rfl rfl rfl rfl ?_ | refine mx_or rfl rfl rfl rfl rfl rfl ?_ | refine mx_pickt _ rfl rfl rfl rfl (by conv => {lhs; whnf}) rfl ?_ | refine mx_pickf _ rfl rfl rfl rfl (by conv => {lhs; whnf}) rfl ?_) | (refine g_store rfl ?_; first | refine s_l E rfl rfl rfl rfl rfl rfl rfl (by first | assumption | exact Sp.all rfl | exact Sp.lit rfl rfl) rfl ?_ | refine s_1 E rfl rfl rfl rfl rfl rfl rfl rfl (by first | assumption | exact sp0 | exact spS sp0 | exact spS (spS sp0) | exact Sp.lit rfl rfl) rfl ?_) | (refine g_build rfl ?_; first | refine mx_build rfl rfl rfl rfl (b32_12 _ _ _ _) rfl ?_ | refine mx_build rfl rfl rfl rfl (b32_02 _ _ _ _) rfl ?_ | refine mx_build rfl rfl rfl rfl (b32_01 _ _) rfl ?_ | refine mx_build rfl rfl rfl rfl (b32_0 _) rfl ?_ | refine mx_build rfl rfl rfl rfl (b32_1 _) rfl ?_ | refine mx_build rfl rfl rfl rfl (b49_e _ _ _) rfl ?_) | (refine a_new rfl rfl rfl rfl rfl (fun _ => ?_)) | (refine g_box rfl ?_; first | refine a_boxl rfl rfl rfl rfl rfl rfl (fun _ => ?_) | refine a_box1 rfl rfl rfl rfl rfl rfl rfl (fun _ => ?_)) | (first | refine mx_indexn E rfl rfl rfl rfl rfl rfl rfl rfl (by omega) (by first | exact vr_RR _ (by omega)) rfl ?_ | refine mx_index E rfl rfl rfl rfl rfl rfl rfl rfl (by omega) (by omega) (by first | exact vr_RR _ (by omega)) rfl ?_) | (refine g_bs rfl ?_; first | refine a_bs0 E rfl rfl rfl rfl rfl rfl (fun _ => ?_) | refine a_bsi E rfl rfl rfl rfl rfl (by (repeat (first | exact EvI.nil | (apply EvI.cons; rfl)))) (by rfl) (by rfl) (by rfl) rfl (fun _ => ?_)) | (refine g_conv rfl ?_; first | refine mx_cv E rfl rfl rfl rfl rfl rfl (by assumption) rfl ?_ | refine mx_cv E rfl rfl rfl rfl rfl rfl (IntWalk.i64_in _ (by omega)) rfl ?_ | refine mx_cv E rfl rfl rfl rfl rfl rfl (IntWalk.u64_in _ (by omega)) rfl ?_ | refine mx_cv E rfl rfl rfl rfl rfl rfl (IntWalk.u8_in _ (by omega)) rfl ?_ | refine mx_cv E rfl rfl rfl rfl rfl rfl rfl rfl ?_) | (first | (refine g_bi .max rfl ?_; refine mx_maxi rfl rfl rfl rfl rfl rfl rfl ?_) | (refine g_bi .min rfl ?_; refine mx_mini rfl rfl rfl rfl rfl rfl rfl ?_)) | (first | refine mx_dv rfl rfl rfl rfl rfl (by omega) (congrArg some (by with_reducible assumption)) rfl rfl ?_ | refine mx_fn rfl rfl rfl rfl rfl rfl ?_) | (fail)) | refine cw_seq ?_ | refine cw_line rfl ?_ | (fail) | refine cw_block ?_ | refine cw_cond_f rfl ?_ | refine cw_cond_t rfl ?_ | refine cw_skip ?_ | refine cw_exit ?_ | refine cw_ret ?_ | refine pw_then ?_ | refine pw_then_x ?_ | refine pw_then_r ?_ | refine pw_block ?_ | refine pw_block_e ?_ | refine pw_block_n rfl ?_ | refine pw_block_r ?_))
    refine g_cf 31 rfl ?_; refine a_cn1 rfl rfl rfl rfl Try.func31 rfl rfl rfl (fun b : Nat => .slice (some ⟨b, 0, none⟩) 1 1) (fun b => row b 49 (cEV (evC 2))) (fun w' hw => cell31 2 w') (fun _ => rfl) (fun _ _ _ => trivial) (fun b3 => ?_)
    (repeat (first | ((refine (?_ : MX _ _ _ _ _ _ _ _ _ _ _)); first | refine mx_end ?_ | (refine mx_mv _ rfl rfl (by conv => {lhs; whnf}) ?_) | (refine mx_as _ rfl rfl (by conv => {lhs; whnf}) ?_) | (first | refine mx_fa0 E rfl rfl rfl rfl ?_ | refine mx_fa E rfl rfl rfl rfl ?_) | (refine g_load rfl ?_; first | refine mx_get E rfl rfl rfl rfl rfl (by first | assumption | rfl) rfl ?_ | refine mx_getn E rfl rfl rfl rfl rfl (by first | assumption | exact Vr.all rfl | exact ⟨⟨rfl⟩, rfl⟩) rfl ?_ | refine mx_oldn E rfl rfl rfl rfl rfl (by assumption) (by assumption) (rfl) rfl ?_ | refine mx_old1 E rfl rfl rfl rfl rfl (by assumption) (by assumption) rfl ?_ | refine mx_orow E rfl rfl rfl rfl rfl (by assumption) (by assumption) (by first | assumption | rfl) rfl ?_ | refine mx_orown E rfl rfl rfl rfl rfl (by assumption) (by assumption) (by first | assumption | exact Vr.all rfl | exact ⟨⟨rfl⟩, rfl⟩) rfl ?_ | refine mx_geta E rfl rfl rfl rfl rfl rfl (by first | assumption | rfl) rfl ?_ | refine mx_getna E rfl rfl rfl rfl rfl rfl (by first | assumption | exact Vr.all rfl | exact ⟨⟨rfl⟩, rfl⟩) rfl ?_) | (refine g_bin rfl ?_; first | (first | (refine mx_cmpl .eql rfl rfl rfl rfl rfl (by first | exact cmp_eq_t (by omega) | exact cmp_eq_f (by omega) | rfl) ?_) | (refine mx_cmpl .neq rfl rfl rfl rfl rfl (by first | exact cmp_ne_t (by omega) | exact cmp_ne_f (by omega) | rfl) ?_) | (refine mx_cmpl .lss rfl rfl rfl rfl rfl (by first | exact cmp_lt_t (by omega) | exact cmp_lt_f (by omega) | rfl) ?_) | (refine mx_cmpl .leq rfl rfl rfl rfl rfl (by first | exact cmp_le_t (by omega) | exact cmp_le_f (by omega) | rfl) ?_) | (refine mx_cmpl .gtr rfl rfl rfl rfl rfl (by first | exact cmp_gt_t (by omega) | exact cmp_gt_f (by omega) | rfl) ?_) | (refine mx_cmpl .geq rfl rfl rfl rfl rfl (by first | exact cmp_ge_t (by omega) | exact cmp_ge_f (by omega) | rfl) ?_)) | (first | refine mx_ar rfl rfl rfl rfl rfl rfl ((IntWalk.i64_in _ (by omega)).trans (by with_reducible assumption)) rfl ?_ | refine mx_ar rfl rfl rfl rfl rfl rfl (IntWalk.i64_in _ (by omega)) rfl ?_ | refine mx_ar rfl rfl rfl rfl rfl rfl (by with_reducible assumption) rfl ?_) | (first | refine mx_eqs rfl rfl rfl rfl rfl rfl ?_ | refine mx_nes rfl rfl rfl rfl rfl rfl ?_ | refine mx_eq rfl rfl rfl rfl rfl rfl ?_ | refine mx_ne rfl rfl rfl rfl rfl rfl ?_) | refine mx_bsame E rfl rfl rfl rfl rfl rfl rfl ?_ | refine mx_bnsame E rfl rfl rfl rfl rfl rfl rfl ?_ | refine mx_beq E rfl rfl rfl rfl rfl rfl rfl ?_ | refine mx_bne E rfl rfl rfl rfl rfl rfl rfl ?_ | refine mx_dv rfl rfl rfl rfl rfl (by decide) (congrArg some (by assumption)) rfl rfl ?_ | refine mx_dv rfl rfl rfl rfl rfl (by decide) rfl rfl rfl ?_ | refine mx_bit rfl rfl rfl rfl rfl (congrArg some (by assumption)) rfl rfl ?_ | refine mx_bit rfl rfl rfl rfl rfl rfl rfl rfl ?_ | refine mx_sh rfl rfl rfl rfl rfl (by omega) (congrArg some (by assumption)) rfl rfl ?_ | refine mx_sh rfl rfl rfl rfl rfl (by omega) rfl rfl rfl ?_) | (refine g_ix rfl ?_; first | refine mx_ixan E rfl rfl rfl rfl rfl rfl (by omega) rfl ?_ | refine mx_ixsn E rfl rfl rfl rfl rfl rfl (by omega) rfl ?_ | refine mx_ixsi E rfl rfl rfl rfl rfl rfl (by omega) (by omega) rfl ?_ | refine mx_ixa E rfl rfl rfl rfl rfl rfl (by omega) (by omega) rfl rfl ?_) | (refine mx_nc rfl rfl rfl ?_) | (refine g_bi .len rfl ?_; refine mx_len E rfl rfl rfl rfl ?_) | (refine mx_not rfl rfl rfl ?_) | (refine mx_ex _ rfl rfl rfl (by conv => {lhs; whnf}) ?_) | (refine mx_skip rfl rfl rfl ?_) | (refine g_pick rfl ?_; first | refine mx_andf rfl rfl rfl rfl rfl ?_ | refine mx_ort rfl rfl rfl rfl rfl ?_ | refine mx_and rfl rfl rfl rfl rfl rfl ?_ | refine mx_or rfl rfl rfl rfl rfl rfl ?_ | refine mx_pickt _ rfl rfl rfl rfl (by conv => {lhs; whnf}) rfl ?_ | refine mx_pickf _ rfl rfl rfl rfl (by conv => {lhs; whnf}) rfl ?_) | (refine g_store rfl ?_; first | refine s_l E rfl rfl rfl rfl rfl rfl rfl (by first | assumption | exact Sp.all rfl | exact Sp.lit rfl rfl) rfl ?_ | refine s_1 E rfl rfl rfl rfl rfl rfl rfl rfl (by first | assumption | exact sp0 | exact spS sp0 | exact spS (spS sp0) | exact Sp.lit rfl rfl) rfl ?_) | (refine g_build rfl ?_; first | refine mx_build rfl rfl rfl rfl (b32_12 _ _ _ _) rfl ?_ | refine mx_build rfl rfl rfl rfl (b32_02 _ _ _ _) rfl ?_ | refine mx_build rfl rfl rfl rfl (b32_01 _ _) rfl ?_ | refine mx_build rfl rfl rfl rfl (b32_0 _) rfl ?_ | refine mx_build rfl rfl rfl rfl (b32_1 _) rfl ?_ | refine mx_build rfl rfl rfl rfl (b49_e _ _ _) rfl ?_) | (refine a_new rfl rfl rfl rfl rfl (fun _ => ?_)) | (refine g_box rfl ?_; first | refine a_boxl rfl rfl rfl rfl rfl rfl (fun _ => ?_) | refine a_box1 rfl rfl rfl rfl rfl rfl rfl (fun _ => ?_)) | (first | refine mx_indexn E rfl rfl rfl rfl rfl rfl rfl rfl (by omega) (by first | exact vr_RR _ (by omega)) rfl ?_ | refine mx_index E rfl rfl rfl rfl rfl rfl rfl rfl (by omega) (by omega) (by first | exact vr_RR _ (by omega)) rfl ?_) | (refine g_bs rfl ?_; first | refine a_bs0 E rfl rfl rfl rfl rfl rfl (fun _ => ?_) | refine a_bsi E rfl rfl rfl rfl rfl (by (repeat (first | exact EvI.nil | (apply EvI.cons; rfl)))) (by rfl) (by rfl) (by rfl) rfl (fun _ => ?_)) | (refine g_conv rfl ?_; first | refine mx_cv E rfl rfl rfl rfl rfl rfl (by assumption) rfl ?_ | refine mx_cv E rfl rfl rfl rfl rfl rfl (IntWalk.i64_in _ (by omega)) rfl ?_ | refine mx_cv E rfl rfl rfl rfl rfl rfl (IntWalk.u64_in _ (by omega)) rfl ?_ | refine mx_cv E rfl rfl rfl rfl rfl rfl (IntWalk.u8_in _ (by omega)) rfl ?_ | refine mx_cv E rfl rfl rfl rfl rfl rfl rfl rfl ?_) | (first | (refine g_bi .max rfl ?_; refine mx_maxi rfl rfl rfl rfl rfl rfl rfl ?_) | (refine g_bi .min rfl ?_; refine mx_mini rfl rfl rfl rfl rfl rfl rfl ?_)) | (first | refine mx_dv rfl rfl rfl rfl rfl (by omega) (congrArg some (by with_reducible assumption)) rfl rfl ?_ | refine mx_fn rfl rfl rfl rfl rfl rfl ?_) | (fail)) | refine cw_seq ?_ | refine cw_line rfl ?_ | (fail) | refine cw_block ?_ | refine cw_cond_f rfl ?_ | refine cw_cond_t rfl ?_ | refine cw_skip ?_ | refine cw_exit ?_ | refine cw_ret ?_ | refine pw_then ?_ | refine pw_then_x ?_ | refine pw_then_r ?_ | refine pw_block ?_ | refine pw_block_e ?_ | refine pw_block_n rfl ?_ | refine pw_block_r ?_))
    refine g_cf 5 rfl ?_
    refine a_callv rfl rfl rfl rfl Try.func5 rfl rfl rfl (.bool true) (fun w' hw => pcsN oa oc (8 * 7) ops hn (some ⟨b2, 0, none⟩) 1 1 [evC 1] rfl (some ⟨b3, 0, none⟩) 1 1 [evC 2] rfl w' (opsR_L hn hE hw 3 4 rfl rfl) (evL_cell (hw.holds 1 _ rfl)) (evL_cell (hw.holds 0 _ rfl))) rfl ?_
    (repeat (((refine (?_ : MX _ _ _ _ _ _ _ _ _ _ _)); first | (refine mx_mv _ rfl rfl (by conv => {lhs; whnf}) ?_) | (refine g_pick rfl ?_; refine mx_and rfl rfl rfl rfl rfl rfl ?_ ) ) ))
    refine g_cf 31 rfl ?_; refine a_cn1 rfl rfl rfl rfl Try.func31 rfl rfl rfl (fun b : Nat => .slice (some ⟨b, 0, none⟩) 1 1) (fun b => row b 49 (cEV (evC 5))) (fun w' hw => cell31 5 w') (fun _ => rfl) (fun _ _ _ => trivial) (fun b4 => ?_)
    (repeat (((refine (?_ : MX _ _ _ _ _ _ _ _ _ _ _)); (refine g_build rfl ?_; refine mx_build rfl rfl rfl rfl (b32_12 _ _ _ _) rfl ?_ ) ) ))
    refine g_cf 31 rfl ?_; refine a_cn1 rfl rfl rfl rfl Try.func31 rfl rfl rfl (fun b : Nat => .slice (some ⟨b, 0, none⟩) 1 1) (fun b => row b 49 (cEV (evC 6))) (fun w' hw => cell31 6 w') (fun _ => rfl) (fun _ _ _ => trivial) (fun b5 => ?_)
    (repeat (((refine (?_ : MX _ _ _ _ _ _ _ _ _ _ _)); (refine g_build rfl ?_; refine mx_build rfl rfl rfl rfl (b32_12 _ _ _ _) rfl ?_ ) ) ))
    refine g_cf 31 rfl ?_; refine a_cn1 rfl rfl rfl rfl Try.func31 rfl rfl rfl (fun b : Nat => .slice (some ⟨b, 0, none⟩) 1 1) (fun b => row b 49 (cEV (evC 5))) (fun w' hw => cell31 5 w') (fun _ => rfl) (fun _ _ _ => trivial) (fun b6 => ?_)
    (repeat (((refine (?_ : MX _ _ _ _ _ _ _ _ _ _ _)); (refine g_build rfl ?_; refine mx_build rfl rfl rfl rfl (b32_02 _ _ _ _) rfl ?_ ) ) ))
    refine g_bs rfl ?_
    refine a_bslice E rfl rfl rfl rfl [.agg (cOW ⟨0, 1, some ⟨b4, 0, none⟩, 1, [evC 5]⟩).toArray, .agg (cOW ⟨0, 1, some ⟨b5, 0, none⟩, 1, [evC 6]⟩).toArray, .agg (cOW ⟨2, 0, some ⟨b6, 0, none⟩, 1, [evC 5]⟩).toArray] rfl (us := ([⟨0, 1, some ⟨b4, 0, none⟩, 1, [evC 5]⟩, ⟨0, 1, some ⟨b5, 0, none⟩, 1, [evC 6]⟩, ⟨2, 0, some ⟨b6, 0, none⟩, 1, [evC 5]⟩] : List OPW).flatMap cOW) rfl rfl (by intro v hv; simp at hv; rcases hv with rfl | rfl | rfl <;> rfl) rfl rfl rfl rfl (fun b7 => ?_)
    (repeat (first | ((refine (?_ : MX _ _ _ _ _ _ _ _ _ _ _)); first | refine mx_end ?_ | (refine mx_mv _ rfl rfl (by conv => {lhs; whnf}) ?_) | (refine mx_as _ rfl rfl (by conv => {lhs; whnf}) ?_) | (first | refine mx_fa0 E rfl rfl rfl rfl ?_ | refine mx_fa E rfl rfl rfl rfl ?_) | (refine g_load rfl ?_; first | refine mx_get E rfl rfl rfl rfl rfl (by first | assumption | rfl) rfl ?_ | refine mx_getn E rfl rfl rfl rfl rfl (by first | assumption | exact Vr.all rfl | exact ⟨⟨rfl⟩, rfl⟩) rfl ?_ | refine mx_oldn E rfl rfl rfl rfl rfl (by assumption) (by assumption) (rfl) rfl ?_ | refine mx_old1 E rfl rfl rfl rfl rfl (by assumption) (by assumption) rfl ?_ | refine mx_orow E rfl rfl rfl rfl rfl (by assumption) (by assumption) (by first | assumption | rfl) rfl ?_ | refine mx_orown E rfl rfl rfl rfl rfl (by assumption) (by assumption) (by first | assumption | exact Vr.all rfl | exact ⟨⟨rfl⟩, rfl⟩) rfl ?_ | refine mx_geta E rfl rfl rfl rfl rfl rfl (by first | assumption | rfl) rfl ?_ | refine mx_getna E rfl rfl rfl rfl rfl rfl (by first | assumption | exact Vr.all rfl | exact ⟨⟨rfl⟩, rfl⟩) rfl ?_) | (refine g_bin rfl ?_; first | (first | (refine mx_cmpl .eql rfl rfl rfl rfl rfl (by first | exact cmp_eq_t (by omega) | exact cmp_eq_f (by omega) | rfl) ?_) | (refine mx_cmpl .neq rfl rfl rfl rfl rfl (by first | exact cmp_ne_t (by omega) | exact cmp_ne_f (by omega) | rfl) ?_) | (refine mx_cmpl .lss rfl rfl rfl rfl rfl (by first | exact cmp_lt_t (by omega) | exact cmp_lt_f (by omega) | rfl) ?_) | (refine mx_cmpl .leq rfl rfl rfl rfl rfl (by first | exact cmp_le_t (by omega) | exact cmp_le_f (by omega) | rfl) ?_) | (refine mx_cmpl .gtr rfl rfl rfl rfl rfl (by first | exact cmp_gt_t (by omega) | exact cmp_gt_f (by omega) | rfl) ?_) | (refine mx_cmpl .geq rfl rfl rfl rfl rfl (by first | exact cmp_ge_t (by omega) | exact cmp_ge_f (by omega) | rfl) ?_)) | (first | refine mx_ar rfl rfl rfl rfl rfl rfl ((IntWalk.i64_in _ (by omega)).trans (by with_reducible assumption)) rfl ?_ | refine mx_ar rfl rfl rfl rfl rfl rfl (IntWalk.i64_in _ (by omega)) rfl ?_ | refine mx_ar rfl rfl rfl rfl rfl rfl (by with_reducible assumption) rfl ?_) | (first | refine mx_eqs rfl rfl rfl rfl rfl rfl ?_ | refine mx_nes rfl rfl rfl rfl rfl rfl ?_ | refine mx_eq rfl rfl rfl rfl rfl rfl ?_ | refine mx_ne rfl rfl rfl rfl rfl rfl ?_) | refine mx_bsame E rfl rfl rfl rfl rfl rfl rfl ?_ | refine mx_bnsame E rfl rfl rfl rfl rfl rfl rfl ?_ | refine mx_beq E rfl rfl rfl rfl rfl rfl rfl ?_ | refine mx_bne E rfl rfl rfl rfl rfl rfl rfl ?_ | refine mx_dv rfl rfl rfl rfl rfl (by decide) (congrArg some (by assumption)) rfl rfl ?_ | refine mx_dv rfl rfl rfl rfl rfl (by decide) rfl rfl rfl ?_ | refine mx_bit rfl rfl rfl rfl rfl (congrArg some (by assumption)) rfl rfl ?_ | refine mx_bit rfl rfl rfl rfl rfl rfl rfl rfl ?_ | refine mx_sh rfl rfl rfl rfl rfl (by omega) (congrArg some (by assumption)) rfl rfl ?_ | refine mx_sh rfl rfl rfl rfl rfl (by omega) rfl rfl rfl ?_) | (refine g_ix rfl ?_; first | refine mx_ixan E rfl rfl rfl rfl rfl rfl (by omega) rfl ?_ | refine mx_ixsn E rfl rfl rfl rfl rfl rfl (by omega) rfl ?_ | refine mx_ixsi E rfl rfl rfl rfl rfl rfl (by omega) (by omega) rfl ?_ | refine mx_ixa E rfl rfl rfl rfl rfl rfl (by omega) (by omega) rfl rfl ?_) | (refine mx_nc rfl rfl rfl ?_) | (refine g_bi .len rfl ?_; refine mx_len E rfl rfl rfl rfl ?_) | (refine mx_not rfl rfl rfl ?_) | (refine mx_ex _ rfl rfl rfl (by conv => {lhs; whnf}) ?_) | (refine mx_skip rfl rfl rfl ?_) | (refine g_pick rfl ?_; first | refine mx_andf rfl rfl rfl rfl rfl ?_ | refine mx_ort rfl rfl rfl rfl rfl ?_ | refine mx_and rfl rfl rfl rfl rfl rfl ?_ | refine mx_or rfl rfl rfl rfl rfl rfl ?_ | refine mx_pickt _ rfl rfl rfl rfl (by conv => {lhs; whnf}) rfl ?_ | refine mx_pickf _ rfl rfl rfl rfl (by conv => {lhs; whnf}) rfl ?_) | (refine g_store rfl ?_; first | refine s_l E rfl rfl rfl rfl rfl rfl rfl (by first | assumption | exact Sp.all rfl | exact Sp.lit rfl rfl) rfl ?_ | refine s_1 E rfl rfl rfl rfl rfl rfl rfl rfl (by first | assumption | exact sp0 | exact spS sp0 | exact spS (spS sp0) | exact Sp.lit rfl rfl) rfl ?_) | (refine g_build rfl ?_; first | refine mx_build rfl rfl rfl rfl (b32_12 _ _ _ _) rfl ?_ | refine mx_build rfl rfl rfl rfl (b32_02 _ _ _ _) rfl ?_ | refine mx_build rfl rfl rfl rfl (b32_01 _ _) rfl ?_ | refine mx_build rfl rfl rfl rfl (b32_0 _) rfl ?_ | refine mx_build rfl rfl rfl rfl (b32_1 _) rfl ?_ | refine mx_build rfl rfl rfl rfl (b49_e _ _ _) rfl ?_) | (refine a_new rfl rfl rfl rfl rfl (fun _ => ?_)) | (refine g_box rfl ?_; first | refine a_boxl rfl rfl rfl rfl rfl rfl (fun _ => ?_) | refine a_box1 rfl rfl rfl rfl rfl rfl rfl (fun _ => ?_)) | (first | refine mx_indexn E rfl rfl rfl rfl rfl rfl rfl rfl (by omega) (by first | exact vr_RR _ (by omega)) rfl ?_ | refine mx_index E rfl rfl rfl rfl rfl rfl rfl rfl (by omega) (by omega) (by first | exact vr_RR _ (by omega)) rfl ?_) | (refine g_bs rfl ?_; first | refine a_bs0 E rfl rfl rfl rfl rfl rfl (fun _ => ?_) | refine a_bsi E rfl rfl rfl rfl rfl (by (repeat (first | exact EvI.nil | (apply EvI.cons; rfl)))) (by rfl) (by rfl) (by rfl) rfl (fun _ => ?_)) | (refine g_conv rfl ?_; first | refine mx_cv E rfl rfl rfl rfl rfl rfl (by assumption) rfl ?_ | refine mx_cv E rfl rfl rfl rfl rfl rfl (IntWalk.i64_in _ (by omega)) rfl ?_ | refine mx_cv E rfl rfl rfl rfl rfl rfl (IntWalk.u64_in _ (by omega)) rfl ?_ | refine mx_cv E rfl rfl rfl rfl rfl rfl (IntWalk.u8_in _ (by omega)) rfl ?_ | refine mx_cv E rfl rfl rfl rfl rfl rfl rfl rfl ?_) | (first | (refine g_bi .max rfl ?_; refine mx_maxi rfl rfl rfl rfl rfl rfl rfl ?_) | (refine g_bi .min rfl ?_; refine mx_mini rfl rfl rfl rfl rfl rfl rfl ?_)) | (first | refine mx_dv rfl rfl rfl rfl rfl (by omega) (congrArg some (by with_reducible assumption)) rfl rfl ?_ | refine mx_fn rfl rfl rfl rfl rfl rfl ?_) | (fail)) | refine cw_seq ?_ | refine cw_line rfl ?_ | (fail) | refine cw_block ?_ | refine cw_cond_f rfl ?_ | refine cw_cond_t rfl ?_ | refine cw_skip ?_ | refine cw_exit ?_ | refine cw_ret ?_ | refine pw_then ?_ | refine pw_then_x ?_ | refine pw_then_r ?_ | refine pw_block ?_ | refine pw_block_e ?_ | refine pw_block_n rfl ?_ | refine pw_block_r ?_))
    refine g_cf 3 rfl ?_
    refine a_callv rfl rfl rfl rfl Try.func3 rfl rfl rfl (.bool true) (fun w' hw => runsN (some ⟨b7, 0, none⟩) 3 3 [⟨0, 1, some ⟨b4, 0, none⟩, 1, [evC 5]⟩, ⟨0, 1, some ⟨b5, 0, none⟩, 1, [evC 6]⟩, ⟨2, 0, some ⟨b6, 0, none⟩, 1, [evC 5]⟩] rfl w' (opsR_one (hw.holds 0 _ rfl) (fun o ho => by
      simp only [List.mem_cons, List.not_mem_nil, or_false] at ho
      rcases ho with rfl | rfl | rfl
      · exact evL_cell (hw.holds 3 _ rfl)
      · exact evL_cell (hw.holds 2 _ rfl)
      · exact evL_cell (hw.holds 1 _ rfl)))) rfl ?_
    (repeat (((refine (?_ : MX _ _ _ _ _ _ _ _ _ _ _)); first | (refine mx_mv _ rfl rfl (by conv => {lhs; whnf}) ?_) | (refine g_pick rfl ?_; refine mx_and rfl rfl rfl rfl rfl rfl ?_ ) ) ))
    refine g_cf 12 rfl ?_
    refine a_callv rfl rfl rfl rfl Try.func12 rfl rfl rfl (.bool true) (fun w' hw => works12 w') rfl ?_
    (repeat (first | ((refine (?_ : MX _ _ _ _ _ _ _ _ _ _ _)); first | refine mx_end ?_ | (refine mx_as _ rfl rfl (by conv => {lhs; whnf}) ?_) | (refine g_pick rfl ?_; refine mx_and rfl rfl rfl rfl rfl rfl ?_ ) ) | refine cw_ret ?_ | refine pw_then ?_ ))
    exact pw_ret rfl rfl rfl rfl fun w hw => ⟨rfl, hw.keep.grow⟩
  case pos =>
  have hi7 : i < 7 := by omega
  obtain ⟨p, hp⟩ := ns_at (j := i) hi7
  obtain ⟨q, hq⟩ := ns_at (j := i * 3 % 7) (Nat.mod_lt _ (by decide))
  obtain ⟨r, hr⟩ := ns_at (j := i * 5 % 7) (Nat.mod_lt _ (by decide))
  have r3 : (i : Int).tmod 3 = cN i 3 := remT i 3
  have r2 : (i : Int).tmod 2 = cN i 2 := remT i 2
  have r4 : (i : Int).tmod 4 = cN i 4 := remT i 4
  have m3 : (i : Int) * 3 = ((i * 3 : Nat) : Int) := by omega
  have m5 : (i : Int) * 5 = ((i * 5 : Nat) : Int) := by omega
  have r37 : ((i * 3 : Nat) : Int).tmod 7 = ((i * 3 % 7 : Nat) : Int) := remT (i * 3) 7
  have r57 : ((i * 5 : Nat) : Int).tmod 7 = ((i * 5 % 7 : Nat) : Int) := remT (i * 5) 7
  have u2 : 0 ≤ cN i 2 ∧ cN i 2 < 256 := by show 0 ≤ ((i % 2 : Nat) : Int) ∧ ((i % 2 : Nat) : Int) < 256; omega
  have u3 : 0 ≤ cN i 3 ∧ cN i 3 < 256 := by show 0 ≤ ((i % 3 : Nat) : Int) ∧ ((i % 3 : Nat) : Int) < 256; omega
  (repeat (first | ((refine (?_ : MX _ _ _ _ _ _ _ _ _ _ _)); first | refine mx_end ?_ | (refine mx_mv _ rfl rfl (by conv => {lhs; whnf}) ?_) | (refine g_bin rfl ?_; ( (refine mx_cmpl .lss rfl rfl rfl rfl rfl (by exact cmp_lt_t (by omega) ) ?_) ) ) | (refine g_bi .len rfl ?_; refine mx_len E rfl rfl rfl rfl ?_) ) | refine cw_seq ?_ | refine cw_line rfl ?_ | refine cw_block ?_ | refine cw_cond_t rfl ?_ | refine cw_skip ?_ | refine pw_then ?_ ))
  refine cw_dag [0, 1, 2, 3, 4, 5, 6, 9, 10, 11, 12, 13, 14, 15, 17, 18, 19, 25, 26, 29, 30, 31, 32, 33, 34, 35, 36, 37, 38, 39, 40, 41, 42, 43, 44, 45] [(7, [8]), (16, []), (20, [21]), (22, []), (23, [24]), (27, [28]), (46, [47]), (48, [49])] [50, 51, 52] ancK [row bn 3 (nsK.flatMap cI)] mixed (by kernel_rfl) (fun w h => h.only 2 rfl) ?_
  (repeat (((refine (?_ : MX _ _ _ _ _ _ _ _ _ _ _)); first | (refine mx_mv _ rfl rfl (by conv => {lhs; whnf}) ?_) | (refine g_load rfl ?_; refine mx_get E rfl rfl rfl rfl rfl (by assumption ) rfl ?_ ) | (refine g_bin rfl ?_; first | (refine mx_ar rfl rfl rfl rfl rfl rfl ((IntWalk.i64_in _ (by omega)).trans (by with_reducible assumption)) rfl ?_ ) | refine mx_dv rfl rfl rfl rfl rfl (by decide) (congrArg some (by assumption)) rfl rfl ?_ ) | (refine g_ix rfl ?_; refine mx_ixsn E rfl rfl rfl rfl rfl rfl (by omega) rfl ?_ ) | (refine g_build rfl ?_; first | refine mx_build rfl rfl rfl rfl (b32_01 _ _) rfl ?_ | refine mx_build rfl rfl rfl rfl (b32_0 _) rfl ?_ | refine mx_build rfl rfl rfl rfl (b32_1 _) rfl ?_ ) | (refine g_conv rfl ?_; refine mx_cv E rfl rfl rfl rfl rfl rfl (IntWalk.u8_in _ (by omega)) rfl ?_ ) ) ))
  refine mx_dagI (ι := DS) (fun s => L0 i p q r oa oc (8 * i) bn ++ (LA i p q s.c1 s.c2 s.a2 s.p2 s.ka s.c3 s.x ++ (LB i s.kb s.e2 s.y ++ LC i s.kc s.e8 s.z))) (fun s => HA i s.c1 s.c2 s.a2 s.p2 s.ka s.c3 s.x ++ (HB i s.kb s.e2 s.y ++ (HC i s.kc s.e8 s.z ++ H0 L ops oa oc (8 * i) bn))) DOk (fun s => TT s.x s.y s.z) (fun s => nA s.x s.y s.z ++ (nB s.x s.y s.z ++ nC s.x s.y s.z)) ⟨0, 0, 0, 0, 0, none, 0, 0, 0, 0, 0, 0, 0⟩ rfl rfl ⟨by decide, by decide, by decide, fun h => absurd h (by decide)⟩ (by repeat (first | exact trivial | refine ⟨rfl, ?_⟩)) (fun w h => h) ?_ ?_ (fun s w _ h => ok_bar h (by simp)) ?_ ?_
  · rintro ⟨x, y, z, _, _, _, _, _, _, _, _, _, _⟩ ⟨hx, hy, hz, hb⟩
    dsimp only at hx hy hz hb ⊢
    rcases cases4 hx with rfl | rfl | rfl | rfl | rfl <;> rcases cases2 hy with rfl | rfl | rfl <;> rcases cases2 hz with rfl | rfl | rfl <;> first | (exact absurd (hb (by decide)).1 (by decide)) | kernel_rfl
  · rintro ⟨x, y, z, _, _, _, _, _, _, _, _, _, _⟩ ⟨hx, hy, hz, hb⟩
    dsimp only at hx hy hz hb ⊢
    rcases cases4 hx with rfl | rfl | rfl | rfl | rfl <;> rcases cases2 hy with rfl | rfl | rfl <;> rcases cases2 hz with rfl | rfl | rfl <;> first | (exact absurd (hb (by decide)).1 (by decide)) | decide
  · rintro ⟨x, y, z, c1, c2, a2, p2, ka, c3, kb, e2, kc, e8⟩ jk2 ⟨hx, hy, hz, hb⟩ ht
    dsimp only at hx hy hz hb ht ⊢
    have hs : (x = 4 ∧ y = 2) ∧ z = 2 := by
      rcases cases4 hx with rfl | rfl | rfl | rfl | rfl <;> rcases cases2 hy with rfl | rfl | rfl <;> rcases cases2 hz with rfl | rfl | rfl <;> first | exact ⟨⟨rfl, rfl⟩, rfl⟩ | exact absurd ht (by decide)
    obtain ⟨⟨rfl, rfl⟩, rfl⟩ := hs
    obtain rfl : ka = kb := (hb (by decide)).2
    refine g_bs rfl ?_
    refine a_bslice E rfl rfl rfl rfl [.agg (cOW (ow1 i p c1)).toArray, .agg (cOW (ow2 i q a2 p2 ka)).toArray, .agg (cOW (ow3 i c3)).toArray, .agg (cOW (ow4 r)).toArray, .agg (cOW ow5).toArray, .agg (cOW (ow6 p)).toArray, .agg (cOW ow7).toArray, .agg (cOW (ow8 i e8 kc)).toArray] rfl (us := (news i p q r c1 a2 p2 ka c3 kc e8).flatMap cOW) rfl rfl (by intro v hv; simp at hv; rcases hv with rfl | rfl | rfl | rfl | rfl | rfl | rfl | rfl <;> rfl) rfl rfl rfl rfl (fun br => ?_)
    refine mx_weak (H' := [ownd oa oc 32 3 (8 * i) (ops.flatMap cOW), row br 32 ((news i p q r c1 a2 p2 ka c3 kc e8).flatMap cOW), row c3 49 (cEV (evC (cN i 4))), ownd a2 p2 49 5 2 ([evC (i : Int), evB ka (cN i 2)].flatMap cEV), row c1 49 (cEV (evC (cN i 3))), row ka 5 [.int .u8 (cN i 2)], row e8 49 (cEV (evB kc (cN i 3))), row kc 5 [.int .u8 (cN i 3)], star L, row bn 3 (nsK.flatMap cI)]) (fun w h => h.pick [8, 0, 1, 2, 3, 5, 6, 7, 9, 10] (by decide) rfl) (fun w h => ok_bar h (by simp)) ?_
    refine g_bi .append rfl ?_
    refine a_app E rfl rfl rfl rfl rfl rfl rfl rfl ((news i p q r c1 a2 p2 ka c3 kc e8).flatMap cOW) rfl (fun w hw => fun _ => ⟨br, 0, rfl, fun j u hj => by rw [add_at, Nat.zero_add]; exact row_cell (hw.holds 1 _ rfl) hj⟩) rfl (by omega) rfl (fun _ _ w h => ok_bar h (by simp)) (fun oa' oc' => ?_)
    (repeat (first | ((refine (?_ : MX _ _ _ _ _ _ _ _ _ _ _)); first | refine mx_end ?_ | (refine mx_mv _ rfl rfl (by conv => {lhs; whnf}) ?_) | (refine mx_as _ rfl rfl (by conv => {lhs; whnf}) ?_) | (refine g_bin rfl ?_; ( refine mx_ar rfl rfl rfl rfl rfl rfl (IntWalk.i64_in _ (by omega)) rfl ?_ ) ) ) | refine cw_line rfl ?_ | refine pw_then ?_ | refine pw_block ?_ ))
    exact pw_round (⟨i + 1, ops ++ news i p q r c1 a2 p2 ka c3 kc e8, oa', oc', L ++ newR i c1 a2 p2 ka c3 kc e8⟩ : RS) ⟨hi7, by rw [List.length_append, hn]; rfl, newE hE u2 u3⟩ (by show 7 - (i + 1) < 7 - i; omega) ⟨rfl, rfl, rfl, trivial⟩ (fun w h => by
      show Ok _ _ [ownd oa' oc' 32 3 (8 * i + 8) ((ops ++ news i p q r c1 a2 p2 ka c3 kc e8).flatMap cOW), star (L ++ newR i c1 a2 p2 ka c3 kc e8), row bn 3 (nsK.flatMap cI)] w
      rw [List.flatMap_append]
      exact newH h)
  · rintro ⟨x, y, z, c1, c2, a2, p2, ka, c3, kb, e2, kc, e8⟩ jk2 ⟨hx, hy, hz, hb⟩ q0 hq0
    dsimp only at hx hy hz hb hq0 ⊢
    rcases List.mem_append.1 hq0 with hq0 | hq0
    · rcases cases4 hx with rfl | rfl | rfl | rfl | rfl
      · obtain rfl := List.mem_singleton.1 hq0
        dsimp only [Blk.l]
        refine g_cf 31 rfl ?_
        refine a_cn1 rfl rfl rfl rfl Try.func31 rfl rfl rfl (fun b : Nat => .slice (some ⟨b, 0, none⟩) 1 1) (fun b => row b 49 (cEV (evC (cN i 3)))) (fun w' hw => cell31 (cN i 3) w') (fun _ => rfl) (fun _ w h => ok_bar h (by simp)) (fun b => ?_)
        (repeat (((refine (?_ : MX _ _ _ _ _ _ _ _ _ _ _)); (refine g_build rfl ?_; refine mx_build rfl rfl rfl rfl (b32_12 _ _ _ _) rfl ?_ ) ) ))
        exact mx_dgt ⟨1, y, z, b, c2, a2, p2, ka, c3, kb, e2, kc, e8⟩ rfl ⟨Nat.le_of_ble_eq_true rfl, hy, hz, fun h => absurd (show 3 ≤ 1 from h) (by decide)⟩ (by rcases cases2 hy with rfl | rfl | rfl <;> rcases cases2 hz with rfl | rfl | rfl <;> (repeat (first | exact trivial | refine ⟨rfl, ?_⟩))) (fun w h => h)
      · obtain rfl := List.mem_singleton.1 hq0
        dsimp only [Blk.l]
        refine g_cf 31 rfl ?_
        refine a_cn1 rfl rfl rfl rfl Try.func31 rfl rfl rfl (fun b : Nat => .slice (some ⟨b, 0, none⟩) 1 1) (fun b => row b 49 (cEV (evC (i : Int)))) (fun w' hw => cell31 (i : Int) w') (fun _ => rfl) (fun _ w h => ok_bar h (by simp)) (fun b => ?_)
        exact mx_dgt ⟨2, y, z, c1, b, a2, p2, ka, c3, kb, e2, kc, e8⟩ rfl ⟨Nat.le_of_ble_eq_true rfl, hy, hz, fun h => absurd (show 3 ≤ 2 from h) (by decide)⟩ (by rcases cases2 hy with rfl | rfl | rfl <;> rcases cases2 hz with rfl | rfl | rfl <;> (repeat (first | exact trivial | refine ⟨rfl, ?_⟩))) (fun w h => h)
      · by_cases hy2 : y = 2
        case neg => (unfold nA at hq0; rw [if_neg hy2] at hq0; simp at hq0)
        subst hy2
        obtain rfl := List.mem_singleton.1 hq0
        dsimp only [Blk.l]
        refine mx_weakT (H' := ownd (some ⟨c2, 0, none⟩) 1 49 5 1 (cEV (evC (i : Int))) :: row c1 49 (cEV (evC (cN i 3))) :: row e2 49 (cEV (evB kb (cN i 2))) :: row kb 5 [.int .u8 (cN i 2)] :: (HC i kc e8 z ++ H0 L ops oa oc (8 * i) bn)) (fun w h => ok_close (xs := cEV (evC (i : Int))) (rest := []) (cap := 1) (z := 5) (len := 1) (H := row c2 49 (cEV (evC (i : Int))) :: row c1 49 (cEV (evC (cN i 3))) :: row e2 49 (cEV (evB kb (cN i 2))) :: row kb 5 [.int .u8 (cN i 2)] :: (HC i kc e8 z ++ H0 L ops oa oc (8 * i) bn)) 0 rfl rfl rfl (by decide) (by decide) h) (fun w h => ok_bar h (by simp)) ?_
        refine g_bi .append rfl ?_
        refine a_app E rfl rfl rfl rfl rfl rfl rfl rfl (cEV (evB kb (cN i 2))) rfl (fun w hw => fun _ => ⟨e2, 0, rfl, fun j u hj => by rw [add_at, Nat.zero_add]; exact row_cell (hw.holds 2 _ rfl) hj⟩) rfl (by decide) rfl (fun _ _ w h => ok_bar h (by simp)) (fun b c => ?_)
        (repeat (((refine (?_ : MX _ _ _ _ _ _ _ _ _ _ _)); (refine g_build rfl ?_; refine mx_build rfl rfl rfl rfl (b32_12 _ _ _ _) rfl ?_ ) ) ))
        exact mx_dgt ⟨3, 2, z, c1, c2, b, c, kb, c3, kb, e2, kc, e8⟩ rfl ⟨Nat.le_of_ble_eq_true rfl, hy, hz, fun _ => ⟨rfl, rfl⟩⟩ (by rcases cases2 hz with rfl | rfl | rfl <;> (repeat (first | exact trivial | refine ⟨rfl, ?_⟩))) (fun w h => h)
      · obtain rfl := List.mem_singleton.1 hq0
        dsimp only [Blk.l]
        refine g_cf 31 rfl ?_
        refine a_cn1 rfl rfl rfl rfl Try.func31 rfl rfl rfl (fun b : Nat => .slice (some ⟨b, 0, none⟩) 1 1) (fun b => row b 49 (cEV (evC (cN i 4)))) (fun w' hw => cell31 (cN i 4) w') (fun _ => rfl) (fun _ w h => ok_bar h (by simp)) (fun b => ?_)
        (repeat (((refine (?_ : MX _ _ _ _ _ _ _ _ _ _ _)); (refine g_build rfl ?_; refine mx_build rfl rfl rfl rfl (b32_02 _ _ _ _) rfl ?_ ) ) ))
        exact mx_dgt ⟨4, y, z, c1, c2, a2, p2, ka, b, kb, e2, kc, e8⟩ rfl ⟨Nat.le_of_ble_eq_true rfl, hy, hz, fun _ => hb (by decide)⟩ (by rcases cases2 hy with rfl | rfl | rfl <;> rcases cases2 hz with rfl | rfl | rfl <;> (repeat (first | exact trivial | refine ⟨rfl, ?_⟩))) (fun w h => h)
      · exact absurd hq0 (by simp [nA])
    rcases List.mem_append.1 hq0 with hq0 | hq0
    · rcases cases2 hy with rfl | rfl | rfl
      · obtain rfl := List.mem_singleton.1 hq0
        have hx2 : ¬ 3 ≤ x := fun h => absurd (hb h).1 (by decide)
        dsimp only [Blk.l]
        (repeat (((refine (?_ : MX _ _ _ _ _ _ _ _ _ _ _)); first | (refine g_build rfl ?_; refine mx_build rfl rfl rfl rfl (b49_e _ _ _) rfl ?_) | (refine g_bs rfl ?_; refine a_bsi E rfl rfl rfl rfl rfl (by (repeat (first | exact EvI.nil | (apply EvI.cons; rfl)))) (by rfl) (by rfl) (by rfl) rfl (fun _ => ?_)) ) ))
        rename_i b
        exact mx_dgt ⟨x, 1, z, c1, c2, a2, p2, ka, c3, b, e2, kc, e8⟩ rfl ⟨hx, Nat.le_of_ble_eq_true rfl, hz, fun h => absurd h hx2⟩ (by rcases cases4 hx with rfl | rfl | rfl | rfl | rfl <;> rcases cases2 hz with rfl | rfl | rfl <;> (repeat (first | exact trivial | refine ⟨rfl, ?_⟩))) (fun w h => h.perm List.perm_middle.symm)
      · obtain rfl := List.mem_singleton.1 hq0
        have hx2 : ¬ 3 ≤ x := fun h => absurd (hb h).1 (by decide)
        dsimp only [Blk.l]
        refine mx_live [(32, .agg (cEV (evB kb (cN i 2))).toArray)] (by rcases cases4 hx with rfl | rfl | rfl | rfl | rfl <;> exact ⟨rfl, trivial⟩) ?_
        dsimp only [List.cons_append, List.nil_append]
        refine g_bs rfl ?_
        refine a_bslice1 E rfl rfl rfl rfl (us := cEV (evB kb (cN i 2))) rfl rfl rfl rfl rfl rfl (fun b => ?_)
        exact mx_dgt ⟨x, 2, z, c1, c2, a2, p2, ka, c3, kb, b, kc, e8⟩ rfl ⟨hx, Nat.le_of_ble_eq_true rfl, hz, fun h => absurd h hx2⟩ (by rcases cases4 hx with rfl | rfl | rfl | rfl | rfl <;> rcases cases2 hz with rfl | rfl | rfl <;> (repeat (first | exact trivial | refine ⟨rfl, ?_⟩))) (fun w h => h.perm List.perm_middle.symm)
      · exact absurd hq0 (by simp [nB])
    · rcases cases2 hz with rfl | rfl | rfl
      · obtain rfl := List.mem_singleton.1 hq0
        dsimp only [Blk.l]
        (repeat (((refine (?_ : MX _ _ _ _ _ _ _ _ _ _ _)); first | (refine g_build rfl ?_; refine mx_build rfl rfl rfl rfl (b49_e _ _ _) rfl ?_) | (refine g_bs rfl ?_; refine a_bsi E rfl rfl rfl rfl rfl (by (repeat (first | exact EvI.nil | (apply EvI.cons; rfl)))) (by rfl) (by rfl) (by rfl) rfl (fun _ => ?_)) ) ))
        rename_i b
        exact mx_dgt ⟨x, y, 1, c1, c2, a2, p2, ka, c3, kb, e2, b, e8⟩ rfl ⟨hx, hy, Nat.le_of_ble_eq_true rfl, hb⟩ (by rcases cases4 hx with rfl | rfl | rfl | rfl | rfl <;> rcases cases2 hy with rfl | rfl | rfl <;> (repeat (first | exact trivial | refine ⟨rfl, ?_⟩))) (fun w h => h.perm (perm3 _ _ _ _))
      · obtain rfl := List.mem_singleton.1 hq0
        dsimp only [Blk.l]
        refine mx_live [(58, .agg (cEV (evB kc (cN i 3))).toArray)] (by rcases cases4 hx with rfl | rfl | rfl | rfl | rfl <;> rcases cases2 hy with rfl | rfl | rfl <;> exact ⟨rfl, trivial⟩) ?_
        dsimp only [List.cons_append, List.nil_append]
        refine g_bs rfl ?_
        refine a_bslice1 E rfl rfl rfl rfl (us := cEV (evB kc (cN i 3))) rfl rfl rfl rfl rfl rfl (fun b => ?_)
        (repeat (((refine (?_ : MX _ _ _ _ _ _ _ _ _ _ _)); (refine g_build rfl ?_; refine mx_build rfl rfl rfl rfl (b32_02 _ _ _ _) rfl ?_ ) ) ))
        exact mx_dgt ⟨x, y, 2, c1, c2, a2, p2, ka, c3, kb, e2, kc, b⟩ rfl ⟨hx, hy, Nat.le_of_ble_eq_true rfl, hb⟩ (by rcases cases4 hx with rfl | rfl | rfl | rfl | rfl <;> rcases cases2 hy with rfl | rfl | rfl <;> (repeat (first | exact trivial | refine ⟨rfl, ?_⟩))) (fun w h => h.perm (perm3 _ _ _ _))
      · exact absurd hq0 (by simp [nC])
end Go.Proofs.Ytikdbgheefjpkaa
