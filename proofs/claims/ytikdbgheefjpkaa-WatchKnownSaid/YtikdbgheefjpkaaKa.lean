/- Events: their cells; copied, written over, held against one another. -/
import Derived.Test.YtikdbgheefjpkaaBc
import Derived.Test.YtikdbgheefjpkaaStr
import Derived.Test.YtikdbgheefjpkaaMg
import Derived.Test.YtikdbgheefjpkaaBlk
set_option maxRecDepth 100000
set_option maxHeartbeats 8000000
set_option linter.unusedSimpArgs false
set_option linter.unusedVariables false
namespace Go.Proofs.Ytikdbgheefjpkaa
open Go Go.Sx Go.RowKit
@[reducible] def cI (a : Int) : List Value := [.int .i64 a]
theorem len_I (x : Int) : (cI x).length = 1 := rfl
structure VE where
  kind : Int
  map : Int
  index : Int
  cell : Int
  key : List Int
  deriving Inhabited, DecidableEq
structure EV where
  v : VE
  ka : Option Addr
  kc : Nat
  deriving Inhabited
@[reducible] def cEV (e : EV) : List Value := [.int .i64 e.v.kind, .int .i64 e.v.map, .int .i64 e.v.index, .int .i64 e.v.cell, .slice e.ka e.v.key.length e.kc]
theorem len_EV (x : EV) : (cEV x).length = 5 := rfl
instance : ZeroT Try.prog 49 [.int .i64 0, .int .i64 0, .int .i64 0, .int .i64 0, .slice none 0 0] := ⟨by kernel_rfl⟩
theorem one_fm {α : Type} {c : α → List Value} (h : ∀ x, (c x).all (·.oneCell') = true) (xs : List α) : (xs.flatMap c).all (·.oneCell') = true := by
  rw [List.all_eq_true]
  intro v hv
  obtain ⟨a, _, hv⟩ := List.mem_flatMap.1 hv
  exact List.all_eq_true.1 (h a) v hv
theorem list_cut {α : Type} : ∀ {xs : List α} {j : Nat} {x : α}, xs[j]? = some x → xs = xs.take j ++ x :: xs.drop (j + 1) ∧ ∀ y, xs.set j y = xs.take j ++ y :: xs.drop (j + 1)
  | [], _, _, h => by simp at h
  | a :: xs, 0, x, h => by
    obtain rfl : a = x := by simpa using h
    exact ⟨rfl, fun y => rfl⟩
  | a :: xs, j + 1, x, h => by
    obtain ⟨h1, h2⟩ := list_cut (xs := xs) (j := j) (x := x) (by simpa using h)
    refine ⟨?_, fun y => ?_⟩
    · rw [List.take_succ_cons, List.drop_succ_cons, List.cons_append, ← h1]
    · rw [List.take_succ_cons, List.drop_succ_cons, List.cons_append, ← h2, List.set_cons_succ]
theorem sp_at {α : Type} {z : Nat} {c : α → List Value} (hz : ∀ x, (c x).length = z) {xs : List α} {j : Nat} {x x' : α} (hj : xs[j]? = some x) {o p : Nat} {us : List Value} (h : Sp (c x) o us (c x')) (rest : List Value) (hp : p = j * z + o) : Sp (xs.flatMap c ++ rest) p us ((xs.set j x').flatMap c ++ rest) := by
  obtain ⟨e1, e2⟩ := list_cut hj
  have hl : ((xs.take j).flatMap c).length = j * z := by
    rw [flatMap_len hz, List.length_take]
    have := (List.getElem?_eq_some_iff.1 hj).1
    rw [Nat.min_eq_left (by omega)]
  have h2 := Sp.right ((xs.take j).flatMap c) (Sp.left ((xs.drop (j + 1)).flatMap c ++ rest) h)
  rw [hl, ← hp] at h2
  have f : ∀ y : α, (xs.take j ++ y :: xs.drop (j + 1)).flatMap c ++ rest = (xs.take j).flatMap c ++ (c y ++ ((xs.drop (j + 1)).flatMap c ++ rest)) := fun y => by simp
  rw [← f x] at h2
  rw [e2 x', f x']
  rwa [← e1] at h2
theorem rd_at {α : Type} {z : Nat} {c : α → List Value} (hz : ∀ x, (c x).length = z) {xs : List α} {j : Nat} {x : α} (hj : xs[j]? = some x) {o p : Nat} {v : Value} (ho : o < z) (h : (c x)[o]? = some v) (rest : List Value) (hp : p = j * z + o) : (xs.flatMap c ++ rest)[p]? = some v := by
  have h1 := flatMap_at hz xs j o x hj ho
  rw [h] at h1
  rw [hp]
  exact (List.getElem?_append_left (by rw [flatMap_len hz]; exact (List.getElem?_eq_some_iff.1 h1).1 |> fun h => by rwa [flatMap_len hz] at h)).trans h1
theorem vr_at {α : Type} {z : Nat} {c : α → List Value} (hz : ∀ x, (c x).length = z) {xs : List α} {j : Nat} {x : α} (hj : xs[j]? = some x) {o p : Nat} {v : Value} (ho : o < z) (h : (c x)[o]? = some v) (rest : List Value) (hp : p = j * z + o) : Vr (xs.flatMap c ++ rest) p 1 [v] := by
  have h1 := rd_at hz hj ho h rest hp
  refine ⟨⟨?_⟩, rfl⟩
  obtain ⟨hl, e⟩ := List.getElem?_eq_some_iff.1 h1
  rw [List.drop_eq_getElem_cons hl, e]
  rfl
theorem no_dom (b : Nat) : ¬ (domL [] : Nat → Prop) b := fun ⟨j, r, h, _⟩ => by simp at h
theorem star_snoc {S : Nat → Prop} {w0 w : World} {L1 L2 H : List Res} (h : Ok S w0 (L2 ++ star L1 :: H) w) : Ok S w0 (star (L1 ++ L2) :: H) w := by
  have h1 : Ok S w0 (star L1 :: (L2 ++ H)) w := h.perm (List.perm_middle)
  have h2 := Ok.unstar h1
  rw [← List.append_assoc] at h2
  exact Ok.star h2
theorem set_cat {α : Type} {l1 l2 : List α} {x y : α} : (l1 ++ x :: l2).set l1.length y = l1 ++ y :: l2 := by simp
theorem strOf_inj {a b : List Int} (ha : ∀ x ∈ a, 0 ≤ x ∧ x < 256) (hb : ∀ x ∈ b, 0 ≤ x ∧ x < 256) : ((strOfNums a).toList == (strOfNums b).toList) = decide (a = b) := by
  rw [ByteArray.toList_eq, ByteArray.toList_eq, strOfNums_data, strOfNums_data]
  rw [Bool.eq_iff_iff]
  simp only [beq_iff_eq, decide_eq_true_eq]
  constructor
  · intro h
    induction a generalizing b with
    | nil => cases b with
      | nil => rfl
      | cons y b => simp at h
    | cons x a ih => cases b with
      | nil => simp at h
      | cons y b =>
        simp only [List.map_cons, List.cons.injEq] at h
        have h1 := ha x (by simp)
        have h2 := hb y (by simp)
        have e : x = y := by
          have := congrArg UInt8.toNat h.1
          simp at this
          omega
        rw [e, ih (fun z hz => ha z (by simp [hz])) (fun z hz => hb z (by simp [hz])) h.2]
  · intro h; rw [h]
theorem src_U {w : World} {ad : Option Addr} {xs : List Int} (h : InL w ad 1 cU xs) : Src w ad (xs.map (Value.int .u8)) := by
  have := h.src len_U
  have e : xs.flatMap cU = xs.map (Value.int .u8) := by
    clear this h
    induction xs with
    | nil => rfl
    | cons x xs ih => rw [List.flatMap_cons, ih]; rfl
  rwa [e] at this
def BytK (k : List Int) : Prop := ∀ x ∈ k, 0 ≤ x ∧ x < 256
theorem ve_eq {a b : VE} (h0 : a.kind = b.kind) (h1 : a.map = b.map) (h2 : a.index = b.index) (h3 : a.cell = b.cell) : decide (a = b) = decide (a.key = b.key) := by
  cases a; cases b
  simp only at h0 h1 h2 h3
  subst h0 h1 h2 h3
  simp
theorem ve_ne {a b : VE} (h : a.kind ≠ b.kind ∨ a.map ≠ b.map ∨ a.index ≠ b.index ∨ a.cell ≠ b.cell) : decide (a = b) = false := decide_eq_false fun e => by subst e; simp at h
def RK (e : EV) : List Res := [ownd e.ka e.kc 5 1 e.v.key.length (e.v.key.flatMap cU)]
def allK (l : List EV) : Res := star (l.flatMap RK)
theorem allK_nil {S : Nat → Prop} {w0 w : World} {H : List Res} (h : Ok S w0 H w) : Ok S w0 (allK [] :: H) w := Ok.star (L := []) h
theorem allK_snoc {S : Nat → Prop} {w0 w : World} {H : List Res} {l : List EV} {o : EV} (h : Ok S w0 (ownd o.ka o.kc 5 1 o.v.key.length (o.v.key.flatMap cU) :: allK l :: H) w) : Ok S w0 (allK (l ++ [o]) :: H) w := by
  have h1 := star_snoc (L1 := l.flatMap RK) (L2 := RK o) (H := H) h
  unfold allK
  rw [List.flatMap_append]
  simpa [RK] using h1
theorem inK {l : List EV} {w : World} (h : (allK l).holds w) {e : EV} (he : e ∈ l) : InL w e.ka 1 cU e.v.key := own_in len_U (star_holds h (r := ownd e.ka e.kc 5 1 e.v.key.length (e.v.key.flatMap cU)) (List.mem_flatMap.2 ⟨e, he, by simp [RK]⟩)) (Nat.le_refl _)
theorem clone52 (ad : Option Addr) (cap : Nat) (xs : List Int) (hs : xs.length ≤ 140737488355328) (w : World) (hl : InL w ad 1 cU xs) :
    Calls Try.prog 52 #[.slice ad xs.length cap] w fun e w' => ∃ a : Option Addr × Nat, e = .returned (.slice a.1 xs.length a.2) ∧ Ok (domL []) w [ownd a.1 a.2 5 1 xs.length (xs.flatMap cU)] w' := by
  have hno : ∀ b, ¬ (domL [] : Nat → Prop) b := fun b ⟨j, r, h, _⟩ => by simp at h
  refine enter1 (S := domL []) 8 Try.func52 rfl rfl rfl (Ok.start w) ?_
  refine cw_seq ?_; refine cw_line rfl ?_; (repeat (first | ((refine (?_ : MX _ _ _ _ _ _ _ _ _ _ _)); first | refine mx_end ?_ | (refine mx_as _ rfl rfl (by conv => {lhs; whnf}) ?_) ) | refine pw_then ?_))
  refine cw_seq ?_
  refine cw_seq ?_
  refine cw_line rfl ?_
  refine mx_mv _ rfl rfl (by conv => {lhs; whnf}) ?_
  refine mx_nils E rfl rfl rfl rfl rfl rfl rfl ?_
  cases ad with
  | none =>
    have hx : xs = [] := by
      cases xs with
      | nil => rfl
      | cons x xs => obtain ⟨b, off, e, _⟩ := hl (by simp); cases e
    subst hx
    (repeat (first | ((refine (?_ : MX _ _ _ _ _ _ _ _ _ _ _)); first | refine mx_end ?_ | (refine mx_as _ rfl rfl (by conv => {lhs; whnf}) ?_) ) | refine cw_seq ?_ | refine cw_line rfl ?_ | refine cw_cond_t rfl ?_ | refine cw_ret ?_ | refine pw_then ?_ | refine pw_then_r ?_ ))
    refine pw_weak (H' := [ownd none 0 5 1 0 []]) (fun w h => h.own_nil _ _) ?_
    exact pw_ret rfl rfl rfl rfl fun w' hw => ⟨(none, 0), rfl, hw⟩
  | some a =>
    (repeat (first | ((refine (?_ : MX _ _ _ _ _ _ _ _ _ _ _)); first | refine mx_end ?_ | (refine mx_mv _ rfl rfl (by conv => {lhs; whnf}) ?_) | (refine g_bs rfl ?_; refine a_bs0 E rfl rfl rfl rfl rfl rfl (fun _ => ?_) ) ) | refine cw_seq ?_ | refine cw_line rfl ?_ | refine cw_cond_f rfl ?_ | refine cw_skip ?_ | refine pw_then ?_ ))
    refine g_bi .append rfl ?_
    refine a_appB E rfl rfl rfl rfl rfl rfl rfl rfl (xs.flatMap cU) (by rw [flatMap_len len_U]) (fun w hw => (hl.keep' hw fun _ _ _ _ => hno _).src len_U) (one_fm (fun _ => rfl) xs) (B := 1) (by kernel_rfl) rfl (by omega) rfl (fun _ _ _ _ => trivial) (fun a2 c2 => ?_)
    rw [List.nil_append, Nat.zero_add]
    (repeat (first | ((refine (?_ : MX _ _ _ _ _ _ _ _ _ _ _)); first | refine mx_end ?_ | (refine mx_as _ rfl rfl (by conv => {lhs; whnf}) ?_) ) | refine cw_ret ?_ | refine pw_then ?_ ))
    exact pw_ret rfl rfl rfl rfl fun w' hw => ⟨(a2, c2), rfl, hw.only 0 rfl⟩
theorem eq83 (ad ad' : Option Addr) (m cap m' cap' : Nat) (a b : List Int) (ha : ∀ x ∈ a, 0 ≤ x ∧ x < 256) (hb : ∀ x ∈ b, 0 ≤ x ∧ x < 256) (hm : a.length = m) (hm' : b.length = m') (w : World) (hl : InL w ad 1 cU a) (hl' : InL w ad' 1 cU b) :
    Calls Try.prog 83 #[.slice ad m cap, .slice ad' m' cap'] w fun e w' => e = .returned (.bool (decide (a = b))) ∧ Grow w w' := by
  refine enter2 (S := fun _ => False) 10 Try.func83 rfl rfl rfl (Ok.start w) ?_
  have hsa := src_U hl
  have hsb := src_U hl'
  have heq := strOf_inj ha hb
  (repeat (first | ((refine (?_ : MX _ _ _ _ _ _ _ _ _ _ _)); first | refine mx_end ?_ | (refine mx_mv _ rfl rfl (by conv => {lhs; whnf}) ?_) | (refine mx_as _ rfl rfl (by conv => {lhs; whnf}) ?_) ) | refine cw_seq ?_ | refine cw_line rfl ?_ | refine pw_then ?_ ))
  refine mx_b2s rfl rfl rfl (by kernel_rfl) rfl hm hsa (fun _ _ _ _ h => h) rfl ?_
  (repeat (((refine (?_ : MX _ _ _ _ _ _ _ _ _ _ _)); (refine mx_mv _ rfl rfl (by conv => {lhs; whnf}) ?_) ) ))
  refine mx_b2s rfl rfl rfl (by kernel_rfl) rfl hm' hsb (fun _ _ _ _ h => h) rfl ?_
  (repeat (first | ((refine (?_ : MX _ _ _ _ _ _ _ _ _ _ _)); first | refine mx_end ?_ | (refine mx_as _ rfl rfl (by conv => {lhs; whnf}) ?_) | (refine mx_streq rfl rfl rfl rfl rfl rfl ?_ ) ) | refine cw_ret ?_ | refine pw_then ?_ ))
  refine pw_ret rfl rfl rfl rfl fun w hw => ⟨?_, hw.keep.grow⟩
  show Ending.returned (Value.bool ((strOfNums a).toList == (strOfNums b).toList)) = _
  rw [heq]
theorem same21 (ad ad' : Option Addr) (cap cap' : Nat) (xs : List Int) (hs : xs.length ≤ 1100000) (w : World) (hl : InL w ad 1 cI xs) (hl' : InL w ad' 1 cI xs) :
    Calls Try.prog 21 #[.slice ad xs.length cap, .slice ad' xs.length cap'] w fun e w' => e = .returned (.bool true) ∧ Grow w w' := by
  refine enter2 (S := fun _ => False) 26 Try.func21 rfl rfl rfl (Ok.start w) ?_
  (repeat (first | ((refine (?_ : MX _ _ _ _ _ _ _ _ _ _ _)); first | refine mx_end ?_ | (refine mx_mv _ rfl rfl (by conv => {lhs; whnf}) ?_) | (refine mx_as _ rfl rfl (by conv => {lhs; whnf}) ?_) | (refine g_bin rfl ?_; ( (refine mx_cmpl .neq rfl rfl rfl rfl rfl (by exact cmp_ne_f (by omega) ) ?_) ) ) | (refine g_bi .len rfl ?_; refine mx_len E rfl rfl rfl rfl ?_) ) | refine cw_seq ?_ | refine cw_line rfl ?_ | refine cw_block ?_ | refine cw_cond_f rfl ?_ | refine cw_skip ?_ | refine pw_then ?_ ))
  refine cw_loop (fun i : Nat => [(5, .int .i64 i), (0, .slice ad xs.length cap), (1, .slice ad' xs.length cap')]) (fun i => []) (fun i => i ≤ xs.length) (fun i => xs.length - i) 0 (Nat.zero_le _) ⟨rfl, rfl, rfl, trivial⟩ (fun w h => h) ?_
  intro i jk hi
  by_cases h0 : (i : Int) < xs.length
  case neg =>
    (repeat (first | ((refine (?_ : MX _ _ _ _ _ _ _ _ _ _ _)); first | refine mx_end ?_ | (refine mx_mv _ rfl rfl (by conv => {lhs; whnf}) ?_) | (refine mx_as _ rfl rfl (by conv => {lhs; whnf}) ?_) | (refine g_bin rfl ?_; ( (refine mx_cmpl .lss rfl rfl rfl rfl rfl (by exact cmp_lt_f (by omega) ) ?_) ) ) | (refine g_bi .len rfl ?_; refine mx_len E rfl rfl rfl rfl ?_) ) | refine cw_seq ?_ | refine cw_line rfl ?_ | refine cw_cond_f rfl ?_ | refine cw_exit ?_ | refine cw_ret ?_ | refine pw_then ?_ | refine pw_then_x ?_ | refine pw_block_e ?_ ))
    exact pw_ret rfl rfl rfl rfl fun w hw => ⟨rfl, hw.keep.grow⟩
  obtain ⟨x, hx⟩ := getElem_some (xs := xs) (i := i) (by omega)
  obtain ⟨b4, off, e, hcc⟩ := inl_at hl hx
  obtain ⟨b5, off5, e5, hcc5⟩ := inl_at hl' hx
  subst e e5
  have hS : ¬ (fun _ : Nat => False) b4 := id
  have hS5 : ¬ (fun _ : Nat => False) b5 := id
  have hc0 : ∀ (k : Nat) (v : Value), (cI x)[k]? = some v → w.cell? ⟨b4, off + i * 1 + k, none⟩ = some v := hcc
  have hc5 : ∀ (k : Nat) (v : Value), (cI x)[k]? = some v → w.cell? ⟨b5, off5 + i * 1 + k, none⟩ = some v := hcc5
  have hc0' : w.cell? ⟨b4, off + i * 1, none⟩ = some (.int .i64 x) := hcc 0 _ rfl
  have hc5' : w.cell? ⟨b5, off5 + i * 1, none⟩ = some (.int .i64 x) := hcc5 0 _ rfl
  (repeat (first | ((refine (?_ : MX _ _ _ _ _ _ _ _ _ _ _)); first | refine mx_end ?_ | (refine mx_mv _ rfl rfl (by conv => {lhs; whnf}) ?_) | (refine g_bin rfl ?_; ( (refine mx_cmpl .lss rfl rfl rfl rfl rfl (by exact cmp_lt_t (by omega) ) ?_) ) ) | (refine g_bi .len rfl ?_; refine mx_len E rfl rfl rfl rfl ?_) ) | refine cw_seq ?_ | refine cw_line rfl ?_ | refine cw_block ?_ | refine cw_cond_t rfl ?_ | refine cw_skip ?_ | refine pw_then ?_ ))
  refine cw_drawm [0, 1, 2, 3, 4, 5, 6, 7, 8] (fun _ => false) [] mixed (by kernel_rfl) (fun w h => h.nil) ?_
  (repeat (first | ((refine (?_ : MX _ _ _ _ _ _ _ _ _ _ _)); first | refine mx_end ?_ | (refine mx_mv _ rfl rfl (by conv => {lhs; whnf}) ?_) | (refine mx_as _ rfl rfl (by conv => {lhs; whnf}) ?_) | (refine g_load rfl ?_; refine mx_old1 E rfl rfl rfl rfl rfl (by assumption) (by assumption) rfl ?_ ) | (refine g_bin rfl ?_; first | ( (refine mx_cmpl .neq rfl rfl rfl rfl rfl (by first | exact cmp_ne_f (by omega) | rfl) ?_) ) | ( refine mx_ar rfl rfl rfl rfl rfl rfl (IntWalk.i64_in _ (by omega)) rfl ?_ ) ) | (refine g_ix rfl ?_; refine mx_ixsn E rfl rfl rfl rfl rfl rfl (by omega) rfl ?_ ) ) | refine cw_line rfl ?_ | refine cw_cond_f rfl ?_ | refine cw_skip ?_ | refine pw_then ?_ | refine pw_block ?_ ))
  exact pw_round (i + 1) (by omega) (by omega) ⟨rfl, rfl, rfl, trivial⟩ (fun w h => h)
theorem same57 (a b : EV) (ha : a.v.key.length ≤ 140737488355328) (w : World) (hl : InL w a.ka 1 cU a.v.key) (hl' : InL w b.ka 1 cU b.v.key) :
    Calls Try.prog 57 #[.agg (cEV a).toArray, .agg (cEV b).toArray] w fun e w' => e = .returned (.bool (decide (a.v = b.v))) ∧ Grow w w' := by
  refine enter2 (S := fun _ => False) 38 Try.func57 rfl rfl rfl (Ok.start w) ?_
  by_cases h0 : a.v.kind = b.v.kind
  case neg =>
    rw [ve_ne (.inl h0)]
    (repeat (first | ((refine (?_ : MX _ _ _ _ _ _ _ _ _ _ _)); first | refine mx_end ?_ | (refine mx_mv _ rfl rfl (by conv => {lhs; whnf}) ?_) | (refine mx_as _ rfl rfl (by conv => {lhs; whnf}) ?_) | (refine mx_fa0 E rfl rfl rfl rfl ?_ ) | (refine g_load rfl ?_; refine mx_get E rfl rfl rfl rfl rfl (by rfl) rfl ?_ ) | (refine g_bin rfl ?_; ((refine mx_cmpl .eql rfl rfl rfl rfl rfl (by exact cmp_eq_f (by omega) ) ?_) ) ) | (refine mx_skip rfl rfl rfl ?_) | (refine g_pick rfl ?_; refine mx_andf rfl rfl rfl rfl rfl ?_ ) | (refine g_box rfl ?_; refine a_boxl rfl rfl rfl rfl rfl rfl (fun _ => ?_) ) ) | refine cw_seq ?_ | refine cw_line rfl ?_ | refine cw_ret ?_ | refine pw_then ?_ ))
    exact pw_ret rfl rfl rfl rfl fun w hw => ⟨rfl, hw.keep.grow⟩
  by_cases h1 : a.v.map = b.v.map
  case neg =>
    rw [ve_ne (.inr (.inl h1))]
    (repeat (first | ((refine (?_ : MX _ _ _ _ _ _ _ _ _ _ _)); first | refine mx_end ?_ | (refine mx_mv _ rfl rfl (by conv => {lhs; whnf}) ?_) | (refine mx_as _ rfl rfl (by conv => {lhs; whnf}) ?_) | (first | refine mx_fa0 E rfl rfl rfl rfl ?_ | refine mx_fa E rfl rfl rfl rfl ?_) | (refine g_load rfl ?_; refine mx_get E rfl rfl rfl rfl rfl (by rfl) rfl ?_ ) | (refine g_bin rfl ?_; ((refine mx_cmpl .eql rfl rfl rfl rfl rfl (by first | exact cmp_eq_t (by omega) | exact cmp_eq_f (by omega) ) ?_) ) ) | (refine mx_skip rfl rfl rfl ?_) | (refine g_pick rfl ?_; first | refine mx_andf rfl rfl rfl rfl rfl ?_ | refine mx_and rfl rfl rfl rfl rfl rfl ?_ ) | (refine g_box rfl ?_; refine a_boxl rfl rfl rfl rfl rfl rfl (fun _ => ?_) ) ) | refine cw_seq ?_ | refine cw_line rfl ?_ | refine cw_ret ?_ | refine pw_then ?_ ))
    exact pw_ret rfl rfl rfl rfl fun w hw => ⟨rfl, hw.keep.grow⟩
  by_cases h2 : a.v.index = b.v.index
  case neg =>
    rw [ve_ne (.inr (.inr (.inl h2)))]
    (repeat (first | ((refine (?_ : MX _ _ _ _ _ _ _ _ _ _ _)); first | refine mx_end ?_ | (refine mx_mv _ rfl rfl (by conv => {lhs; whnf}) ?_) | (refine mx_as _ rfl rfl (by conv => {lhs; whnf}) ?_) | (first | refine mx_fa0 E rfl rfl rfl rfl ?_ | refine mx_fa E rfl rfl rfl rfl ?_) | (refine g_load rfl ?_; refine mx_get E rfl rfl rfl rfl rfl (by rfl) rfl ?_ ) | (refine g_bin rfl ?_; ((refine mx_cmpl .eql rfl rfl rfl rfl rfl (by first | exact cmp_eq_t (by omega) | exact cmp_eq_f (by omega) ) ?_) ) ) | (refine mx_skip rfl rfl rfl ?_) | (refine g_pick rfl ?_; first | refine mx_andf rfl rfl rfl rfl rfl ?_ | refine mx_and rfl rfl rfl rfl rfl rfl ?_ ) | (refine g_box rfl ?_; refine a_boxl rfl rfl rfl rfl rfl rfl (fun _ => ?_) ) ) | refine cw_seq ?_ | refine cw_line rfl ?_ | refine cw_ret ?_ | refine pw_then ?_ ))
    exact pw_ret rfl rfl rfl rfl fun w hw => ⟨rfl, hw.keep.grow⟩
  by_cases h3 : a.v.cell = b.v.cell
  case neg =>
    rw [ve_ne (.inr (.inr (.inr h3)))]
    (repeat (first | ((refine (?_ : MX _ _ _ _ _ _ _ _ _ _ _)); first | refine mx_end ?_ | (refine mx_mv _ rfl rfl (by conv => {lhs; whnf}) ?_) | (refine mx_as _ rfl rfl (by conv => {lhs; whnf}) ?_) | (first | refine mx_fa0 E rfl rfl rfl rfl ?_ | refine mx_fa E rfl rfl rfl rfl ?_) | (refine g_load rfl ?_; refine mx_get E rfl rfl rfl rfl rfl (by rfl) rfl ?_ ) | (refine g_bin rfl ?_; ((refine mx_cmpl .eql rfl rfl rfl rfl rfl (by first | exact cmp_eq_t (by omega) | exact cmp_eq_f (by omega) ) ?_) ) ) | (refine mx_skip rfl rfl rfl ?_) | (refine g_pick rfl ?_; first | refine mx_andf rfl rfl rfl rfl rfl ?_ | refine mx_and rfl rfl rfl rfl rfl rfl ?_ ) | (refine g_box rfl ?_; refine a_boxl rfl rfl rfl rfl rfl rfl (fun _ => ?_) ) ) | refine cw_seq ?_ | refine cw_line rfl ?_ | refine cw_ret ?_ | refine pw_then ?_ ))
    exact pw_ret rfl rfl rfl rfl fun w hw => ⟨rfl, hw.keep.grow⟩
  rw [ve_eq h0 h1 h2 h3]
  (repeat (first | ((refine (?_ : MX _ _ _ _ _ _ _ _ _ _ _)); first | refine mx_end ?_ | (refine mx_mv _ rfl rfl (by conv => {lhs; whnf}) ?_) | (refine mx_as _ rfl rfl (by conv => {lhs; whnf}) ?_) | (first | refine mx_fa0 E rfl rfl rfl rfl ?_ | refine mx_fa E rfl rfl rfl rfl ?_) | (refine g_load rfl ?_; refine mx_get E rfl rfl rfl rfl rfl (by rfl) rfl ?_ ) | (refine g_bin rfl ?_; ((refine mx_cmpl .eql rfl rfl rfl rfl rfl (by exact cmp_eq_t (by omega) ) ?_) ) ) | (refine g_pick rfl ?_; refine mx_and rfl rfl rfl rfl rfl rfl ?_ ) | (refine g_box rfl ?_; refine a_boxl rfl rfl rfl rfl rfl rfl (fun _ => ?_) ) ) | refine cw_seq ?_ | refine cw_line rfl ?_ | refine pw_then ?_ ))
  refine g_cf 80 rfl ?_
  refine a_callv rfl rfl rfl rfl Try.func80 rfl rfl rfl (.bool (decide (a.v.key = b.v.key))) (fun w' hw => sameB a.ka b.ka a.v.key.length b.v.key.length a.kc b.kc a.v.key b.v.key rfl rfl (by omega) w' (hl.keep hw fun _ _ _ h => h) (hl'.keep hw fun _ _ _ h => h)) rfl ?_
  (repeat (first | ((refine (?_ : MX _ _ _ _ _ _ _ _ _ _ _)); first | refine mx_end ?_ | (refine mx_as _ rfl rfl (by conv => {lhs; whnf}) ?_) | (refine g_pick rfl ?_; refine mx_and rfl rfl rfl rfl rfl rfl ?_ ) ) | refine cw_ret ?_ | refine pw_then ?_ ))
  exact pw_ret rfl rfl rfl rfl fun w hw => ⟨rfl, hw.keep.grow⟩
theorem same24 (ad ad' : Option Addr) (cap cap' : Nat) (xs ys : List EV) (hxy : xs.map (·.v) = ys.map (·.v)) (hs : xs.length ≤ 1100000) (hk : ∀ x ∈ xs, x.v.key.length ≤ 140737488355328) (w : World) (hl : InL w ad 5 cEV xs) (hl' : InL w ad' 5 cEV ys) (k1 : ∀ x ∈ xs, InL w x.ka 1 cU x.v.key) (k2 : ∀ x ∈ ys, InL w x.ka 1 cU x.v.key) :
    Calls Try.prog 24 #[.slice ad xs.length cap, .slice ad' ys.length cap'] w fun e w' => e = .returned (.bool true) ∧ Grow w w' := by
  have hlen : xs.length = ys.length := by have := congrArg List.length hxy; simpa using this
  refine enter2 (S := fun _ => False) 27 Try.func24 rfl rfl rfl (Ok.start w) ?_
  (repeat (first | ((refine (?_ : MX _ _ _ _ _ _ _ _ _ _ _)); first | refine mx_end ?_ | (refine mx_mv _ rfl rfl (by conv => {lhs; whnf}) ?_) | (refine mx_as _ rfl rfl (by conv => {lhs; whnf}) ?_) | (refine g_bin rfl ?_; ( (refine mx_cmpl .neq rfl rfl rfl rfl rfl (by exact cmp_ne_f (by omega) ) ?_) ) ) | (refine g_bi .len rfl ?_; refine mx_len E rfl rfl rfl rfl ?_) ) | refine cw_seq ?_ | refine cw_line rfl ?_ | refine cw_block ?_ | refine cw_cond_f rfl ?_ | refine cw_skip ?_ | refine pw_then ?_ ))
  refine cw_loop (fun i : Nat => [(5, .int .i64 i), (0, .slice ad xs.length cap), (1, .slice ad' ys.length cap')]) (fun i => []) (fun i => i ≤ xs.length) (fun i => xs.length - i) 0 (Nat.zero_le _) ⟨rfl, rfl, rfl, trivial⟩ (fun w h => h) ?_
  intro i jk hi
  by_cases h0 : (i : Int) < xs.length
  case neg =>
    (repeat (first | ((refine (?_ : MX _ _ _ _ _ _ _ _ _ _ _)); first | refine mx_end ?_ | (refine mx_mv _ rfl rfl (by conv => {lhs; whnf}) ?_) | (refine mx_as _ rfl rfl (by conv => {lhs; whnf}) ?_) | (refine g_bin rfl ?_; ( (refine mx_cmpl .lss rfl rfl rfl rfl rfl (by exact cmp_lt_f (by omega) ) ?_) ) ) | (refine g_bi .len rfl ?_; refine mx_len E rfl rfl rfl rfl ?_) ) | refine cw_seq ?_ | refine cw_line rfl ?_ | refine cw_cond_f rfl ?_ | refine cw_exit ?_ | refine cw_ret ?_ | refine pw_then ?_ | refine pw_then_x ?_ | refine pw_block_e ?_ ))
    exact pw_ret rfl rfl rfl rfl fun w hw => ⟨rfl, hw.keep.grow⟩
  obtain ⟨x, hx⟩ := getElem_some (xs := xs) (i := i) (by omega)
  obtain ⟨y, hy⟩ := getElem_some (xs := ys) (i := i) (by omega)
  have hv : x.v = y.v := by
    have := congrArg (fun l : List VE => l[i]?) hxy
    simpa [hx, hy] using this
  obtain ⟨b4, off, e, hcc⟩ := inl_at hl hx
  obtain ⟨b5, off5, e5, hcc5⟩ := inl_at hl' hy
  subst e e5
  have hS : ¬ (fun _ : Nat => False) b4 := id
  have hS5 : ¬ (fun _ : Nat => False) b5 := id
  have hc0 : ∀ (k : Nat) (v : Value), (cEV x)[k]? = some v → w.cell? ⟨b4, off + i * 5 + k, none⟩ = some v := hcc
  have hc5 : ∀ (k : Nat) (v : Value), (cEV y)[k]? = some v → w.cell? ⟨b5, off5 + i * 5 + k, none⟩ = some v := hcc5
  (repeat (first | ((refine (?_ : MX _ _ _ _ _ _ _ _ _ _ _)); first | refine mx_end ?_ | (refine mx_mv _ rfl rfl (by conv => {lhs; whnf}) ?_) | (refine g_bin rfl ?_; ( (refine mx_cmpl .lss rfl rfl rfl rfl rfl (by exact cmp_lt_t (by omega) ) ?_) ) ) | (refine g_bi .len rfl ?_; refine mx_len E rfl rfl rfl rfl ?_) ) | refine cw_seq ?_ | refine cw_line rfl ?_ | refine cw_block ?_ | refine cw_cond_t rfl ?_ | refine cw_skip ?_ | refine pw_then ?_ ))
  refine cw_drawm [0, 1, 2, 3, 4, 5, 6, 7, 8, 9] (fun i => Nat.beq i 8) [] mixed (by kernel_rfl) (fun w h => h.nil) ?_
  (repeat (((refine (?_ : MX _ _ _ _ _ _ _ _ _ _ _)); first | (refine mx_mv _ rfl rfl (by conv => {lhs; whnf}) ?_) | (refine g_load rfl ?_; refine mx_oldn E rfl rfl rfl rfl rfl (by assumption) (by assumption) (rfl) rfl ?_ ) | (refine g_ix rfl ?_; refine mx_ixsn E rfl rfl rfl rfl rfl rfl (by omega) rfl ?_ ) ) ))
  refine g_cf 57 rfl ?_
  refine a_callv rfl rfl rfl rfl Try.func57 rfl rfl rfl (.bool true) (fun w' hw => by
    have h16 := same57 x y (hk x (List.mem_of_getElem? hx)) w' ((k1 x (List.mem_of_getElem? hx)).keep hw fun _ _ _ h => h) ((k2 y (List.mem_of_getElem? hy)).keep hw fun _ _ _ h => h)
    rwa [decide_eq_true hv] at h16) rfl ?_
  (repeat (first | ((refine (?_ : MX _ _ _ _ _ _ _ _ _ _ _)); first | refine mx_end ?_ | (refine mx_mv _ rfl rfl (by conv => {lhs; whnf}) ?_) | (refine mx_as _ rfl rfl (by conv => {lhs; whnf}) ?_) | (refine g_bin rfl ?_; ( refine mx_ar rfl rfl rfl rfl rfl rfl (IntWalk.i64_in _ (by omega)) rfl ?_ ) ) | (refine mx_not rfl rfl rfl ?_) ) | refine cw_line rfl ?_ | refine cw_cond_f rfl ?_ | refine cw_skip ?_ | refine pw_then ?_ | refine pw_block ?_ ))
  exact pw_round (i + 1) (by omega) (by omega) ⟨rfl, rfl, rfl, trivial⟩ (fun w h => h)
theorem take_c {α : Type} (c : α → List Value) {xs : List α} {i : Nat} {x : α} (hx : xs[i]? = some x) : (xs.take i).flatMap c ++ c x = (xs.take (i + 1)).flatMap c := by
  rw [List.take_add_one, hx, List.flatMap_append]
  simp
theorem copyE15 (ad : Option Addr) (cap : Nat) (xs : List EV) (hs : xs.length ≤ 1100000) (hk : ∀ x ∈ xs, x.v.key.length ≤ 140737488355328) (w : World) (hl : InL w ad 5 cEV xs) (hls : ∀ x ∈ xs, InL w x.ka 1 cU x.v.key) :
    Calls Try.prog 15 #[.slice ad xs.length cap] w fun e w' => ∃ a : (Option Addr × Nat) × {l' : List EV // l'.map (·.v) = xs.map (·.v)}, e = .returned (.slice a.1.1 xs.length a.1.2) ∧ Ok (domL []) w [ownd a.1.1 a.1.2 49 5 xs.length (a.2.1.flatMap cEV), allK a.2.1] w' := by
  refine enter1 (S := domL []) 25 Try.func15 rfl rfl rfl (Ok.start w) ?_
  (repeat (first | ((refine (?_ : MX _ _ _ _ _ _ _ _ _ _ _)); first | refine mx_end ?_ | (refine mx_as _ rfl rfl (by conv => {lhs; whnf}) ?_) ) | refine cw_seq ?_ | refine cw_line rfl ?_ | refine cw_block ?_ | refine pw_then ?_ ))
  refine cw_loop (ι := Nat × (Option Addr × Nat) × List EV) (fun p => [(4, .int .i64 p.1), (3, .slice p.2.1.1 p.1 p.2.1.2), (0, .slice ad xs.length cap)]) (fun p => [ownd p.2.1.1 p.2.1.2 49 5 p.1 (p.2.2.flatMap cEV), allK p.2.2]) (fun p => p.1 ≤ xs.length ∧ p.2.2.map (·.v) = (xs.take p.1).map (·.v)) (fun p => xs.length - p.1) (0, (none, 0), []) ⟨Nat.zero_le _, rfl⟩ ⟨rfl, rfl, rfl, trivial⟩ (fun w h => (allK_nil h).own_nil 49 5) ?_
  rintro ⟨i, ⟨a1, c1⟩, l'⟩ jk ⟨hi, hl'⟩
  dsimp only at hi hl' ⊢
  have hll : l'.length = i := by have := congrArg List.length hl'; simp at this; omega
  by_cases h0 : (i : Int) < xs.length
  case neg =>
    obtain rfl : i = xs.length := by omega
    rw [List.take_length] at hl'
    (repeat (first | ((refine (?_ : MX _ _ _ _ _ _ _ _ _ _ _)); first | refine mx_end ?_ | (refine mx_mv _ rfl rfl (by conv => {lhs; whnf}) ?_) | (refine mx_as _ rfl rfl (by conv => {lhs; whnf}) ?_) | (refine g_bin rfl ?_; ( (refine mx_cmpl .lss rfl rfl rfl rfl rfl (by exact cmp_lt_f (by omega) ) ?_) ) ) | (refine g_bi .len rfl ?_; refine mx_len E rfl rfl rfl rfl ?_) ) | refine cw_seq ?_ | refine cw_line rfl ?_ | refine cw_cond_f rfl ?_ | refine cw_exit ?_ | refine cw_ret ?_ | refine pw_then ?_ | refine pw_then_x ?_ | refine pw_block_e ?_ ))
    exact pw_ret rfl rfl rfl rfl fun w' hw => ⟨((a1, c1), ⟨l', hl'⟩), rfl, hw⟩
  obtain ⟨x, hx⟩ := getElem_some (xs := xs) (i := i) (by omega)
  have hxm := List.mem_of_getElem? hx
  obtain ⟨b4, off, e, hcc⟩ := inl_at hl hx
  subst e
  have hS : ¬ (domL [] : Nat → Prop) b4 := no_dom _
  have hc0 : ∀ (k : Nat) (v : Value), (cEV x)[k]? = some v → w.cell? ⟨b4, off + i * 5 + k, none⟩ = some v := hcc
  have hkx := hk x hxm
  (repeat (first | ((refine (?_ : MX _ _ _ _ _ _ _ _ _ _ _)); first | refine mx_end ?_ | (refine mx_mv _ rfl rfl (by conv => {lhs; whnf}) ?_) | ( refine mx_fa E rfl rfl rfl rfl ?_) | (refine g_load rfl ?_; first | refine mx_get E rfl rfl rfl rfl rfl (by rfl) rfl ?_ | refine mx_oldn E rfl rfl rfl rfl rfl (by assumption) (by assumption) (rfl) rfl ?_ ) | (refine g_bin rfl ?_; ( (refine mx_cmpl .lss rfl rfl rfl rfl rfl (by exact cmp_lt_t (by omega) ) ?_) ) ) | (refine g_ix rfl ?_; refine mx_ixsn E rfl rfl rfl rfl rfl rfl (by omega) rfl ?_ ) | (refine g_bi .len rfl ?_; refine mx_len E rfl rfl rfl rfl ?_) | (refine g_store rfl ?_; refine s_l E rfl rfl rfl rfl rfl rfl rfl (by exact Sp.all rfl ) rfl ?_ ) | (refine a_new rfl rfl rfl rfl rfl (fun _ => ?_)) ) | refine cw_seq ?_ | refine cw_line rfl ?_ | refine cw_block ?_ | refine cw_cond_t rfl ?_ | refine cw_skip ?_ | refine pw_then ?_ ))
  rename_i be
  refine g_cf 50 rfl ?_
  refine a_calln rfl rfl rfl rfl Try.func50 rfl rfl rfl (fun a : Option Addr × Nat => .slice a.1 x.v.key.length a.2) (fun a => ownd a.1 a.2 5 1 x.v.key.length (x.v.key.flatMap cU)) (fun w' hw => copyB x.ka x.v.key.length x.kc x.v.key rfl (by omega) w' ((hls x hxm).keep' hw fun _ _ _ _ => no_dom _)) rfl (fun a => ?_)
  obtain ⟨k1, k2⟩ := a
  dsimp only
  (repeat (first | ((refine (?_ : MX _ _ _ _ _ _ _ _ _ _ _)); first | refine mx_end ?_ | (refine mx_mv _ rfl rfl (by conv => {lhs; whnf}) ?_) | ( refine mx_fa E rfl rfl rfl rfl ?_) | (refine g_load rfl ?_; refine mx_getn E rfl rfl rfl rfl rfl (by exact Vr.all rfl ) rfl ?_ ) | (refine g_store rfl ?_; refine s_1 E rfl rfl rfl rfl rfl rfl rfl rfl (by exact Sp.lit rfl rfl) rfl ?_) ) | refine cw_line rfl ?_ | refine pw_then ?_ ))
  refine g_bs rfl ?_
  refine a_bslice1 E rfl rfl rfl rfl (us := cEV ⟨x.v, k1, k2⟩) rfl rfl rfl rfl rfl rfl (fun b9 => ?_)
  refine g_bi .append rfl ?_
  refine a_app E rfl rfl rfl rfl rfl rfl rfl rfl (cEV ⟨x.v, k1, k2⟩) rfl (fun w hw => fun _ => ⟨b9, 0, rfl, fun j u hj => by rw [add_at, Nat.zero_add]; exact row_cell (hw.holds 0 _ rfl) hj⟩) (by rfl) (by omega) rfl (fun _ _ _ _ => trivial) (fun a2 c2 => ?_)
  have e3 : l'.flatMap cEV ++ cEV ⟨x.v, k1, k2⟩ = (l' ++ [(⟨x.v, k1, k2⟩ : EV)]).flatMap cEV := by rw [List.flatMap_append]; simp
  rw [e3]
  have hI : i + 1 ≤ xs.length ∧ (l' ++ [(⟨x.v, k1, k2⟩ : EV)]).map (·.v) = (xs.take (i + 1)).map (·.v) := ⟨by omega, by rw [List.map_append, hl', List.take_add_one, hx, List.map_append]; rfl⟩
  (repeat (first | ((refine (?_ : MX _ _ _ _ _ _ _ _ _ _ _)); first | refine mx_end ?_ | (refine mx_mv _ rfl rfl (by conv => {lhs; whnf}) ?_) | (refine mx_as _ rfl rfl (by conv => {lhs; whnf}) ?_) | (refine g_bin rfl ?_; ( refine mx_ar rfl rfl rfl rfl rfl rfl (IntWalk.i64_in _ (by omega)) rfl ?_ ) ) ) | refine cw_line rfl ?_ | refine pw_then ?_ | refine pw_block ?_ ))
  exact pw_round (i + 1, (a2, c2), l' ++ [(⟨x.v, k1, k2⟩ : EV)]) hI (by show xs.length - (i + 1) < xs.length - i; omega) ⟨rfl, rfl, rfl, trivial⟩ (fun w h => (allK_snoc (o := (⟨x.v, k1, k2⟩ : EV)) (h.pick (H' := [ownd k1 k2 5 1 x.v.key.length (x.v.key.flatMap cU), allK l', ownd a2 c2 49 5 (i + 1) ((l' ++ [(⟨x.v, k1, k2⟩ : EV)]).flatMap cEV)]) [1, 4, 3] (by simp) rfl)).pick [1, 0] (by simp) rfl)
end Go.Proofs.Ytikdbgheefjpkaa
