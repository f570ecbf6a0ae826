/- Events held against one another; the place of the first of which a closure says so. -/
import Derived.Test.YtdkolggmabnifaaIb
set_option maxRecDepth 100000
set_option maxHeartbeats 8000000
set_option linter.unusedSimpArgs false
set_option linter.unusedVariables false
namespace Go.Proofs.Ytdkolggmabnifaa
open Go Go.Sx Go.RowKit
/-- Places. -/
def fidx {α : Type} (p : α → Bool) : List α → Nat → Option Nat
  | [], _ => none
  | x :: l, i => if p x = true then some i else fidx p l (i + 1)
def oix : Option Nat → Int
  | some i => i
  | none => -1
theorem fidx_le {α : Type} {p : α → Bool} : ∀ {l : List α} {i j : Nat}, fidx p l i = some j → i ≤ j ∧ j - i < l.length ∧ ∃ x, l[j - i]? = some x ∧ p x = true
  | [], i, j, h => by simp [fidx] at h
  | x :: l, i, j, h => by
    unfold fidx at h
    split at h
    · obtain rfl : i = j := by simpa using h
      exact ⟨Nat.le_refl _, by simp, x, by simp, by assumption⟩
    · obtain ⟨h1, h2, y, h3, h4⟩ := fidx_le h
      refine ⟨by omega, by simp; omega, y, ?_, h4⟩
      rw [show j - i = (j - (i + 1)) + 1 by omega]
      simpa using h3
theorem fidx_drop {α : Type} {p : α → Bool} {l : List α} {i : Nat} {x : α} (hx : l[i]? = some x) : fidx p (l.drop i) i = if p x = true then some i else fidx p (l.drop (i + 1)) (i + 1) := by
  have hi : i < l.length := (List.getElem?_eq_some_iff.1 hx).1
  have : l.drop i = x :: l.drop (i + 1) := by
    rw [List.drop_eq_getElem_cons hi]
    congr 1
    exact (List.getElem?_eq_some_iff.1 hx).2
  rw [this]
  rfl
theorem strOf_inj {a b : List Int} (ha : ∀ x ∈ a, 0 ≤ x ∧ x < 256) (hb : ∀ x ∈ b, 0 ≤ x ∧ x < 256) : ((strOfNums a).toList == (strOfNums b).toList) = decide (a = b) := by
  rw [ByteArray.toList_eq, ByteArray.toList_eq, strOfNums_data, strOfNums_data]
  rw [Bool.eq_iff_iff]
  simp only [beq_iff_eq, decide_eq_true_eq]
  constructor
  · intro h
    induction a generalizing b with
    | nil => cases b with
      | nil => rfl
      | cons y b => simp at h
    | cons x a ih => cases b with
      | nil => simp at h
      | cons y b =>
        simp only [List.map_cons, List.cons.injEq] at h
        have h1 := ha x (by simp)
        have h2 := hb y (by simp)
        have e : x = y := by
          have := congrArg UInt8.toNat h.1
          simp at this
          omega
        rw [e, ih (fun z hz => ha z (by simp [hz])) (fun z hz => hb z (by simp [hz])) h.2]
  · intro h; rw [h]
theorem src_U {w : World} {ad : Option Addr} {xs : List Int} (h : InL w ad 1 cU xs) : Src w ad (xs.map (Value.int .u8)) := by
  have := h.src len_U
  have e : xs.flatMap cU = xs.map (Value.int .u8) := by
    clear this h
    induction xs with
    | nil => rfl
    | cons x xs ih => rw [List.flatMap_cons, ih]; rfl
  rwa [e] at this
theorem eq54 (ad ad' : Option Addr) (m cap m' cap' : Nat) (a b : List Int) (ha : ∀ x ∈ a, 0 ≤ x ∧ x < 256) (hb : ∀ x ∈ b, 0 ≤ x ∧ x < 256) (hm : a.length = m) (hm' : b.length = m') (w : World) (hl : InL w ad 1 cU a) (hl' : InL w ad' 1 cU b) :
    Calls Try.prog 54 #[.slice ad m cap, .slice ad' m' cap'] w fun e w' => e = .returned (.bool (decide (a = b))) ∧ Grow w w' := by
  refine enter2 (S := fun _ => False) 10 Try.func54 rfl rfl rfl (Ok.start w) ?_
  have hsa := src_U hl
  have hsb := src_U hl'
  have heq := strOf_inj ha hb
  (repeat (first | ((refine (?_ : MX _ _ _ _ _ _ _ _ _ _ _)); first | refine mx_end ?_ | (refine mx_mv _ rfl rfl (by conv => {lhs; whnf}) ?_) | (refine mx_as _ rfl rfl (by conv => {lhs; whnf}) ?_) ) | refine cw_seq ?_ | refine cw_line rfl ?_ | refine pw_then ?_ ))
  refine mx_b2s rfl rfl rfl (by kernel_rfl) rfl hm hsa (fun _ _ _ _ h => h) rfl ?_
  (repeat (((refine (?_ : MX _ _ _ _ _ _ _ _ _ _ _)); (refine mx_mv _ rfl rfl (by conv => {lhs; whnf}) ?_) ) ))
  refine mx_b2s rfl rfl rfl (by kernel_rfl) rfl hm' hsb (fun _ _ _ _ h => h) rfl ?_
  (repeat (first | ((refine (?_ : MX _ _ _ _ _ _ _ _ _ _ _)); first | refine mx_end ?_ | (refine mx_as _ rfl rfl (by conv => {lhs; whnf}) ?_) | (refine mx_streq rfl rfl rfl rfl rfl rfl ?_ ) ) | refine cw_ret ?_ | refine pw_then ?_ ))
  refine pw_ret rfl rfl rfl rfl fun w hw => ⟨?_, hw.keep.grow⟩
  show Ending.returned (Value.bool ((strOfNums a).toList == (strOfNums b).toList)) = _
  rw [heq]
def BytK (k : List Int) : Prop := ∀ x ∈ k, 0 ≤ x ∧ x < 256
theorem ve_eq {a b : VE} (h0 : a.kind = b.kind) (h1 : a.map = b.map) (h2 : a.index = b.index) (h3 : a.cell = b.cell) : decide (a = b) = decide (a.key = b.key) := by
  cases a; cases b
  simp only at h0 h1 h2 h3
  subst h0 h1 h2 h3
  simp
theorem ve_ne {a b : VE} (h : a.kind ≠ b.kind ∨ a.map ≠ b.map ∨ a.index ≠ b.index ∨ a.cell ≠ b.cell) : decide (a = b) = false := decide_eq_false fun e => by subst e; simp at h
theorem same47 (a b : EV) (ha : BytK a.v.key) (hb : BytK b.v.key) (w : World) (hl : InL w a.ka 1 cU a.v.key) (hl' : InL w b.ka 1 cU b.v.key) :
    Calls Try.prog 47 #[.agg (cEV a).toArray, .agg (cEV b).toArray] w fun e w' => e = .returned (.bool (decide (a.v = b.v))) ∧ Grow w w' := by
  refine enter2 (S := fun _ => False) 38 Try.func47 rfl rfl rfl (Ok.start w) ?_
  by_cases h0 : a.v.kind = b.v.kind
  case neg =>
    rw [ve_ne (.inl h0)]
    (repeat (first | ((refine (?_ : MX _ _ _ _ _ _ _ _ _ _ _)); first | refine mx_end ?_ | (refine mx_mv _ rfl rfl (by conv => {lhs; whnf}) ?_) | (refine mx_as _ rfl rfl (by conv => {lhs; whnf}) ?_) | (refine mx_fa0 E rfl rfl rfl rfl ?_ ) | (refine g_load rfl ?_; refine mx_get E rfl rfl rfl rfl rfl (by rfl) rfl ?_ ) | (refine g_bin rfl ?_; ((refine mx_cmpl .eql rfl rfl rfl rfl rfl (by exact cmp_eq_f (by omega) ) ?_) ) ) | (refine mx_skip rfl rfl rfl ?_) | (refine g_pick rfl ?_; refine mx_andf rfl rfl rfl rfl rfl ?_ ) | (refine g_box rfl ?_; refine a_boxl rfl rfl rfl rfl rfl rfl (fun _ => ?_) ) ) | refine cw_seq ?_ | refine cw_line rfl ?_ | refine cw_ret ?_ | refine pw_then ?_ ))
    exact pw_ret rfl rfl rfl rfl fun w hw => ⟨rfl, hw.keep.grow⟩
  by_cases h1 : a.v.map = b.v.map
  case neg =>
    rw [ve_ne (.inr (.inl h1))]
    (repeat (first | ((refine (?_ : MX _ _ _ _ _ _ _ _ _ _ _)); first | refine mx_end ?_ | (refine mx_mv _ rfl rfl (by conv => {lhs; whnf}) ?_) | (refine mx_as _ rfl rfl (by conv => {lhs; whnf}) ?_) | (first | refine mx_fa0 E rfl rfl rfl rfl ?_ | refine mx_fa E rfl rfl rfl rfl ?_) | (refine g_load rfl ?_; refine mx_get E rfl rfl rfl rfl rfl (by rfl) rfl ?_ ) | (refine g_bin rfl ?_; ((refine mx_cmpl .eql rfl rfl rfl rfl rfl (by first | exact cmp_eq_t (by omega) | exact cmp_eq_f (by omega) ) ?_) ) ) | (refine mx_skip rfl rfl rfl ?_) | (refine g_pick rfl ?_; first | refine mx_andf rfl rfl rfl rfl rfl ?_ | refine mx_and rfl rfl rfl rfl rfl rfl ?_ ) | (refine g_box rfl ?_; refine a_boxl rfl rfl rfl rfl rfl rfl (fun _ => ?_) ) ) | refine cw_seq ?_ | refine cw_line rfl ?_ | refine cw_ret ?_ | refine pw_then ?_ ))
    exact pw_ret rfl rfl rfl rfl fun w hw => ⟨rfl, hw.keep.grow⟩
  by_cases h2 : a.v.index = b.v.index
  case neg =>
    rw [ve_ne (.inr (.inr (.inl h2)))]
    (repeat (first | ((refine (?_ : MX _ _ _ _ _ _ _ _ _ _ _)); first | refine mx_end ?_ | (refine mx_mv _ rfl rfl (by conv => {lhs; whnf}) ?_) | (refine mx_as _ rfl rfl (by conv => {lhs; whnf}) ?_) | (first | refine mx_fa0 E rfl rfl rfl rfl ?_ | refine mx_fa E rfl rfl rfl rfl ?_) | (refine g_load rfl ?_; refine mx_get E rfl rfl rfl rfl rfl (by rfl) rfl ?_ ) | (refine g_bin rfl ?_; ((refine mx_cmpl .eql rfl rfl rfl rfl rfl (by first | exact cmp_eq_t (by omega) | exact cmp_eq_f (by omega) ) ?_) ) ) | (refine mx_skip rfl rfl rfl ?_) | (refine g_pick rfl ?_; first | refine mx_andf rfl rfl rfl rfl rfl ?_ | refine mx_and rfl rfl rfl rfl rfl rfl ?_ ) | (refine g_box rfl ?_; refine a_boxl rfl rfl rfl rfl rfl rfl (fun _ => ?_) ) ) | refine cw_seq ?_ | refine cw_line rfl ?_ | refine cw_ret ?_ | refine pw_then ?_ ))
    exact pw_ret rfl rfl rfl rfl fun w hw => ⟨rfl, hw.keep.grow⟩
  by_cases h3 : a.v.cell = b.v.cell
  case neg =>
    rw [ve_ne (.inr (.inr (.inr h3)))]
    (repeat (first | ((refine (?_ : MX _ _ _ _ _ _ _ _ _ _ _)); first | refine mx_end ?_ | (refine mx_mv _ rfl rfl (by conv => {lhs; whnf}) ?_) | (refine mx_as _ rfl rfl (by conv => {lhs; whnf}) ?_) | (first | refine mx_fa0 E rfl rfl rfl rfl ?_ | refine mx_fa E rfl rfl rfl rfl ?_) | (refine g_load rfl ?_; refine mx_get E rfl rfl rfl rfl rfl (by rfl) rfl ?_ ) | (refine g_bin rfl ?_; ((refine mx_cmpl .eql rfl rfl rfl rfl rfl (by first | exact cmp_eq_t (by omega) | exact cmp_eq_f (by omega) ) ?_) ) ) | (refine mx_skip rfl rfl rfl ?_) | (refine g_pick rfl ?_; first | refine mx_andf rfl rfl rfl rfl rfl ?_ | refine mx_and rfl rfl rfl rfl rfl rfl ?_ ) | (refine g_box rfl ?_; refine a_boxl rfl rfl rfl rfl rfl rfl (fun _ => ?_) ) ) | refine cw_seq ?_ | refine cw_line rfl ?_ | refine cw_ret ?_ | refine pw_then ?_ ))
    exact pw_ret rfl rfl rfl rfl fun w hw => ⟨rfl, hw.keep.grow⟩
  rw [ve_eq h0 h1 h2 h3]
  (repeat (first | ((refine (?_ : MX _ _ _ _ _ _ _ _ _ _ _)); first | refine mx_end ?_ | (refine mx_mv _ rfl rfl (by conv => {lhs; whnf}) ?_) | (refine mx_as _ rfl rfl (by conv => {lhs; whnf}) ?_) | (first | refine mx_fa0 E rfl rfl rfl rfl ?_ | refine mx_fa E rfl rfl rfl rfl ?_) | (refine g_load rfl ?_; refine mx_get E rfl rfl rfl rfl rfl (by rfl) rfl ?_ ) | (refine g_bin rfl ?_; ((refine mx_cmpl .eql rfl rfl rfl rfl rfl (by exact cmp_eq_t (by omega) ) ?_) ) ) | (refine g_pick rfl ?_; refine mx_and rfl rfl rfl rfl rfl rfl ?_ ) | (refine g_box rfl ?_; refine a_boxl rfl rfl rfl rfl rfl rfl (fun _ => ?_) ) ) | refine cw_seq ?_ | refine cw_line rfl ?_ | refine pw_then ?_ ))
  refine g_cf 54 rfl ?_
  refine a_callv rfl rfl rfl rfl Try.func54 rfl rfl rfl (.bool (decide (a.v.key = b.v.key))) (fun w' hw => eq54 a.ka b.ka a.v.key.length a.kc b.v.key.length b.kc a.v.key b.v.key ha hb rfl rfl w' (hl.keep hw fun _ _ _ h => h) (hl'.keep hw fun _ _ _ h => h)) rfl ?_
  (repeat (first | ((refine (?_ : MX _ _ _ _ _ _ _ _ _ _ _)); first | refine mx_end ?_ | (refine mx_as _ rfl rfl (by conv => {lhs; whnf}) ?_) | (refine g_pick rfl ?_; refine mx_and rfl rfl rfl rfl rfl rfl ?_ ) ) | refine cw_ret ?_ | refine pw_then ?_ ))
  exact pw_ret rfl rfl rfl rfl fun w hw => ⟨rfl, hw.keep.grow⟩
theorem clo46 (x e : EV) (be : Nat) (hx : BytK x.v.key) (he : BytK e.v.key) (w : World) (hb : (row be 47 (cEV e)).holds w) (hl : InL w x.ka 1 cU x.v.key) (hl' : InL w e.ka 1 cU e.v.key) :
    Calls Try.prog 46 #[.agg (cEV x).toArray, .pointer (some ⟨be, 0, none⟩)] w fun r w' => r = .returned (.bool (decide (x.v = e.v))) ∧ Grow w w' := by
  refine enter2 (S := fun _ => False) 7 Try.func46 rfl rfl rfl (Ok.start w) ?_
  have hS : ¬ (fun _ : Nat => False) be := id
  (repeat (first | ((refine (?_ : MX _ _ _ _ _ _ _ _ _ _ _)); first | refine mx_end ?_ | (refine mx_as _ rfl rfl (by conv => {lhs; whnf}) ?_) | (refine g_load rfl ?_; first | refine mx_getn E rfl rfl rfl rfl rfl (by exact Vr.all rfl ) rfl ?_ | refine mx_orown E rfl rfl rfl rfl rfl (by assumption) (by assumption) (by exact Vr.all rfl ) rfl ?_ ) | (refine g_box rfl ?_; refine a_boxl rfl rfl rfl rfl rfl rfl (fun _ => ?_) ) ) | refine cw_seq ?_ | refine cw_line rfl ?_ | refine pw_then ?_ ))
  refine g_cf 47 rfl ?_
  refine a_callv rfl rfl rfl rfl Try.func47 rfl rfl rfl (.bool (decide (x.v = e.v))) (fun w' hw => same47 x e hx he w' (hl.keep hw fun _ _ _ h => h) (hl'.keep hw fun _ _ _ h => h)) rfl ?_
  (repeat (first | ((refine (?_ : MX _ _ _ _ _ _ _ _ _ _ _)); first | refine mx_end ?_ | (refine mx_as _ rfl rfl (by conv => {lhs; whnf}) ?_) ) | refine cw_ret ?_ | refine pw_then ?_ ))
  exact pw_ret rfl rfl rfl rfl fun w hw => ⟨rfl, hw.keep.grow⟩
theorem ixf55 (ad : Option Addr) (cap : Nat) (rows : List EV) (hs : rows.length ≤ 1000000000) (vc : List Value) (p : EV → Bool) (w : World) (hl : InL w ad 5 cEV rows) (hp : ∀ r ∈ rows, ∀ w', Grow w w' → Calls Try.prog 46 ([Value.agg (cEV r).toArray] ++ vc).toArray w' fun e w'' => e = .returned (.bool (p r)) ∧ Grow w' w'') :
    Calls Try.prog 55 #[.slice ad rows.length cap, .func (.func 46) #[] vc.toArray] w fun e w' => e = .returned (.int .i64 (oix (fidx p rows 0))) ∧ Grow w w' := by
  refine enter2 (S := fun _ => False) 19 Try.func55 rfl rfl rfl (Ok.start w) ?_
  (repeat (first | ((refine (?_ : MX _ _ _ _ _ _ _ _ _ _ _)); first | refine mx_end ?_ | (refine mx_mv _ rfl rfl (by conv => {lhs; whnf}) ?_) | (refine mx_as _ rfl rfl (by conv => {lhs; whnf}) ?_) | (refine g_bi .len rfl ?_; refine mx_len E rfl rfl rfl rfl ?_) ) | refine cw_seq ?_ | refine cw_line rfl ?_ | refine cw_block ?_ | refine pw_then ?_ ))
  refine cw_loop (fun i : Nat => [(8, .int .i64 i), (7, .int .i64 rows.length), (0, .slice ad rows.length cap), (1, .func (.func 46) #[] vc.toArray)]) (fun i => []) (fun i => i ≤ rows.length ∧ fidx p rows 0 = fidx p (rows.drop i) i) (fun i => rows.length - i) 0 ⟨by omega, rfl⟩ ⟨rfl, rfl, rfl, rfl, trivial⟩ (fun w h => h) ?_
  intro i jk ⟨hi, hf⟩
  by_cases h0 : (i : Int) < rows.length
  case neg =>
    have e : fidx p rows 0 = none := by rw [hf, List.drop_of_length_le (by omega)]; rfl
    rw [e]
    (repeat (first | ((refine (?_ : MX _ _ _ _ _ _ _ _ _ _ _)); first | refine mx_end ?_ | (refine mx_as _ rfl rfl (by conv => {lhs; whnf}) ?_) | (refine g_bin rfl ?_; ( (refine mx_cmpl .lss rfl rfl rfl rfl rfl (by exact cmp_lt_f (by omega) ) ?_) ) ) ) | refine cw_seq ?_ | refine cw_line rfl ?_ | refine cw_cond_f rfl ?_ | refine cw_exit ?_ | refine cw_ret ?_ | refine pw_then ?_ | refine pw_then_x ?_ | refine pw_block_e ?_ ))
    exact pw_ret rfl rfl rfl rfl fun w hw => ⟨rfl, hw.keep.grow⟩
  case pos =>
    obtain ⟨r, hx⟩ := getElem_some (xs := rows) (i := i) (by omega)
    obtain ⟨b4, off, e, hcc⟩ := inl_at hl hx
    subst e
    have hS : ¬ (fun _ : Nat => False) b4 := id
    have hc0 : ∀ (k : Nat) (v : Value), (cEV r)[k]? = some v → w.cell? ⟨b4, off + i * 5 + k, none⟩ = some v := hcc
    have hst := fidx_drop (p := p) hx
    (repeat (first | ((refine (?_ : MX _ _ _ _ _ _ _ _ _ _ _)); first | refine mx_end ?_ | (refine mx_mv _ rfl rfl (by conv => {lhs; whnf}) ?_) | (refine mx_as _ rfl rfl (by conv => {lhs; whnf}) ?_) | (refine g_load rfl ?_; refine mx_oldn E rfl rfl rfl rfl rfl (by assumption) (by assumption) (rfl) rfl ?_ ) | (refine g_bin rfl ?_; ( (refine mx_cmpl .lss rfl rfl rfl rfl rfl (by exact cmp_lt_t (by omega) ) ?_) ) ) | (refine g_ix rfl ?_; refine mx_ixsn E rfl rfl rfl rfl rfl rfl (by omega) rfl ?_ ) ) | refine cw_seq ?_ | refine cw_line rfl ?_ | refine cw_block ?_ | refine cw_cond_t rfl ?_ | refine cw_skip ?_ | refine pw_then ?_ ))
    refine a_fcall (vf := []) (vc := vc) rfl rfl rfl rfl rfl Try.func46 rfl rfl rfl (.bool (p r)) (fun w' hw => hp r (List.mem_of_getElem? hx) w' hw.keep.grow) rfl ?_
    cases hpr : p r with
    | true =>
      have e : fidx p rows 0 = some i := by rw [hf, hst, hpr]; rfl
      rw [e]
      (repeat (first | ((refine (?_ : MX _ _ _ _ _ _ _ _ _ _ _)); first | refine mx_end ?_ | (refine mx_mv _ rfl rfl (by conv => {lhs; whnf}) ?_) | (refine mx_as _ rfl rfl (by conv => {lhs; whnf}) ?_) ) | refine cw_seq ?_ | refine cw_line rfl ?_ | refine cw_cond_t rfl ?_ | refine cw_ret ?_ | refine pw_then ?_ | refine pw_then_r ?_ | refine pw_block_r ?_))
      exact pw_ret rfl rfl rfl rfl fun w hw => ⟨rfl, hw.keep.grow⟩
    | false =>
      (repeat (first | ((refine (?_ : MX _ _ _ _ _ _ _ _ _ _ _)); first | refine mx_end ?_ | (refine mx_mv _ rfl rfl (by conv => {lhs; whnf}) ?_) | (refine g_bin rfl ?_; ( refine mx_ar rfl rfl rfl rfl rfl rfl (IntWalk.i64_in _ (by omega)) rfl ?_ ) ) ) | refine cw_line rfl ?_ | refine cw_cond_f rfl ?_ | refine cw_skip ?_ | refine pw_then ?_ | refine pw_block ?_ ))
      refine pw_round (i + 1) ⟨by omega, by rw [hf, hst, hpr]; rfl⟩ (by omega) ⟨rfl, rfl, rfl, rfl, trivial⟩ (fun w h => h)
theorem ixf34 (ad : Option Addr) (cap : Nat) (rows : List CD) (hs : rows.length ≤ 1000000000) (vc : List Value) (p : CD → Bool) (w : World) (hl : InL w ad 4 cCD rows) (hp : ∀ r ∈ rows, ∀ w', Grow w w' → Calls Try.prog 35 ([Value.agg (cCD r).toArray] ++ vc).toArray w' fun e w'' => e = .returned (.bool (p r)) ∧ Grow w' w'') :
    Calls Try.prog 34 #[.slice ad rows.length cap, .func (.func 35) #[] vc.toArray] w fun e w' => e = .returned (.int .i64 (oix (fidx p rows 0))) ∧ Grow w w' := by
  refine enter2 (S := fun _ => False) 19 Try.func34 rfl rfl rfl (Ok.start w) ?_
  (repeat (first | ((refine (?_ : MX _ _ _ _ _ _ _ _ _ _ _)); first | refine mx_end ?_ | (refine mx_mv _ rfl rfl (by conv => {lhs; whnf}) ?_) | (refine mx_as _ rfl rfl (by conv => {lhs; whnf}) ?_) | (refine g_bi .len rfl ?_; refine mx_len E rfl rfl rfl rfl ?_) ) | refine cw_seq ?_ | refine cw_line rfl ?_ | refine cw_block ?_ | refine pw_then ?_ ))
  refine cw_loop (fun i : Nat => [(8, .int .i64 i), (7, .int .i64 rows.length), (0, .slice ad rows.length cap), (1, .func (.func 35) #[] vc.toArray)]) (fun i => []) (fun i => i ≤ rows.length ∧ fidx p rows 0 = fidx p (rows.drop i) i) (fun i => rows.length - i) 0 ⟨by omega, rfl⟩ ⟨rfl, rfl, rfl, rfl, trivial⟩ (fun w h => h) ?_
  intro i jk ⟨hi, hf⟩
  by_cases h0 : (i : Int) < rows.length
  case neg =>
    have e : fidx p rows 0 = none := by rw [hf, List.drop_of_length_le (by omega)]; rfl
    rw [e]
    (repeat (first | ((refine (?_ : MX _ _ _ _ _ _ _ _ _ _ _)); first | refine mx_end ?_ | (refine mx_as _ rfl rfl (by conv => {lhs; whnf}) ?_) | (refine g_bin rfl ?_; ( (refine mx_cmpl .lss rfl rfl rfl rfl rfl (by exact cmp_lt_f (by omega) ) ?_) ) ) ) | refine cw_seq ?_ | refine cw_line rfl ?_ | refine cw_cond_f rfl ?_ | refine cw_exit ?_ | refine cw_ret ?_ | refine pw_then ?_ | refine pw_then_x ?_ | refine pw_block_e ?_ ))
    exact pw_ret rfl rfl rfl rfl fun w hw => ⟨rfl, hw.keep.grow⟩
  case pos =>
    obtain ⟨r, hx⟩ := getElem_some (xs := rows) (i := i) (by omega)
    obtain ⟨b4, off, e, hcc⟩ := inl_at hl hx
    subst e
    have hS : ¬ (fun _ : Nat => False) b4 := id
    have hc0 : ∀ (k : Nat) (v : Value), (cCD r)[k]? = some v → w.cell? ⟨b4, off + i * 4 + k, none⟩ = some v := hcc
    have hst := fidx_drop (p := p) hx
    (repeat (first | ((refine (?_ : MX _ _ _ _ _ _ _ _ _ _ _)); first | refine mx_end ?_ | (refine mx_mv _ rfl rfl (by conv => {lhs; whnf}) ?_) | (refine mx_as _ rfl rfl (by conv => {lhs; whnf}) ?_) | (refine g_load rfl ?_; refine mx_oldn E rfl rfl rfl rfl rfl (by assumption) (by assumption) (rfl) rfl ?_ ) | (refine g_bin rfl ?_; ( (refine mx_cmpl .lss rfl rfl rfl rfl rfl (by exact cmp_lt_t (by omega) ) ?_) ) ) | (refine g_ix rfl ?_; refine mx_ixsn E rfl rfl rfl rfl rfl rfl (by omega) rfl ?_ ) ) | refine cw_seq ?_ | refine cw_line rfl ?_ | refine cw_block ?_ | refine cw_cond_t rfl ?_ | refine cw_skip ?_ | refine pw_then ?_ ))
    refine a_fcall (vf := []) (vc := vc) rfl rfl rfl rfl rfl Try.func35 rfl rfl rfl (.bool (p r)) (fun w' hw => hp r (List.mem_of_getElem? hx) w' hw.keep.grow) rfl ?_
    cases hpr : p r with
    | true =>
      have e : fidx p rows 0 = some i := by rw [hf, hst, hpr]; rfl
      rw [e]
      (repeat (first | ((refine (?_ : MX _ _ _ _ _ _ _ _ _ _ _)); first | refine mx_end ?_ | (refine mx_mv _ rfl rfl (by conv => {lhs; whnf}) ?_) | (refine mx_as _ rfl rfl (by conv => {lhs; whnf}) ?_) ) | refine cw_seq ?_ | refine cw_line rfl ?_ | refine cw_cond_t rfl ?_ | refine cw_ret ?_ | refine pw_then ?_ | refine pw_then_r ?_ | refine pw_block_r ?_))
      exact pw_ret rfl rfl rfl rfl fun w hw => ⟨rfl, hw.keep.grow⟩
    | false =>
      (repeat (first | ((refine (?_ : MX _ _ _ _ _ _ _ _ _ _ _)); first | refine mx_end ?_ | (refine mx_mv _ rfl rfl (by conv => {lhs; whnf}) ?_) | (refine g_bin rfl ?_; ( refine mx_ar rfl rfl rfl rfl rfl rfl (IntWalk.i64_in _ (by omega)) rfl ?_ ) ) ) | refine cw_line rfl ?_ | refine cw_cond_f rfl ?_ | refine cw_skip ?_ | refine pw_then ?_ | refine pw_block ?_ ))
      refine pw_round (i + 1) ⟨by omega, by rw [hf, hst, hpr]; rfl⟩ (by omega) ⟨rfl, rfl, rfl, rfl, trivial⟩ (fun w h => h)
theorem oix_ge (o : Option Nat) : (decide (oix o ≥ 0)) = o.isSome := by
  cases o with
  | none => rfl
  | some i => simp [oix]
theorem fidx_some' {α : Type} {p : α → Bool} : ∀ {l : List α} {i : Nat}, (fidx p l i).isSome = l.any p
  | [], _ => rfl
  | x :: l, i => by
    unfold fidx
    rw [List.any_cons]
    cases p x with
    | true => rfl
    | false => simpa using fidx_some' (p := p) (l := l) (i := i + 1)
theorem has48 (ad : Option Addr) (cap : Nat) (evs : List EV) (e : EV) (be : Nat) (hs : evs.length ≤ 1000000) (hx : ∀ x ∈ evs, BytK x.v.key) (he : BytK e.v.key) (B : Bool) (hB : (evs.any fun x => decide (x.v = e.v)) = B) (w : World) (hl : InL w ad 5 cEV evs) (hk : ∀ x ∈ evs, InL w x.ka 1 cU x.v.key) (hb : (row be 47 (cEV e)).holds w) (hl' : InL w e.ka 1 cU e.v.key) :
    Calls Try.prog 48 #[.slice ad evs.length cap, .func (.func 46) #[] #[.pointer (some ⟨be, 0, none⟩)]] w fun r w' => r = .returned (.bool B) ∧ Grow w w' := by
  refine enter2 (S := fun _ => False) 9 Try.func48 rfl rfl rfl (Ok.start w) ?_
  rw [← fidx_some' (i := 0)] at hB
  cases hf : fidx (fun x : EV => decide (x.v = e.v)) evs 0 with
  | none =>
    rw [hf] at hB
    obtain rfl : false = B := hB
    have hge : ¬ oix none ≥ 0 := by decide
    (repeat (first | ((refine (?_ : MX _ _ _ _ _ _ _ _ _ _ _)); first | refine mx_end ?_ | (refine mx_mv _ rfl rfl (by conv => {lhs; whnf}) ?_) | (refine mx_as _ rfl rfl (by conv => {lhs; whnf}) ?_) ) | refine cw_seq ?_ | refine cw_line rfl ?_ | refine pw_then ?_ ))
    refine g_cf 55 rfl ?_
    refine a_callv rfl rfl rfl rfl Try.func55 rfl rfl rfl (.int .i64 (-1)) (fun w' hw => by
      have := ixf55 ad cap evs (by omega) [.pointer (some ⟨be, 0, none⟩)] (fun x => decide (x.v = e.v)) w' (hl.keep hw fun _ _ _ h => h) (fun r hr w'' hg => clo46 r e be (hx r hr) he w'' ((row be 47 (cEV e)).loc w' w'' (fun b hb' => hg.block b (row_lt (hw.orow hb id) b hb')) (hw.orow hb id)) (((hk r hr).keep hw fun _ _ _ h => h).grow hg) ((hl'.keep hw fun _ _ _ h => h).grow hg))
      rw [hf] at this
      exact this) rfl ?_
    (repeat (first | ((refine (?_ : MX _ _ _ _ _ _ _ _ _ _ _)); first | refine mx_end ?_ | (refine mx_as _ rfl rfl (by conv => {lhs; whnf}) ?_) | (refine g_bin rfl ?_; ( (refine mx_cmpl .geq rfl rfl rfl rfl rfl (by exact cmp_ge_f (by omega) ) ?_)) ) ) | refine cw_ret ?_ | refine pw_then ?_ ))
    exact pw_ret rfl rfl rfl rfl fun w hw => ⟨rfl, hw.keep.grow⟩
  | some i =>
    rw [hf] at hB
    obtain rfl : true = B := hB
    (repeat (first | ((refine (?_ : MX _ _ _ _ _ _ _ _ _ _ _)); first | refine mx_end ?_ | (refine mx_mv _ rfl rfl (by conv => {lhs; whnf}) ?_) | (refine mx_as _ rfl rfl (by conv => {lhs; whnf}) ?_) ) | refine cw_seq ?_ | refine cw_line rfl ?_ | refine pw_then ?_ ))
    refine g_cf 55 rfl ?_
    refine a_callv rfl rfl rfl rfl Try.func55 rfl rfl rfl (.int .i64 i) (fun w' hw => by
      have := ixf55 ad cap evs (by omega) [.pointer (some ⟨be, 0, none⟩)] (fun x => decide (x.v = e.v)) w' (hl.keep hw fun _ _ _ h => h) (fun r hr w'' hg => clo46 r e be (hx r hr) he w'' ((row be 47 (cEV e)).loc w' w'' (fun b hb' => hg.block b (row_lt (hw.orow hb id) b hb')) (hw.orow hb id)) (((hk r hr).keep hw fun _ _ _ h => h).grow hg) ((hl'.keep hw fun _ _ _ h => h).grow hg))
      rw [hf] at this
      exact this) rfl ?_
    (repeat (first | ((refine (?_ : MX _ _ _ _ _ _ _ _ _ _ _)); first | refine mx_end ?_ | (refine mx_as _ rfl rfl (by conv => {lhs; whnf}) ?_) | (refine g_bin rfl ?_; ( (refine mx_cmpl .geq rfl rfl rfl rfl rfl (by exact cmp_ge_t (by omega) ) ?_)) ) ) | refine cw_ret ?_ | refine pw_then ?_ ))
    exact pw_ret rfl rfl rfl rfl fun w hw => ⟨rfl, hw.keep.grow⟩
end Go.Proofs.Ytdkolggmabnifaa
