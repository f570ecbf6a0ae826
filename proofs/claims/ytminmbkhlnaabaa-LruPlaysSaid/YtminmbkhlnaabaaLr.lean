/- The program's map of which the key goes that was used longest ago: what each call leaves, walked once each. -/
import Derived.Test.YtminmbkhlnaabaaStr
import Derived.Test.YtminmbkhlnaabaaBy
set_option maxRecDepth 100000
set_option maxHeartbeats 8000000
set_option linter.unusedSimpArgs false
set_option linter.unusedVariables false
namespace Go.Proofs.Ytminmbkhlnaabaa
open Go Go.Sx Go.RowKit
structure RW where
  k : List Int
  c : Int
  deriving Inhabited, DecidableEq
@[reducible] def cR (r : RW) : List Value := [.string (strOfNums r.k), .int .i64 r.c]
theorem len_R (r : RW) : (cR r).length = 2 := rfl
theorem b73 (a b : Int) : Blt Try.prog 73 [(0, .int .i64 a), (1, .int .i64 b)] [.int .i64 a, .int .i64 b, .slice none 0 0] := ⟨by kernel_rfl⟩
theorem b76 (s : ByteArray) (c : Int) : Blt Try.prog 76 [(0, .string s), (1, .int .i64 c)] [.string s, .int .i64 c] := ⟨by kernel_rfl⟩
instance : ZeroT Try.prog 76 (cR ⟨[], 0⟩) := ⟨by kernel_rfl⟩
theorem strOf_nil : strOfNums [] = ByteArray.empty := rfl
@[reducible] def hdL (key most : Int) (ra : Option Addr) (rl rc : Nat) : List Value := [.int .i64 key, .int .i64 most, .slice ra rl rc]
def cutK (n hi : Int) : Int := max 1 (min n hi)
def OL (bx : Nat) (key most : Int) (ra : Option Addr) (rc : Nat) (rows : List RW) : List Res := [row bx 73 (hdL key most ra rows.length rc), rdR ra rows.length rc (rows.flatMap cR)]
theorem src_U {w : World} {ad : Option Addr} {xs : List Int} (h : InL w ad 1 cU xs) : Src w ad (xs.map (Value.int .u8)) := by
  have := h.src len_U
  have e : xs.flatMap cU = xs.map (Value.int .u8) := by
    clear this h
    induction xs with
    | nil => rfl
    | cons x xs ih => rw [List.flatMap_cons, ih]; rfl
  rwa [e] at this
theorem src_inl {α : Type} {w : World} {ad : Option Addr} {z : Nat} {c : α → List Value} {xs : List α} (hz : ∀ x, (c x).length = z) (hp : 0 < z) (h : Src w ad (xs.flatMap c)) : InL w ad z c xs := fun hne => by
  have : xs.flatMap c ≠ [] := fun e => by
    cases xs with
    | nil => exact hne rfl
    | cons x xs =>
      have h1 := hz x
      rw [List.flatMap_cons] at e
      have := (List.append_eq_nil_iff.1 e).1
      rw [this] at h1
      simp at h1
      omega
  obtain ⟨b, off, e, hc⟩ := h this
  refine ⟨b, off, e, fun i x hx k v hk => ?_⟩
  have hkz : k < z := by rw [← hz x]; exact (List.getElem?_eq_some_iff.1 hk).1
  have := hc (i * z + k) v (by rw [flatMap_at hz xs i k x hx hkz]; exact hk)
  rw [add_at] at this
  rw [Nat.add_assoc]
  exact this
theorem new12 (key most : Int) (w : World) : Calls Try.prog 12 #[.int .i64 key, .int .i64 most] w fun e w' => ∃ b : Nat, e = .returned (.pointer (some ⟨b, 0, none⟩)) ∧ Ok (domL []) w (OL b (cutK key 16) (cutK most 64) none 0 []) w' := by
  refine enter2 (S := domL []) 13 Try.func12 rfl rfl rfl (Ok.start w) ?_
  (repeat (first | ((refine (?_ : MX _ _ _ _ _ _ _ _ _ _ _)); first | refine mx_end ?_ | (refine mx_mv _ rfl rfl (by conv => {lhs; whnf}) ?_) | (refine mx_as _ rfl rfl (by conv => {lhs; whnf}) ?_) | (refine g_build rfl ?_; refine mx_build rfl rfl rfl rfl (b73 _ _) rfl ?_ ) | (refine g_box rfl ?_; refine a_boxl rfl rfl rfl rfl rfl rfl (fun _ => ?_) ) | (first | (refine g_bi .max rfl ?_; refine mx_maxi rfl rfl rfl rfl rfl rfl rfl ?_) | (refine g_bi .min rfl ?_; refine mx_mini rfl rfl rfl rfl rfl rfl rfl ?_)) ) | refine cw_seq ?_ | refine cw_line rfl ?_ | refine cw_ret ?_ | refine pw_then ?_ ))
  refine pw_ret rfl rfl rfl rfl fun w' hw => ⟨_, rfl, ?_⟩
  exact hw.push (D := fun _ => False) (Chg.rfl' _ _) (fun _ _ h => h) (rdR none 0 0 []) ⟨fun h => absurd rfl h, Nat.le_refl _⟩ (fun b ⟨off, e⟩ => by cases e) |>.pick [1, 0] (by simp) rfl
/-- Places. -/
def fidx {α : Type} (p : α → Bool) : List α → Nat → Option Nat
  | [], _ => none
  | x :: l, i => if p x = true then some i else fidx p l (i + 1)
def oix : Option Nat → Int
  | some i => i
  | none => -1
theorem fidx_le {α : Type} {p : α → Bool} : ∀ {l : List α} {i j : Nat}, fidx p l i = some j → i ≤ j ∧ j - i < l.length ∧ ∃ x, l[j - i]? = some x ∧ p x = true
  | [], i, j, h => by simp [fidx] at h
  | x :: l, i, j, h => by
    unfold fidx at h
    split at h
    · obtain rfl : i = j := by simpa using h
      exact ⟨Nat.le_refl _, by simp, x, by simp, by assumption⟩
    · obtain ⟨h1, h2, y, h3, h4⟩ := fidx_le h
      refine ⟨by omega, by simp; omega, y, ?_, h4⟩
      rw [show j - i = (j - (i + 1)) + 1 by omega]
      simpa using h3
theorem fidx_drop {α : Type} {p : α → Bool} {l : List α} {i : Nat} {x : α} (hx : l[i]? = some x) : fidx p (l.drop i) i = if p x = true then some i else fidx p (l.drop (i + 1)) (i + 1) := by
  have hi : i < l.length := (List.getElem?_eq_some_iff.1 hx).1
  have : l.drop i = x :: l.drop (i + 1) := by
    rw [List.drop_eq_getElem_cons hi]
    congr 1
    exact (List.getElem?_eq_some_iff.1 hx).2
  rw [this]
  rfl
/-- The place of the first row of which a closure says so. -/
theorem ixf67 (ad : Option Addr) (cap : Nat) (rows : List RW) (hs : rows.length ≤ 1000000000) (vc : List Value) (p : RW → Bool) (w : World) (hl : InL w ad 2 cR rows) (hp : ∀ r ∈ rows, ∀ w', Grow w w' → Calls Try.prog 68 ([Value.agg (cR r).toArray] ++ vc).toArray w' fun e w'' => e = .returned (.bool (p r)) ∧ Grow w' w'') :
    Calls Try.prog 67 #[.slice ad rows.length cap, .func (.func 68) #[] vc.toArray] w fun e w' => e = .returned (.int .i64 (oix (fidx p rows 0))) ∧ Grow w w' := by
  refine enter2 (S := fun _ => False) 19 Try.func67 rfl rfl rfl (Ok.start w) ?_
  (repeat (first | ((refine (?_ : MX _ _ _ _ _ _ _ _ _ _ _)); first | refine mx_end ?_ | (refine mx_mv _ rfl rfl (by conv => {lhs; whnf}) ?_) | (refine mx_as _ rfl rfl (by conv => {lhs; whnf}) ?_) | (refine g_bi .len rfl ?_; refine mx_len E rfl rfl rfl rfl ?_) ) | refine cw_seq ?_ | refine cw_line rfl ?_ | refine cw_block ?_ | refine pw_then ?_ ))
  refine cw_loop (fun i : Nat => [(8, .int .i64 i), (7, .int .i64 rows.length), (0, .slice ad rows.length cap), (1, .func (.func 68) #[] vc.toArray)]) (fun i => []) (fun i => i ≤ rows.length ∧ fidx p rows 0 = fidx p (rows.drop i) i) (fun i => rows.length - i) 0 ⟨by omega, rfl⟩ ⟨rfl, rfl, rfl, rfl, trivial⟩ (fun w h => h) ?_
  intro i jk ⟨hi, hf⟩
  by_cases h0 : (i : Int) < rows.length
  case neg =>
    have e : fidx p rows 0 = none := by rw [hf, List.drop_of_length_le (by omega)]; rfl
    rw [e]
    (repeat (first | ((refine (?_ : MX _ _ _ _ _ _ _ _ _ _ _)); first | refine mx_end ?_ | (refine mx_as _ rfl rfl (by conv => {lhs; whnf}) ?_) | (refine g_bin rfl ?_; ( (refine mx_cmpl .lss rfl rfl rfl rfl rfl (by exact cmp_lt_f (by omega) ) ?_) ) ) ) | refine cw_seq ?_ | refine cw_line rfl ?_ | refine cw_cond_f rfl ?_ | refine cw_exit ?_ | refine cw_ret ?_ | refine pw_then ?_ | refine pw_then_x ?_ | refine pw_block_e ?_ ))
    exact pw_ret rfl rfl rfl rfl fun w hw => ⟨rfl, hw.keep.grow⟩
  case pos =>
    obtain ⟨r, hx⟩ := getElem_some (xs := rows) (i := i) (by omega)
    obtain ⟨b4, off, e, hcc⟩ := inl_at hl hx
    subst e
    have hS : ¬ (fun _ : Nat => False) b4 := id
    have hc0 : ∀ (k : Nat) (v : Value), (cR r)[k]? = some v → w.cell? ⟨b4, off + i * 2 + k, none⟩ = some v := hcc
    have hst := fidx_drop (p := p) hx
    (repeat (first | ((refine (?_ : MX _ _ _ _ _ _ _ _ _ _ _)); first | refine mx_end ?_ | (refine mx_mv _ rfl rfl (by conv => {lhs; whnf}) ?_) | (refine mx_as _ rfl rfl (by conv => {lhs; whnf}) ?_) | (refine g_load rfl ?_; refine mx_oldn E rfl rfl rfl rfl rfl (by assumption) (by assumption) (rfl) rfl ?_ ) | (refine g_bin rfl ?_; ( (refine mx_cmpl .lss rfl rfl rfl rfl rfl (by exact cmp_lt_t (by omega) ) ?_) ) ) | (refine g_ix rfl ?_; refine mx_ixsn E rfl rfl rfl rfl rfl rfl (by omega) rfl ?_ ) ) | refine cw_seq ?_ | refine cw_line rfl ?_ | refine cw_block ?_ | refine cw_cond_t rfl ?_ | refine cw_skip ?_ | refine pw_then ?_ ))
    refine a_fcall (vf := []) (vc := vc) rfl rfl rfl rfl rfl Try.func68 rfl rfl rfl (.bool (p r)) (fun w' hw => hp r (List.mem_of_getElem? hx) w' hw.keep.grow) rfl ?_
    cases hpr : p r with
    | true =>
      have e : fidx p rows 0 = some i := by rw [hf, hst, hpr]; rfl
      rw [e]
      (repeat (first | ((refine (?_ : MX _ _ _ _ _ _ _ _ _ _ _)); first | refine mx_end ?_ | (refine mx_mv _ rfl rfl (by conv => {lhs; whnf}) ?_) | (refine mx_as _ rfl rfl (by conv => {lhs; whnf}) ?_) ) | refine cw_seq ?_ | refine cw_line rfl ?_ | refine cw_cond_t rfl ?_ | refine cw_ret ?_ | refine pw_then ?_ | refine pw_then_r ?_ | refine pw_block_r ?_))
      exact pw_ret rfl rfl rfl rfl fun w hw => ⟨rfl, hw.keep.grow⟩
    | false =>
      (repeat (first | ((refine (?_ : MX _ _ _ _ _ _ _ _ _ _ _)); first | refine mx_end ?_ | (refine mx_mv _ rfl rfl (by conv => {lhs; whnf}) ?_) | (refine g_bin rfl ?_; (refine mx_ar rfl rfl rfl rfl rfl rfl (IntWalk.i64_in _ (by omega)) rfl ?_ ) ) ) | refine cw_line rfl ?_ | refine cw_cond_f rfl ?_ | refine cw_skip ?_ | refine pw_then ?_ | refine pw_block ?_ ))
      refine pw_round (i + 1) ⟨by omega, by rw [hf, hst, hpr]; rfl⟩ (by omega) ⟨rfl, rfl, rfl, rfl, trivial⟩ (fun w h => h)
@[reducible] def plk (k : List Int) (r : RW) : Bool := decide (r.k = k)
theorem strOf_inj {a b : List Int} (ha : ∀ x ∈ a, 0 ≤ x ∧ x < 256) (hb : ∀ x ∈ b, 0 ≤ x ∧ x < 256) : ((strOfNums a).toList == (strOfNums b).toList) = decide (a = b) := by
  rw [ByteArray.toList_eq, ByteArray.toList_eq, strOfNums_data, strOfNums_data]
  rw [Bool.eq_iff_iff]
  simp only [beq_iff_eq, decide_eq_true_eq]
  constructor
  · intro h
    induction a generalizing b with
    | nil => cases b with
      | nil => rfl
      | cons y b => simp at h
    | cons x a ih => cases b with
      | nil => simp at h
      | cons y b =>
        simp only [List.map_cons, List.cons.injEq] at h
        have h1 := ha x (by simp)
        have h2 := hb y (by simp)
        have e : x = y := by
          have := congrArg UInt8.toNat h.1
          simp at this
          omega
        rw [e, ih (fun z hz => ha z (by simp [hz])) (fun z hz => hb z (by simp [hz])) h.2]
  · intro h; rw [h]
def BytR (r : RW) : Prop := ∀ x ∈ r.k, 0 ≤ x ∧ x < 256
theorem clo68 (r : RW) (hr : BytR r) (b3 : Nat) (ad : Option Addr) (m cap : Nat) (k : List Int) (hk : ∀ x ∈ k, 0 ≤ x ∧ x < 256) (hm : k.length = m) (w : World) (hb : (row b3 22 [.slice ad m cap]).holds w) (hl : InL w ad 1 cU k) :
    Calls Try.prog 68 #[.agg (cR r).toArray, .pointer (some ⟨b3, 0, none⟩)] w fun e w' => e = .returned (.bool (decide (r.k = k))) ∧ Grow w w' := by
  refine enter2 (S := fun _ => False) 9 Try.func68 rfl rfl rfl (Ok.start w) ?_
  have hS : ¬ (fun _ : Nat => False) b3 := id
  have hsr := src_U hl
  have heq := strOf_inj hr hk
  (repeat (first | ((refine (?_ : MX _ _ _ _ _ _ _ _ _ _ _)); first | refine mx_end ?_ | (refine mx_as _ rfl rfl (by conv => {lhs; whnf}) ?_) | (refine mx_fa0 E rfl rfl rfl rfl ?_ ) | (refine g_load rfl ?_; first | refine mx_get E rfl rfl rfl rfl rfl (by rfl) rfl ?_ | refine mx_orow E rfl rfl rfl rfl rfl (by assumption) (by assumption) (by rfl) rfl ?_ ) | (refine g_box rfl ?_; refine a_boxl rfl rfl rfl rfl rfl rfl (fun _ => ?_) ) ) | refine cw_seq ?_ | refine cw_line rfl ?_ | refine pw_then ?_ ))
  refine mx_b2s rfl rfl rfl (by kernel_rfl) rfl hm hsr (fun _ _ _ _ h => h) rfl ?_
  (repeat (first | ((refine (?_ : MX _ _ _ _ _ _ _ _ _ _ _)); first | refine mx_end ?_ | (refine mx_as _ rfl rfl (by conv => {lhs; whnf}) ?_) | ( refine mx_streq rfl rfl rfl rfl rfl rfl ?_) ) | refine cw_ret ?_ | refine pw_then ?_ ))
  refine pw_ret rfl rfl rfl rfl fun w hw => ⟨?_, hw.keep.grow⟩
  show Ending.returned (Value.bool ((strOfNums r.k).toList == (strOfNums k).toList)) = _
  rw [heq]
theorem at52 (bx : Nat) (key most : Int) (ra : Option Addr) (rc : Nat) (rows : List RW) (hs : rows.length ≤ 1000000000) (hR : ∀ r ∈ rows, BytR r) (ad : Option Addr) (m cap : Nat) (k : List Int) (hk : ∀ x ∈ k, 0 ≤ x ∧ x < 256) (hm : k.length = m) (w : World) (h1 : (row bx 73 (hdL key most ra rows.length rc)).holds w) (h2 : InL w ra 2 cR rows) (hl : InL w ad 1 cU k) :
    Calls Try.prog 52 #[.pointer (some ⟨bx, 0, none⟩), .slice ad m cap] w fun e w' => e = .returned (.int .i64 (oix (fidx (plk k) rows 0))) ∧ Grow w w' := by
  refine enter2 (S := fun _ => False) 11 Try.func52 rfl rfl rfl (Ok.start w) ?_
  have hS : ¬ (fun _ : Nat => False) bx := id
  (repeat (first | ((refine (?_ : MX _ _ _ _ _ _ _ _ _ _ _)); first | refine mx_end ?_ | (refine mx_mv _ rfl rfl (by conv => {lhs; whnf}) ?_) | (refine mx_as _ rfl rfl (by conv => {lhs; whnf}) ?_) | ( refine mx_fa E rfl rfl rfl rfl ?_) | (refine g_load rfl ?_; refine mx_orow E rfl rfl rfl rfl rfl (by assumption) (by assumption) (by rfl) rfl ?_ ) | (refine mx_nc rfl rfl rfl ?_) | (refine g_box rfl ?_; refine a_box1 rfl rfl rfl rfl rfl rfl rfl (fun _ => ?_)) | ( refine mx_fn rfl rfl rfl rfl rfl rfl ?_ ) ) | refine cw_seq ?_ | refine cw_line rfl ?_ | refine pw_then ?_ ))
  rename_i b3
  refine g_cf 67 rfl ?_
  refine a_callv rfl rfl rfl rfl Try.func67 rfl rfl rfl _ (fun w' hw => ixf67 ra rc rows hs [.pointer (some ⟨b3, 0, none⟩)] (plk k) w' (h2.keep hw fun _ _ _ h => h) (fun r hr w'' hg => clo68 r (hR r hr) b3 ad m cap k hk hm w'' (by
    have := hw.holds 0 _ rfl
    exact (row b3 22 [.slice ad m cap]).loc w' w'' (fun b hb => hg.block b (row_lt this b hb)) this) ((hl.keep hw fun _ _ _ h => h).grow hg))) rfl ?_
  (repeat (first | ((refine (?_ : MX _ _ _ _ _ _ _ _ _ _ _)); first | refine mx_end ?_ | (refine mx_as _ rfl rfl (by conv => {lhs; whnf}) ?_) ) | refine cw_ret ?_ | refine pw_then ?_ ))
  exact pw_ret rfl rfl rfl rfl fun w hw => ⟨rfl, hw.keep.grow⟩
end Go.Proofs.Ytminmbkhlnaabaa
