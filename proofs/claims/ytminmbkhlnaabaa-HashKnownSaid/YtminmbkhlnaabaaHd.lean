/- The program's table: found, taken away, how many. -/
import Derived.Test.YtminmbkhlnaabaaHc
set_option maxRecDepth 100000
set_option maxHeartbeats 8000000
set_option linter.unusedSimpArgs false
set_option linter.unusedVariables false
namespace Go.Proofs.Ytminmbkhlnaabaa
open Go Go.Sx Go.RowKit
structure WfH (kl mx : Nat) (pl : List PLc) : Prop where
  P0 : 0 < pl.length
  P1 : pl.length ≤ 1000
  k0 : 0 < kl
  k1 : kl ≤ 1000
  m1 : mx ≤ 1000
  ok : OkP kl pl
def cntH (pl : List PLc) : Nat := pl.countP fun c => c.s == 1
theorem cntH_le (pl : List PLc) : cntH pl ≤ pl.length := List.countP_le_length
def OH (bx kb sb cb kl mx : Nat) (pl : List PLc) : List Res := [row bx 87 (hdH kb sb cb kl mx (cntH pl) pl.length), row kb 5 (kvH pl), row sb 5 (svH pl), row cb 3 (cvH pl)]
theorem oixH_none : oixH none = -1 := rfl
theorem oixH_some (i : Nat) : oixH (some i) = i := rfl
theorem lookH_some {pl : List PLc} {kl : Nat} {k : List Int} {p : Nat} (h : lookH pl kl k = some p) : k.length = kl ∧ p < pl.length ∧ ∃ c, pl[p]? = some c ∧ c.s = 1 ∧ c.k = k := by
  unfold lookH at h
  split at h
  · rename_i hk
    refine ⟨hk, ?_⟩
    cases hf : (wayL (homeK k pl.length) pl.length).findSome? (stpH pl k) with
    | none => rw [hf] at h; cases h
    | some r =>
      rw [hf] at h
      obtain rfl : r = some p := h
      obtain ⟨q, _, hq⟩ := List.exists_of_findSome?_eq_some hf
      unfold stpH at hq
      cases hc : pl[q]? with
      | none => rw [hc] at hq; cases hq
      | some c =>
        rw [hc] at hq
        dsimp only at hq
        split at hq
        · cases hq
        · split at hq
          · rename_i h2
            obtain rfl : q = p := by simpa using hq
            exact ⟨(List.getElem?_eq_some_iff.1 hc).1, c, hc, h2.1, h2.2⟩
          · cases hq
  · cases h
theorem fm_splice {α : Type} {z : Nat} {g : α → List Value} : ∀ {xs : List α} (hz : ∀ x ∈ xs, (g x).length = z) {i : Nat} (hi : i < xs.length) (y : α) (hy : (g y).length = z), splice (xs.flatMap g) (i * z) (g y) = (xs.set i y).flatMap g
  | x :: xs, hz, 0, hi, y, hy => by
    have hx := hz x (by simp)
    rw [List.set_cons_zero, List.flatMap_cons, List.flatMap_cons, Nat.zero_mul, splice, List.take_zero, List.nil_append, Nat.zero_add, hy]
    rw [List.drop_append, hx, Nat.sub_self, List.drop_of_length_le (by omega)]
    simp
  | x :: xs, hz, i + 1, hi, y, hy => by
    have hx := hz x (by simp)
    rw [List.set_cons_succ, List.flatMap_cons, List.flatMap_cons, show (i + 1) * z = (g x).length + i * z by rw [Nat.succ_mul, hx]; omega, splice_append, fm_splice (fun x hx => hz x (by simp [hx])) (by simpa using hi) y hy]
theorem sp_kv {kl : Nat} {pl : List PLc} (h : OkP kl pl) {p : Nat} (hp : p < pl.length) (c' : PLc) (hc : c'.k.length = kl) : Sp (kvH pl) (p * kl) (c'.k.map (Value.int .u8)) (kvH (pl.set p c')) := by
  have hz : ∀ x ∈ pl, ((fun c : PLc => c.k.map (Value.int .u8)) x).length = kl := fun x hx => by rw [List.length_map]; exact (h x hx).1
  refine ⟨?_, ?_⟩
  · rw [kvH_len h, List.length_map, hc]
    have : (p + 1) * kl ≤ pl.length * kl := Nat.mul_le_mul_right kl hp
    rw [Nat.succ_mul] at this
    exact this
  · unfold kvH
    exact fm_splice (g := fun c : PLc => c.k.map (Value.int .u8)) hz hp c' (by rw [List.length_map]; exact hc)
theorem sp_one {α : Type} (g : α → Value) {xs : List α} {p : Nat} (hp : p < xs.length) (y : α) : Sp (xs.map g) (0 + p * 1) [g y] ((xs.set p y).map g) := by
  rw [Nat.zero_add, Nat.mul_one]
  refine ⟨by rw [List.length_map]; simp; omega, ?_⟩
  unfold splice
  rw [List.map_set, List.set_eq_take_append_cons_drop, if_pos (by rw [List.length_map]; exact hp)]
  simp
theorem sp_sv {pl : List PLc} {p : Nat} (hp : p < pl.length) (c' : PLc) : Sp (svH pl) (0 + p * 1) [.int .u8 c'.s] (svH (pl.set p c')) := by
  unfold svH
  exact sp_one (fun c : PLc => Value.int .u8 c.s) hp c'
theorem sp_cv {pl : List PLc} {p : Nat} (hp : p < pl.length) (c' : PLc) : Sp (cvH pl) (0 + p * 1) [.int .i64 c'.c] (cvH (pl.set p c')) := by
  unfold cvH
  exact sp_one (fun c : PLc => Value.int .i64 c.c) hp c'
theorem set_same {α : Type} {β : Type} (g : α → β) {xs : List α} {p : Nat} {x : α} (hx : xs[p]? = some x) (y : α) (h : g y = g x) : (xs.set p y).map g = xs.map g := by
  rw [List.map_set, h]
  obtain ⟨h1, h2⟩ := List.getElem?_eq_some_iff.1 hx
  apply List.ext_getElem?
  intro i
  rw [List.getElem?_set]
  split
  · rename_i hi
    subst hi
    rw [List.length_map, if_pos h1, List.getElem?_map, hx]
    rfl
  · rfl
theorem cvH_set {pl : List PLc} {p : Nat} {c : PLc} (hc : pl[p]? = some c) (c' : PLc) (h : c'.c = c.c) : cvH (pl.set p c') = cvH pl := by
  unfold cvH
  exact set_same (fun c : PLc => Value.int .i64 c.c) hc c' (by simp [h])
theorem kvH_set {pl : List PLc} {p : Nat} {c : PLc} (hc : pl[p]? = some c) (c' : PLc) (h : c'.k = c.k) : kvH (pl.set p c') = kvH pl := by
  unfold kvH
  rw [List.flatMap_def, List.flatMap_def, set_same (fun c : PLc => c.k.map (Value.int .u8)) hc c' (by simp [h])]
theorem cnt_set {pl : List PLc} {p : Nat} {c : PLc} (hc : pl[p]? = some c) (c' : PLc) : cntH (pl.set p c') + (if c.s = 1 then 1 else 0) = cntH pl + (if c'.s = 1 then 1 else 0) := by
  obtain ⟨h1, h2⟩ := List.getElem?_eq_some_iff.1 hc
  unfold cntH
  rw [List.countP_set h1, h2]
  have h3 : (if (c.s == 1) = true then 1 else 0) ≤ pl.countP fun c => c.s == 1 := by
    split
    · exact List.countP_pos_iff.2 ⟨c, List.mem_of_getElem? hc, by assumption⟩
    · exact Nat.zero_le _
  simp only [beq_iff_eq] at h3 ⊢
  omega
def fdH (pl : List PLc) (kl : Nat) (k : List Int) : Int × Bool := match lookH pl kl k with
  | some p => ((pl.getD p default).c, true)
  | none => (0, false)
def delH (pl : List PLc) (kl : Nat) (k : List Int) : List PLc := match lookH pl kl k with
  | some p => pl.set p { pl.getD p default with s := 2 }
  | none => pl
theorem find39 (bx kb sb cb kl mx : Nat) (pl : List PLc) (hwf : WfH kl mx pl) (ad : Option Addr) (m cap : Nat) (k : List Int) (hkb : BytK k) (hm : k.length = m) (hs : m ≤ 1000000) (w : World)
    (ho : ∀ r ∈ OH bx kb sb cb kl mx pl, r.holds w) (hl : InL w ad 1 cU k) :
    Calls Try.prog 39 #[.pointer (some ⟨bx, 0, none⟩), .slice ad m cap] w fun e w' => e = .returned (.tuple #[.int .i64 (fdH pl kl k).1, .bool (fdH pl kl k).2]) ∧ Grow w w' := by
  refine enter2 (S := fun _ => False) 19 Try.func39 rfl rfl rfl (Ok.start w) ?_
  have hrx := ho (row bx 87 (hdH kb sb cb kl mx (cntH pl) pl.length)) (by simp [OH])
  have hrk := ho (row kb 5 (kvH pl)) (by simp [OH])
  have hrs := ho (row sb 5 (svH pl)) (by simp [OH])
  have hrc := ho (row cb 3 (cvH pl)) (by simp [OH])
  have hSx : ¬ (fun _ : Nat => False) bx := id
  have hSc : ¬ (fun _ : Nat => False) cb := id
  (repeat (first | ((refine (?_ : MX _ _ _ _ _ _ _ _ _ _ _)); first | refine mx_end ?_ | (refine mx_mv _ rfl rfl (by conv => {lhs; whnf}) ?_) | (refine mx_as _ rfl rfl (by conv => {lhs; whnf}) ?_) ) | refine cw_seq ?_ | refine cw_line rfl ?_ | refine pw_then ?_ ))
  refine g_cf 61 rfl ?_
  refine a_callv rfl rfl rfl rfl Try.func61 rfl rfl rfl _ (fun w' hw => place61 bx kb sb cb kl mx (cntH pl) pl hwf.P0 hwf.P1 hwf.k1 hwf.k0 hwf.ok ad m cap k hkb hm hs w' (hw.orow hrx id) (hw.orow hrk id) (hw.orow hrs id) (hl.keep hw fun _ _ _ h => h)) rfl ?_
  unfold fdH
  cases hf : lookH pl kl k with
  | none =>
    rw [oixH_none]
    dsimp only
    (repeat (first | ((refine (?_ : MX _ _ _ _ _ _ _ _ _ _ _)); first | refine mx_end ?_ | (refine mx_mv _ rfl rfl (by conv => {lhs; whnf}) ?_) | (refine mx_as _ rfl rfl (by conv => {lhs; whnf}) ?_) | (refine g_bin rfl ?_; ( (refine mx_cmpl .lss rfl rfl rfl rfl rfl (by exact cmp_lt_t (by omega) ) ?_) ) ) ) | refine cw_seq ?_ | refine cw_line rfl ?_ | refine cw_cond_t rfl ?_ | refine cw_ret ?_ | refine pw_then ?_ | refine pw_then_r ?_ ))
    exact pw_rets rfl [_, _] ⟨rfl, rfl, trivial⟩ rfl fun w hw => ⟨rfl, hw.keep.grow⟩
  | some p =>
    rw [oixH_some]
    dsimp only
    obtain ⟨_, hp, c, hc, _⟩ := lookH_some hf
    have hg : pl.getD p default = c := by simp [List.getD, hc]
    rw [hg]
    have hcv : (cvH pl)[0 + p * 1]? = some (.int .i64 c.c) := by rw [Nat.zero_add, Nat.mul_one]; exact cvH_at hc
    (repeat (first | ((refine (?_ : MX _ _ _ _ _ _ _ _ _ _ _)); first | refine mx_end ?_ | (refine mx_mv _ rfl rfl (by conv => {lhs; whnf}) ?_) | (refine mx_as _ rfl rfl (by conv => {lhs; whnf}) ?_) | ( refine mx_fa E rfl rfl rfl rfl ?_) | (refine g_load rfl ?_; refine mx_orow E rfl rfl rfl rfl rfl (by assumption) (by assumption) (by first | assumption | rfl) rfl ?_ ) | (refine g_bin rfl ?_; ( (refine mx_cmpl .lss rfl rfl rfl rfl rfl (by exact cmp_lt_f (by omega) ) ?_) ) ) | (refine g_ix rfl ?_; refine mx_ixsn E rfl rfl rfl rfl rfl rfl (by omega) rfl ?_ ) | (refine mx_nc rfl rfl rfl ?_) ) | refine cw_seq ?_ | refine cw_line rfl ?_ | refine cw_cond_f rfl ?_ | refine cw_skip ?_ | refine cw_ret ?_ | refine pw_then ?_ ))
    exact pw_rets rfl [_, _] ⟨rfl, rfl, trivial⟩ rfl fun w hw => ⟨rfl, hw.keep.grow⟩
theorem len38 (bx kb sb cb kl mx : Nat) (pl : List PLc) (w : World) (ho : ∀ r ∈ OH bx kb sb cb kl mx pl, r.holds w) :
    Calls Try.prog 38 #[.pointer (some ⟨bx, 0, none⟩)] w fun e w' => e = .returned (.int .i64 (cntH pl : Nat)) ∧ Grow w w' := by
  refine enter1 (S := fun _ => False) 7 Try.func38 rfl rfl rfl (Ok.start w) ?_
  have hrx := ho (row bx 87 (hdH kb sb cb kl mx (cntH pl) pl.length)) (by simp [OH])
  have hSx : ¬ (fun _ : Nat => False) bx := id
  (repeat (first | ((refine (?_ : MX _ _ _ _ _ _ _ _ _ _ _)); first | refine mx_end ?_ | (refine mx_mv _ rfl rfl (by conv => {lhs; whnf}) ?_) | (refine mx_as _ rfl rfl (by conv => {lhs; whnf}) ?_) | ( refine mx_fa E rfl rfl rfl rfl ?_) | (refine g_load rfl ?_; refine mx_orow E rfl rfl rfl rfl rfl (by assumption) (by assumption) (by rfl) rfl ?_ ) | (refine mx_nc rfl rfl rfl ?_) ) | refine cw_seq ?_ | refine cw_line rfl ?_ | refine cw_ret ?_ | refine pw_then ?_ ))
  exact pw_ret rfl rfl rfl rfl fun w hw => ⟨rfl, hw.keep.grow⟩
theorem del37 (bx kb sb cb kl mx : Nat) (pl : List PLc) (hwf : WfH kl mx pl) (ad : Option Addr) (m cap : Nat) (k : List Int) (hkb : BytK k) (hm : k.length = m) (hs : m ≤ 1000000) (w : World)
    (h0 : Ok (domL (OH bx kb sb cb kl mx pl)) w (OH bx kb sb cb kl mx pl) w) (hl : InL w ad 1 cU k) (hne : k ≠ [] → ∀ b off, ad = some ⟨b, off, none⟩ → ¬ domL (OH bx kb sb cb kl mx pl) b) :
    Calls Try.prog 37 #[.pointer (some ⟨bx, 0, none⟩), .slice ad m cap] w fun e w' => e = .returned (.tuple #[.int .i64 (fdH pl kl k).1, .bool (fdH pl kl k).2]) ∧ Ok (domL (OH bx kb sb cb kl mx pl)) w (OH bx kb sb cb kl mx (delH pl kl k)) w' := by
  refine enter2 (S := domL (OH bx kb sb cb kl mx pl)) (H := [row bx 87 (hdH kb sb cb kl mx (cntH pl) pl.length), row kb 5 (kvH pl), row sb 5 (svH pl), row cb 3 (cvH pl)]) 32 Try.func37 rfl rfl rfl h0 ?_
  have hcl := cntH_le pl
  have hP := hwf.P1
  (repeat (first | ((refine (?_ : MX _ _ _ _ _ _ _ _ _ _ _)); first | refine mx_end ?_ | (refine mx_mv _ rfl rfl (by conv => {lhs; whnf}) ?_) | (refine mx_as _ rfl rfl (by conv => {lhs; whnf}) ?_) ) | refine cw_seq ?_ | refine cw_line rfl ?_ | refine pw_then ?_ ))
  refine g_cf 61 rfl ?_
  refine a_callv rfl rfl rfl rfl Try.func61 rfl rfl rfl _ (fun w' hw => place61 bx kb sb cb kl mx (cntH pl) pl hwf.P0 hwf.P1 hwf.k1 hwf.k0 hwf.ok ad m cap k hkb hm hs w' (hw.holds 0 _ rfl) (hw.holds 1 _ rfl) (hw.holds 2 _ rfl) (hl.keep' hw hne)) rfl ?_
  unfold fdH delH
  cases hf : lookH pl kl k with
  | none =>
    rw [oixH_none]
    dsimp only
    (repeat (first | ((refine (?_ : MX _ _ _ _ _ _ _ _ _ _ _)); first | refine mx_end ?_ | (refine mx_mv _ rfl rfl (by conv => {lhs; whnf}) ?_) | (refine mx_as _ rfl rfl (by conv => {lhs; whnf}) ?_) | (refine g_bin rfl ?_; ( (refine mx_cmpl .lss rfl rfl rfl rfl rfl (by exact cmp_lt_t (by omega) ) ?_) ) ) ) | refine cw_seq ?_ | refine cw_line rfl ?_ | refine cw_cond_t rfl ?_ | refine cw_ret ?_ | refine pw_then ?_ | refine pw_then_r ?_ ))
    exact pw_rets rfl [_, _] ⟨rfl, rfl, trivial⟩ rfl fun w hw => ⟨rfl, hw⟩
  | some p =>
    rw [oixH_some]
    dsimp only
    obtain ⟨_, hp, c, hc, hc1, _⟩ := lookH_some hf
    have hg : pl.getD p default = c := by simp [List.getD, hc]
    rw [hg]
    have hcv : (cvH pl)[0 + p * 1]? = some (.int .i64 c.c) := by rw [Nat.zero_add, Nat.mul_one]; exact cvH_at hc
    have hsp : Sp (svH pl) (0 + p * 1) [.int .u8 2] (svH (pl.set p { c with s := 2 })) := sp_sv hp { c with s := 2 }
    have hcn := cnt_set hc { c with s := 2 }
    have hcn' : (cntH pl : Int) - 1 = (cntH (pl.set p { c with s := 2 }) : Nat) := by
      rw [if_pos hc1, if_neg (by simp)] at hcn
      omega
    (repeat (first | ((refine (?_ : MX _ _ _ _ _ _ _ _ _ _ _)); first | refine mx_end ?_ | (refine mx_mv _ rfl rfl (by conv => {lhs; whnf}) ?_) | (refine mx_as _ rfl rfl (by conv => {lhs; whnf}) ?_) | ( refine mx_fa E rfl rfl rfl rfl ?_) | (refine g_load rfl ?_; refine mx_get E rfl rfl rfl rfl rfl (by first | assumption | rfl) rfl ?_ ) | (refine g_bin rfl ?_; first | ( (refine mx_cmpl .lss rfl rfl rfl rfl rfl (by first | exact cmp_lt_f (by omega) | rfl) ?_) ) | (refine mx_ar rfl rfl rfl rfl rfl rfl (IntWalk.i64_in _ (by omega)) rfl ?_ ) ) | (refine g_ix rfl ?_; refine mx_ixsn E rfl rfl rfl rfl rfl rfl (by omega) rfl ?_ ) | (refine mx_nc rfl rfl rfl ?_) | (refine g_store rfl ?_; refine s_1 E rfl rfl rfl rfl rfl rfl rfl rfl (by first | assumption | exact spS (spS sp0) ) rfl ?_) ) | refine cw_seq ?_ | refine cw_line rfl ?_ | refine cw_cond_f rfl ?_ | refine cw_skip ?_ | refine cw_ret ?_ | refine pw_then ?_ ))
    refine pw_rets rfl [_, _] ⟨rfl, rfl, trivial⟩ rfl fun w hw => ⟨rfl, ?_⟩
    unfold OH hdH
    rw [← hcn', kvH_set hc { c with s := 2 } rfl, cvH_set hc { c with s := 2 } rfl, List.length_set]
    exact hw
end Go.Proofs.Ytminmbkhlnaabaa
