/- The program's table: a key put. -/
import Derived.Test.YtminmbkhlnaabaaHd
set_option maxRecDepth 100000
set_option maxHeartbeats 8000000
set_option linter.unusedSimpArgs false
set_option linter.unusedVariables false
namespace Go.Proofs.Ytminmbkhlnaabaa
open Go Go.Sx Go.RowKit
def freeH (pl : List PLc) (p : Nat) : Bool := match pl[p]? with
  | some c => c.s != 1
  | none => false
def frH (pl : List PLc) (k : List Int) : Option Nat := (wayL (homeK k pl.length) pl.length).find? (freeH pl)
def hpE (pl : List PLc) (kl mx : Nat) (k : List Int) : Int := if k.length ≠ kl then 14 else if (lookH pl kl k).isSome = true then 11 else if cntH pl = mx then 12 else 0
def setO (pl : List PLc) (k : List Int) (v : Int) : Option Nat → List PLc
  | some p => pl.set p ⟨1, k, v⟩
  | none => pl
def putH (pl : List PLc) (kl mx : Nat) (k : List Int) (v : Int) : List PLc := if hpE pl kl mx k = 0 then setO pl k v (frH pl k) else pl
theorem setO_len (pl : List PLc) (k : List Int) (v : Int) (o : Option Nat) : (setO pl k v o).length = pl.length := by cases o <;> simp [setO]
theorem fi_prefix {α : Type} {f : α → Bool} {l l' : List α} (h : l <+: l') {r : α} (hr : l.find? f = some r) : l'.find? f = some r := by
  obtain ⟨t, rfl⟩ := h
  rw [List.find?_append, hr]
  rfl
theorem fi_snoc {α : Type} {f : α → Bool} {l : List α} {x : α} (h : l.find? f = none) : (l ++ [x]).find? f = if f x = true then some x else none := by
  rw [List.find?_append, h]
  simp [List.find?_cons]
  cases f x <;> rfl
theorem put35 (bx kb sb cb kl mx : Nat) (pl : List PLc) (hwf : WfH kl mx pl) (ad : Option Addr) (m cap : Nat) (k : List Int) (hkb : BytK k) (hm : k.length = m) (hs : m ≤ 1000000) (v : Int) (w : World)
    (h0 : Ok (domL (OH bx kb sb cb kl mx pl)) w (OH bx kb sb cb kl mx pl) w) (hl : InL w ad 1 cU k) (hne : k ≠ [] → ∀ b off, ad = some ⟨b, off, none⟩ → ¬ domL (OH bx kb sb cb kl mx pl) b) :
    Calls Try.prog 35 #[.pointer (some ⟨bx, 0, none⟩), .slice ad m cap, .int .i64 v] w fun e w' => e = .returned (.int .i64 (hpE pl kl mx k)) ∧ Ok (domL (OH bx kb sb cb kl mx pl)) w (OH bx kb sb cb kl mx (putH pl kl mx k v)) w' := by
  refine enterG3 (m := 3) (S := domL (OH bx kb sb cb kl mx pl)) (H := [row bx 87 (hdH kb sb cb kl mx (cntH pl) pl.length), row kb 5 (kvH pl), row sb 5 (svH pl), row cb 3 (cvH pl)]) 68 Try.func35 rfl rfl rfl h0 ?_
  subst hm
  have hcl := cntH_le pl
  have hP := hwf.P1
  refine cg_seq ?_; refine cg_line rfl rfl ?_; (repeat (first | ((refine (?_ : MX _ _ _ _ _ _ _ _ _ _ _)); first | refine mx_end ?_ | (refine mx_as _ rfl rfl (by conv => {lhs; whnf}) ?_) | (refine g_box rfl ?_; refine a_box1 rfl rfl rfl rfl rfl rfl rfl (fun _ => ?_)) ) | refine pg_then ?_))
  rename_i b3 b4 b5
  by_cases hlen : (k.length : Int) = kl
  case neg =>
    have e : hpE pl kl mx k = 14 := if_pos (by omega)
    unfold putH
    rw [e, if_neg (by decide)]
    (repeat (first | ((refine (?_ : MX _ _ _ _ _ _ _ _ _ _ _)); first | refine mx_end ?_ | (refine mx_as _ rfl rfl (by conv => {lhs; whnf}) ?_) | (refine mx_fa0 E rfl rfl rfl rfl ?_ ) | (refine g_load rfl ?_; refine mx_get E rfl rfl rfl rfl rfl (by rfl) rfl ?_ ) | (refine g_bin rfl ?_; ( (refine mx_cmpl .neq rfl rfl rfl rfl rfl (by exact cmp_ne_t (by omega) ) ?_) ) ) | (refine mx_nc rfl rfl rfl ?_) | (refine g_bi .len rfl ?_; refine mx_len E rfl rfl rfl rfl ?_) ) | refine cg_seq ?_ | refine cg_line rfl rfl ?_ | (refine cg_drawq rfl mixed rfl (by kernel_rfl) rfl ?_) | refine cg_block ?_ | refine cg_cond_t rfl ?_ | refine cg_ret ?_ | refine pg_then ?_ | refine pg_then_r ?_ | refine pg_block_r ?_))
    exact pg_ret0 (pw_ret rfl rfl rfl rfl fun w hw => ⟨rfl, hw.pick [3, 4, 5, 6] (by simp) rfl⟩) rfl
  refine cg_seq (cg_block ?_)
  (repeat (first | ((refine (?_ : MX _ _ _ _ _ _ _ _ _ _ _)); first | refine mx_end ?_ | (refine mx_as _ rfl rfl (by conv => {lhs; whnf}) ?_) | (refine mx_fa0 E rfl rfl rfl rfl ?_ ) | (refine g_load rfl ?_; refine mx_get E rfl rfl rfl rfl rfl (by rfl) rfl ?_ ) | (refine g_bin rfl ?_; ( (refine mx_cmpl .neq rfl rfl rfl rfl rfl (by exact cmp_ne_f (by omega) ) ?_) ) ) | (refine mx_nc rfl rfl rfl ?_) | (refine g_bi .len rfl ?_; refine mx_len E rfl rfl rfl rfl ?_) ) | refine cg_seq ?_ | refine cg_line rfl rfl ?_ | (refine cg_drawq rfl mixed rfl (by kernel_rfl) rfl ?_) | refine cg_cond_f rfl ?_ | refine pg_then ?_ ))
  refine g_cf 61 rfl ?_
  refine a_callv rfl rfl rfl rfl Try.func61 rfl rfl rfl _ (fun w' hw => place61 bx kb sb cb kl mx (cntH pl) pl hwf.P0 hwf.P1 hwf.k1 hwf.k0 hwf.ok ad k.length cap k hkb rfl hs w' (hw.holds 3 _ rfl) (hw.holds 4 _ rfl) (hw.holds 5 _ rfl) (hl.keep' hw hne)) rfl ?_
  cases hf : lookH pl kl k with
  | some p =>
    have e : hpE pl kl mx k = 11 := by unfold hpE; rw [if_neg (by omega), if_pos (by rw [hf]; rfl)]
    unfold putH
    rw [e, if_neg (by decide), oixH_some]
    (repeat (first | ((refine (?_ : MX _ _ _ _ _ _ _ _ _ _ _)); first | refine mx_end ?_ | (refine mx_as _ rfl rfl (by conv => {lhs; whnf}) ?_) | (refine g_bin rfl ?_; ( (refine mx_cmpl .geq rfl rfl rfl rfl rfl (by exact cmp_ge_t (by omega) ) ?_)) ) ) | refine cg_seq ?_ | refine cg_line rfl rfl ?_ | refine cg_cond_t rfl ?_ | refine cg_ret ?_ | refine pg_then ?_ | refine pg_then_r ?_ | refine pg_block_r ?_))
    exact pg_ret0 (pw_ret rfl rfl rfl rfl fun w hw => ⟨rfl, hw.pick [3, 4, 5, 6] (by simp) rfl⟩) rfl
  | none =>
  rw [oixH_none]
  by_cases hfull : (cntH pl : Int) = mx
  · have e : hpE pl kl mx k = 12 := by unfold hpE; rw [if_neg (by omega), if_neg (by rw [hf]; decide), if_pos (by omega)]
    unfold putH
    rw [e, if_neg (by decide)]
    (repeat (first | ((refine (?_ : MX _ _ _ _ _ _ _ _ _ _ _)); first | refine mx_end ?_ | (refine mx_as _ rfl rfl (by conv => {lhs; whnf}) ?_) | ( refine mx_fa E rfl rfl rfl rfl ?_) | (refine g_load rfl ?_; refine mx_get E rfl rfl rfl rfl rfl (by rfl) rfl ?_ ) | (refine g_bin rfl ?_; (first | (refine mx_cmpl .eql rfl rfl rfl rfl rfl (by exact cmp_eq_t (by omega) ) ?_) | (refine mx_cmpl .geq rfl rfl rfl rfl rfl (by exact cmp_ge_f (by omega) ) ?_)) ) | (refine mx_nc rfl rfl rfl ?_) ) | refine cg_seq ?_ | refine cg_line rfl rfl ?_ | (refine cg_drawq rfl mixed rfl (by kernel_rfl) rfl ?_) | refine cg_cond_f rfl ?_ | refine cg_cond_t rfl ?_ | refine cg_ret ?_ | refine pg_then ?_ | refine pg_then_r ?_ | refine pg_block_r ?_))
    exact pg_ret0 (pw_ret rfl rfl rfl rfl fun w hw => ⟨rfl, hw.pick [3, 4, 5, 6] (by simp) rfl⟩) rfl
  have e : hpE pl kl mx k = 0 := by unfold hpE; rw [if_neg (by omega), if_neg (by rw [hf]; decide), if_neg (by omega)]
  unfold putH
  rw [e, if_pos rfl]
  (repeat (first | ((refine (?_ : MX _ _ _ _ _ _ _ _ _ _ _)); first | refine mx_end ?_ | (refine mx_as _ rfl rfl (by conv => {lhs; whnf}) ?_) | ( refine mx_fa E rfl rfl rfl rfl ?_) | (refine g_load rfl ?_; refine mx_get E rfl rfl rfl rfl rfl (by rfl) rfl ?_ ) | (refine g_bin rfl ?_; (first | (refine mx_cmpl .eql rfl rfl rfl rfl rfl (by first | exact cmp_eq_t (by omega) | exact cmp_eq_f (by omega) ) ?_) | (refine mx_cmpl .geq rfl rfl rfl rfl rfl (by exact cmp_ge_f (by omega) ) ?_)) ) | (refine mx_nc rfl rfl rfl ?_) ) | refine cg_seq ?_ | refine cg_line rfl rfl ?_ | (refine cg_drawq rfl mixed rfl (by kernel_rfl) rfl ?_) | refine cg_cond_f rfl ?_ | refine cg_skip ?_ | refine pg_then ?_ | refine pg_block ?_ ))
  refine g_cf 62 rfl ?_
  refine a_callL rfl rfl rfl rfl Try.func62 rfl rfl rfl [] _ rfl (fun a : Nat × Nat => .func (.func 73) #[] #[.pointer (some ⟨a.1, 0, none⟩), .pointer (some ⟨a.2, 0, none⟩)]) (fun a => [row a.1 22 [.slice ad k.length cap], row a.2 54 [.pointer (some ⟨bx, 0, none⟩)]]) (fun w' hw _ => way62 bx ad k.length cap w') (fun _ => rfl) (fun _ _ _ => trivial) (fun a => ?_)
  obtain ⟨a1, a2⟩ := a
  dsimp only [List.cons_append, List.nil_append]
  (repeat (first | ((refine (?_ : MX _ _ _ _ _ _ _ _ _ _ _)); refine mx_end ?_ ) | refine cg_block ?_ | refine pg_then ?_ ))
  refine cg_range (α := {p : Nat // p < pl.length}) (by omega) (gf := 73) (lb := #[.pointer (some ⟨a1, 0, none⟩), .pointer (some ⟨a2, 0, none⟩)]) rfl (eg_of Try.func73 rfl rfl) [row a1 22 [.slice ad k.length cap], row a2 54 [.pointer (some ⟨bx, 0, none⟩)], row bx 87 (hdH kb sb cb kl mx (cntH pl) pl.length)]
    (fun w' hw => way73 (3 - 1) a1 a2 bx kb sb cb kl mx (cntH pl) pl.length hwf.P0 hP ad k.length cap k rfl (by omega) w' (hw.holds 0 _ rfl) (hw.holds 1 _ rfl) (hw.holds 5 _ rfl) (hl.keep' hw hne)) (fun _ => rfl) _ _ (fun x => pst1) (fun x => rfl)
    (fun pre => [row a1 22 [.slice ad k.length cap], row a2 54 [.pointer (some ⟨bx, 0, none⟩)], row b5 3 [.int .i64 v], row b4 22 [.slice ad k.length cap], row b3 54 [.pointer (some ⟨bx, 0, none⟩)], row bx 87 (hdH kb sb cb kl mx (cntH pl) pl.length), row kb 5 (kvH pl), row sb 5 (svH pl), row cb 3 (cvH pl)])
    (fun _ pre => [row a1 22 [.slice ad k.length cap], row a2 54 [.pointer (some ⟨bx, 0, none⟩)], row b5 3 [.int .i64 v], row b4 22 [.slice ad k.length cap], row b3 54 [.pointer (some ⟨bx, 0, none⟩)], row bx 87 (hdH kb sb cb kl mx (cntH (setO pl k v ((pre.map (·.1)).find? (freeH pl)))) pl.length), row kb 5 (kvH (setO pl k v ((pre.map (·.1)).find? (freeH pl)))), row sb 5 (svH (setO pl k v ((pre.map (·.1)).find? (freeH pl)))), row cb 3 (cvH (setO pl k v ((pre.map (·.1)).find? (freeH pl))))])
    (fun pre => (pre.map (·.1)).find? (freeH pl) = none) (fun c pre => c = .exit 1 ∧ ∃ p, (pre.map (·.1)).find? (freeH pl) = some p) (fun _ => rfl) (fun _ _ _ => rfl) ?_ rfl rfl ?_ ?_ ?_
  · intro pre r hr
    simp only [List.mem_cons, List.not_mem_nil, or_false] at hr
    rcases hr with rfl | rfl | rfl
    · exact .inl (by simp)
    · exact .inl (by simp)
    · exact .inl (by simp)
  · intro l pre x w1 hw1 hI hlt
    obtain ⟨p, hp⟩ := x
    obtain ⟨c, hc⟩ := getElem_some (xs := pl) (i := p) hp
    have hl1 := hl.keep' hw1 hne
    have hS1 : ∀ b off, k ≠ [] → ad = some ⟨b, off, none⟩ → ¬ domL _ b := fun b off hk e => hw1.oldN (hl.lt (fun _ => by simp) hk b off e) (hne hk b off e)
    have hsv : (svH pl)[0 + p * 1]? = some (.int .u8 c.s) := by rw [Nat.zero_add, Nat.mul_one]; exact svH_at hc
    have hmm : (pre ++ [(⟨p, hp⟩ : {p : Nat // p < pl.length})]).map (·.1) = pre.map (·.1) ++ [p] := by simp
    have hfs : ((pre ++ [(⟨p, hp⟩ : {p : Nat // p < pl.length})]).map (·.1)).find? (freeH pl) = if freeH pl p = true then some p else none := by rw [hmm]; exact fi_snoc hI
    have hfr : freeH pl p = (c.s != 1) := by unfold freeH; rw [hc]
    by_cases h1 : (c.s : Int) = 1
    case pos =>
      have e1 : freeH pl p = false := by rw [hfr]; simp; omega
      (repeat (first | ((refine (?_ : MX _ _ _ _ _ _ _ _ _ _ _)); first | refine mx_end ?_ | (refine mx_mv _ rfl rfl (by conv => {lhs; whnf}) ?_) | ( refine mx_fa E rfl rfl rfl rfl ?_) | (refine g_load rfl ?_; refine mx_get E rfl rfl rfl rfl rfl (by first | assumption | rfl) rfl ?_ ) | (refine g_bin rfl ?_; ( (refine mx_cmpl .neq rfl rfl rfl rfl rfl (by exact cmp_ne_f (by omega) ) ?_) ) ) | (refine g_ix rfl ?_; refine mx_ixsn E rfl rfl rfl rfl rfl rfl (by omega) rfl ?_ ) | (refine mx_nc rfl rfl rfl ?_) ) | refine cg_seq ?_ | refine cg_line rfl rfl ?_ | refine cg_block ?_ | refine cg_cond_f rfl ?_ | refine cg_skip ?_ | refine pg_then ?_ | refine pg_block ?_ ))
      exact pg_rn (fun w' h => h) (by rw [hfs, if_neg (by rw [e1]; decide)])
    have e1 : freeH pl p = true := by rw [hfr]; simp; omega
    have hsk : Sp (kvH pl) (p * kl) (k.map (Value.int .u8)) (kvH (pl.set p ⟨1, k, v⟩)) := sp_kv hwf.ok hp ⟨1, k, v⟩ (by show k.length = kl; omega)
    have hss : Sp (svH pl) (0 + p * 1) [.int .u8 1] (svH (pl.set p ⟨1, k, v⟩)) := sp_sv hp ⟨1, k, v⟩
    have hsc : Sp (cvH pl) (0 + p * 1) [.int .i64 v] (cvH (pl.set p ⟨1, k, v⟩)) := sp_cv hp ⟨1, k, v⟩
    have hcn := cnt_set hc ⟨1, k, v⟩
    have hcn' : (cntH pl : Int) + 1 = (cntH (pl.set p ⟨1, k, v⟩) : Nat) := by
      rw [if_neg (by omega), if_pos rfl] at hcn
      omega
    refine cg_block ?_
    refine cg_seq ?_; refine cg_line rfl rfl ?_; (repeat (first | ((refine (?_ : MX _ _ _ _ _ _ _ _ _ _ _)); first | refine mx_end ?_ | (refine mx_mv _ rfl rfl (by conv => {lhs; whnf}) ?_) | ( refine mx_fa E rfl rfl rfl rfl ?_) | (refine g_load rfl ?_; refine mx_get E rfl rfl rfl rfl rfl (by first | assumption | rfl) rfl ?_ ) | (refine g_bin rfl ?_; ( (refine mx_cmpl .neq rfl rfl rfl rfl rfl (by exact cmp_ne_t (by omega) ) ?_) ) ) | (refine g_ix rfl ?_; refine mx_ixsn E rfl rfl rfl rfl rfl rfl (by omega) rfl ?_ ) | (refine mx_nc rfl rfl rfl ?_) ) | refine pg_then ?_))
    refine cg_cond_t rfl (cg_seq ?_)
    refine cg_drawm rfl [0, 1, 3, 2, 4] (fun i => or (Nat.beq i 2) (Nat.beq i 4)) [row b4 22 [.slice ad k.length cap], row b3 54 [.pointer (some ⟨bx, 0, none⟩)]] mixed (by kernel_rfl) (fun w h => h.pick [3, 4] (by simp) rfl) ?_
    (repeat (((refine (?_ : MX _ _ _ _ _ _ _ _ _ _ _)); first | (refine mx_mv _ rfl rfl (by conv => {lhs; whnf}) ?_) | (refine g_load rfl ?_; refine mx_get E rfl rfl rfl rfl rfl (by rfl) rfl ?_ ) ) ))
    refine g_cf 63 rfl ?_
    refine a_callv rfl rfl rfl rfl Try.func63 rfl rfl rfl _ (fun w' hw => at63 bx kb sb cb kl mx (cntH pl) pl.length p hp hwf.k1 hP hwf.k0 w' (hw.holds 5 _ rfl)) rfl ?_
    (repeat (first | ((refine (?_ : MX _ _ _ _ _ _ _ _ _ _ _)); first | refine mx_end ?_ | (refine mx_mv _ rfl rfl (by conv => {lhs; whnf}) ?_) | (refine mx_as _ rfl rfl (by conv => {lhs; whnf}) ?_) | (first | refine mx_fa0 E rfl rfl rfl rfl ?_ | refine mx_fa E rfl rfl rfl rfl ?_) | (refine g_load rfl ?_; first | refine mx_get E rfl rfl rfl rfl rfl (by first | assumption | rfl) rfl ?_ | refine mx_getn E rfl rfl rfl rfl rfl (by first | exact Vr.all rfl | exact ⟨⟨rfl⟩, rfl⟩) rfl ?_ | refine mx_oldn E rfl rfl rfl rfl rfl (by assumption) (by assumption) (rfl) rfl ?_ | refine mx_old1 E rfl rfl rfl rfl rfl (by assumption) (by assumption) rfl ?_ | refine mx_orow E rfl rfl rfl rfl rfl (by assumption) (by assumption) (by first | assumption | rfl) rfl ?_ | refine mx_orown E rfl rfl rfl rfl rfl (by assumption) (by assumption) (by first | exact Vr.all rfl | exact ⟨⟨rfl⟩, rfl⟩) rfl ?_ | refine mx_geta E rfl rfl rfl rfl rfl rfl (by first | assumption | rfl) rfl ?_ | refine mx_getna E rfl rfl rfl rfl rfl rfl (by first | exact Vr.all rfl | exact ⟨⟨rfl⟩, rfl⟩) rfl ?_) | (refine g_bin rfl ?_; first | (first | (refine mx_cmpl .eql rfl rfl rfl rfl rfl (by first | exact cmp_eq_t (by omega) | exact cmp_eq_f (by omega) | rfl) ?_) | (refine mx_cmpl .neq rfl rfl rfl rfl rfl (by first | exact cmp_ne_t (by omega) | exact cmp_ne_f (by omega) | rfl) ?_) | (refine mx_cmpl .lss rfl rfl rfl rfl rfl (by first | exact cmp_lt_t (by omega) | exact cmp_lt_f (by omega) | rfl) ?_) | (refine mx_cmpl .leq rfl rfl rfl rfl rfl (by first | exact cmp_le_t (by omega) | exact cmp_le_f (by omega) | rfl) ?_) | (refine mx_cmpl .gtr rfl rfl rfl rfl rfl (by first | exact cmp_gt_t (by omega) | exact cmp_gt_f (by omega) | rfl) ?_) | (refine mx_cmpl .geq rfl rfl rfl rfl rfl (by first | exact cmp_ge_t (by omega) | exact cmp_ge_f (by omega) | rfl) ?_)) | (first | refine mx_ar rfl rfl rfl rfl rfl rfl (IntWalk.i64_in _ (by omega)) rfl ?_ | refine mx_ar rfl rfl rfl rfl rfl rfl (IntWalk.u64_in _ (by omega)) rfl ?_ | refine mx_ar rfl rfl rfl rfl rfl rfl (IntWalk.u8_in _ (by omega)) rfl ?_ | refine mx_ar rfl rfl rfl rfl rfl rfl rfl rfl ?_) | (first | refine mx_eqs rfl rfl rfl rfl rfl rfl ?_ | refine mx_nes rfl rfl rfl rfl rfl rfl ?_ | refine mx_eq rfl rfl rfl rfl rfl rfl ?_ | refine mx_ne rfl rfl rfl rfl rfl rfl ?_) | refine mx_bsame E rfl rfl rfl rfl rfl rfl rfl ?_ | refine mx_bnsame E rfl rfl rfl rfl rfl rfl rfl ?_ | refine mx_beq E rfl rfl rfl rfl rfl rfl rfl ?_ | refine mx_bne E rfl rfl rfl rfl rfl rfl rfl ?_ | refine mx_dv rfl rfl rfl rfl rfl (by decide) (congrArg some (by assumption)) rfl rfl ?_ | refine mx_dv rfl rfl rfl rfl rfl (by decide) rfl rfl rfl ?_ | refine mx_bit rfl rfl rfl rfl rfl (congrArg some (by assumption)) rfl rfl ?_ | refine mx_bit rfl rfl rfl rfl rfl rfl rfl rfl ?_ | refine mx_sh rfl rfl rfl rfl rfl (by omega) (congrArg some (by assumption)) rfl rfl ?_ | refine mx_sh rfl rfl rfl rfl rfl (by omega) rfl rfl rfl ?_) | (refine g_ix rfl ?_; first | refine mx_ixan E rfl rfl rfl rfl rfl rfl (by omega) rfl ?_ | refine mx_ixsn E rfl rfl rfl rfl rfl rfl (by omega) rfl ?_ | refine mx_ixsi E rfl rfl rfl rfl rfl rfl (by omega) (by omega) rfl ?_ | refine mx_ixa E rfl rfl rfl rfl rfl rfl (by omega) (by omega) rfl rfl ?_) | (refine mx_nc rfl rfl rfl ?_) | (refine g_bi .len rfl ?_; refine mx_len E rfl rfl rfl rfl ?_) | (refine mx_not rfl rfl rfl ?_) | (refine mx_ex _ rfl rfl rfl (by conv => {lhs; whnf}) ?_) | (refine mx_skip rfl rfl rfl ?_) | (refine g_pick rfl ?_; first | refine mx_andf rfl rfl rfl rfl rfl ?_ | refine mx_ort rfl rfl rfl rfl rfl ?_ | refine mx_and rfl rfl rfl rfl rfl rfl ?_ | refine mx_or rfl rfl rfl rfl rfl rfl ?_ | refine mx_pickt _ rfl rfl rfl rfl (by conv => {lhs; whnf}) rfl ?_ | refine mx_pickf _ rfl rfl rfl rfl (by conv => {lhs; whnf}) rfl ?_) | (refine g_store rfl ?_; first | refine s_l E rfl rfl rfl rfl rfl rfl rfl (by first | exact Sp.all rfl | exact Sp.lit rfl rfl) rfl ?_ | refine s_1 E rfl rfl rfl rfl rfl rfl rfl rfl (by first | assumption | exact sp0 | exact spS sp0 | exact spS (spS sp0) | exact Sp.lit rfl rfl) rfl ?_) | (refine g_build rfl ?_; first | refine mx_build rfl rfl rfl rfl b24_0 rfl ?_ | refine mx_build rfl rfl rfl rfl (b28_1 _) rfl ?_ | refine mx_build rfl rfl rfl rfl (b39_2 _ _) rfl ?_ | refine mx_build rfl rfl rfl rfl (b24_1 _) rfl ?_ | refine mx_build rfl rfl rfl rfl (b24_2 _ _) rfl ?_ | refine mx_build rfl rfl rfl rfl b28_0 rfl ?_ | refine mx_build rfl rfl rfl rfl b29_0 rfl ?_ | refine mx_build rfl rfl rfl rfl (b25_1 _ _) rfl ?_ | refine mx_build rfl rfl rfl rfl (b31_1 _ _) rfl ?_ | refine mx_build rfl rfl rfl rfl (b31_2 _ _ _) rfl ?_) | (refine a_new rfl rfl rfl rfl rfl (fun _ => ?_)) | (refine g_box rfl ?_; first | refine a_boxl rfl rfl rfl rfl rfl rfl (fun _ => ?_) | refine a_box1 rfl rfl rfl rfl rfl rfl rfl (fun _ => ?_)) | (first | refine mx_indexn E rfl rfl rfl rfl rfl rfl rfl rfl (by omega) (by first | exact vr_RR _ (by omega)) rfl ?_ | refine mx_index E rfl rfl rfl rfl rfl rfl rfl rfl (by omega) (by omega) (by first | exact vr_RR _ (by omega)) rfl ?_) | (refine g_bs rfl ?_; first | refine a_bs0 E rfl rfl rfl rfl rfl rfl (fun _ => ?_) | refine a_bsi E rfl rfl rfl rfl rfl (by (repeat (first | exact EvI.nil | (apply EvI.cons; rfl)))) (by rfl) (by rfl) (by rfl) rfl (fun _ => ?_)) | (refine g_conv rfl ?_; first | refine mx_cv E rfl rfl rfl rfl rfl rfl (by assumption) rfl ?_ | refine mx_cv E rfl rfl rfl rfl rfl rfl (IntWalk.i64_in _ (by omega)) rfl ?_ | refine mx_cv E rfl rfl rfl rfl rfl rfl (IntWalk.u64_in _ (by omega)) rfl ?_ | refine mx_cv E rfl rfl rfl rfl rfl rfl (IntWalk.u8_in _ (by omega)) rfl ?_ | refine mx_cv E rfl rfl rfl rfl rfl rfl rfl rfl ?_) | (first | (refine g_bi .max rfl ?_; refine mx_maxi rfl rfl rfl rfl rfl rfl rfl ?_) | (refine g_bi .min rfl ?_; refine mx_mini rfl rfl rfl rfl rfl rfl rfl ?_)) | (fail) | (fail)) | refine cg_seq ?_ | refine cg_line rfl rfl ?_ | (refine cg_drawq rfl mixed rfl (by kernel_rfl) rfl ?_) | refine cg_block ?_ | refine cg_cond_f rfl ?_ | refine cg_cond_t rfl ?_ | refine cg_skip ?_ | refine cg_exit ?_ | refine cg_ret ?_ | refine pg_then ?_ | refine pg_then_x ?_ | refine pg_then_r ?_ | refine pg_block ?_ | refine pg_block_e ?_ | refine pg_block_n rfl ?_ | refine pg_block_r ?_))
    refine g_bi .copy rfl ?_
    refine a_copyS E rfl rfl rfl rfl rfl rfl rfl (k.map (Value.int .u8)) (by rw [List.length_map, show Nat.min k.length kl = k.length from Nat.min_eq_left (by omega)]; omega) (fun w' hw => src_U (hl1.keep' hw fun hk b off e => hS1 b off hk e)) (by rw [List.all_eq_true]; intro x hx; obtain ⟨y, _, rfl⟩ := List.mem_map.1 hx; rfl) hsk (fun w h => h.pick [3, 4] (by simp) rfl) rfl ?_
    (repeat (first | ((refine (?_ : MX _ _ _ _ _ _ _ _ _ _ _)); refine mx_end ?_ ) | refine pg_then ?_))
    refine cg_seq ?_
    refine cg_drawm rfl [0, 1, 2, 3, 4, 5, 6, 7, 8, 9, 10, 11, 12, 13, 14] (fun i => or (Nat.beq i 12) (Nat.beq i 14)) [row b5 3 [.int .i64 v], row b3 54 [.pointer (some ⟨bx, 0, none⟩)], row bx 87 (hdH kb sb cb kl mx (cntH pl) pl.length)] mixed (by kernel_rfl) (fun w h => h.pick [2, 4, 5] (by simp) rfl) ?_
    (repeat (first | ((refine (?_ : MX _ _ _ _ _ _ _ _ _ _ _)); first | refine mx_end ?_ | (refine mx_mv _ rfl rfl (by conv => {lhs; whnf}) ?_) | ( refine mx_fa E rfl rfl rfl rfl ?_) | (refine g_load rfl ?_; refine mx_get E rfl rfl rfl rfl rfl (by rfl) rfl ?_ ) | (refine g_bin rfl ?_; (refine mx_ar rfl rfl rfl rfl rfl rfl (IntWalk.i64_in _ (by omega)) rfl ?_ ) ) | (refine g_ix rfl ?_; refine mx_ixsn E rfl rfl rfl rfl rfl rfl (by omega) rfl ?_ ) | (refine mx_nc rfl rfl rfl ?_) | (refine g_store rfl ?_; refine s_1 E rfl rfl rfl rfl rfl rfl rfl rfl (by first | assumption | exact spS (spS sp0) ) rfl ?_) ) | refine cg_seq ?_ | refine cg_line rfl rfl ?_ | refine cg_exit ?_ | refine pg_then ?_ | refine pg_block_n rfl ?_ ))
    refine pg_re (fun w' h => ?_) ⟨rfl, p, hfs.trans (if_pos e1)⟩
    rw [hfs, if_pos e1]
    unfold hdH setO
    rw [← hcn']
    exact h
  · intro D xs hxs hI
    have hn : frH pl k = none := by unfold frH; rw [← hxs]; exact hI
    rw [hn]
    (repeat (first | ((refine (?_ : MX _ _ _ _ _ _ _ _ _ _ _)); first | refine mx_end ?_ | (refine mx_as _ rfl rfl (by conv => {lhs; whnf}) ?_) ) | refine cg_seq ?_ | refine cg_line rfl rfl ?_ | refine cg_ret ?_ | refine pg_then ?_ | refine pg_block ?_ ))
    refine pg_retm ?_ rfl
    exact pw_ret rfl rfl rfl rfl fun w hw => ⟨rfl, hw.pick [5, 6, 7, 8] (by simp) rfl⟩
  · rintro D c pre hpre ⟨rfl, p, hp⟩
    have hn : frH pl k = some p := fi_prefix hpre hp
    rw [hn, hp]
    (repeat (first | ((refine (?_ : MX _ _ _ _ _ _ _ _ _ _ _)); first | refine mx_end ?_ | (refine mx_as _ rfl rfl (by conv => {lhs; whnf}) ?_) ) | refine cg_seq ?_ | refine cg_line rfl rfl ?_ | refine cg_exit ?_ | refine cg_ret ?_ | refine pg_then ?_ | refine pg_block_e ?_ ))
    refine pg_retm ?_ rfl
    refine pw_ret rfl rfl rfl rfl fun w hw => ⟨rfl, ?_⟩
    unfold OH
    rw [setO_len]
    exact hw.pick [5, 6, 7, 8] (by simp) rfl
end Go.Proofs.Ytminmbkhlnaabaa
