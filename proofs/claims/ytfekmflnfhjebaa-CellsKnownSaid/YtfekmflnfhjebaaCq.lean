/- The program's cells: versions, steadiness, writes that are refused; walked once each. -/
import Derived.Test.YtfekmflnfhjebaaCd
set_option maxRecDepth 100000
set_option maxHeartbeats 8000000
set_option linter.unusedSimpArgs false
set_option linter.unusedVariables false
namespace Go.Proofs.Ytfekmflnfhjebaa
open Go Go.Sx Go.RowKit
def verOf (k : Int) (cs : List PC) : Int := match lc k cs with
  | some c => c.wr
  | none => 0
theorem version52 (bx r : Nat) (last k : Int) (cs : List PC) (w : World) (h1 : (row bx 83 (hdC r last)).holds w) (h2 : (mapR r (kvC cs)).holds w) (h3 : (allC cs).holds w) :
    Calls Try.prog 52 #[.pointer (some ⟨bx, 0, none⟩), .int .i64 k] w fun e w' => e = .returned (.int .i64 (verOf k cs)) ∧ Grow w w' := by
  refine enter2 (S := fun _ => False) 21 Try.func52 rfl rfl rfl (Ok.start w) ?_
  have hS : ¬ (fun _ : Nat => False) bx := id
  unfold verOf
  cases hc : lc k cs with
  | none =>
    have hlv := look_none hc
    dsimp only
    (repeat (first | ((refine (?_ : MX _ _ _ _ _ _ _ _ _ _ _)); first | refine mx_end ?_ | (refine mx_mv _ rfl rfl (by conv => {lhs; whnf}) ?_) | (refine mx_as _ rfl rfl (by conv => {lhs; whnf}) ?_) | (refine mx_fa0 E rfl rfl rfl rfl ?_ ) | (refine g_load rfl ?_; refine mx_orow E rfl rfl rfl rfl rfl (by assumption) (by assumption) (by rfl) rfl ?_ ) | (refine mx_nc rfl rfl rfl ?_) | (refine mx_ex _ rfl rfl rfl (by conv => {lhs; whnf}) ?_) | ((refine mx_look mt81 rfl rfl rfl rfl rfl (hr := ⟨.inl ⟨fun _ => rfl, fun w' hw => Ok.oldM hw (by with_reducible assumption) (by exact id )⟩⟩) (by with_reducible assumption) rfl ?_)) ) | refine cw_seq ?_ | refine cw_line rfl ?_ | refine cw_cond_f rfl ?_ | refine cw_skip ?_ | refine cw_ret ?_ | refine pw_then ?_ ))
    exact pw_ret rfl rfl rfl rfl fun w' hw => ⟨rfl, hw.keep.grow⟩
  | some c =>
    have hlv := look_some hc
    have hcr := inC h3 (lc_mem hc).1
    have hSp : ¬ (fun _ : Nat => False) c.p := id
    dsimp only
    (repeat (first | ((refine (?_ : MX _ _ _ _ _ _ _ _ _ _ _)); first | refine mx_end ?_ | (refine mx_mv _ rfl rfl (by conv => {lhs; whnf}) ?_) | (refine mx_as _ rfl rfl (by conv => {lhs; whnf}) ?_) | (first | refine mx_fa0 E rfl rfl rfl rfl ?_ | refine mx_fa E rfl rfl rfl rfl ?_) | (refine g_load rfl ?_; refine mx_orow E rfl rfl rfl rfl rfl (by assumption) (by assumption) (by rfl) rfl ?_ ) | (refine mx_nc rfl rfl rfl ?_) | (refine mx_ex _ rfl rfl rfl (by conv => {lhs; whnf}) ?_) | ((refine mx_look mt81 rfl rfl rfl rfl rfl (hr := ⟨.inl ⟨fun _ => rfl, fun w' hw => Ok.oldM hw (by with_reducible assumption) (by exact id )⟩⟩) (by with_reducible assumption) rfl ?_)) ) | refine cw_seq ?_ | refine cw_line rfl ?_ | refine cw_cond_t rfl ?_ | refine cw_ret ?_ | refine pw_then ?_ | refine pw_then_r ?_ ))
    exact pw_ret rfl rfl rfl rfl fun w' hw => ⟨rfl, hw.keep.grow⟩
/-- A write that is refused: no such cell, or one of another size. -/
theorem write44n (bx r : Nat) (last k : Int) (cs : List PC) (ad : Option Addr) (m cap : Nat) (now : Int) (hm : m ≤ 1000000000) (hno : ∀ c, lc k cs = some c → c.bs.length ≠ m) (w : World) (h1 : (row bx 83 (hdC r last)).holds w) (h2 : (mapR r (kvC cs)).holds w) (h3 : (allC cs).holds w) :
    Calls Try.prog 44 #[.pointer (some ⟨bx, 0, none⟩), .int .i64 k, .slice ad m cap, .int .i64 now] w fun e w' => e = .returned (.bool false) ∧ Grow w w' := by
  refine enter4 (S := fun _ => False) 41 Try.func44 rfl rfl rfl (Ok.start w) ?_
  have hS : ¬ (fun _ : Nat => False) bx := id
  cases hc : lc k cs with
  | none =>
    have hlv := look_none hc
    (repeat (first | ((refine (?_ : MX _ _ _ _ _ _ _ _ _ _ _)); first | refine mx_end ?_ | (refine mx_mv _ rfl rfl (by conv => {lhs; whnf}) ?_) | (refine mx_as _ rfl rfl (by conv => {lhs; whnf}) ?_) | (refine mx_fa0 E rfl rfl rfl rfl ?_ ) | (refine g_load rfl ?_; refine mx_orow E rfl rfl rfl rfl rfl (by assumption) (by assumption) (by rfl) rfl ?_ ) | (refine mx_nc rfl rfl rfl ?_) | (refine mx_not rfl rfl rfl ?_) | (refine mx_ex _ rfl rfl rfl (by conv => {lhs; whnf}) ?_) | (refine mx_skip rfl rfl rfl ?_) | (refine g_pick rfl ?_; refine mx_ort rfl rfl rfl rfl rfl ?_ ) | ((refine mx_look mt81 rfl rfl rfl rfl rfl (hr := ⟨.inl ⟨fun _ => rfl, fun w' hw => Ok.oldM hw (by with_reducible assumption) (by exact id )⟩⟩) (by with_reducible assumption) rfl ?_)) ) | refine cw_seq ?_ | refine cw_line rfl ?_ | refine cw_cond_t rfl ?_ | refine cw_ret ?_ | refine pw_then ?_ | refine pw_then_r ?_ ))
    exact pw_ret rfl rfl rfl rfl fun w' hw => ⟨rfl, hw.keep.grow⟩
  | some c =>
    have hlv := look_some hc
    have hcr := inC h3 (lc_mem hc).1
    have hne := hno c hc
    have hSp : ¬ (fun _ : Nat => False) c.p := id
    (repeat (first | ((refine (?_ : MX _ _ _ _ _ _ _ _ _ _ _)); first | refine mx_end ?_ | (refine mx_mv _ rfl rfl (by conv => {lhs; whnf}) ?_) | (refine mx_as _ rfl rfl (by conv => {lhs; whnf}) ?_) | (refine mx_fa0 E rfl rfl rfl rfl ?_ ) | (refine g_load rfl ?_; refine mx_orow E rfl rfl rfl rfl rfl (by assumption) (by assumption) (by rfl) rfl ?_ ) | (refine g_bin rfl ?_; ( (refine mx_cmpl .neq rfl rfl rfl rfl rfl (by exact cmp_ne_t (by omega) ) ?_) ) ) | (refine mx_nc rfl rfl rfl ?_) | (refine g_bi .len rfl ?_; refine mx_len E rfl rfl rfl rfl ?_) | (refine mx_not rfl rfl rfl ?_) | (refine mx_ex _ rfl rfl rfl (by conv => {lhs; whnf}) ?_) | (refine g_pick rfl ?_; refine mx_or rfl rfl rfl rfl rfl rfl ?_ ) | ((refine mx_look mt81 rfl rfl rfl rfl rfl (hr := ⟨.inl ⟨fun _ => rfl, fun w' hw => Ok.oldM hw (by with_reducible assumption) (by exact id )⟩⟩) (by with_reducible assumption) rfl ?_)) ) | refine cw_seq ?_ | refine cw_line rfl ?_ | refine cw_cond_t rfl ?_ | refine cw_ret ?_ | refine pw_then ?_ | refine pw_then_r ?_ ))
    exact pw_ret rfl rfl rfl rfl fun w' hw => ⟨rfl, hw.keep.grow⟩
def stdOf (k : Int) (now : Int) (cs : List PC) : Bool := match lc k cs with
  | some c => c.bt.std now
  | none => false
theorem steady76 (bx r : Nat) (last k now : Int) (cs : List PC) (hok : ∀ c ∈ cs, c.bt.ok ∧ c.bt.n ≤ 1000) (w : World) (h1 : (row bx 83 (hdC r last)).holds w) (h2 : (mapR r (kvC cs)).holds w) (h3 : (allC cs).holds w) :
    Calls Try.prog 76 #[.pointer (some ⟨bx, 0, none⟩), .int .i64 k, .int .i64 now] w fun e w' => e = .returned (.bool (stdOf k now cs)) ∧ Grow w w' := by
  refine enter3 (S := fun _ => False) 27 Try.func76 rfl rfl rfl (Ok.start w) ?_
  have hS : ¬ (fun _ : Nat => False) bx := id
  unfold stdOf
  cases hc : lc k cs with
  | none =>
    have hlv := look_none hc
    dsimp only
    (repeat (first | ((refine (?_ : MX _ _ _ _ _ _ _ _ _ _ _)); first | refine mx_end ?_ | (refine mx_mv _ rfl rfl (by conv => {lhs; whnf}) ?_) | (refine mx_as _ rfl rfl (by conv => {lhs; whnf}) ?_) | (refine mx_fa0 E rfl rfl rfl rfl ?_ ) | (refine g_load rfl ?_; refine mx_orow E rfl rfl rfl rfl rfl (by assumption) (by assumption) (by rfl) rfl ?_ ) | (refine mx_nc rfl rfl rfl ?_) | (refine mx_ex _ rfl rfl rfl (by conv => {lhs; whnf}) ?_) | (refine mx_skip rfl rfl rfl ?_) | (refine g_pick rfl ?_; refine mx_andf rfl rfl rfl rfl rfl ?_ ) | ((refine mx_look mt81 rfl rfl rfl rfl rfl (hr := ⟨.inl ⟨fun _ => rfl, fun w' hw => Ok.oldM hw (by with_reducible assumption) (by exact id )⟩⟩) (by with_reducible assumption) rfl ?_)) ) | refine cw_seq ?_ | refine cw_line rfl ?_ | refine cw_ret ?_ | refine pw_then ?_ ))
    exact pw_ret rfl rfl rfl rfl fun w' hw => ⟨rfl, hw.keep.grow⟩
  | some c =>
    have hlv := look_some hc
    have hcm := (lc_mem hc).1
    have hcr := inC h3 hcm
    have hSp : ¬ (fun _ : Nat => False) c.p := id
    dsimp only
    (repeat (first | ((refine (?_ : MX _ _ _ _ _ _ _ _ _ _ _)); first | refine mx_end ?_ | (refine mx_mv _ rfl rfl (by conv => {lhs; whnf}) ?_) | (refine mx_as _ rfl rfl (by conv => {lhs; whnf}) ?_) | (first | refine mx_fa0 E rfl rfl rfl rfl ?_ | refine mx_fa E rfl rfl rfl rfl ?_) | (refine g_load rfl ?_; first | refine mx_orow E rfl rfl rfl rfl rfl (by assumption) (by assumption) (by rfl) rfl ?_ | refine mx_orown E rfl rfl rfl rfl rfl (by assumption) (by assumption) (by exact vr_bt _ _ _ _ _ _ ) rfl ?_ ) | (refine mx_nc rfl rfl rfl ?_) | (refine mx_ex _ rfl rfl rfl (by conv => {lhs; whnf}) ?_) | ((refine mx_look mt81 rfl rfl rfl rfl rfl (hr := ⟨.inl ⟨fun _ => rfl, fun w' hw => Ok.oldM hw (by with_reducible assumption) (by exact id )⟩⟩) (by with_reducible assumption) rfl ?_)) ) | refine cw_seq ?_ | refine cw_line rfl ?_ | refine pw_then ?_ ))
    refine g_cf 17 rfl ?_
    refine mx_call rfl rfl rfl Try.func17 rfl rfl rfl _ (fun w => steady17 c.bt now (hok c hcm).1 (hok c hcm).2 w) rfl ?_
    (repeat (first | ((refine (?_ : MX _ _ _ _ _ _ _ _ _ _ _)); first | refine mx_end ?_ | (refine mx_as _ rfl rfl (by conv => {lhs; whnf}) ?_) | (refine g_pick rfl ?_; refine mx_and rfl rfl rfl rfl rfl rfl ?_ ) ) | refine cw_ret ?_ | refine pw_then ?_ ))
    exact pw_ret rfl rfl rfl rfl fun w' hw => ⟨rfl, hw.keep.grow⟩
end Go.Proofs.Ytfekmflnfhjebaa
