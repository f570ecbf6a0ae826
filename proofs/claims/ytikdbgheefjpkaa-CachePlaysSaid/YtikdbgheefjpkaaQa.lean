/- Optimised forms: their cells; lists of all kinds cloned. -/
import Derived.Test.YtikdbgheefjpkaaKb
import Derived.Test.YtikdbgheefjpkaaOb2
set_option maxRecDepth 100000
set_option maxHeartbeats 8000000
set_option linter.unusedSimpArgs false
set_option linter.unusedVariables false
namespace Go.Proofs.Ytikdbgheefjpkaa
open Go Go.Sx Go.RowKit
structure FL where
  reg : Int
  num : Int
  deriving Inhabited, DecidableEq
@[reducible] def cFL (f : FL) : List Value := [.int .i64 f.reg, .int .u64 f.num]
theorem len_FL (x : FL) : (cFL x).length = 2 := rfl
structure VO where
  kind : Int
  prog : Int
  start : Int
  pc : Int
  weight : Int
  i0 : Int
  i1 : Int
  i2 : Int
  i3 : Int
  i4 : Int
  tgt : Int
  cell : Int
  next : Int
  held : List FL
  need : List FL
  deriving Inhabited, DecidableEq
structure OP where
  v : VO
  ha : Option Addr
  hc : Nat
  na : Option Addr
  nc : Nat
  deriving Inhabited
@[reducible] def cVO (v : VO) (ha : Option Addr) (hc : Nat) (na : Option Addr) (nc : Nat) : List Value := [.int .i64 v.kind, .int .i64 v.prog, .int .i64 v.start, .int .i64 v.pc, .int .i64 v.weight, .int .i64 v.i0, .int .i64 v.i1, .int .i64 v.i2, .int .i64 v.i3, .int .i64 v.i4, .int .i64 v.tgt, .int .i64 v.cell, .int .i64 v.next, .slice ha v.held.length hc, .slice na v.need.length nc]
@[reducible] def cOP (o : OP) : List Value := cVO o.v o.ha o.hc o.na o.nc
theorem len_OP (x : OP) : (cOP x).length = 15 := rfl
structure CD where
  prog : Int
  oa : Option Addr
  oc : Nat
  ops : List OP
  ta : Option Addr
  tc : Nat
  at' : List Int
  ea : Option Addr
  ec : Nat
  evs : List EV
  deriving Inhabited
@[reducible] def cCD (c : CD) : List Value := [.int .i64 c.prog, .slice c.oa c.ops.length c.oc, .slice c.ta c.at'.length c.tc, .slice c.ea c.evs.length c.ec]
theorem len_CD (x : CD) : (cCD x).length = 4 := rfl
instance : ZeroT Try.prog 59 [.int .i64 0, .slice none 0 0, .slice none 0 0, .slice none 0 0] := ⟨by kernel_rfl⟩
instance : ZeroT Try.prog 112 [.int .i64 0, .int .i64 0, .int .i64 0, .int .i64 0, .int .i64 0, .int .i64 0, .int .i64 0, .int .i64 0, .int .i64 0, .int .i64 0, .int .i64 0, .int .i64 0, .int .i64 0, .slice none 0 0, .slice none 0 0] := ⟨by kernel_rfl⟩
theorem clone84 (ad : Option Addr) (cap : Nat) (xs : List Int) (hs : xs.length ≤ 1100000) (w : World) (hl : InL w ad 1 cI xs) :
    Calls Try.prog 84 #[.slice ad xs.length cap] w fun e w' => ∃ a : Option Addr × Nat, e = .returned (.slice a.1 xs.length a.2) ∧ Ok (domL []) w [ownd a.1 a.2 3 1 xs.length (xs.flatMap cI)] w' := by
  have hno : ∀ b, ¬ (domL [] : Nat → Prop) b := fun b ⟨j, r, h, _⟩ => by simp at h
  refine enter1 (S := domL []) 8 Try.func84 rfl rfl rfl (Ok.start w) ?_
  refine cw_seq ?_; refine cw_line rfl ?_; (repeat (first | ((refine (?_ : MX _ _ _ _ _ _ _ _ _ _ _)); first | refine mx_end ?_ | (refine mx_as _ rfl rfl (by conv => {lhs; whnf}) ?_) ) | refine pw_then ?_))
  refine cw_seq ?_
  refine cw_seq ?_
  refine cw_line rfl ?_
  refine mx_mv _ rfl rfl (by conv => {lhs; whnf}) ?_
  refine mx_nils E rfl rfl rfl rfl rfl rfl rfl ?_
  cases ad with
  | none =>
    have hx : xs = [] := by
      cases xs with
      | nil => rfl
      | cons x xs => obtain ⟨b, off, e, _⟩ := hl (by simp); cases e
    subst hx
    (repeat (first | ((refine (?_ : MX _ _ _ _ _ _ _ _ _ _ _)); first | refine mx_end ?_ | (refine mx_as _ rfl rfl (by conv => {lhs; whnf}) ?_) ) | refine cw_seq ?_ | refine cw_line rfl ?_ | refine cw_cond_t rfl ?_ | refine cw_ret ?_ | refine pw_then ?_ | refine pw_then_r ?_ ))
    refine pw_weak (H' := [ownd none 0 3 1 0 []]) (fun w h => h.own_nil _ _) ?_
    exact pw_ret rfl rfl rfl rfl fun w' hw => ⟨(none, 0), rfl, hw⟩
  | some a =>
    (repeat (first | ((refine (?_ : MX _ _ _ _ _ _ _ _ _ _ _)); first | refine mx_end ?_ | (refine mx_mv _ rfl rfl (by conv => {lhs; whnf}) ?_) | (refine g_bs rfl ?_; refine a_bs0 E rfl rfl rfl rfl rfl rfl (fun _ => ?_) ) ) | refine cw_seq ?_ | refine cw_line rfl ?_ | refine cw_cond_f rfl ?_ | refine cw_skip ?_ | refine pw_then ?_ ))
    refine g_bi .append rfl ?_
    refine a_app E rfl rfl rfl rfl rfl rfl rfl rfl (xs.flatMap cI) (by rw [flatMap_len len_I]) (fun w hw => (hl.keep' hw fun _ _ _ _ => hno _).src len_I) (one_fm (fun _ => rfl) xs) (by omega) rfl (fun _ _ _ _ => trivial) (fun a2 c2 => ?_)
    rw [List.nil_append, Nat.zero_add]
    (repeat (first | ((refine (?_ : MX _ _ _ _ _ _ _ _ _ _ _)); first | refine mx_end ?_ | (refine mx_as _ rfl rfl (by conv => {lhs; whnf}) ?_) ) | refine cw_ret ?_ | refine pw_then ?_ ))
    exact pw_ret rfl rfl rfl rfl fun w' hw => ⟨(a2, c2), rfl, hw.only 0 rfl⟩
theorem clone85 (ad : Option Addr) (cap : Nat) (xs : List OP) (hs : xs.length ≤ 1100000) (w : World) (hl : InL w ad 15 cOP xs) :
    Calls Try.prog 85 #[.slice ad xs.length cap] w fun e w' => ∃ a : Option Addr × Nat, e = .returned (.slice a.1 xs.length a.2) ∧ Ok (domL []) w [ownd a.1 a.2 112 15 xs.length (xs.flatMap cOP)] w' := by
  have hno : ∀ b, ¬ (domL [] : Nat → Prop) b := fun b ⟨j, r, h, _⟩ => by simp at h
  refine enter1 (S := domL []) 8 Try.func85 rfl rfl rfl (Ok.start w) ?_
  refine cw_seq ?_; refine cw_line rfl ?_; (repeat (first | ((refine (?_ : MX _ _ _ _ _ _ _ _ _ _ _)); first | refine mx_end ?_ | (refine mx_as _ rfl rfl (by conv => {lhs; whnf}) ?_) ) | refine pw_then ?_))
  refine cw_seq ?_
  refine cw_seq ?_
  refine cw_line rfl ?_
  refine mx_mv _ rfl rfl (by conv => {lhs; whnf}) ?_
  refine mx_nils E rfl rfl rfl rfl rfl rfl rfl ?_
  cases ad with
  | none =>
    have hx : xs = [] := by
      cases xs with
      | nil => rfl
      | cons x xs => obtain ⟨b, off, e, _⟩ := hl (by simp); cases e
    subst hx
    (repeat (first | ((refine (?_ : MX _ _ _ _ _ _ _ _ _ _ _)); first | refine mx_end ?_ | (refine mx_as _ rfl rfl (by conv => {lhs; whnf}) ?_) ) | refine cw_seq ?_ | refine cw_line rfl ?_ | refine cw_cond_t rfl ?_ | refine cw_ret ?_ | refine pw_then ?_ | refine pw_then_r ?_ ))
    refine pw_weak (H' := [ownd none 0 112 15 0 []]) (fun w h => h.own_nil _ _) ?_
    exact pw_ret rfl rfl rfl rfl fun w' hw => ⟨(none, 0), rfl, hw⟩
  | some a =>
    (repeat (first | ((refine (?_ : MX _ _ _ _ _ _ _ _ _ _ _)); first | refine mx_end ?_ | (refine mx_mv _ rfl rfl (by conv => {lhs; whnf}) ?_) | (refine g_bs rfl ?_; refine a_bs0 E rfl rfl rfl rfl rfl rfl (fun _ => ?_) ) ) | refine cw_seq ?_ | refine cw_line rfl ?_ | refine cw_cond_f rfl ?_ | refine cw_skip ?_ | refine pw_then ?_ ))
    refine g_bi .append rfl ?_
    refine a_app E rfl rfl rfl rfl rfl rfl rfl rfl (xs.flatMap cOP) (by rw [flatMap_len len_OP]) (fun w hw => (hl.keep' hw fun _ _ _ _ => hno _).src len_OP) (one_fm (fun _ => rfl) xs) (by omega) rfl (fun _ _ _ _ => trivial) (fun a2 c2 => ?_)
    rw [List.nil_append, Nat.zero_add]
    (repeat (first | ((refine (?_ : MX _ _ _ _ _ _ _ _ _ _ _)); first | refine mx_end ?_ | (refine mx_as _ rfl rfl (by conv => {lhs; whnf}) ?_) ) | refine cw_ret ?_ | refine pw_then ?_ ))
    exact pw_ret rfl rfl rfl rfl fun w' hw => ⟨(a2, c2), rfl, hw.only 0 rfl⟩
theorem clone86 (ad : Option Addr) (cap : Nat) (xs : List FL) (hs : xs.length ≤ 8796093022208) (w : World) (hl : InL w ad 2 cFL xs) :
    Calls Try.prog 86 #[.slice ad xs.length cap] w fun e w' => ∃ a : Option Addr × Nat, e = .returned (.slice a.1 xs.length a.2) ∧ Ok (domL []) w [ownd a.1 a.2 122 2 xs.length (xs.flatMap cFL)] w' := by
  have hno : ∀ b, ¬ (domL [] : Nat → Prop) b := fun b ⟨j, r, h, _⟩ => by simp at h
  refine enter1 (S := domL []) 8 Try.func86 rfl rfl rfl (Ok.start w) ?_
  refine cw_seq ?_; refine cw_line rfl ?_; (repeat (first | ((refine (?_ : MX _ _ _ _ _ _ _ _ _ _ _)); first | refine mx_end ?_ | (refine mx_as _ rfl rfl (by conv => {lhs; whnf}) ?_) ) | refine pw_then ?_))
  refine cw_seq ?_
  refine cw_seq ?_
  refine cw_line rfl ?_
  refine mx_mv _ rfl rfl (by conv => {lhs; whnf}) ?_
  refine mx_nils E rfl rfl rfl rfl rfl rfl rfl ?_
  cases ad with
  | none =>
    have hx : xs = [] := by
      cases xs with
      | nil => rfl
      | cons x xs => obtain ⟨b, off, e, _⟩ := hl (by simp); cases e
    subst hx
    (repeat (first | ((refine (?_ : MX _ _ _ _ _ _ _ _ _ _ _)); first | refine mx_end ?_ | (refine mx_as _ rfl rfl (by conv => {lhs; whnf}) ?_) ) | refine cw_seq ?_ | refine cw_line rfl ?_ | refine cw_cond_t rfl ?_ | refine cw_ret ?_ | refine pw_then ?_ | refine pw_then_r ?_ ))
    refine pw_weak (H' := [ownd none 0 122 2 0 []]) (fun w h => h.own_nil _ _) ?_
    exact pw_ret rfl rfl rfl rfl fun w' hw => ⟨(none, 0), rfl, hw⟩
  | some a =>
    (repeat (first | ((refine (?_ : MX _ _ _ _ _ _ _ _ _ _ _)); first | refine mx_end ?_ | (refine mx_mv _ rfl rfl (by conv => {lhs; whnf}) ?_) | (refine g_bs rfl ?_; refine a_bs0 E rfl rfl rfl rfl rfl rfl (fun _ => ?_) ) ) | refine cw_seq ?_ | refine cw_line rfl ?_ | refine cw_cond_f rfl ?_ | refine cw_skip ?_ | refine pw_then ?_ ))
    refine g_bi .append rfl ?_
    refine a_appB E rfl rfl rfl rfl rfl rfl rfl rfl (xs.flatMap cFL) (by rw [flatMap_len len_FL]) (fun w hw => (hl.keep' hw fun _ _ _ _ => hno _).src len_FL) (one_fm (fun _ => rfl) xs) (B := 16) (by kernel_rfl) rfl (by omega) rfl (fun _ _ _ _ => trivial) (fun a2 c2 => ?_)
    rw [List.nil_append, Nat.zero_add]
    (repeat (first | ((refine (?_ : MX _ _ _ _ _ _ _ _ _ _ _)); first | refine mx_end ?_ | (refine mx_as _ rfl rfl (by conv => {lhs; whnf}) ?_) ) | refine cw_ret ?_ | refine pw_then ?_ ))
    exact pw_ret rfl rfl rfl rfl fun w' hw => ⟨(a2, c2), rfl, hw.only 0 rfl⟩
theorem clone87 (ad : Option Addr) (cap : Nat) (xs : List Int) (hs : xs.length ≤ 140737488355328) (w : World) (hl : InL w ad 1 cU xs) :
    Calls Try.prog 87 #[.slice ad xs.length cap] w fun e w' => ∃ a : Option Addr × Nat, e = .returned (.slice a.1 xs.length a.2) ∧ Ok (domL []) w [ownd a.1 a.2 5 1 xs.length (xs.flatMap cU)] w' := by
  have hno : ∀ b, ¬ (domL [] : Nat → Prop) b := fun b ⟨j, r, h, _⟩ => by simp at h
  refine enter1 (S := domL []) 8 Try.func87 rfl rfl rfl (Ok.start w) ?_
  refine cw_seq ?_; refine cw_line rfl ?_; (repeat (first | ((refine (?_ : MX _ _ _ _ _ _ _ _ _ _ _)); first | refine mx_end ?_ | (refine mx_as _ rfl rfl (by conv => {lhs; whnf}) ?_) ) | refine pw_then ?_))
  refine cw_seq ?_
  refine cw_seq ?_
  refine cw_line rfl ?_
  refine mx_mv _ rfl rfl (by conv => {lhs; whnf}) ?_
  refine mx_nils E rfl rfl rfl rfl rfl rfl rfl ?_
  cases ad with
  | none =>
    have hx : xs = [] := by
      cases xs with
      | nil => rfl
      | cons x xs => obtain ⟨b, off, e, _⟩ := hl (by simp); cases e
    subst hx
    (repeat (first | ((refine (?_ : MX _ _ _ _ _ _ _ _ _ _ _)); first | refine mx_end ?_ | (refine mx_as _ rfl rfl (by conv => {lhs; whnf}) ?_) ) | refine cw_seq ?_ | refine cw_line rfl ?_ | refine cw_cond_t rfl ?_ | refine cw_ret ?_ | refine pw_then ?_ | refine pw_then_r ?_ ))
    refine pw_weak (H' := [ownd none 0 5 1 0 []]) (fun w h => h.own_nil _ _) ?_
    exact pw_ret rfl rfl rfl rfl fun w' hw => ⟨(none, 0), rfl, hw⟩
  | some a =>
    (repeat (first | ((refine (?_ : MX _ _ _ _ _ _ _ _ _ _ _)); first | refine mx_end ?_ | (refine mx_mv _ rfl rfl (by conv => {lhs; whnf}) ?_) | (refine g_bs rfl ?_; refine a_bs0 E rfl rfl rfl rfl rfl rfl (fun _ => ?_) ) ) | refine cw_seq ?_ | refine cw_line rfl ?_ | refine cw_cond_f rfl ?_ | refine cw_skip ?_ | refine pw_then ?_ ))
    refine g_bi .append rfl ?_
    refine a_appB E rfl rfl rfl rfl rfl rfl rfl rfl (xs.flatMap cU) (by rw [flatMap_len len_U]) (fun w hw => (hl.keep' hw fun _ _ _ _ => hno _).src len_U) (one_fm (fun _ => rfl) xs) (B := 1) (by kernel_rfl) rfl (by omega) rfl (fun _ _ _ _ => trivial) (fun a2 c2 => ?_)
    rw [List.nil_append, Nat.zero_add]
    (repeat (first | ((refine (?_ : MX _ _ _ _ _ _ _ _ _ _ _)); first | refine mx_end ?_ | (refine mx_as _ rfl rfl (by conv => {lhs; whnf}) ?_) ) | refine cw_ret ?_ | refine pw_then ?_ ))
    exact pw_ret rfl rfl rfl rfl fun w' hw => ⟨(a2, c2), rfl, hw.only 0 rfl⟩
theorem cloneE51 (ad : Option Addr) (cap : Nat) (xs : List EV) (hs : xs.length ≤ 1100000) (w : World) (hl : InL w ad 5 cEV xs) :
    Calls Try.prog 51 #[.slice ad xs.length cap] w fun e w' => ∃ a : Option Addr × Nat, e = .returned (.slice a.1 xs.length a.2) ∧ Ok (domL []) w [ownd a.1 a.2 49 5 xs.length (xs.flatMap cEV)] w' := by
  have hno : ∀ b, ¬ (domL [] : Nat → Prop) b := fun b ⟨j, r, h, _⟩ => by simp at h
  refine enter1 (S := domL []) 8 Try.func51 rfl rfl rfl (Ok.start w) ?_
  refine cw_seq ?_; refine cw_line rfl ?_; (repeat (first | ((refine (?_ : MX _ _ _ _ _ _ _ _ _ _ _)); first | refine mx_end ?_ | (refine mx_as _ rfl rfl (by conv => {lhs; whnf}) ?_) ) | refine pw_then ?_))
  refine cw_seq ?_
  refine cw_seq ?_
  refine cw_line rfl ?_
  refine mx_mv _ rfl rfl (by conv => {lhs; whnf}) ?_
  refine mx_nils E rfl rfl rfl rfl rfl rfl rfl ?_
  cases ad with
  | none =>
    have hx : xs = [] := by
      cases xs with
      | nil => rfl
      | cons x xs => obtain ⟨b, off, e, _⟩ := hl (by simp); cases e
    subst hx
    (repeat (first | ((refine (?_ : MX _ _ _ _ _ _ _ _ _ _ _)); first | refine mx_end ?_ | (refine mx_as _ rfl rfl (by conv => {lhs; whnf}) ?_) ) | refine cw_seq ?_ | refine cw_line rfl ?_ | refine cw_cond_t rfl ?_ | refine cw_ret ?_ | refine pw_then ?_ | refine pw_then_r ?_ ))
    refine pw_weak (H' := [ownd none 0 49 5 0 []]) (fun w h => h.own_nil _ _) ?_
    exact pw_ret rfl rfl rfl rfl fun w' hw => ⟨(none, 0), rfl, hw⟩
  | some a =>
    (repeat (first | ((refine (?_ : MX _ _ _ _ _ _ _ _ _ _ _)); first | refine mx_end ?_ | (refine mx_mv _ rfl rfl (by conv => {lhs; whnf}) ?_) | (refine g_bs rfl ?_; refine a_bs0 E rfl rfl rfl rfl rfl rfl (fun _ => ?_) ) ) | refine cw_seq ?_ | refine cw_line rfl ?_ | refine cw_cond_f rfl ?_ | refine cw_skip ?_ | refine pw_then ?_ ))
    refine g_bi .append rfl ?_
    refine a_app E rfl rfl rfl rfl rfl rfl rfl rfl (xs.flatMap cEV) (by rw [flatMap_len len_EV]) (fun w hw => (hl.keep' hw fun _ _ _ _ => hno _).src len_EV) (one_fm (fun _ => rfl) xs) (by omega) rfl (fun _ _ _ _ => trivial) (fun a2 c2 => ?_)
    rw [List.nil_append, Nat.zero_add]
    (repeat (first | ((refine (?_ : MX _ _ _ _ _ _ _ _ _ _ _)); first | refine mx_end ?_ | (refine mx_as _ rfl rfl (by conv => {lhs; whnf}) ?_) ) | refine cw_ret ?_ | refine pw_then ?_ ))
    exact pw_ret rfl rfl rfl rfl fun w' hw => ⟨(a2, c2), rfl, hw.only 0 rfl⟩
def RF (o : OP) : List Res := [ownd o.ha o.hc 122 2 o.v.held.length (o.v.held.flatMap cFL), ownd o.na o.nc 122 2 o.v.need.length (o.v.need.flatMap cFL)]
def allF (l : List OP) : Res := star (l.flatMap RF)
theorem allF_nil {S : Nat → Prop} {w0 w : World} {H : List Res} (h : Ok S w0 H w) : Ok S w0 (allF [] :: H) w := Ok.star (L := []) h
theorem allF_snoc {S : Nat → Prop} {w0 w : World} {H : List Res} {l : List OP} {o : OP} (h : Ok S w0 (ownd o.ha o.hc 122 2 o.v.held.length (o.v.held.flatMap cFL) :: ownd o.na o.nc 122 2 o.v.need.length (o.v.need.flatMap cFL) :: allF l :: H) w) : Ok S w0 (allF (l ++ [o]) :: H) w := by
  have h1 := star_snoc (L1 := l.flatMap RF) (L2 := RF o) (H := H) h
  unfold allF
  rw [List.flatMap_append]
  simpa [RF] using h1
/-- Forms without their memory. -/
structure VC where
  prog : Int
  ops : List VO
  at' : List Int
  evs : List VE
  deriving Inhabited
def CD.vc (c : CD) : VC := ⟨c.prog, c.ops.map (·.v), c.at', c.evs.map (·.v)⟩
@[reducible] def z59 : List Value := [.int .i64 0, .slice none 0 0, .slice none 0 0, .slice none 0 0]
def OCd (c : CD) : List Res := [ownd c.oa c.oc 112 15 c.ops.length (c.ops.flatMap cOP), allF c.ops, ownd c.ta c.tc 3 1 c.at'.length (c.at'.flatMap cI), ownd c.ea c.ec 49 5 c.evs.length (c.evs.flatMap cEV), allK c.evs]
end Go.Proofs.Ytikdbgheefjpkaa
