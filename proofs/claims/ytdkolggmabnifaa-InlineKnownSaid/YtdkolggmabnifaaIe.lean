/- A form laid in. -/
import Derived.Test.YtdkolggmabnifaaId
set_option maxRecDepth 100000
set_option maxHeartbeats 8000000
set_option linter.unusedSimpArgs false
set_option linter.unusedVariables false
namespace Go.Proofs.Ytdkolggmabnifaa
open Go Go.Sx Go.RowKit
theorem mt56 : MapT Try.prog 56 (.int .i64 0) := ⟨⟨3, 3, by kernel_rfl, by kernel_rfl, fun _ => rfl⟩⟩
/-- Forms without their memory. -/
structure VC where
  prog : Int
  ops : List VO
  at' : List Int
  evs : List VE
  deriving Inhabited
structure VJ where
  prog : Int
  ops : List VO
  at' : List Int
  evs : List VE
  bg : List (Int × Int)
def CD.vc (c : CD) : VC := ⟨c.prog, c.ops.map (·.v), c.at', c.evs.map (·.v)⟩
def JS.vj (s : JS) : VJ := ⟨s.prog, s.ops.map (·.v), s.at', s.evs.map (·.v), s.bg⟩
def layV (s : VJ) (c : VC) : VJ := ⟨s.prog, s.ops ++ c.ops.map (VO.mv s.ops.length), s.at', c.evs.foldl addE s.evs, s.bg ++ [(c.prog, s.ops.length + c.at'.headD 0)]⟩
/-- A form that may be read. -/
structure RdC (N : Nat) (w : World) (c : CD) : Prop where
  o : InN N w c.oa 15 cOP c.ops
  os : ∀ x ∈ c.ops, RdO N w x
  t : InN N w c.ta 1 cI c.at'
  e : InN N w c.ea 5 cEV c.evs
  es : ∀ x ∈ c.evs, RdE N w x
theorem RdC.keep {N : Nat} {S : Nat → Prop} {w0 w : World} {H : List Res} {c : CD} (h : RdC N w0 c) (hw : Ok S w0 H w) (hS : ∀ b, S b → N ≤ b) : RdC N w c := ⟨h.o.keep hw hS, fun x hx => (h.os x hx).keep hw hS, h.t.keep hw hS, h.e.keep hw hS, fun x hx => (h.es x hx).keep hw hS⟩
/-- A form of the law's. -/
structure OkC (c : CD) : Prop where
  ol : c.ops.length ≤ 2000
  el : c.evs.length ≤ 1000
  tg : ∀ o ∈ c.ops, o.v.tgt ≤ 100000 ∧ -100000 ≤ o.v.tgt
  a0 : ∃ a l, c.at' = a :: l ∧ 0 ≤ a ∧ a ≤ 100000
theorem allF_app {S : Nat → Prop} {w0 w : World} {H : List Res} {l1 l2 : List OP} (h : Ok S w0 (allF l1 :: allF l2 :: H) w) : Ok S w0 (allF (l1 ++ l2) :: H) w := by
  have h1 : Ok S w0 (l1.flatMap RF ++ allF l2 :: H) w := Ok.unstar h
  have h2 : Ok S w0 (allF l2 :: (l1.flatMap RF ++ H)) w := h1.perm List.perm_middle
  have h3 : Ok S w0 (l2.flatMap RF ++ (l1.flatMap RF ++ H)) w := Ok.unstar h2
  have h4 : Ok S w0 ((l1 ++ l2).flatMap RF ++ H) w := h3.perm (by
    rw [List.flatMap_append, List.append_assoc]
    exact List.perm_append_comm_assoc _ _ _)
  exact Ok.star h4
def JS.lay (s : JS) (a : Option Addr × Nat) (ops' : List OP) (p : Int × Int) : JS := { s with oa := a.1, oc := a.2, ops := s.ops ++ ops', bg := s.bg ++ [p] }
theorem bgV_snoc (bg : List (Int × Int)) (p v : Int) : bgV (bg ++ [(p, v)]) = bgV bg ++ [(p, .int .i64 v)] := by simp [bgV]
theorem lay24 (bx mp : Nat) (xa : Option Addr) (xn xc : Nat) (s : JS) (N : Nat) (c : CD) (hc : OkC c) (hso : s.ops.length ≤ 2000) (hsn : s.evs.length ≤ 1000) (hk : ∀ v ∈ s.evs, BytK v.v.key) (hnew : fnd c.prog (bgV s.bg) 0 = none) (w : World) (h0 : Ok (domL (OJ bx mp xa xn xc s)) w (OJ bx mp xa xn xc s) w) (hN : ∀ b, domL (OJ bx mp xa xn xc s) b → N ≤ b) (hNw : N ≤ w.heap.size) (hr : RdC N w c) :
    Calls Try.prog 24 #[.pointer (some ⟨bx, 0, none⟩), .agg (cCD c).toArray] w fun r w' => ∃ s' : {s' : JS // s'.vj = layV s.vj c.vc}, r = .returned (.tuple #[]) ∧ Ok (domL (OJ bx mp xa xn xc s)) w (OJ bx mp xa xn xc s'.1) w' := by
  obtain ⟨a0, al, hat, ha0, ha1⟩ := hc.a0
  have hol := hc.ol
  have hel := hc.el
  refine enter2 (S := domL (OJ bx mp xa xn xc s)) (H := [row bx 58 (hdJ mp xa xn xc s), ownd s.oa s.oc 36 15 s.ops.length (s.ops.flatMap cOP), allF s.ops, ownd s.ta s.tc 3 1 s.at'.length (s.at'.flatMap cI), ownd s.ea s.ec 47 5 s.evs.length (s.evs.flatMap cEV), allK s.evs, mapR mp (bgV s.bg)]) 41 Try.func24 rfl rfl rfl h0 ?_
  obtain ⟨bt, offt, hta, htc⟩ := inl_at hr.t.1 (i := 0) (x := a0) (by rw [hat]; rfl)
  have hSt : ¬ domL (OJ bx mp xa xn xc s) bt := hr.t.ns hN hta (by rw [hat]; simp)
  have hct : w.cell? ⟨bt, offt + 0 * 1, none⟩ = some (.int .i64 a0) := htc 0 _ rfl
  have hatl : (0 : Int) < (c.at'.length : Int) := by rw [hat]; simp
  (repeat (first | ((refine (?_ : MX _ _ _ _ _ _ _ _ _ _ _)); first | refine mx_end ?_ | (refine mx_mv _ rfl rfl (by conv => {lhs; whnf}) ?_) | (refine mx_as _ rfl rfl (by conv => {lhs; whnf}) ?_) | (first | refine mx_fa0 E rfl rfl rfl rfl ?_ | refine mx_fa E rfl rfl rfl rfl ?_) | (refine g_load rfl ?_; refine mx_get E rfl rfl rfl rfl rfl (by rfl) rfl ?_ ) | (refine mx_nc rfl rfl rfl ?_) | (refine g_bi .len rfl ?_; refine mx_len E rfl rfl rfl rfl ?_) | (refine g_box rfl ?_; refine a_boxl rfl rfl rfl rfl rfl rfl (fun _ => ?_) ) ) | refine cw_seq ?_ | refine cw_line rfl ?_ | refine pw_then ?_ ))
  rename_i bc
  refine cw_weak (H' := [row bc 26 [.int .i64 c.prog, .slice c.oa c.ops.length c.oc, .slice (some ⟨bt, offt, none⟩) c.at'.length c.tc, .slice c.ea c.evs.length c.ec], row bx 58 (hdJ mp xa xn xc s), ownd s.oa s.oc 36 15 s.ops.length (s.ops.flatMap cOP), allF s.ops, ownd s.ta s.tc 3 1 s.at'.length (s.at'.flatMap cI), ownd s.ea s.ec 47 5 s.evs.length (s.evs.flatMap cEV), allK s.evs, mapR mp (bgV s.bg)]) (fun w h => by rw [← hta]; exact h) ?_
  refine cw_drawm [0, 1, 2, 3, 4, 5, 6, 7, 8, 9, 10, 11, 12] (fun i => Nat.beq i 12) [row bc 26 [.int .i64 c.prog, .slice c.oa c.ops.length c.oc, .slice (some ⟨bt, offt, none⟩) c.at'.length c.tc, .slice c.ea c.evs.length c.ec], row bx 58 (hdJ mp xa xn xc s)] mixed (by kernel_rfl) (fun w h => h.pick [0, 1] (by simp) rfl) ?_
  (repeat (((refine (?_ : MX _ _ _ _ _ _ _ _ _ _ _)); first | (refine mx_mv _ rfl rfl (by conv => {lhs; whnf}) ?_) | (first | refine mx_fa0 E rfl rfl rfl rfl ?_ | refine mx_fa E rfl rfl rfl rfl ?_) | (refine g_load rfl ?_; first | refine mx_get E rfl rfl rfl rfl rfl (by rfl) rfl ?_ | refine mx_old1 E rfl rfl rfl rfl rfl (by assumption) (by assumption) rfl ?_ ) | (refine g_bin rfl ?_; ( refine mx_ar rfl rfl rfl rfl rfl rfl (IntWalk.i64_in _ (by omega)) rfl ?_ ) ) | (refine g_ix rfl ?_; refine mx_ixsi E rfl rfl rfl rfl rfl rfl (by omega) (by omega) rfl ?_ ) | (refine mx_nc rfl rfl rfl ?_) ) ))
  refine a_mput mt56 rfl rfl rfl rfl rfl rfl rfl hnew (fun w h => h.pick [0, 1] (by simp) rfl) rfl ?_
  refine mx_weak (H' := [row bc 26 [.int .i64 c.prog, .slice c.oa c.ops.length c.oc, .slice (some ⟨bt, offt, none⟩) c.at'.length c.tc, .slice c.ea c.evs.length c.ec], row bx 58 (hdJ mp xa xn xc s), ownd s.oa s.oc 36 15 s.ops.length (s.ops.flatMap cOP), allF s.ops, ownd s.ta s.tc 3 1 s.at'.length (s.at'.flatMap cI), ownd s.ea s.ec 47 5 s.evs.length (s.evs.flatMap cEV), allK s.evs, mapR mp (bgV (s.bg ++ [(c.prog, (s.ops.length : Int) + a0)]))]) (fun w h => by rw [bgV_snoc]; exact h) (fun w h => h.pick [0, 1] (by simp) rfl) ?_
  (repeat (first | ((refine (?_ : MX _ _ _ _ _ _ _ _ _ _ _)); refine mx_end ?_ ) | refine cw_seq ?_ | refine pw_then ?_ ))
  refine cw_bar [0, 1, 2, 3, 4, 5, 6, 7, 8, 9, 10, 11, 12, 13] 14 [] (fun i => or (Nat.beq i 9) (or (Nat.beq i 10) (Nat.beq i 14))) [row bc 26 [.int .i64 c.prog, .slice c.oa c.ops.length c.oc, .slice (some ⟨bt, offt, none⟩) c.at'.length c.tc, .slice c.ea c.evs.length c.ec], row bx 58 (hdJ mp xa xn xc s)] (fun _ => True) mixed (by kernel_rfl) (fun w h => h.pick [0, 1] (by simp) rfl) ?_
  (repeat (((refine (?_ : MX _ _ _ _ _ _ _ _ _ _ _)); first | (refine mx_mv _ rfl rfl (by conv => {lhs; whnf}) ?_) | (first | refine mx_fa0 E rfl rfl rfl rfl ?_ | refine mx_fa E rfl rfl rfl rfl ?_) | (refine g_load rfl ?_; refine mx_get E rfl rfl rfl rfl rfl (by rfl) rfl ?_ ) | (refine mx_nc rfl rfl rfl ?_) ) ))
  refine g_cf 32 rfl ?_
  refine a_callL rfl rfl rfl rfl Try.func32 rfl rfl rfl [] _ rfl (fun q : (Option Addr × Nat) × {l' : List OP // l'.map (·.v) = c.ops.map fun o => o.v.mv s.ops.length} => .slice q.1.1 c.ops.length q.1.2) (fun q => [ownd q.1.1 q.1.2 36 15 c.ops.length (q.2.1.flatMap cOP), allF q.2.1]) (fun w' hw _ => copied32 c.oa c.oc c.ops s.ops.length (by omega) (by omega) hc.tg w' (hr.o.keep hw hN).1 (fun o ho => by have h9 := (hr.os o ho).keep hw hN; exact ⟨h9.1.1, h9.2.1.1, by have := h9.2.2.1; omega, by have := h9.2.2.2; omega⟩)) (fun _ => rfl) (fun q w h => h.pick [2, 3] (by simp) rfl) (fun q => ?_)
  obtain ⟨⟨q1, q2⟩, ⟨ops', hops⟩⟩ := q
  have hlen' : ops'.length = c.ops.length := by have := congrArg List.length hops; simpa using this
  refine mx_weakb (H' := [ownd q1 q2 36 15 ops'.length (ops'.flatMap cOP), allF ops', row bc 26 [.int .i64 c.prog, .slice c.oa c.ops.length c.oc, .slice (some ⟨bt, offt, none⟩) c.at'.length c.tc, .slice c.ea c.evs.length c.ec], row bx 58 (hdJ mp xa xn xc s), ownd s.oa s.oc 36 15 s.ops.length (s.ops.flatMap cOP), allF s.ops, ownd s.ta s.tc 3 1 s.at'.length (s.at'.flatMap cI), ownd s.ea s.ec 47 5 s.evs.length (s.evs.flatMap cEV), allK s.evs, mapR mp (bgV (s.bg ++ [(c.prog, (s.ops.length : Int) + a0)]))]) (fun w h => by rw [hlen']; exact h) (fun w h => h.pick [2, 3] (by simp) rfl) ?_
  refine g_bi .append rfl ?_
  refine a_app E rfl rfl rfl rfl rfl rfl rfl rfl (ops'.flatMap cOP) (by rw [flatMap_len len_OP, hlen']) (fun w hw => (own_in len_OP (hw.holds 0 _ rfl) (Nat.le_refl _)).src len_OP) (one_fm (fun _ => rfl) ops') (by omega) rfl (fun _ _ w h => h.pick [2, 3] (by simp) rfl) (fun a2 c2 => ?_)
  (repeat (((refine (?_ : MX _ _ _ _ _ _ _ _ _ _ _)); first | (first | refine mx_fa0 E rfl rfl rfl rfl ?_ | refine mx_fa E rfl rfl rfl rfl ?_) | (refine mx_nc rfl rfl rfl ?_) ) ))
  refine mx_bar (fun _ _ => trivial) ?_
  (repeat (first | ((refine (?_ : MX _ _ _ _ _ _ _ _ _ _ _)); first | refine mx_end ?_ | (refine mx_mv _ rfl rfl (by conv => {lhs; whnf}) ?_) | ( refine mx_fa E rfl rfl rfl rfl ?_) | (refine g_load rfl ?_; refine mx_get E rfl rfl rfl rfl rfl (by rfl) rfl ?_ ) | (refine g_store rfl ?_; refine s_1 E rfl rfl rfl rfl rfl rfl rfl rfl (by exact spS sp0 ) rfl ?_) ) | refine cw_line rfl ?_ | refine pw_then ?_ ))
  have hs2 : (s.lay (a2, c2) ops' (c.prog, (s.ops.length : Int) + a0)).evs = s.evs := rfl
  refine mx_weak (H' := [Sx.star (OJ bx mp xa xn xc (s.lay (a2, c2) ops' (c.prog, (s.ops.length : Int) + a0))), row bc 26 [.int .i64 c.prog, .slice c.oa c.ops.length c.oc, .slice (some ⟨bt, offt, none⟩) c.at'.length c.tc, .slice c.ea c.evs.length c.ec]]) (fun w1 h => by
    have h1 := allF_app (h.pick (H' := [allF s.ops, allF ops', row bx 58 [.int .i64 s.prog, .slice a2 (s.ops.length + c.ops.length) c2, .slice s.ta s.at'.length s.tc, .slice s.ea s.evs.length s.ec, .slice xa xn xc, .map (some mp)], ownd a2 c2 36 15 (s.ops.length + c.ops.length) (s.ops.flatMap cOP ++ ops'.flatMap cOP), ownd s.ta s.tc 3 1 s.at'.length (s.at'.flatMap cI), ownd s.ea s.ec 47 5 s.evs.length (s.evs.flatMap cEV), allK s.evs, mapR mp (bgV (s.bg ++ [(c.prog, (s.ops.length : Int) + a0)])), row bc 26 [.int .i64 c.prog, .slice c.oa c.ops.length c.oc, .slice (some ⟨bt, offt, none⟩) c.at'.length c.tc, .slice c.ea c.evs.length c.ec]]) [5, 1, 3, 4, 6, 7, 8, 9, 2] (by simp) rfl)
    rw [← hlen', ← List.length_append, ← List.flatMap_append] at h1
    have h2 : Ok (domL (OJ bx mp xa xn xc s)) w (OJ bx mp xa xn xc (s.lay (a2, c2) ops' (c.prog, (s.ops.length : Int) + a0)) ++ [row bc 26 [.int .i64 c.prog, .slice c.oa c.ops.length c.oc, .slice (some ⟨bt, offt, none⟩) c.at'.length c.tc, .slice c.ea c.evs.length c.ec]]) w1 := by
      rw [← hlen']
      exact h1.pick [1, 2, 0, 3, 4, 5, 6, 7] (by simp) rfl
    exact h2.star) (fun _ _ => trivial) ?_
  refine g_cf 33 rfl ?_
  refine a_callo rfl rfl rfl rfl Try.func33 rfl rfl rfl 0 rfl (fun q : (Option Addr × Nat) × {evs' : List EV // evs'.map (·.v) = (c.evs.map (·.v)).foldl addE (s.evs.map (·.v))} => .tuple #[]) (fun _ => []) (fun q => OJ bx mp xa xn xc ((s.lay (a2, c2) ops' (c.prog, (s.ops.length : Int) + a0)).ev q.1 q.2.1)) (fun w' hw h => assume33 bx mp xa xn xc (s.lay (a2, c2) ops' (c.prog, (s.ops.length : Int) + a0)) N c.ea c.ec c.evs hel hsn hk w' h (fun b hb => by
    by_cases hbw : b < w.heap.size
    · exact hN b ((hw.own 0 _ rfl b hb).2 hbw)
    · omega) (hr.e.keep hw hN) (fun e he => (hr.es e he).keep hw hN)) (fun _ => rfl) (fun _ _ _ => trivial) (fun q => ?_)
  (repeat (((refine (?_ : MX _ _ _ _ _ _ _ _ _ _ _)); refine mx_end ?_ ) ))
  refine pw_ret0 rfl rfl fun w' hw => ⟨⟨(s.lay (a2, c2) ops' (c.prog, (s.ops.length : Int) + a0)).ev q.1 q.2.1, ?_⟩, rfl, ?_⟩
  · have e1 : (s.ops ++ ops').map (·.v) = s.ops.map (·.v) ++ (c.ops.map (·.v)).map (VO.mv s.ops.length) := by
      rw [List.map_append, hops, List.map_map]
      rfl
    show (⟨s.prog, (s.ops ++ ops').map (·.v), s.at', q.2.1.map (·.v), s.bg ++ [(c.prog, (s.ops.length : Int) + a0)]⟩ : VJ) = layV s.vj c.vc
    rw [e1, q.2.2]
    unfold layV JS.vj CD.vc
    simp only [List.length_map, hat, List.headD_cons]
  · have h9 := Ok.unstar (H := []) (hw.pick (H' := [Sx.star (OJ bx mp xa xn xc ((s.lay (a2, c2) ops' (c.prog, (s.ops.length : Int) + a0)).ev q.1 q.2.1))]) [0] (by simp) rfl)
    rwa [List.append_nil] at h9
end Go.Proofs.Ytdkolggmabnifaa
