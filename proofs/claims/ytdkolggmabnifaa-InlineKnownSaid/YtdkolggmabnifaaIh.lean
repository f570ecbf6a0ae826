/- Forms joined: the walk of Join. -/
import Derived.Test.YtdkolggmabnifaaIg
set_option maxRecDepth 100000
set_option maxHeartbeats 8000000
set_option linter.unusedSimpArgs false
set_option linter.unusedVariables false
namespace Go.Proofs.Ytdkolggmabnifaa
open Go Go.Sx Go.RowKit
theorem vr_J (a b c d e f : Value) : Vr [a, b, c, d, e, f] 0 4 [a, b, c, d] := ⟨⟨rfl⟩, rfl⟩
theorem runV_inv {others : List VC} {s0 : VJ} (h : InvV s0) (ho : ∀ c ∈ others, OkV c) : ∀ k, InvV (runV others s0 k)
  | 0 => h
  | k + 1 => by
    have ih := runV_inv h ho k
    show InvV (stepV others (runV others s0 k) k)
    unfold stepV
    split
    · rename_i x _
      split
      · have h2 := (target_inv ih ho x.next).1
        exact ⟨h2.b, by show (setT _ _ _).length ≤ 1024; rw [setT_len]; exact h2.o, h2.e, h2.k⟩
      · exact ih
    · exact ih
theorem allF_set {l : List OP} {j : Nat} {m m' : OP} (hj : l[j]? = some m) (h : RF m' = RF m) : allF (l.set j m') = allF l := by
  obtain ⟨e1, e2⟩ := list_cut hj
  unfold allF
  rw [e2 m']
  conv => rhs; rw [e1]
  rw [List.flatMap_append, List.flatMap_append, List.flatMap_cons, List.flatMap_cons, h]
def OP.tg (o : OP) (t : Int) : OP := { o with v := { o.v with tgt := t } }
theorem setT_map {l : List OP} {i : Nat} {y : OP} (hy : l[i]? = some y) (t : Int) : setT i t (l.map (·.v)) = (l.set i (y.tg t)).map (·.v) := by
  unfold setT
  rw [List.getElem?_map, hy]
  show (l.map _).set i _ = _
  rw [List.map_set]
  rfl
structure JI where
  bx : Nat
  mp : Nat
  i : Nat
  s : JS
@[reducible] def z26 : List Value := [.int .i64 0, .slice none 0 0, .slice none 0 0, .slice none 0 0]
def OCd (c : CD) : List Res := [ownd c.oa c.oc 36 15 c.ops.length (c.ops.flatMap cOP), allF c.ops, ownd c.ta c.tc 3 1 c.at'.length (c.at'.flatMap cI), ownd c.ea c.ec 47 5 c.evs.length (c.evs.flatMap cEV), allK c.evs]
/-- What Join answers. -/
structure IsJ (others : List VC) (c a : VC) : Prop where
  ex : ∃ i, a.ops.length = i ∧ (runV others (layV (iniV c) c) i).prog = a.prog ∧ (runV others (layV (iniV c) c) i).ops = a.ops ∧ (runV others (layV (iniV c) c) i).at' = a.at' ∧ (runV others (layV (iniV c) c) i).evs = a.evs
theorem close_J {S : Nat → Prop} {w0 w : World} {H : List Res} {bx mp b5 : Nat} {xa : Option Addr} {xn xc : Nat} {prog : Int} {oc : Nat} {ops : List OP} {ta : Option Addr} {tc : Nat} {at' : List Int} {ea : Option Addr} {ec : Nat} {evs : List EV} {bg : List (Int × Int)} {rest : List Value} (e1 : (ops.flatMap cOP).length = ops.length * 15) (e2 : (ops.flatMap cOP ++ rest).length = oc * 15) (e3 : ops.length ≤ oc) (e4 : oc ≤ maxLen) (h : Ok S w0 (row bx 58 [.int .i64 prog, .slice (some ⟨b5, 0, none⟩) ops.length oc, .slice ta at'.length tc, .slice ea evs.length ec, .slice xa xn xc, .map (some mp)] :: row b5 36 (ops.flatMap cOP ++ rest) :: allF ops :: ownd ta tc 3 1 at'.length (at'.flatMap cI) :: ownd ea ec 47 5 evs.length (evs.flatMap cEV) :: allK evs :: mapR mp (bgV bg) :: H) w) : Ok S w0 (Sx.star (OJ bx mp xa xn xc ⟨prog, some ⟨b5, 0, none⟩, oc, ops, ta, tc, at', ea, ec, evs, bg⟩) :: H) w := by
  have h1 := ok_close (xs := ops.flatMap cOP) (rest := rest) (len := ops.length) (z := 15) (cap := oc) 1 rfl e1 e2 e3 e4 h
  exact Ok.star (L := OJ bx mp xa xn xc ⟨prog, some ⟨b5, 0, none⟩, oc, ops, ta, tc, at', ea, ec, evs, bg⟩) h1
theorem start_J {S : Nat → Prop} {w0 w : World} {bx mp b4 b2 : Nat} {xa : Option Addr} {xn xc : Nat} {c : CD} {ta' : Option Addr} {tc' : Nat} {V : List Value} (h : Ok S w0 [row bx 58 [.int .i64 c.prog, .slice none 0 0, .slice ta' c.at'.length tc', .slice none 0 0, .slice xa xn xc, .map (some mp)], ownd ta' tc' 3 1 c.at'.length (c.at'.flatMap cI), mapR mp [], row b4 26 z26, row b2 26 V] w) : Ok S w0 [Sx.star (OJ bx mp xa xn xc ⟨c.prog, none, 0, [], ta', tc', c.at', none, 0, [], []⟩), row b4 26 z26, row b2 26 V] w := by
  have h1 := allK_nil (allF_nil ((h.own_nil 36 15).own_nil 47 5))
  have h2 : Ok S w0 (OJ bx mp xa xn xc ⟨c.prog, none, 0, [], ta', tc', c.at', none, 0, [], []⟩ ++ [row b4 26 z26, row b2 26 V]) w := h1.pick [4, 3, 1, 5, 2, 0, 6, 7, 8] (by simp) rfl
  exact h2.star
theorem join10 (xa : Option Addr) (xc : Nat) (others : List CD) (c : CD) (hxl : others.length ≤ 1000) (hcl : c.at'.length ≤ 1000) (w : World) (hr : RdC w.heap.size w c) (hc : OkC c) (hcv : OkV c.vc) (hoth : InN w.heap.size w xa 4 cCD others) (hoc : ∀ o ∈ others, RdC w.heap.size w o ∧ OkC o) (hov : ∀ o ∈ others.map CD.vc, OkV o) :
    Calls Try.prog 10 #[.agg (cCD c).toArray, .slice xa others.length xc] w fun r w' => ∃ a : {a : CD // IsJ (others.map CD.vc) c.vc a.vc}, r = .returned (.agg (cCD a.1).toArray) ∧ Ok (domL []) w (OCd a.1) w' := by
  have hinv0 : InvV (layV (iniV c.vc) c.vc) := layV_inv (s := iniV c.vc) (by show 0 ≤ 3; omega) (Nat.zero_le _) (fun v hv => by cases hv) hcv (by show 0 + c.vc.ops.length ≤ 1024; have := hcv.ol; omega)
  have hinv := runV_inv hinv0 hov
  have hS0 : ∀ b, (domL [] : Nat → Prop) b → w.heap.size ≤ b := fun b hb => absurd hb (no_dom b)
  obtain ⟨a0, al, hat, ha0, ha1⟩ := hc.a0
  refine enter2 (S := domL []) 68 Try.func10 rfl rfl rfl (Ok.start w) ?_
  (repeat (first | ((refine (?_ : MX _ _ _ _ _ _ _ _ _ _ _)); first | refine mx_end ?_ | (refine a_new rfl rfl rfl rfl rfl (fun _ => ?_)) | (refine g_box rfl ?_; refine a_boxl rfl rfl rfl rfl rfl rfl (fun _ => ?_) ) ) | refine cw_seq ?_ | refine cw_line rfl ?_ | refine pw_then ?_ ))
  rename_i b2 b4
  apply cw_scope (ι := JI) 0 (fun q => [(6, .int .i64 q.i), (5, .pointer (some ⟨q.bx, 0, none⟩)), (4, .pointer (some ⟨b4, 0, none⟩))]) (fun q => [Sx.star (OJ q.bx q.mp xa others.length xc q.s), row b4 26 z26]) (fun q => q.s.vj = runV (others.map CD.vc) (layV (iniV c.vc) c.vc) q.i ∧ q.i ≤ q.s.ops.length) (fun q => (4 - q.s.bg.length) * 3000 + (q.s.ops.length - q.i))
  · rfl
  · rintro ⟨bx, mp, i, ⟨prog, oa, oc, ops, ta, tc, at', ea, ec, evs, bg⟩⟩ jk ⟨hv, hi⟩
    dsimp only at hv hi ⊢
    have hI := hinv i
    rw [← hv] at hI
    have hol : ops.length ≤ 1024 := by have := hI.o; have e : (JS.vj ⟨prog, oa, oc, ops, ta, tc, at', ea, ec, evs, bg⟩).ops.length = ops.length := List.length_map _; omega
    refine cw_weak (H' := [row bx 58 [.int .i64 prog, .slice oa ops.length oc, .slice ta at'.length tc, .slice ea evs.length ec, .slice xa others.length xc, .map (some mp)], ownd oa oc 36 15 ops.length (ops.flatMap cOP), allF ops, ownd ta tc 3 1 at'.length (at'.flatMap cI), ownd ea ec 47 5 evs.length (evs.flatMap cEV), allK evs, mapR mp (bgV bg), row b4 26 z26]) (fun w1 h => Ok.unstar h) ?_
    by_cases hil : (i : Int) < ops.length
    case neg =>
      (repeat (first | ((refine (?_ : MX _ _ _ _ _ _ _ _ _ _ _)); first | refine mx_end ?_ | (refine mx_mv _ rfl rfl (by conv => {lhs; whnf}) ?_) | (first | refine mx_fa0 E rfl rfl rfl rfl ?_ | refine mx_fa E rfl rfl rfl rfl ?_) | (refine g_load rfl ?_; first | refine mx_get E rfl rfl rfl rfl rfl (by rfl) rfl ?_ | refine mx_getn E rfl rfl rfl rfl rfl (by exact vr_J _ _ _ _ _ _ ) rfl ?_ ) | (refine g_bin rfl ?_; ( (refine mx_cmpl .lss rfl rfl rfl rfl rfl (by exact cmp_lt_f (by omega) ) ?_) ) ) | (refine mx_nc rfl rfl rfl ?_) | (refine g_bi .len rfl ?_; refine mx_len E rfl rfl rfl rfl ?_) | (refine g_store rfl ?_; refine s_l E rfl rfl rfl rfl rfl rfl rfl (by exact Sp.all rfl ) rfl ?_ ) ) | refine cw_seq ?_ | refine cw_line rfl ?_ | refine cw_cond_f rfl ?_ | refine cw_skip ?_ | refine cw_ret ?_ | refine pw_then ?_ ))
      refine pw_jump_r ?_
      refine pw_retc E (j := 7) rfl rfl rfl rfl rfl rfl fun w' hw => ⟨⟨⟨prog, oa, oc, ops, ta, tc, at', ea, ec, evs⟩, ⟨i, ?_, ?_⟩⟩, rfl, hw.pick [1, 2, 3, 4, 5] (by simp) rfl⟩
      · show (ops.map _).length = i
        rw [List.length_map]
        omega
      · rw [← hv]
        exact ⟨rfl, rfl, rfl, rfl⟩
    obtain ⟨x, hx⟩ := getElem_some (xs := ops) (i := i) (by omega)
    refine cw_know (p := ∃ b, oa = some ⟨b, 0, none⟩) (fun w hw => by obtain ⟨b, e, _⟩ := (own_at (hw.holds 1 _ rfl)).2.1 (by omega); exact ⟨b, e⟩) (fun hb5 => ?_)
    obtain ⟨b5, rfl⟩ := hb5
    refine cw_ex (fun rest => [row bx 58 [.int .i64 prog, .slice (some ⟨b5, 0, none⟩) ops.length oc, .slice ta at'.length tc, .slice ea evs.length ec, .slice xa others.length xc, .map (some mp)], row b5 36 (ops.flatMap cOP ++ rest), allF ops, ownd ta tc 3 1 at'.length (at'.flatMap cI), ownd ea ec 47 5 evs.length (evs.flatMap cEV), allK evs, mapR mp (bgV bg), row b4 26 z26]) _ (fun w hw => (ok_open 1 rfl hw).imp fun rest h => ⟨h.1, h.2⟩) (fun rest he => ?_)
    obtain ⟨e1, e2, e3, e4⟩ := he
    have hvx : Vr (ops.flatMap cOP ++ rest) (0 + i * 15) 15 (cOP x) := vr_all len_OP hx rest (by omega)
    have hxv : (JS.vj ⟨prog, some ⟨b5, 0, none⟩, oc, ops, ta, tc, at', ea, ec, evs, bg⟩).ops[i]? = some x.v := by show (ops.map _)[i]? = _; rw [List.getElem?_map, hx]; rfl
    have hi1 : (i : Int) + 1 = ((i + 1 : Nat) : Int) := rfl
    by_cases hk : x.v.kind = 5
    case neg =>
      (repeat (first | ((refine (?_ : MX _ _ _ _ _ _ _ _ _ _ _)); first | refine mx_end ?_ | (refine mx_mv _ rfl rfl (by conv => {lhs; whnf}) ?_) | (refine mx_as _ rfl rfl (by conv => {lhs; whnf}) ?_) | (first | refine mx_fa0 E rfl rfl rfl rfl ?_ | refine mx_fa E rfl rfl rfl rfl ?_) | (refine g_load rfl ?_; first | refine mx_get E rfl rfl rfl rfl rfl (by rfl) rfl ?_ | refine mx_getn E rfl rfl rfl rfl rfl (by assumption ) rfl ?_ ) | (refine g_bin rfl ?_; first | (first | (refine mx_cmpl .eql rfl rfl rfl rfl rfl (by first | exact cmp_eq_t (by omega) | exact cmp_eq_f (by omega) ) ?_) | (refine mx_cmpl .lss rfl rfl rfl rfl rfl (by exact cmp_lt_t (by omega) ) ?_) ) | (refine mx_ar rfl rfl rfl rfl rfl rfl ((IntWalk.i64_in _ (by omega)).trans (by with_reducible assumption)) rfl ?_ ) ) | (refine g_ix rfl ?_; refine mx_ixsn E rfl rfl rfl rfl rfl rfl (by omega) rfl ?_ ) | (refine mx_nc rfl rfl rfl ?_) | (refine g_bi .len rfl ?_; refine mx_len E rfl rfl rfl rfl ?_) | (refine g_store rfl ?_; refine s_l E rfl rfl rfl rfl rfl rfl rfl (by exact Sp.all rfl ) rfl ?_ ) | (refine a_new rfl rfl rfl rfl rfl (fun _ => ?_)) ) | refine cw_seq ?_ | refine cw_line rfl ?_ | refine cw_cond_f rfl ?_ | refine cw_cond_t rfl ?_ | refine cw_skip ?_ | refine pw_then ?_ | refine cw_goto ?_ | refine pw_then_g ?_))
      refine pw_jump ⟨bx, mp, i + 1, ⟨prog, some ⟨b5, 0, none⟩, oc, ops, ta, tc, at', ea, ec, evs, bg⟩⟩ ⟨?_, by show i + 1 ≤ ops.length; omega⟩ ?_ ⟨rfl, rfl, rfl, trivial⟩ (fun w1 h => ?_)
      · show _ = stepV _ (runV _ _ i) i
        rw [← hv]
        unfold stepV
        rw [hxv]
        dsimp only
        rw [if_neg hk]
      · show (4 - bg.length) * 3000 + (ops.length - (i + 1)) < (4 - bg.length) * 3000 + (ops.length - i)
        omega
      · exact close_J e1 e2 e3 e4 (h.pick [1, 2, 3, 4, 5, 6, 7, 8] (by simp) rfl)
    have hkb : ∀ v ∈ evs, BytK v.v.key := fun v hv' => hI.k v.v (List.mem_map.2 ⟨v, hv', rfl⟩)
    have hel : evs.length ≤ 400 := by
      have h1 := hI.e
      have h2 := hI.b
      have h3 : (JS.vj ⟨prog, some ⟨b5, 0, none⟩, oc, ops, ta, tc, at', ea, ec, evs, bg⟩).evs.length = evs.length := List.length_map _
      omega
    obtain ⟨_, hti, hto⟩ := target_inv hI hov x.v.next
    obtain ⟨tr, htr⟩ : ∃ tr, targetV (JS.vj ⟨prog, some ⟨b5, 0, none⟩, oc, ops, ta, tc, at', ea, ec, evs, bg⟩) (others.map CD.vc) x.v.next = tr := ⟨_, rfl⟩
    obtain ⟨t, r2⟩ := tr
    rw [htr] at hti hto
    have hti : r2 = _ ∨ r2.bg.length = _ := hti
    have hto : _ ≤ r2.ops.length := hto
    (repeat (first | ((refine (?_ : MX _ _ _ _ _ _ _ _ _ _ _)); first | refine mx_end ?_ | (refine mx_mv _ rfl rfl (by conv => {lhs; whnf}) ?_) | (first | refine mx_fa0 E rfl rfl rfl rfl ?_ | refine mx_fa E rfl rfl rfl rfl ?_) | (refine g_load rfl ?_; first | refine mx_get E rfl rfl rfl rfl rfl (by rfl) rfl ?_ | refine mx_getn E rfl rfl rfl rfl rfl (by assumption ) rfl ?_ ) | (refine g_bin rfl ?_; (first | (refine mx_cmpl .eql rfl rfl rfl rfl rfl (by exact cmp_eq_t (by omega) ) ?_) | (refine mx_cmpl .lss rfl rfl rfl rfl rfl (by exact cmp_lt_t (by omega) ) ?_) ) ) | (refine g_ix rfl ?_; refine mx_ixsn E rfl rfl rfl rfl rfl rfl (by omega) rfl ?_ ) | (refine mx_nc rfl rfl rfl ?_) | (refine g_bi .len rfl ?_; refine mx_len E rfl rfl rfl rfl ?_) | (refine g_store rfl ?_; refine s_l E rfl rfl rfl rfl rfl rfl rfl (by exact Sp.all rfl ) rfl ?_ ) | (refine a_new rfl rfl rfl rfl rfl (fun _ => ?_)) ) | refine cw_seq ?_ | refine cw_line rfl ?_ | refine cw_cond_t rfl ?_ | refine pw_then ?_ ))
    refine g_cf 25 rfl ?_
    refine mx_weak (H' := [Sx.star (OJ bx mp xa others.length xc ⟨prog, some ⟨b5, 0, none⟩, oc, ops, ta, tc, at', ea, ec, evs, bg⟩), row b4 26 z26]) (fun w1 h => close_J e1 e2 e3 e4 (h.pick [1, 2, 3, 4, 5, 6, 7, 8] (by simp) rfl)) (fun _ _ => trivial) ?_
    refine a_callo rfl rfl rfl rfl Try.func25 rfl rfl rfl 0 rfl (fun s' : {s' : JS // s'.vj = r2} => .int .i64 t) (fun _ => []) (fun s' => OJ bx mp xa others.length xc s'.1) (fun w' hw h => by
      have h25 := target25 bx mp xa xc others ⟨prog, some ⟨b5, 0, none⟩, oc, ops, ta, tc, at', ea, ec, evs, bg⟩ w.heap.size x.v.next hxl (by show ops.length ≤ 2000; omega) (by show evs.length ≤ 1000; omega) hkb w' h (fun b hb => by
        by_cases hbw : b < w.heap.size
        · exact absurd ((hw.own 0 _ rfl b hb).2 hbw) (no_dom b)
        · omega) hw.keep.size (hoth.keep hw hS0) (fun o ho => ⟨(hoc o ho).1.keep hw hS0, (hoc o ho).2⟩)
      rw [htr] at h25
      exact h25) (fun _ => rfl) (fun _ _ _ => trivial) (fun s' => ?_)
    obtain ⟨⟨prog', oa', oc', ops', ta', tc', at'', ea', ec', evs', bg'⟩, hs'⟩ := s'
    have hro : r2.ops = ops'.map (·.v) := by rw [← hs']; rfl
    have hrb : r2.bg = bg' := by rw [← hs']; rfl
    have hol2 : ops.length ≤ ops'.length := by
      have h3 : (JS.vj ⟨prog, some ⟨b5, 0, none⟩, oc, ops, ta, tc, at', ea, ec, evs, bg⟩).ops.length = ops.length := List.length_map _
      rw [hro, List.length_map] at hto
      omega
    (repeat (first | ((refine (?_ : MX _ _ _ _ _ _ _ _ _ _ _)); first | refine mx_end ?_ | (refine mx_as _ rfl rfl (by conv => {lhs; whnf}) ?_) ) | refine pw_then ?_))
    refine cw_weak (H' := [row bx 58 [.int .i64 prog', .slice oa' ops'.length oc', .slice ta' at''.length tc', .slice ea' evs'.length ec', .slice xa others.length xc, .map (some mp)], ownd oa' oc' 36 15 ops'.length (ops'.flatMap cOP), allF ops', ownd ta' tc' 3 1 at''.length (at''.flatMap cI), ownd ea' ec' 47 5 evs'.length (evs'.flatMap cEV), allK evs', mapR mp (bgV bg'), row b4 26 z26]) (fun w1 h => Ok.unstar h) ?_
    obtain ⟨y, hy⟩ := getElem_some (xs := ops') (i := i) (by omega)
    refine cw_know (p := ∃ b, oa' = some ⟨b, 0, none⟩) (fun w hw => by obtain ⟨b, e, _⟩ := (own_at (hw.holds 1 _ rfl)).2.1 (by omega); exact ⟨b, e⟩) (fun hb6 => ?_)
    obtain ⟨b6, rfl⟩ := hb6
    refine cw_ex (fun rest => [row bx 58 [.int .i64 prog', .slice (some ⟨b6, 0, none⟩) ops'.length oc', .slice ta' at''.length tc', .slice ea' evs'.length ec', .slice xa others.length xc, .map (some mp)], row b6 36 (ops'.flatMap cOP ++ rest), allF ops', ownd ta' tc' 3 1 at''.length (at''.flatMap cI), ownd ea' ec' 47 5 evs'.length (evs'.flatMap cEV), allK evs', mapR mp (bgV bg'), row b4 26 z26]) _ (fun w hw => (ok_open 1 rfl hw).imp fun rest h => ⟨h.1, h.2⟩) (fun rest2 he2 => ?_)
    obtain ⟨g1, g2, g3, g4⟩ := he2
    have hsT : Sp (ops'.flatMap cOP ++ rest2) (0 + i * 15 + 10) [.int .i64 t] ((ops'.set i (y.tg t)).flatMap cOP ++ rest2) := sp_at len_OP hy (o := 10) (Sp.lit rfl rfl) rest2 (by omega)
    (repeat (first | ((refine (?_ : MX _ _ _ _ _ _ _ _ _ _ _)); first | refine mx_end ?_ | (refine mx_mv _ rfl rfl (by conv => {lhs; whnf}) ?_) | (refine mx_as _ rfl rfl (by conv => {lhs; whnf}) ?_) | (first | refine mx_fa0 E rfl rfl rfl rfl ?_ | refine mx_fa E rfl rfl rfl rfl ?_) | (refine g_load rfl ?_; refine mx_get E rfl rfl rfl rfl rfl (by rfl) rfl ?_ ) | (refine g_bin rfl ?_; (refine mx_ar rfl rfl rfl rfl rfl rfl ((IntWalk.i64_in _ (by omega)).trans (by with_reducible assumption)) rfl ?_ ) ) | (refine g_ix rfl ?_; refine mx_ixsn E rfl rfl rfl rfl rfl rfl (by omega) rfl ?_ ) | (refine mx_nc rfl rfl rfl ?_) | (refine g_store rfl ?_; refine s_1 E rfl rfl rfl rfl rfl rfl rfl rfl (by assumption ) rfl ?_) ) | refine cw_seq ?_ | refine cw_line rfl ?_ | refine pw_then ?_ | refine cw_goto ?_ | refine pw_then_g ?_))
    refine pw_jump ⟨bx, mp, i + 1, ⟨prog', some ⟨b6, 0, none⟩, oc', ops'.set i (y.tg t), ta', tc', at'', ea', ec', evs', bg'⟩⟩ ⟨?_, by show i + 1 ≤ (ops'.set i _).length; rw [List.length_set]; omega⟩ ?_ ⟨rfl, rfl, rfl, trivial⟩ (fun w1 h => ?_)
    · show _ = stepV _ (runV _ _ i) i
      rw [← hv]
      unfold stepV
      rw [hxv]
      dsimp only
      rw [if_pos hk, htr]
      dsimp only
      rw [hro, setT_map hy, ← hs']
      rfl
    · show (4 - bg'.length) * 3000 + ((ops'.set i (y.tg t)).length - (i + 1)) < (4 - bg.length) * 3000 + (ops.length - i)
      rw [List.length_set]
      have h5 : ops'.length ≤ 1024 := by
        have h6 := (target_inv hI hov x.v.next).1
        rw [htr] at h6
        have h7 : r2.ops.length ≤ 1024 := h6.o
        rw [hro, List.length_map] at h7
        exact h7
      have h6 := (target_inv hI hov x.v.next).1.b
      rw [htr] at h6
      have h6 : 1 ≤ r2.bg.length ∧ r2.bg.length ≤ 4 := h6
      rw [hrb] at h6
      rcases hti with h7 | h7
      · have h8 : ops'.length = ops.length := by
          have := congrArg (fun v : VJ => v.ops.length) h7
          have this : r2.ops.length = _ := this
          rw [hro, List.length_map] at this
          rw [this]
          exact List.length_map _
        have h9 : bg'.length = bg.length := by
          have := congrArg (fun v : VJ => v.bg.length) h7
          have this : r2.bg.length = bg.length := this
          rw [hrb] at this
          exact this
        omega
      · have h9 : bg'.length = bg.length + 1 := by rw [hrb] at h7; exact h7
        omega
    · have e5 : (ops'.set i (y.tg t)).length = ops'.length := List.length_set
      have e6 : ((ops'.set i (y.tg t)).flatMap cOP).length = (ops'.set i (y.tg t)).length * 15 := flatMap_len len_OP _
      refine close_J (rest := rest2) e6 (by rw [← g2, List.length_append, List.length_append, e6, g1, e5]) (by rw [e5]; exact g3) g4 ?_
      rw [e5, allF_set (m' := y.tg t) hy rfl]
      exact h
  · intro hX
    have hatl : ¬ (c.at'.length : Int) = 0 := by rw [hat]; simp; omega
    (repeat ( refine cw_seq ?_ ))
    refine cw_mid' (ι := (Nat × Nat) × Option Addr × Nat) (fun z => [(5, .pointer (some ⟨z.1.1, 0, none⟩)), (2, .pointer (some ⟨b2, 0, none⟩)), (4, .pointer (some ⟨b4, 0, none⟩))]) (fun z => [Sx.star (OJ z.1.1 z.1.2 xa others.length xc ⟨c.prog, none, 0, [], z.2.1, z.2.2, c.at', none, 0, [], []⟩), row b4 26 z26, row b2 26 (cCD c)]) (fun _ => True) ?_ ?_
    · refine cw_blk [0, 1, 2, 3, 6] [(4, [5]), (7, [])] [8, 9, 10] (fun i => or (Nat.beq i 4) (or (Nat.beq i 7) (Nat.beq i 9))) [row b2 26 (cCD c)] mixed (by kernel_rfl) (fun w h => h.only 1 rfl) ?_
      (repeat (((refine (?_ : MX _ _ _ _ _ _ _ _ _ _ _)); first | (refine mx_mv _ rfl rfl (by conv => {lhs; whnf}) ?_) | (first | refine mx_fa0 E rfl rfl rfl rfl ?_ | refine mx_fa E rfl rfl rfl rfl ?_) | (refine g_load rfl ?_; refine mx_get E rfl rfl rfl rfl rfl (by rfl) rfl ?_ ) ) ))
      refine mx_blk2 ?_ ?_
      · refine g_cf 23 rfl ?_; refine a_cn1 rfl rfl rfl rfl Try.func23 rfl rfl rfl (fun a : Option Addr × Nat => .slice a.1 c.at'.length a.2) (fun a => ownd a.1 a.2 3 1 c.at'.length (c.at'.flatMap cI)) (fun w' hw => clone23 c.ta c.tc c.at' (by omega) w' (hr.t.keep hw hS0).1) (fun _ => rfl) (fun a w h => by exact h.only 2 rfl ) (fun a => ?_); obtain ⟨ta', tc'⟩ := a; dsimp only
        (repeat (((refine (?_ : MX _ _ _ _ _ _ _ _ _ _ _)); (refine g_build rfl ?_; refine mx_build rfl rfl rfl rfl (b26 _ _ _ _) rfl ?_ ) ) ))
        refine mx_blk1 ?_
        refine a_mmap rfl rfl rfl rfl rfl (fun mp => ?_)
        (repeat (first | ((refine (?_ : MX _ _ _ _ _ _ _ _ _ _ _)); first | refine mx_end ?_ | (refine mx_mv _ rfl rfl (by conv => {lhs; whnf}) ?_) | (refine mx_as _ rfl rfl (by conv => {lhs; whnf}) ?_) | (first | refine mx_fa0 E rfl rfl rfl rfl ?_ | refine mx_fa E rfl rfl rfl rfl ?_) | (refine g_load rfl ?_; first | refine mx_get E rfl rfl rfl rfl rfl (by first | assumption | rfl) rfl ?_ | refine mx_getn E rfl rfl rfl rfl rfl (by first | assumption | exact vr_J _ _ _ _ _ _ | exact Vr.all rfl | exact ⟨⟨rfl⟩, rfl⟩) rfl ?_ | refine mx_oldn E rfl rfl rfl rfl rfl (by assumption) (by assumption) (rfl) rfl ?_ | refine mx_old1 E rfl rfl rfl rfl rfl (by assumption) (by assumption) rfl ?_ | refine mx_orow E rfl rfl rfl rfl rfl (by assumption) (by assumption) (by first | assumption | rfl) rfl ?_ | refine mx_orown E rfl rfl rfl rfl rfl (by assumption) (by assumption) (by first | assumption | exact vr_J _ _ _ _ _ _ | exact Vr.all rfl | exact ⟨⟨rfl⟩, rfl⟩) rfl ?_ | refine mx_geta E rfl rfl rfl rfl rfl rfl (by first | assumption | rfl) rfl ?_ | refine mx_getna E rfl rfl rfl rfl rfl rfl (by first | assumption | exact vr_J _ _ _ _ _ _ | exact Vr.all rfl | exact ⟨⟨rfl⟩, rfl⟩) rfl ?_) | (refine g_bin rfl ?_; first | (first | (refine mx_cmpl .eql rfl rfl rfl rfl rfl (by first | exact cmp_eq_t (by omega) | exact cmp_eq_f (by omega) | rfl) ?_) | (refine mx_cmpl .neq rfl rfl rfl rfl rfl (by first | exact cmp_ne_t (by omega) | exact cmp_ne_f (by omega) | rfl) ?_) | (refine mx_cmpl .lss rfl rfl rfl rfl rfl (by first | exact cmp_lt_t (by omega) | exact cmp_lt_f (by omega) | rfl) ?_) | (refine mx_cmpl .leq rfl rfl rfl rfl rfl (by first | exact cmp_le_t (by omega) | exact cmp_le_f (by omega) | rfl) ?_) | (refine mx_cmpl .gtr rfl rfl rfl rfl rfl (by first | exact cmp_gt_t (by omega) | exact cmp_gt_f (by omega) | rfl) ?_) | (refine mx_cmpl .geq rfl rfl rfl rfl rfl (by first | exact cmp_ge_t (by omega) | exact cmp_ge_f (by omega) | rfl) ?_)) | (first | refine mx_ar rfl rfl rfl rfl rfl rfl ((IntWalk.i64_in _ (by omega)).trans (by with_reducible assumption)) rfl ?_ | refine mx_ar rfl rfl rfl rfl rfl rfl (IntWalk.i64_in _ (by omega)) rfl ?_ | refine mx_ar rfl rfl rfl rfl rfl rfl (by with_reducible assumption) rfl ?_) | (first | refine mx_eqs rfl rfl rfl rfl rfl rfl ?_ | refine mx_nes rfl rfl rfl rfl rfl rfl ?_ | refine mx_eq rfl rfl rfl rfl rfl rfl ?_ | refine mx_ne rfl rfl rfl rfl rfl rfl ?_) | refine mx_bsame E rfl rfl rfl rfl rfl rfl rfl ?_ | refine mx_bnsame E rfl rfl rfl rfl rfl rfl rfl ?_ | refine mx_beq E rfl rfl rfl rfl rfl rfl rfl ?_ | refine mx_bne E rfl rfl rfl rfl rfl rfl rfl ?_ | refine mx_dv rfl rfl rfl rfl rfl (by decide) (congrArg some (by assumption)) rfl rfl ?_ | refine mx_dv rfl rfl rfl rfl rfl (by decide) rfl rfl rfl ?_ | refine mx_bit rfl rfl rfl rfl rfl (congrArg some (by assumption)) rfl rfl ?_ | refine mx_bit rfl rfl rfl rfl rfl rfl rfl rfl ?_ | refine mx_sh rfl rfl rfl rfl rfl (by omega) (congrArg some (by assumption)) rfl rfl ?_ | refine mx_sh rfl rfl rfl rfl rfl (by omega) rfl rfl rfl ?_) | (refine g_ix rfl ?_; first | refine mx_ixan E rfl rfl rfl rfl rfl rfl (by omega) rfl ?_ | refine mx_ixsn E rfl rfl rfl rfl rfl rfl (by omega) rfl ?_ | refine mx_ixsi E rfl rfl rfl rfl rfl rfl (by omega) (by omega) rfl ?_ | refine mx_ixa E rfl rfl rfl rfl rfl rfl (by omega) (by omega) rfl rfl ?_) | (refine mx_nc rfl rfl rfl ?_) | (refine g_bi .len rfl ?_; refine mx_len E rfl rfl rfl rfl ?_) | (refine mx_not rfl rfl rfl ?_) | (refine mx_ex _ rfl rfl rfl (by conv => {lhs; whnf}) ?_) | (refine mx_skip rfl rfl rfl ?_) | (refine g_pick rfl ?_; first | refine mx_andf rfl rfl rfl rfl rfl ?_ | refine mx_ort rfl rfl rfl rfl rfl ?_ | refine mx_and rfl rfl rfl rfl rfl rfl ?_ | refine mx_or rfl rfl rfl rfl rfl rfl ?_ | refine mx_pickt _ rfl rfl rfl rfl (by conv => {lhs; whnf}) rfl ?_ | refine mx_pickf _ rfl rfl rfl rfl (by conv => {lhs; whnf}) rfl ?_) | (refine g_store rfl ?_; first | refine s_l E rfl rfl rfl rfl rfl rfl rfl (by first | assumption | exact Sp.all rfl | exact Sp.lit rfl rfl) rfl ?_ | refine s_1 E rfl rfl rfl rfl rfl rfl rfl rfl (by first | assumption | exact sp0 | exact spS sp0 | exact spS (spS sp0) | exact Sp.lit rfl rfl) rfl ?_) | (refine g_build rfl ?_; first | refine mx_build rfl rfl rfl rfl (b26 _ _ _ _) rfl ?_ | refine mx_build rfl rfl rfl rfl (b58 _ _ _ _ _ _ _ _) rfl ?_) | (refine a_new rfl rfl rfl rfl rfl (fun _ => ?_)) | (refine g_box rfl ?_; first | refine a_boxl rfl rfl rfl rfl rfl rfl (fun _ => ?_) | refine a_box1 rfl rfl rfl rfl rfl rfl rfl (fun _ => ?_)) | (first | refine mx_indexn E rfl rfl rfl rfl rfl rfl rfl rfl (by omega) (by first | exact vr_RR _ (by omega)) rfl ?_ | refine mx_index E rfl rfl rfl rfl rfl rfl rfl rfl (by omega) (by omega) (by first | exact vr_RR _ (by omega)) rfl ?_) | (refine g_bs rfl ?_; first | refine a_bs0 E rfl rfl rfl rfl rfl rfl (fun _ => ?_) | refine a_bsi E rfl rfl rfl rfl rfl (by (repeat (first | exact EvI.nil | (apply EvI.cons; rfl)))) (by rfl) (by rfl) (by rfl) rfl (fun _ => ?_)) | (refine g_conv rfl ?_; first | refine mx_cv E rfl rfl rfl rfl rfl rfl (by assumption) rfl ?_ | refine mx_cv E rfl rfl rfl rfl rfl rfl (IntWalk.i64_in _ (by omega)) rfl ?_ | refine mx_cv E rfl rfl rfl rfl rfl rfl (IntWalk.u64_in _ (by omega)) rfl ?_ | refine mx_cv E rfl rfl rfl rfl rfl rfl (IntWalk.u8_in _ (by omega)) rfl ?_ | refine mx_cv E rfl rfl rfl rfl rfl rfl rfl rfl ?_) | (first | (refine g_bi .max rfl ?_; refine mx_maxi rfl rfl rfl rfl rfl rfl rfl ?_) | (refine g_bi .min rfl ?_; refine mx_mini rfl rfl rfl rfl rfl rfl rfl ?_)) | (first | refine mx_look mt56 rfl rfl rfl rfl rfl (by with_reducible assumption) rfl ?_ | refine mx_look1 mt56 rfl rfl rfl rfl rfl (by with_reducible assumption) rfl ?_ | (refine g_bi .len rfl ?_; refine mx_mlen mt56 rfl rfl rfl rfl rfl ?_) | refine mx_streq rfl rfl rfl rfl rfl rfl ?_ | refine mx_fn rfl rfl rfl rfl rfl rfl ?_) | (fail)) | refine pw_then ?_))
        refine mx_blk0 ?_
        (repeat (((refine (?_ : MX _ _ _ _ _ _ _ _ _ _ _)); first | refine mx_end ?_ | (refine mx_as _ rfl rfl (by conv => {lhs; whnf}) ?_) | (refine g_build rfl ?_; refine mx_build rfl rfl rfl rfl (b58 _ _ _ _ _ _ _ _) rfl ?_) | (refine g_box rfl ?_; refine a_boxl rfl rfl rfl rfl rfl rfl (fun _ => ?_) ) ) ))
        rename_i bx
        exact pw_mid ((bx, mp), ta', tc') trivial ⟨rfl, rfl, rfl, trivial⟩ (fun w1 h => start_J (h.pick [0, 2, 1, 3, 4] (by simp) rfl))
      · refine a_mmap rfl rfl rfl rfl rfl (fun mp => ?_)
        (repeat (first | ((refine (?_ : MX _ _ _ _ _ _ _ _ _ _ _)); first | refine mx_end ?_ | (refine mx_mv _ rfl rfl (by conv => {lhs; whnf}) ?_) | (refine mx_as _ rfl rfl (by conv => {lhs; whnf}) ?_) | (first | refine mx_fa0 E rfl rfl rfl rfl ?_ | refine mx_fa E rfl rfl rfl rfl ?_) | (refine g_load rfl ?_; first | refine mx_get E rfl rfl rfl rfl rfl (by first | assumption | rfl) rfl ?_ | refine mx_getn E rfl rfl rfl rfl rfl (by first | assumption | exact vr_J _ _ _ _ _ _ | exact Vr.all rfl | exact ⟨⟨rfl⟩, rfl⟩) rfl ?_ | refine mx_oldn E rfl rfl rfl rfl rfl (by assumption) (by assumption) (rfl) rfl ?_ | refine mx_old1 E rfl rfl rfl rfl rfl (by assumption) (by assumption) rfl ?_ | refine mx_orow E rfl rfl rfl rfl rfl (by assumption) (by assumption) (by first | assumption | rfl) rfl ?_ | refine mx_orown E rfl rfl rfl rfl rfl (by assumption) (by assumption) (by first | assumption | exact vr_J _ _ _ _ _ _ | exact Vr.all rfl | exact ⟨⟨rfl⟩, rfl⟩) rfl ?_ | refine mx_geta E rfl rfl rfl rfl rfl rfl (by first | assumption | rfl) rfl ?_ | refine mx_getna E rfl rfl rfl rfl rfl rfl (by first | assumption | exact vr_J _ _ _ _ _ _ | exact Vr.all rfl | exact ⟨⟨rfl⟩, rfl⟩) rfl ?_) | (refine g_bin rfl ?_; first | (first | (refine mx_cmpl .eql rfl rfl rfl rfl rfl (by first | exact cmp_eq_t (by omega) | exact cmp_eq_f (by omega) | rfl) ?_) | (refine mx_cmpl .neq rfl rfl rfl rfl rfl (by first | exact cmp_ne_t (by omega) | exact cmp_ne_f (by omega) | rfl) ?_) | (refine mx_cmpl .lss rfl rfl rfl rfl rfl (by first | exact cmp_lt_t (by omega) | exact cmp_lt_f (by omega) | rfl) ?_) | (refine mx_cmpl .leq rfl rfl rfl rfl rfl (by first | exact cmp_le_t (by omega) | exact cmp_le_f (by omega) | rfl) ?_) | (refine mx_cmpl .gtr rfl rfl rfl rfl rfl (by first | exact cmp_gt_t (by omega) | exact cmp_gt_f (by omega) | rfl) ?_) | (refine mx_cmpl .geq rfl rfl rfl rfl rfl (by first | exact cmp_ge_t (by omega) | exact cmp_ge_f (by omega) | rfl) ?_)) | (first | refine mx_ar rfl rfl rfl rfl rfl rfl ((IntWalk.i64_in _ (by omega)).trans (by with_reducible assumption)) rfl ?_ | refine mx_ar rfl rfl rfl rfl rfl rfl (IntWalk.i64_in _ (by omega)) rfl ?_ | refine mx_ar rfl rfl rfl rfl rfl rfl (by with_reducible assumption) rfl ?_) | (first | refine mx_eqs rfl rfl rfl rfl rfl rfl ?_ | refine mx_nes rfl rfl rfl rfl rfl rfl ?_ | refine mx_eq rfl rfl rfl rfl rfl rfl ?_ | refine mx_ne rfl rfl rfl rfl rfl rfl ?_) | refine mx_bsame E rfl rfl rfl rfl rfl rfl rfl ?_ | refine mx_bnsame E rfl rfl rfl rfl rfl rfl rfl ?_ | refine mx_beq E rfl rfl rfl rfl rfl rfl rfl ?_ | refine mx_bne E rfl rfl rfl rfl rfl rfl rfl ?_ | refine mx_dv rfl rfl rfl rfl rfl (by decide) (congrArg some (by assumption)) rfl rfl ?_ | refine mx_dv rfl rfl rfl rfl rfl (by decide) rfl rfl rfl ?_ | refine mx_bit rfl rfl rfl rfl rfl (congrArg some (by assumption)) rfl rfl ?_ | refine mx_bit rfl rfl rfl rfl rfl rfl rfl rfl ?_ | refine mx_sh rfl rfl rfl rfl rfl (by omega) (congrArg some (by assumption)) rfl rfl ?_ | refine mx_sh rfl rfl rfl rfl rfl (by omega) rfl rfl rfl ?_) | (refine g_ix rfl ?_; first | refine mx_ixan E rfl rfl rfl rfl rfl rfl (by omega) rfl ?_ | refine mx_ixsn E rfl rfl rfl rfl rfl rfl (by omega) rfl ?_ | refine mx_ixsi E rfl rfl rfl rfl rfl rfl (by omega) (by omega) rfl ?_ | refine mx_ixa E rfl rfl rfl rfl rfl rfl (by omega) (by omega) rfl rfl ?_) | (refine mx_nc rfl rfl rfl ?_) | (refine g_bi .len rfl ?_; refine mx_len E rfl rfl rfl rfl ?_) | (refine mx_not rfl rfl rfl ?_) | (refine mx_ex _ rfl rfl rfl (by conv => {lhs; whnf}) ?_) | (refine mx_skip rfl rfl rfl ?_) | (refine g_pick rfl ?_; first | refine mx_andf rfl rfl rfl rfl rfl ?_ | refine mx_ort rfl rfl rfl rfl rfl ?_ | refine mx_and rfl rfl rfl rfl rfl rfl ?_ | refine mx_or rfl rfl rfl rfl rfl rfl ?_ | refine mx_pickt _ rfl rfl rfl rfl (by conv => {lhs; whnf}) rfl ?_ | refine mx_pickf _ rfl rfl rfl rfl (by conv => {lhs; whnf}) rfl ?_) | (refine g_store rfl ?_; first | refine s_l E rfl rfl rfl rfl rfl rfl rfl (by first | assumption | exact Sp.all rfl | exact Sp.lit rfl rfl) rfl ?_ | refine s_1 E rfl rfl rfl rfl rfl rfl rfl rfl (by first | assumption | exact sp0 | exact spS sp0 | exact spS (spS sp0) | exact Sp.lit rfl rfl) rfl ?_) | (refine g_build rfl ?_; first | refine mx_build rfl rfl rfl rfl (b26 _ _ _ _) rfl ?_ | refine mx_build rfl rfl rfl rfl (b58 _ _ _ _ _ _ _ _) rfl ?_) | (refine a_new rfl rfl rfl rfl rfl (fun _ => ?_)) | (refine g_box rfl ?_; first | refine a_boxl rfl rfl rfl rfl rfl rfl (fun _ => ?_) | refine a_box1 rfl rfl rfl rfl rfl rfl rfl (fun _ => ?_)) | (first | refine mx_indexn E rfl rfl rfl rfl rfl rfl rfl rfl (by omega) (by first | exact vr_RR _ (by omega)) rfl ?_ | refine mx_index E rfl rfl rfl rfl rfl rfl rfl rfl (by omega) (by omega) (by first | exact vr_RR _ (by omega)) rfl ?_) | (refine g_bs rfl ?_; first | refine a_bs0 E rfl rfl rfl rfl rfl rfl (fun _ => ?_) | refine a_bsi E rfl rfl rfl rfl rfl (by (repeat (first | exact EvI.nil | (apply EvI.cons; rfl)))) (by rfl) (by rfl) (by rfl) rfl (fun _ => ?_)) | (refine g_conv rfl ?_; first | refine mx_cv E rfl rfl rfl rfl rfl rfl (by assumption) rfl ?_ | refine mx_cv E rfl rfl rfl rfl rfl rfl (IntWalk.i64_in _ (by omega)) rfl ?_ | refine mx_cv E rfl rfl rfl rfl rfl rfl (IntWalk.u64_in _ (by omega)) rfl ?_ | refine mx_cv E rfl rfl rfl rfl rfl rfl (IntWalk.u8_in _ (by omega)) rfl ?_ | refine mx_cv E rfl rfl rfl rfl rfl rfl rfl rfl ?_) | (first | (refine g_bi .max rfl ?_; refine mx_maxi rfl rfl rfl rfl rfl rfl rfl ?_) | (refine g_bi .min rfl ?_; refine mx_mini rfl rfl rfl rfl rfl rfl rfl ?_)) | (first | refine mx_look mt56 rfl rfl rfl rfl rfl (by with_reducible assumption) rfl ?_ | refine mx_look1 mt56 rfl rfl rfl rfl rfl (by with_reducible assumption) rfl ?_ | (refine g_bi .len rfl ?_; refine mx_mlen mt56 rfl rfl rfl rfl rfl ?_) | refine mx_streq rfl rfl rfl rfl rfl rfl ?_ | refine mx_fn rfl rfl rfl rfl rfl rfl ?_) | (fail)) | refine pw_then ?_))
        refine mx_blk1 ?_
        refine g_cf 23 rfl ?_; refine a_cn1 rfl rfl rfl rfl Try.func23 rfl rfl rfl (fun a : Option Addr × Nat => .slice a.1 c.at'.length a.2) (fun a => ownd a.1 a.2 3 1 c.at'.length (c.at'.flatMap cI)) (fun w' hw => clone23 c.ta c.tc c.at' (by omega) w' (hr.t.keep hw hS0).1) (fun _ => rfl) (fun a w h => by exact h.only 3 rfl) (fun a => ?_); obtain ⟨ta', tc'⟩ := a; dsimp only
        (repeat (((refine (?_ : MX _ _ _ _ _ _ _ _ _ _ _)); (refine g_build rfl ?_; refine mx_build rfl rfl rfl rfl (b26 _ _ _ _) rfl ?_ ) ) ))
        refine mx_blk0 ?_
        (repeat (((refine (?_ : MX _ _ _ _ _ _ _ _ _ _ _)); first | refine mx_end ?_ | (refine mx_as _ rfl rfl (by conv => {lhs; whnf}) ?_) | (refine g_build rfl ?_; refine mx_build rfl rfl rfl rfl (b58 _ _ _ _ _ _ _ _) rfl ?_) | (refine g_box rfl ?_; refine a_boxl rfl rfl rfl rfl rfl rfl (fun _ => ?_) ) ) ))
        rename_i bx
        exact pw_mid ((bx, mp), ta', tc') trivial ⟨rfl, rfl, rfl, trivial⟩ (fun w1 h => start_J (h.pick [0, 1, 2, 3, 4] (by simp) rfl))
    rintro ⟨⟨bx, mp⟩, ⟨ta', tc'⟩⟩ jk -
    dsimp only
    (repeat (first | ((refine (?_ : MX _ _ _ _ _ _ _ _ _ _ _)); first | refine mx_end ?_ | (refine mx_mv _ rfl rfl (by conv => {lhs; whnf}) ?_) | ( refine mx_fa E rfl rfl rfl rfl ?_) | (refine g_load rfl ?_; first | refine mx_get E rfl rfl rfl rfl rfl (by rfl) rfl ?_ | refine mx_getn E rfl rfl rfl rfl rfl (by exact Vr.all rfl ) rfl ?_ ) | (refine g_bin rfl ?_; ((refine mx_cmpl .eql rfl rfl rfl rfl rfl (by exact cmp_eq_f (by omega) ) ?_) ) ) | (refine g_bi .len rfl ?_; refine mx_len E rfl rfl rfl rfl ?_) ) | refine cw_seq ?_ | refine cw_line rfl ?_ | refine cw_cond_f rfl ?_ | refine cw_skip ?_ | refine pw_then ?_ ))
    refine g_cf 24 rfl ?_
    refine a_callo rfl rfl rfl rfl Try.func24 rfl rfl rfl 0 rfl (fun s' : {s' : JS // s'.vj = layV (JS.vj ⟨c.prog, none, 0, [], ta', tc', c.at', none, 0, [], []⟩) c.vc} => .tuple #[]) (fun _ => []) (fun s' => OJ bx mp xa others.length xc s'.1) (fun w' hw h => lay24 bx mp xa others.length xc ⟨c.prog, none, 0, [], ta', tc', c.at', none, 0, [], []⟩ w.heap.size c hc (Nat.zero_le _) (Nat.zero_le _) (fun v hv => by cases hv) rfl w' h (fun b hb => by
      by_cases hbw : b < w.heap.size
      · exact absurd ((hw.own 0 _ rfl b hb).2 hbw) (no_dom b)
      · omega) hw.keep.size (hr.keep hw hS0)) (fun _ => rfl) (fun _ _ _ => trivial) (fun s' => ?_)
    obtain ⟨s', hs'⟩ := s'
    (repeat (first | ((refine (?_ : MX _ _ _ _ _ _ _ _ _ _ _)); first | refine mx_end ?_ | (refine mx_as _ rfl rfl (by conv => {lhs; whnf}) ?_) ) | refine cw_seq ?_ | refine cw_line rfl ?_ | refine pw_then ?_ ))
    refine cw_label ?_
    refine pw_then ?_
    refine cw_live [(6, .int .i64 0), (5, .pointer (some ⟨bx, 0, none⟩)), (4, .pointer (some ⟨b4, 0, none⟩))] ⟨rfl, rfl, rfl, trivial⟩ (fun jk2 => ?_)
    refine cw_weak (H' := [Sx.star (OJ bx mp xa others.length xc s'), row b4 26 z26]) (fun w1 h => h.pick [0, 1] (by simp) rfl) ?_
    exact hX ⟨bx, mp, 0, s'⟩ jk2 ⟨hs', Nat.zero_le _⟩
end Go.Proofs.Ytdkolggmabnifaa
