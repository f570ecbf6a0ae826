/- The walk of InlineJoins. -/
import Derived.Test.YtdkolggmabnifaaIv
set_option maxRecDepth 100000
set_option maxHeartbeats 8000000
set_option linter.unusedSimpArgs false
set_option linter.unusedVariables false
namespace Go.Proofs.Ytdkolggmabnifaa
open Go Go.Sx Go.RowKit

theorem isJ_uniq {others : List VC} {c a b : VC} (h : IsJ others c a) (g : IsJ others c b) : a = b := by
  obtain ⟨k, h1, h2, h3, h4, h5⟩ := h.ex
  obtain ⟨p1, p2, p3, p4⟩ := isJ_eq g (k := k) (by rw [h3, h1])
  obtain ⟨ap, ao, at', ae⟩ := a
  obtain ⟨bp, bo, bt, be⟩ := b
  dsimp only at *
  rw [← h2, ← h3, ← h4, ← h5, p1, p2, p3, p4]
structure Bd (a : CD) : Prop where
  ol : a.ops.length ≤ 2000
  tl : a.at'.length ≤ 1000
  el : a.evs.length ≤ 1000
  os : ∀ o ∈ a.ops, o.v.held.length ≤ 20 ∧ o.v.need.length ≤ 20
  es : ∀ e ∈ a.evs, BytK e.v.key ∧ e.v.key.length ≤ 1000
theorem vc_len {a c : CD} (h : a.vc = c.vc) : a.ops.length = c.ops.length ∧ a.at' = c.at' ∧ a.evs.length = c.evs.length := by
  have h1 : a.ops.map (·.v) = c.ops.map (·.v) := congrArg VC.ops h
  have h2 : a.evs.map (·.v) = c.evs.map (·.v) := congrArg VC.evs h
  exact ⟨by simpa using congrArg List.length h1, congrArg VC.at' h, by simpa using congrArg List.length h2⟩
theorem vc_op {a c : CD} (h : a.vc = c.vc) {o : OP} (ho : o ∈ a.ops) : ∃ o' ∈ c.ops, o'.v = o.v := by
  have h1 : a.ops.map (·.v) = c.ops.map (·.v) := congrArg VC.ops h
  have h2 : o.v ∈ a.ops.map (·.v) := List.mem_map.2 ⟨o, ho, rfl⟩
  rw [h1] at h2
  exact List.mem_map.1 h2
theorem vc_ev {a c : CD} (h : a.vc = c.vc) {o : EV} (ho : o ∈ a.evs) : ∃ o' ∈ c.evs, o'.v = o.v := by
  have h1 : a.evs.map (·.v) = c.evs.map (·.v) := congrArg VC.evs h
  have h2 : o.v ∈ a.evs.map (·.v) := List.mem_map.2 ⟨o, ho, rfl⟩
  rw [h1] at h2
  exact List.mem_map.1 h2
theorem Bd.congr {a c : CD} (h : a.vc = c.vc) (b : Bd c) : Bd a := by
  obtain ⟨h1, h2, h3⟩ := vc_len h
  refine ⟨by rw [h1]; exact b.ol, by rw [h2]; exact b.tl, by rw [h3]; exact b.el, fun o ho => ?_, fun e he => ?_⟩
  · obtain ⟨o', ho', e⟩ := vc_op h ho
    rw [← e]; exact b.os o' ho'
  · obtain ⟨o', ho', e'⟩ := vc_ev h he
    rw [← e']; exact b.es o' ho'
theorem Rt.congr {a c : CD} (h : a.vc = c.vc) (r : Rt c) : Rt a := by
  obtain ⟨h1, h2, h3⟩ := vc_len h
  refine ⟨by rw [h1]; exact r.ol, by rw [h2]; exact r.tl, by rw [h3]; exact r.el, by rw [h2, h1]; exact r.a0, fun o ho => ?_, fun e he => ?_⟩
  · obtain ⟨o', ho', e⟩ := vc_op h ho
    rw [← e, h1]; exact r.os o' ho'
  · obtain ⟨o', ho', e'⟩ := vc_ev h he
    rw [← e']; exact r.ks o' ho'
theorem Rt.bd {w : World} {c : CD} (r : Rt c) (h : CdP w c) : Bd c := ⟨by have := r.ol; omega, by have := r.tl; omega, by have := r.el; omega, fun o ho => (r.os o ho).2.2, fun e he => ⟨(h.es e he).2.2, by have := r.ks e he; omega⟩⟩
theorem bd_join {c a : CD} {l : List CD} (hc : Rt c) (hl : ∀ x ∈ l, Rt x) (kc : OkV c.vc) (kl : ∀ x ∈ l, OkV x.vc) (h : IsJ (l.map CD.vc) c.vc a.vc) : Bd a := by
  have hA := ja_of hc hl kc kl h
  have hE := je_of hc hl kc kl h
  refine ⟨by have := hA.l2; omega, by rw [hE.at0]; have := hc.tl; omega, by have := hE.el; omega, hA.hh, hE.ks⟩
theorem rdC_star {w : World} {a : CD} (h : (Sx.star (OCd a)).holds w) (b : Bd a) : RdC w.heap.size w a := rdC_own (star_holds h (by simp [OCd])) (star_holds h (by simp [OCd])) (star_holds h (by simp [OCd])) (star_holds h (by simp [OCd])) (star_holds h (by simp [OCd])) b.os b.es
/-- The memory of several forms. -/
def allC (l : List CD) : Res := Sx.star (l.flatMap OCd)
theorem allC_nil {S : Nat → Prop} {w0 w : World} {H : List Res} (h : Ok S w0 H w) : Ok S w0 (allC [] :: H) w := Ok.star (L := []) h
theorem allC_snoc {S : Nat → Prop} {w0 w : World} {H : List Res} {l : List CD} {x : CD} (h : Ok S w0 (OCd x ++ (allC l :: H)) w) : Ok S w0 (allC (l ++ [x]) :: H) w := by
  have h1 : Ok S w0 (allC l :: (OCd x ++ H)) w := h.perm List.perm_middle
  have h2 : Ok S w0 (l.flatMap OCd ++ (OCd x ++ H)) w := Ok.unstar h1
  have e : (l ++ [x]).flatMap OCd ++ H = l.flatMap OCd ++ (OCd x ++ H) := by simp
  rw [← e] at h2
  exact Ok.star h2
theorem rdC_all {w : World} {l : List CD} (h : (allC l).holds w) {a : CD} (ha : a ∈ l) (b : Bd a) : RdC w.heap.size w a := by
  have m : ∀ r ∈ OCd a, r ∈ l.flatMap OCd := fun r hr => List.mem_flatMap.2 ⟨a, ha, hr⟩
  exact rdC_own (star_holds h (m _ (by simp [OCd]))) (star_holds h (m _ (by simp [OCd]))) (star_holds h (m _ (by simp [OCd]))) (star_holds h (m _ (by simp [OCd]))) (star_holds h (m _ (by simp [OCd]))) b.os b.es
theorem Bd.okv {a : CD} (b : Bd a) (r : Rt a) : OkV a.vc := ⟨by show (a.ops.map _).length ≤ 400; rw [List.length_map]; exact r.ol, by show (a.evs.map _).length ≤ 100; rw [List.length_map]; have := r.el; omega, fun v hv => by
  obtain ⟨e, he, rfl⟩ := List.mem_map.1 hv
  exact (b.es e he).1⟩
theorem joins20 (c : CD) (xa : Option Addr) (xc : Nat) (l : List CD) (hcap : l.length ≤ xc ∧ xc ≤ maxLen) (w : World) (hc : CdP w c) (hl : InL w xa 4 cCD l) (hp : ∀ x ∈ l, CdP w x) : Calls Try.prog 20 #[.agg (cCD c).toArray, .slice xa l.length xc] w fun e w' => e = .returned (.bool true) ∧ Grow w w' := by
  refine enter2 (S := fun _ => False) 83 Try.func20 rfl rfl rfl (Ok.start w) ?_
  have hS0 : ∀ b, (fun _ : Nat => False) b → w.heap.size ≤ b := fun b hb => hb.elim
  (repeat (first | ((refine (?_ : MX _ _ _ _ _ _ _ _ _ _ _)); first | refine mx_end ?_ | (refine mx_as _ rfl rfl (by conv => {lhs; whnf}) ?_) | (refine g_load rfl ?_; refine mx_getn E rfl rfl rfl rfl rfl (by exact Vr.all rfl ) rfl ?_ ) | (refine g_box rfl ?_; refine a_boxl rfl rfl rfl rfl rfl rfl (fun _ => ?_) ) ) | refine cw_seq ?_ | refine cw_line rfl ?_ | refine pw_then ?_ ))
  rename_i b1
  refine g_cf 7 rfl ?_
  refine a_callL rfl rfl rfl rfl Try.func7 rfl rfl rfl [] _ rfl (fun b : {B : Bool // B = true → Rt c} => .bool b.1) (fun _ => []) (fun w' hw _ => (right7 c hc.sz w' (hc.o.keep hw fun _ _ _ h => h) (hc.t.keep hw fun _ _ _ h => h) (hc.e.keep hw fun _ _ _ h => h)).mono fun e w'' ⟨b, h1, h2⟩ => ⟨b, h1, (Ok.start w').grow h2⟩) (fun _ => rfl) (fun _ _ _ => trivial) (fun b => ?_)
  obtain ⟨b, hb⟩ := b
  dsimp only [List.nil_append]
  cases b with
  | false =>
    ((repeat (first | ((refine (?_ : MX _ _ _ _ _ _ _ _ _ _ _)); first | refine mx_end ?_ | (refine mx_mv _ rfl rfl (by conv => {lhs; whnf}) ?_) | (refine mx_not rfl rfl rfl ?_) | (refine mx_skip rfl rfl rfl ?_) | (refine g_pick rfl ?_; refine mx_ort rfl rfl rfl rfl rfl ?_ ) ) | refine cw_seq ?_ | refine cw_line rfl ?_ | refine cw_cond_t rfl ?_ | refine pw_then ?_ ))); refine g_cf 9 rfl ?_; refine a_callv rfl rfl rfl rfl Try.func9 rfl rfl rfl (.bool true) (fun w' hw => works9 w') rfl ?_; ((repeat (first | ((refine (?_ : MX _ _ _ _ _ _ _ _ _ _ _)); first | refine mx_end ?_ | (refine mx_as _ rfl rfl (by conv => {lhs; whnf}) ?_) ) | refine cw_ret ?_ | refine pw_then ?_ | refine pw_then_r ?_ ))); exact pw_ret rfl rfl rfl rfl fun w hw => ⟨rfl, hw.keep.grow⟩
  | true =>
  have hr := hb rfl
  (repeat (((refine (?_ : MX _ _ _ _ _ _ _ _ _ _ _)); first | (refine mx_mv _ rfl rfl (by conv => {lhs; whnf}) ?_) | (refine mx_not rfl rfl rfl ?_) ) ))
  refine g_cf 8 rfl ?_
  refine a_callL rfl rfl rfl rfl Try.func8 rfl rfl rfl [] _ rfl (fun b : {B : Bool // B = true → l.length ≤ 12 ∧ ∀ x ∈ l, Rt x} => .bool b.1) (fun _ => []) (fun w' hw _ => (all8 xa xc l (by omega) w' (hl.keep hw fun _ _ _ h => h) (fun x hx => (hp x hx).sz) (fun x hx => ⟨(hp x hx).o.keep hw fun _ _ _ h => h, (hp x hx).t.keep hw fun _ _ _ h => h, (hp x hx).e.keep hw fun _ _ _ h => h⟩)).mono fun e w'' ⟨b, h1, h2⟩ => ⟨b, h1, (Ok.start w').grow h2⟩) (fun _ => rfl) (fun _ _ _ => trivial) (fun b => ?_)
  obtain ⟨b, hb⟩ := b
  dsimp only [List.nil_append]
  cases b with
  | false =>
    ((repeat (first | ((refine (?_ : MX _ _ _ _ _ _ _ _ _ _ _)); first | refine mx_end ?_ | (refine mx_not rfl rfl rfl ?_) | (refine g_pick rfl ?_; refine mx_or rfl rfl rfl rfl rfl rfl ?_ ) ) | refine cw_seq ?_ | refine cw_line rfl ?_ | refine cw_cond_t rfl ?_ | refine pw_then ?_ ))); refine g_cf 9 rfl ?_; refine a_callv rfl rfl rfl rfl Try.func9 rfl rfl rfl (.bool true) (fun w' hw => works9 w') rfl ?_; ((repeat (first | ((refine (?_ : MX _ _ _ _ _ _ _ _ _ _ _)); first | refine mx_end ?_ | (refine mx_as _ rfl rfl (by conv => {lhs; whnf}) ?_) ) | refine cw_ret ?_ | refine pw_then ?_ | refine pw_then_r ?_ ))); exact pw_ret rfl rfl rfl rfl fun w hw => ⟨rfl, hw.keep.grow⟩
  | true =>
  have hrl := hb rfl
  have hl12 := hrl.1
  have hral := hrl.2
  have hcl := hr.ol
  have htl := hr.tl
  have hevl := hr.el
  have hokl : ∀ x ∈ l, OkV x.vc := fun x hx => (hral x hx).okv (hp x hx)
  have hbc := hr.bd hc
  (repeat (first | ((refine (?_ : MX _ _ _ _ _ _ _ _ _ _ _)); first | refine mx_end ?_ | (refine mx_mv _ rfl rfl (by conv => {lhs; whnf}) ?_) | (refine g_load rfl ?_; refine mx_getn E rfl rfl rfl rfl rfl (by exact Vr.all rfl ) rfl ?_ ) | (refine mx_not rfl rfl rfl ?_) | (refine g_pick rfl ?_; refine mx_or rfl rfl rfl rfl rfl rfl ?_ ) ) | refine cw_seq ?_ | refine cw_line rfl ?_ | refine cw_cond_f rfl ?_ | refine cw_skip ?_ | refine pw_then ?_ ))
  refine g_cf 29 rfl ?_
  refine a_callL rfl rfl rfl rfl Try.func29 rfl rfl rfl [] _ rfl (fun a : {a : CD // IsJ (l.map CD.vc) c.vc a.vc} => .agg (cCD a.1).toArray) (fun a => OCd a.1) (fun w' hw _ => join29 xa xc l c (by omega) w' (rdC_le ((hc.rd hr).keep hw hS0) hw.keep.size) hr (hr.okv hc) (inN_le ((inN_of len_CD (by omega) hl).keep hw hS0) hw.keep.size) (fun o ho => ⟨rdC_le (((hp o ho).rd (hral o ho)).keep hw hS0) hw.keep.size, hral o ho⟩) (fun o ho => by
    obtain ⟨x, hx, rfl⟩ := List.mem_map.1 ho
    exact hokl x hx)) (fun _ => rfl) (fun _ _ _ => trivial) (fun q => ?_)
  obtain ⟨a, haJ⟩ := q
  have hba := bd_join hr hral (hr.okv hc) hokl haJ
  refine mx_weak (H' := [Sx.star (OCd a), row b1 26 (cCD c)]) (fun w1 h => Ok.star h) (fun _ _ => trivial) ?_
  (repeat (first | ((refine (?_ : MX _ _ _ _ _ _ _ _ _ _ _)); first | refine mx_end ?_ | (refine g_load rfl ?_; refine mx_getn E rfl rfl rfl rfl rfl (by exact Vr.all rfl ) rfl ?_ ) | (refine g_store rfl ?_; refine s_l E rfl rfl rfl rfl rfl rfl rfl (by exact Sp.all rfl ) rfl ?_ ) | (refine a_new rfl rfl rfl rfl rfl (fun _ => ?_)) ) | refine cw_seq ?_ | refine cw_line rfl ?_ | refine pw_then ?_ ))
  rename_i b5
  refine g_cf 30 rfl ?_
  refine a_callL rfl rfl rfl rfl Try.func30 rfl rfl rfl [] _ rfl (fun x : {x : CD // x.vc = c.vc} => .agg (cCD x.1).toArray) (fun x => OCd x.1) (fun w' hw _ => copyC30 c (by omega) w' ((hc.rd hr).keep hw hS0).d) (fun _ => rfl) (fun _ _ _ => trivial) (fun q => ?_)
  obtain ⟨x, hx⟩ := q
  have hrx := hr.congr hx
  have hbx := hbc.congr hx
  refine mx_weak (H' := [Sx.star (OCd x), row b5 26 (cCD a), Sx.star (OCd a), row b1 26 (cCD c)]) (fun w1 h => Ok.star h) (fun _ _ => trivial) ?_
  (repeat (first | ((refine (?_ : MX _ _ _ _ _ _ _ _ _ _ _)); first | refine mx_end ?_ | (refine mx_as _ rfl rfl (by conv => {lhs; whnf}) ?_) | (refine g_store rfl ?_; refine s_l E rfl rfl rfl rfl rfl rfl rfl (by exact Sp.all rfl ) rfl ?_ ) | (refine a_new rfl rfl rfl rfl rfl (fun _ => ?_)) ) | refine cw_seq ?_ | refine cw_line rfl ?_ | refine cw_block ?_ | refine pw_then ?_ ))
  rename_i b6
  refine cw_loop (ι := Nat × (Option Addr × Nat) × List CD) (fun q => [(8, .int .i64 q.1), (7, .slice q.2.1.1 q.1 q.2.1.2), (1, .slice xa l.length xc), (5, .pointer (some ⟨b5, 0, none⟩)), (6, .pointer (some ⟨b6, 0, none⟩)), (2, .pointer (some ⟨b1, 0, none⟩))]) (fun q => [ownd q.2.1.1 q.2.1.2 26 4 q.1 (q.2.2.flatMap cCD), allC q.2.2, row b6 26 (cCD x), Sx.star (OCd x), row b5 26 (cCD a), Sx.star (OCd a), row b1 26 (cCD c)]) (fun q => q.1 ≤ l.length ∧ q.2.2.map CD.vc = (l.take q.1).map CD.vc) (fun q => l.length - q.1) (0, (none, 0), []) ⟨Nat.zero_le _, rfl⟩ ⟨rfl, rfl, rfl, rfl, rfl, rfl, trivial⟩ (fun w h => (allC_nil h).own_nil 26 4) ?_
  rintro ⟨i, ⟨ya, yc⟩, ys⟩ jk ⟨hi, hys⟩
  dsimp only at hi hys ⊢
  by_cases h0 : (i : Int) < l.length
  case pos =>
    obtain ⟨z, hz⟩ := getElem_some (xs := l) (i := i) (by omega)
    have hzm := List.mem_of_getElem? hz
    have hzr := hral z hzm
    have hzl := hzr.ol
    have hzt := hzr.tl
    have hze := hzr.el
    obtain ⟨b4, off, e, hcc⟩ := inl_at hl hz
    subst e
    have hS : ¬ (fun _ : Nat => False) b4 := id
    have hc0 : ∀ (k : Nat) (v : Value), (cCD z)[k]? = some v → w.cell? ⟨b4, off + i * 4 + k, none⟩ = some v := hcc
    (repeat (first | ((refine (?_ : MX _ _ _ _ _ _ _ _ _ _ _)); first | refine mx_end ?_ | (refine mx_mv _ rfl rfl (by conv => {lhs; whnf}) ?_) | (refine g_load rfl ?_; refine mx_oldn E rfl rfl rfl rfl rfl (by assumption) (by assumption) (rfl) rfl ?_ ) | (refine g_bin rfl ?_; ( (refine mx_cmpl .lss rfl rfl rfl rfl rfl (by exact cmp_lt_t (by omega) ) ?_) ) ) | (refine g_ix rfl ?_; refine mx_ixsn E rfl rfl rfl rfl rfl rfl (by omega) rfl ?_ ) | (refine g_bi .len rfl ?_; refine mx_len E rfl rfl rfl rfl ?_) ) | refine cw_seq ?_ | refine cw_line rfl ?_ | refine cw_block ?_ | refine cw_cond_t rfl ?_ | refine cw_skip ?_ | refine pw_then ?_ ))
    refine g_cf 30 rfl ?_
    refine a_callL rfl rfl rfl rfl Try.func30 rfl rfl rfl [] _ rfl (fun x : {x : CD // x.vc = z.vc} => .agg (cCD x.1).toArray) (fun x => OCd x.1) (fun w' hw _ => copyC30 z (by omega) w' (((hp z hzm).rd hzr).keep hw hS0).d) (fun _ => rfl) (fun _ _ _ => trivial) (fun q => ?_)
    obtain ⟨z', hz'⟩ := q
    refine mx_weak (H' := [allC (ys ++ [z']), ownd ya yc 26 4 i (ys.flatMap cCD), row b6 26 (cCD x), Sx.star (OCd x), row b5 26 (cCD a), Sx.star (OCd a), row b1 26 (cCD c)]) (fun w1 h => allC_snoc (h.pick (H' := OCd z' ++ [allC ys, ownd ya yc 26 4 i (ys.flatMap cCD), row b6 26 (cCD x), Sx.star (OCd x), row b5 26 (cCD a), Sx.star (OCd a), row b1 26 (cCD c)]) [0, 1, 2, 3, 4, 6, 5, 7, 8, 9, 10, 11] (by simp) rfl)) (fun _ _ => trivial) ?_
    (repeat (first | ((refine (?_ : MX _ _ _ _ _ _ _ _ _ _ _)); first | refine mx_end ?_ | (refine mx_mv _ rfl rfl (by conv => {lhs; whnf}) ?_) | (refine mx_as _ rfl rfl (by conv => {lhs; whnf}) ?_) | (first | refine mx_fa0 E rfl rfl rfl rfl ?_ | refine mx_fa E rfl rfl rfl rfl ?_) | (refine g_load rfl ?_; first | refine mx_get E rfl rfl rfl rfl rfl (by first | assumption | rfl) rfl ?_ | refine mx_getn E rfl rfl rfl rfl rfl (by first | assumption | exact vr_I _ _ _ _ _ _ _ _ _ _ _ _ _ _ _ | exact Vr.all rfl | exact ⟨⟨rfl⟩, rfl⟩) rfl ?_ | refine mx_oldn E rfl rfl rfl rfl rfl (by assumption) (by assumption) (rfl) rfl ?_ | refine mx_old1 E rfl rfl rfl rfl rfl (by assumption) (by assumption) rfl ?_ | refine mx_orow E rfl rfl rfl rfl rfl (by assumption) (by assumption) (by first | assumption | rfl) rfl ?_ | refine mx_orown E rfl rfl rfl rfl rfl (by assumption) (by assumption) (by first | assumption | exact vr_I _ _ _ _ _ _ _ _ _ _ _ _ _ _ _ | exact Vr.all rfl | exact ⟨⟨rfl⟩, rfl⟩) rfl ?_ | refine mx_geta E rfl rfl rfl rfl rfl rfl (by first | assumption | rfl) rfl ?_ | refine mx_getna E rfl rfl rfl rfl rfl rfl (by first | assumption | exact vr_I _ _ _ _ _ _ _ _ _ _ _ _ _ _ _ | exact Vr.all rfl | exact ⟨⟨rfl⟩, rfl⟩) rfl ?_) | (refine g_bin rfl ?_; first | (first | (refine mx_cmpl .eql rfl rfl rfl rfl rfl (by first | exact cmp_eq_t (by omega) | exact cmp_eq_f (by omega) | rfl) ?_) | (refine mx_cmpl .neq rfl rfl rfl rfl rfl (by first | exact cmp_ne_t (by omega) | exact cmp_ne_f (by omega) | rfl) ?_) | (refine mx_cmpl .lss rfl rfl rfl rfl rfl (by first | exact cmp_lt_t (by omega) | exact cmp_lt_f (by omega) | rfl) ?_) | (refine mx_cmpl .leq rfl rfl rfl rfl rfl (by first | exact cmp_le_t (by omega) | exact cmp_le_f (by omega) | rfl) ?_) | (refine mx_cmpl .gtr rfl rfl rfl rfl rfl (by first | exact cmp_gt_t (by omega) | exact cmp_gt_f (by omega) | rfl) ?_) | (refine mx_cmpl .geq rfl rfl rfl rfl rfl (by first | exact cmp_ge_t (by omega) | exact cmp_ge_f (by omega) | rfl) ?_)) | (first | refine mx_ar rfl rfl rfl rfl rfl rfl ((IntWalk.i64_in _ (by omega)).trans (by with_reducible assumption)) rfl ?_ | refine mx_ar rfl rfl rfl rfl rfl rfl (IntWalk.i64_in _ (by omega)) rfl ?_ | refine mx_ar rfl rfl rfl rfl rfl rfl (by with_reducible assumption) rfl ?_) | (first | refine mx_eqs rfl rfl rfl rfl rfl rfl ?_ | refine mx_nes rfl rfl rfl rfl rfl rfl ?_ | refine mx_eq rfl rfl rfl rfl rfl rfl ?_ | refine mx_ne rfl rfl rfl rfl rfl rfl ?_) | refine mx_bsame E rfl rfl rfl rfl rfl rfl rfl ?_ | refine mx_bnsame E rfl rfl rfl rfl rfl rfl rfl ?_ | refine mx_beq E rfl rfl rfl rfl rfl rfl rfl ?_ | refine mx_bne E rfl rfl rfl rfl rfl rfl rfl ?_ | refine mx_dv rfl rfl rfl rfl rfl (by decide) (congrArg some (by assumption)) rfl rfl ?_ | refine mx_dv rfl rfl rfl rfl rfl (by decide) rfl rfl rfl ?_ | refine mx_bit rfl rfl rfl rfl rfl (congrArg some (by assumption)) rfl rfl ?_ | refine mx_bit rfl rfl rfl rfl rfl rfl rfl rfl ?_ | refine mx_sh rfl rfl rfl rfl rfl (by omega) (congrArg some (by assumption)) rfl rfl ?_ | refine mx_sh rfl rfl rfl rfl rfl (by omega) rfl rfl rfl ?_) | (refine g_ix rfl ?_; first | refine mx_ixan E rfl rfl rfl rfl rfl rfl (by omega) rfl ?_ | refine mx_ixsn E rfl rfl rfl rfl rfl rfl (by omega) rfl ?_ | refine mx_ixsi E rfl rfl rfl rfl rfl rfl (by omega) (by omega) rfl ?_ | refine mx_ixa E rfl rfl rfl rfl rfl rfl (by omega) (by omega) rfl rfl ?_) | (refine mx_nc rfl rfl rfl ?_) | (refine g_bi .len rfl ?_; refine mx_len E rfl rfl rfl rfl ?_) | (refine mx_not rfl rfl rfl ?_) | (refine mx_ex _ rfl rfl rfl (by conv => {lhs; whnf}) ?_) | (refine mx_skip rfl rfl rfl ?_) | (refine g_pick rfl ?_; first | refine mx_andf rfl rfl rfl rfl rfl ?_ | refine mx_ort rfl rfl rfl rfl rfl ?_ | refine mx_and rfl rfl rfl rfl rfl rfl ?_ | refine mx_or rfl rfl rfl rfl rfl rfl ?_ | refine mx_pickt _ rfl rfl rfl rfl (by conv => {lhs; whnf}) rfl ?_ | refine mx_pickf _ rfl rfl rfl rfl (by conv => {lhs; whnf}) rfl ?_) | (refine g_store rfl ?_; first | refine s_l E rfl rfl rfl rfl rfl rfl rfl (by first | assumption | exact Sp.all rfl | exact Sp.lit rfl rfl) rfl ?_ | refine s_1 E rfl rfl rfl rfl rfl rfl rfl rfl (by first | assumption | exact sp0 | exact spS sp0 | exact spS (spS sp0) | exact Sp.lit rfl rfl) rfl ?_) | (refine g_build rfl ?_; first | refine mx_build rfl rfl rfl rfl b24_0 rfl ?_ | refine mx_build rfl rfl rfl rfl (b28_1 _) rfl ?_ | refine mx_build rfl rfl rfl rfl (b39_2 _ _) rfl ?_ | refine mx_build rfl rfl rfl rfl (b24_1 _) rfl ?_ | refine mx_build rfl rfl rfl rfl (b24_2 _ _) rfl ?_ | refine mx_build rfl rfl rfl rfl b28_0 rfl ?_ | refine mx_build rfl rfl rfl rfl b29_0 rfl ?_ | refine mx_build rfl rfl rfl rfl (b25_1 _ _) rfl ?_ | refine mx_build rfl rfl rfl rfl (b31_1 _ _) rfl ?_ | refine mx_build rfl rfl rfl rfl (b31_2 _ _ _) rfl ?_) | (refine a_new rfl rfl rfl rfl rfl (fun _ => ?_)) | (refine g_box rfl ?_; first | refine a_boxl rfl rfl rfl rfl rfl rfl (fun _ => ?_) | refine a_box1 rfl rfl rfl rfl rfl rfl rfl (fun _ => ?_)) | (first | refine mx_indexn E rfl rfl rfl rfl rfl rfl rfl rfl (by omega) (by first | exact vr_RR _ (by omega)) rfl ?_ | refine mx_index E rfl rfl rfl rfl rfl rfl rfl rfl (by omega) (by omega) (by first | exact vr_RR _ (by omega)) rfl ?_) | (refine g_bs rfl ?_; first | refine a_bs0 E rfl rfl rfl rfl rfl rfl (fun _ => ?_) | refine a_bsi E rfl rfl rfl rfl rfl (by (repeat (first | exact EvI.nil | (apply EvI.cons; rfl)))) (by rfl) (by rfl) (by rfl) rfl (fun _ => ?_)) | (refine g_conv rfl ?_; first | refine mx_cv E rfl rfl rfl rfl rfl rfl (by assumption) rfl ?_ | refine mx_cv E rfl rfl rfl rfl rfl rfl (IntWalk.i64_in _ (by omega)) rfl ?_ | refine mx_cv E rfl rfl rfl rfl rfl rfl (IntWalk.u64_in _ (by omega)) rfl ?_ | refine mx_cv E rfl rfl rfl rfl rfl rfl (IntWalk.u8_in _ (by omega)) rfl ?_ | refine mx_cv E rfl rfl rfl rfl rfl rfl rfl rfl ?_) | (first | (refine g_bi .max rfl ?_; refine mx_maxi rfl rfl rfl rfl rfl rfl rfl ?_) | (refine g_bi .min rfl ?_; refine mx_mini rfl rfl rfl rfl rfl rfl rfl ?_)) | (first | refine mx_streq rfl rfl rfl rfl rfl rfl ?_ | refine mx_fn rfl rfl rfl rfl rfl rfl ?_) | (fail)) | refine cw_seq ?_ | refine cw_line rfl ?_ | (fail) | refine cw_block ?_ | refine cw_cond_f rfl ?_ | refine cw_cond_t rfl ?_ | refine cw_skip ?_ | refine cw_exit ?_ | refine cw_ret ?_ | refine pw_then ?_ | refine pw_then_x ?_ | refine pw_then_r ?_ | refine pw_block ?_ | refine pw_block_e ?_ | refine pw_block_n rfl ?_ | refine pw_block_r ?_))
    refine g_bs rfl ?_
    refine a_bslice1 E rfl rfl rfl rfl (us := cCD z') rfl rfl rfl rfl rfl rfl (fun b9 => ?_)
    refine g_bi .append rfl ?_
    refine a_app E rfl rfl rfl rfl rfl rfl rfl rfl (cCD z') rfl (fun w hw => fun _ => ⟨b9, 0, rfl, fun j u hj => by rw [add_at, Nat.zero_add]; exact row_cell (hw.holds 0 _ rfl) hj⟩) (by rfl) (by omega) rfl (fun _ _ _ _ => trivial) (fun a2 c2 => ?_)
    have e3 : ys.flatMap cCD ++ cCD z' = (ys ++ [z']).flatMap cCD := by rw [List.flatMap_append]; simp
    rw [e3]
    (repeat (first | ((refine (?_ : MX _ _ _ _ _ _ _ _ _ _ _)); first | refine mx_end ?_ | (refine mx_mv _ rfl rfl (by conv => {lhs; whnf}) ?_) | (refine mx_as _ rfl rfl (by conv => {lhs; whnf}) ?_) | (refine g_bin rfl ?_; ( refine mx_ar rfl rfl rfl rfl rfl rfl (IntWalk.i64_in _ (by omega)) rfl ?_ ) ) ) | refine cw_line rfl ?_ | refine pw_then ?_ | refine pw_block ?_ ))
    exact pw_round (i + 1, (a2, c2), ys ++ [z']) ⟨by show i + 1 ≤ l.length; omega, by show (ys ++ [z']).map CD.vc = _; rw [List.map_append, hys, List.take_add_one, hz, List.map_append]; simp [hz']⟩ (by show l.length - (i + 1) < l.length - i; omega) ⟨rfl, rfl, rfl, rfl, rfl, rfl, trivial⟩ (fun w h => h.pick [2, 1, 3, 4, 5, 6, 7] (by simp) rfl)
  obtain rfl : i = l.length := by omega
  rw [List.take_length] at hys
  have hysl : ys.length = l.length := by have := congrArg List.length hys; simpa using this
  have hyrt : ∀ y ∈ ys, Rt y ∧ Bd y := fun y hy => by
    have h1 : y.vc ∈ ys.map CD.vc := List.mem_map.2 ⟨y, hy, rfl⟩
    rw [hys] at h1
    obtain ⟨z, hz, e⟩ := List.mem_map.1 h1
    exact ⟨(hral z hz).congr e.symm, ((hral z hz).bd (hp z hz)).congr e.symm⟩
  have hat : ∀ {w' : World} {H : List Res} {j1 j2 j3 : Nat}, Ok (fun _ => False) w H w' → H[j1]? = some (ownd ya yc 26 4 l.length (ys.flatMap cCD)) → H[j2]? = some (allC ys) → H[j3]? = some (Sx.star (OCd x)) → Calls Try.prog 10 #[.agg (cCD x).toArray, .slice ya l.length yc] w' fun r w'' => ∃ a2 : {a2 : CD // a2.vc = a.vc}, r = .returned (.agg (cCD a2.1).toArray) ∧ Ok (domL []) w' (OCd a2.1) w'' := fun {w'} {H} {j1} {j2} {j3} hw g1 g2 g3 => by
    have h10 := join10 ya yc ys x (by omega) (by rw [(vc_len hx).2.1]; omega) w' (rdC_star (hw.holds j3 _ g3) hbx) hrx.ok (hbx.okv hrx) (inN_own len_CD (by omega) (hw.holds j1 _ g1) (by omega)) (fun o ho => ⟨rdC_all (hw.holds j2 _ g2) ho (hyrt o ho).2, (hyrt o ho).1.ok⟩) (fun o ho => by
      obtain ⟨z, hz, rfl⟩ := List.mem_map.1 ho
      exact (hyrt z hz).2.okv (hyrt z hz).1)
    rw [hysl] at h10
    refine h10.mono fun e w'' ⟨⟨a2, h1⟩, h2, h3⟩ => ⟨⟨a2, ?_⟩, h2, h3⟩
    rw [hys, hx] at h1
    exact isJ_uniq h1 haJ
  have hsame : ∀ {u v : CD} {w' : World}, u.vc = v.vc → Bd u → RdD w' u → RdD w' v → Calls Try.prog 18 #[.agg (cCD u).toArray, .agg (cCD v).toArray] w' fun e w'' => e = .returned (.bool true) ∧ Grow w' w'' := fun {u v w'} h b h1 h2 => same18 u v h ⟨by have := b.ol; omega, by have := b.tl; omega, by have := b.el; omega⟩ w' h1 h2
  (repeat (first | ((refine (?_ : MX _ _ _ _ _ _ _ _ _ _ _)); first | refine mx_end ?_ | (refine mx_mv _ rfl rfl (by conv => {lhs; whnf}) ?_) | (refine g_load rfl ?_; refine mx_getn E rfl rfl rfl rfl rfl (by exact Vr.all rfl ) rfl ?_ ) | (refine g_bin rfl ?_; ( (refine mx_cmpl .lss rfl rfl rfl rfl rfl (by exact cmp_lt_f (by omega) ) ?_) ) ) | (refine g_bi .len rfl ?_; refine mx_len E rfl rfl rfl rfl ?_) ) | refine cw_seq ?_ | refine cw_line rfl ?_ | refine cw_cond_f rfl ?_ | refine cw_exit ?_ | refine pw_then ?_ | refine pw_then_x ?_ | refine pw_block_e ?_ ))
  refine g_cf 10 rfl ?_
  refine a_callL rfl rfl rfl rfl Try.func10 rfl rfl rfl [] _ rfl (fun a2 : {a2 : CD // a2.vc = a.vc} => .agg (cCD a2.1).toArray) (fun a2 => OCd a2.1) (fun w' hw _ => hat (j1 := 0) (j2 := 1) (j3 := 3) hw rfl rfl rfl) (fun _ => rfl) (fun _ _ _ => trivial) (fun q => ?_)
  obtain ⟨a2, ha2⟩ := q
  have hb2 := hba.congr ha2
  refine mx_weak (H' := [Sx.star (OCd a2), ownd ya yc 26 4 l.length (ys.flatMap cCD), allC ys, row b6 26 (cCD x), Sx.star (OCd x), row b5 26 (cCD a), Sx.star (OCd a), row b1 26 (cCD c)]) (fun w1 h => Ok.star h) (fun _ _ => trivial) ?_
  (repeat (first | ((refine (?_ : MX _ _ _ _ _ _ _ _ _ _ _)); first | refine mx_end ?_ | (refine g_load rfl ?_; refine mx_getn E rfl rfl rfl rfl rfl (by exact Vr.all rfl ) rfl ?_ ) | (refine g_store rfl ?_; refine s_l E rfl rfl rfl rfl rfl rfl rfl (by exact Sp.all rfl ) rfl ?_ ) | (refine a_new rfl rfl rfl rfl rfl (fun _ => ?_)) ) | refine cw_seq ?_ | refine cw_line rfl ?_ | refine pw_then ?_ ))
  rename_i b9
  refine g_cf 18 rfl ?_
  refine a_callv rfl rfl rfl rfl Try.func18 rfl rfl rfl (.bool true) (fun w' hw => hsame ha2 hb2 (rdC_star (hw.holds 1 _ rfl) hb2).d (rdC_star (hw.holds 7 _ rfl) hba).d) rfl ?_
  (repeat (((refine (?_ : MX _ _ _ _ _ _ _ _ _ _ _)); first | (refine mx_mv _ rfl rfl (by conv => {lhs; whnf}) ?_) | (refine g_load rfl ?_; refine mx_getn E rfl rfl rfl rfl rfl (by exact Vr.all rfl ) rfl ?_ ) | (refine mx_not rfl rfl rfl ?_) ) ))
  refine g_cf 18 rfl ?_
  refine a_callv rfl rfl rfl rfl Try.func18 rfl rfl rfl (.bool true) (fun w' hw => hsame hx hbx (rdC_star (hw.holds 5 _ rfl) hbx).d ((hc.rd hr).keep hw hS0).d) rfl ?_
  (repeat (first | ((refine (?_ : MX _ _ _ _ _ _ _ _ _ _ _)); first | refine mx_end ?_ | (refine g_load rfl ?_; refine mx_getn E rfl rfl rfl rfl rfl (by exact Vr.all rfl ) rfl ?_ ) | (refine mx_not rfl rfl rfl ?_) | (refine g_pick rfl ?_; refine mx_or rfl rfl rfl rfl rfl rfl ?_ ) ) | refine cw_seq ?_ | refine cw_line rfl ?_ | refine cw_cond_f rfl ?_ | refine cw_skip ?_ | refine pw_then ?_ ))
  refine g_cf 31 rfl ?_
  refine a_calls rfl rfl rfl rfl Try.func31 rfl rfl rfl (OCd a2) [ownd ya yc 26 4 l.length (ys.flatMap cCD), allC ys, row b6 26 (cCD x), Sx.star (OCd x), row b5 26 (cCD a), Sx.star (OCd a), row b1 26 (cCD c)] (fun w1 h => Ok.unstar (h.pick (H' := [Sx.star (OCd a2), ownd ya yc 26 4 l.length (ys.flatMap cCD), allC ys, row b6 26 (cCD x), Sx.star (OCd x), row b5 26 (cCD a), Sx.star (OCd a), row b1 26 (cCD c)]) [1, 2, 3, 4, 5, 6, 7, 8] (by simp) rfl)) (fun _ : Unit => .tuple #[]) (fun _ => []) (fun w' hw h => spoilC31 a2 ⟨hb2.ol, hb2.tl, hb2.el⟩ (fun o ho => by have := hb2.os o ho; omega) (fun o ho => (hb2.es o ho).2) w' h) (fun _ => rfl) (fun _ _ _ => trivial) (fun _ => ?_)
  dsimp only [List.nil_append]
  (repeat (first | ((refine (?_ : MX _ _ _ _ _ _ _ _ _ _ _)); first | refine mx_end ?_ | (refine mx_as _ rfl rfl (by conv => {lhs; whnf}) ?_) ) | refine cw_seq ?_ | refine cw_line rfl ?_ | refine cw_block ?_ | refine pw_then ?_ ))
  refine cw_loop (ι := Nat) (fun i => [(10, .int .i64 i), (7, .slice ya l.length yc), (1, .slice xa l.length xc), (5, .pointer (some ⟨b5, 0, none⟩)), (6, .pointer (some ⟨b6, 0, none⟩)), (2, .pointer (some ⟨b1, 0, none⟩))]) (fun _ => [ownd ya yc 26 4 l.length (ys.flatMap cCD), allC ys, row b6 26 (cCD x), Sx.star (OCd x), row b5 26 (cCD a), Sx.star (OCd a), row b1 26 (cCD c)]) (fun i => i ≤ l.length) (fun i => l.length - i) 0 (Nat.zero_le _) ⟨rfl, rfl, rfl, rfl, rfl, rfl, trivial⟩ (fun w h => h) ?_
  intro i jk2 hi2
  by_cases h0 : (i : Int) < l.length
  case pos =>
    obtain ⟨z, hz⟩ := getElem_some (xs := l) (i := i) (by omega)
    obtain ⟨z', hz'⟩ := getElem_some (xs := ys) (i := i) (by omega)
    have hzm := List.mem_of_getElem? hz
    have hzm' := List.mem_of_getElem? hz'
    have hzz : z'.vc = z.vc := by
      have h1 := congrArg (fun l : List VC => l[i]?) hys
      simpa [List.getElem?_map, hz, hz'] using h1
    obtain ⟨b4, off, e, hcc⟩ := inl_at hl hz
    subst e
    have hS : ¬ (fun _ : Nat => False) b4 := id
    have hc0 : ∀ (k : Nat) (v : Value), (cCD z)[k]? = some v → w.cell? ⟨b4, off + i * 4 + k, none⟩ = some v := hcc
    refine cw_know (p := ∃ b, ya = some ⟨b, 0, none⟩) (fun w hw => by obtain ⟨b, e, _⟩ := (own_at (hw.holds 0 _ rfl)).2.1 (by omega); exact ⟨b, e⟩) (fun hb => ?_)
    obtain ⟨by', rfl⟩ := hb
    refine cw_ex (fun rest => [row by' 26 (ys.flatMap cCD ++ rest), allC ys, row b6 26 (cCD x), Sx.star (OCd x), row b5 26 (cCD a), Sx.star (OCd a), row b1 26 (cCD c)]) _ (fun w hw => (ok_open 0 rfl hw).imp fun rest h => ⟨h.1, h.2⟩) (fun rest he => ?_)
    obtain ⟨e1, e2, e3, e4⟩ := he
    have hvz : Vr (ys.flatMap cCD ++ rest) (0 + i * 4) 4 (cCD z') := vr_all len_CD hz' rest (by omega)
    (repeat (first | ((refine (?_ : MX _ _ _ _ _ _ _ _ _ _ _)); first | refine mx_end ?_ | (refine mx_mv _ rfl rfl (by conv => {lhs; whnf}) ?_) | (refine g_bin rfl ?_; ( (refine mx_cmpl .lss rfl rfl rfl rfl rfl (by exact cmp_lt_t (by omega) ) ?_) ) ) | (refine g_bi .len rfl ?_; refine mx_len E rfl rfl rfl rfl ?_) ) | refine cw_seq ?_ | refine cw_line rfl ?_ | refine cw_block ?_ | refine cw_cond_t rfl ?_ | refine cw_skip ?_ | refine pw_then ?_ ))
    refine cw_drawm [0, 1, 2, 3, 4, 5, 6, 7, 8, 9] (fun i => Nat.beq i 8) [row by' 26 (ys.flatMap cCD ++ rest)] mixed (by kernel_rfl) (fun w h => h.only 0 rfl) ?_
    (repeat (((refine (?_ : MX _ _ _ _ _ _ _ _ _ _ _)); first | (refine mx_mv _ rfl rfl (by conv => {lhs; whnf}) ?_) | (refine g_load rfl ?_; first | refine mx_getn E rfl rfl rfl rfl rfl (by assumption ) rfl ?_ | refine mx_oldn E rfl rfl rfl rfl rfl (by assumption) (by assumption) (rfl) rfl ?_ ) | (refine g_ix rfl ?_; refine mx_ixsn E rfl rfl rfl rfl rfl rfl (by omega) rfl ?_ ) ) ))
    refine g_cf 18 rfl ?_
    refine a_callv rfl rfl rfl rfl Try.func18 rfl rfl rfl (.bool true) (fun w' hw => hsame hzz (hyrt z' hzm').2 (rdC_all (hw.holds 1 _ rfl) hzm' (hyrt z' hzm').2).d (((hp z hzm).rd (hral z hzm)).keep hw hS0).d) rfl ?_
    (repeat (first | ((refine (?_ : MX _ _ _ _ _ _ _ _ _ _ _)); first | refine mx_end ?_ | (refine mx_mv _ rfl rfl (by conv => {lhs; whnf}) ?_) | (refine mx_as _ rfl rfl (by conv => {lhs; whnf}) ?_) | (refine g_bin rfl ?_; ( refine mx_ar rfl rfl rfl rfl rfl rfl (IntWalk.i64_in _ (by omega)) rfl ?_ ) ) | (refine mx_not rfl rfl rfl ?_) ) | refine cw_line rfl ?_ | refine cw_cond_f rfl ?_ | refine cw_skip ?_ | refine pw_then ?_ | refine pw_block ?_ ))
    exact pw_round (i + 1) (by omega) (by omega) ⟨rfl, rfl, rfl, rfl, rfl, rfl, trivial⟩ (fun w h => ok_close 0 rfl e1 e2 e3 e4 h)
  (repeat (first | ((refine (?_ : MX _ _ _ _ _ _ _ _ _ _ _)); first | refine mx_end ?_ | (refine mx_mv _ rfl rfl (by conv => {lhs; whnf}) ?_) | (refine g_bin rfl ?_; ( (refine mx_cmpl .lss rfl rfl rfl rfl rfl (by exact cmp_lt_f (by omega) ) ?_) ) ) | (refine g_bi .len rfl ?_; refine mx_len E rfl rfl rfl rfl ?_) ) | refine cw_seq ?_ | refine cw_line rfl ?_ | refine cw_cond_f rfl ?_ | refine cw_exit ?_ | refine pw_then ?_ | refine pw_then_x ?_ | refine pw_block_e ?_ ))
  refine cw_drawm [0, 1, 2, 3, 4, 5, 7, 6, 8, 9, 10, 11, 12, 13] (fun i => or (Nat.beq i 2) (or (Nat.beq i 6) (or (Nat.beq i 8) (Nat.beq i 11)))) [row b6 26 (cCD x), row b5 26 (cCD a), row b1 26 (cCD c)] mixed (by kernel_rfl) (fun w h => h.pick [2, 4, 6] (by simp) rfl) ?_
  (repeat (((refine (?_ : MX _ _ _ _ _ _ _ _ _ _ _)); (refine g_load rfl ?_; refine mx_getn E rfl rfl rfl rfl rfl (by exact Vr.all rfl ) rfl ?_ ) ) ))
  refine g_cf 18 rfl ?_
  refine a_callv rfl rfl rfl rfl Try.func18 rfl rfl rfl (.bool true) (fun w' hw => hsame hx hbx (rdC_star (hw.holds 3 _ rfl) hbx).d ((hc.rd hr).keep hw hS0).d) rfl ?_
  (repeat (((refine (?_ : MX _ _ _ _ _ _ _ _ _ _ _)); first | (refine mx_mv _ rfl rfl (by conv => {lhs; whnf}) ?_) | (refine g_load rfl ?_; refine mx_getn E rfl rfl rfl rfl rfl (by exact Vr.all rfl ) rfl ?_ ) ) ))
  refine g_cf 10 rfl ?_
  refine a_callL rfl rfl rfl rfl Try.func10 rfl rfl rfl [] _ rfl (fun a2 : {a2 : CD // a2.vc = a.vc} => .agg (cCD a2.1).toArray) (fun a2 => OCd a2.1) (fun w' hw _ => hat (j1 := 0) (j2 := 1) (j3 := 3) hw rfl rfl rfl) (fun _ => rfl) (fun _ w h => h.pick [7, 9, 11] (by simp) rfl) (fun q => ?_)
  obtain ⟨a3, ha3⟩ := q
  have hb3 := hba.congr ha3
  refine mx_weak (H' := [Sx.star (OCd a3), ownd ya yc 26 4 l.length (ys.flatMap cCD), allC ys, row b6 26 (cCD x), Sx.star (OCd x), row b5 26 (cCD a), Sx.star (OCd a), row b1 26 (cCD c)]) (fun w1 h => Ok.star h) (fun w h => h.pick [3, 5, 7] (by simp) rfl) ?_
  (repeat (first | ((refine (?_ : MX _ _ _ _ _ _ _ _ _ _ _)); first | refine mx_end ?_ | (refine mx_mv _ rfl rfl (by conv => {lhs; whnf}) ?_) | (refine mx_as _ rfl rfl (by conv => {lhs; whnf}) ?_) | (first | refine mx_fa0 E rfl rfl rfl rfl ?_ | refine mx_fa E rfl rfl rfl rfl ?_) | (refine g_load rfl ?_; first | refine mx_get E rfl rfl rfl rfl rfl (by first | assumption | rfl) rfl ?_ | refine mx_getn E rfl rfl rfl rfl rfl (by first | assumption | exact vr_I _ _ _ _ _ _ _ _ _ _ _ _ _ _ _ | exact Vr.all rfl | exact ⟨⟨rfl⟩, rfl⟩) rfl ?_ | refine mx_oldn E rfl rfl rfl rfl rfl (by assumption) (by assumption) (rfl) rfl ?_ | refine mx_old1 E rfl rfl rfl rfl rfl (by assumption) (by assumption) rfl ?_ | refine mx_orow E rfl rfl rfl rfl rfl (by assumption) (by assumption) (by first | assumption | rfl) rfl ?_ | refine mx_orown E rfl rfl rfl rfl rfl (by assumption) (by assumption) (by first | assumption | exact vr_I _ _ _ _ _ _ _ _ _ _ _ _ _ _ _ | exact Vr.all rfl | exact ⟨⟨rfl⟩, rfl⟩) rfl ?_ | refine mx_geta E rfl rfl rfl rfl rfl rfl (by first | assumption | rfl) rfl ?_ | refine mx_getna E rfl rfl rfl rfl rfl rfl (by first | assumption | exact vr_I _ _ _ _ _ _ _ _ _ _ _ _ _ _ _ | exact Vr.all rfl | exact ⟨⟨rfl⟩, rfl⟩) rfl ?_) | (refine g_bin rfl ?_; first | (first | (refine mx_cmpl .eql rfl rfl rfl rfl rfl (by first | exact cmp_eq_t (by omega) | exact cmp_eq_f (by omega) | rfl) ?_) | (refine mx_cmpl .neq rfl rfl rfl rfl rfl (by first | exact cmp_ne_t (by omega) | exact cmp_ne_f (by omega) | rfl) ?_) | (refine mx_cmpl .lss rfl rfl rfl rfl rfl (by first | exact cmp_lt_t (by omega) | exact cmp_lt_f (by omega) | rfl) ?_) | (refine mx_cmpl .leq rfl rfl rfl rfl rfl (by first | exact cmp_le_t (by omega) | exact cmp_le_f (by omega) | rfl) ?_) | (refine mx_cmpl .gtr rfl rfl rfl rfl rfl (by first | exact cmp_gt_t (by omega) | exact cmp_gt_f (by omega) | rfl) ?_) | (refine mx_cmpl .geq rfl rfl rfl rfl rfl (by first | exact cmp_ge_t (by omega) | exact cmp_ge_f (by omega) | rfl) ?_)) | (first | refine mx_ar rfl rfl rfl rfl rfl rfl ((IntWalk.i64_in _ (by omega)).trans (by with_reducible assumption)) rfl ?_ | refine mx_ar rfl rfl rfl rfl rfl rfl (IntWalk.i64_in _ (by omega)) rfl ?_ | refine mx_ar rfl rfl rfl rfl rfl rfl (by with_reducible assumption) rfl ?_) | (first | refine mx_eqs rfl rfl rfl rfl rfl rfl ?_ | refine mx_nes rfl rfl rfl rfl rfl rfl ?_ | refine mx_eq rfl rfl rfl rfl rfl rfl ?_ | refine mx_ne rfl rfl rfl rfl rfl rfl ?_) | refine mx_bsame E rfl rfl rfl rfl rfl rfl rfl ?_ | refine mx_bnsame E rfl rfl rfl rfl rfl rfl rfl ?_ | refine mx_beq E rfl rfl rfl rfl rfl rfl rfl ?_ | refine mx_bne E rfl rfl rfl rfl rfl rfl rfl ?_ | refine mx_dv rfl rfl rfl rfl rfl (by decide) (congrArg some (by assumption)) rfl rfl ?_ | refine mx_dv rfl rfl rfl rfl rfl (by decide) rfl rfl rfl ?_ | refine mx_bit rfl rfl rfl rfl rfl (congrArg some (by assumption)) rfl rfl ?_ | refine mx_bit rfl rfl rfl rfl rfl rfl rfl rfl ?_ | refine mx_sh rfl rfl rfl rfl rfl (by omega) (congrArg some (by assumption)) rfl rfl ?_ | refine mx_sh rfl rfl rfl rfl rfl (by omega) rfl rfl rfl ?_) | (refine g_ix rfl ?_; first | refine mx_ixan E rfl rfl rfl rfl rfl rfl (by omega) rfl ?_ | refine mx_ixsn E rfl rfl rfl rfl rfl rfl (by omega) rfl ?_ | refine mx_ixsi E rfl rfl rfl rfl rfl rfl (by omega) (by omega) rfl ?_ | refine mx_ixa E rfl rfl rfl rfl rfl rfl (by omega) (by omega) rfl rfl ?_) | (refine mx_nc rfl rfl rfl ?_) | (refine g_bi .len rfl ?_; refine mx_len E rfl rfl rfl rfl ?_) | (refine mx_not rfl rfl rfl ?_) | (refine mx_ex _ rfl rfl rfl (by conv => {lhs; whnf}) ?_) | (refine mx_skip rfl rfl rfl ?_) | (refine g_pick rfl ?_; first | refine mx_andf rfl rfl rfl rfl rfl ?_ | refine mx_ort rfl rfl rfl rfl rfl ?_ | refine mx_and rfl rfl rfl rfl rfl rfl ?_ | refine mx_or rfl rfl rfl rfl rfl rfl ?_ | refine mx_pickt _ rfl rfl rfl rfl (by conv => {lhs; whnf}) rfl ?_ | refine mx_pickf _ rfl rfl rfl rfl (by conv => {lhs; whnf}) rfl ?_) | (refine g_store rfl ?_; first | refine s_l E rfl rfl rfl rfl rfl rfl rfl (by first | assumption | exact Sp.all rfl | exact Sp.lit rfl rfl) rfl ?_ | refine s_1 E rfl rfl rfl rfl rfl rfl rfl rfl (by first | assumption | exact sp0 | exact spS sp0 | exact spS (spS sp0) | exact Sp.lit rfl rfl) rfl ?_) | (refine g_build rfl ?_; first | refine mx_build rfl rfl rfl rfl b24_0 rfl ?_ | refine mx_build rfl rfl rfl rfl (b28_1 _) rfl ?_ | refine mx_build rfl rfl rfl rfl (b39_2 _ _) rfl ?_ | refine mx_build rfl rfl rfl rfl (b24_1 _) rfl ?_ | refine mx_build rfl rfl rfl rfl (b24_2 _ _) rfl ?_ | refine mx_build rfl rfl rfl rfl b28_0 rfl ?_ | refine mx_build rfl rfl rfl rfl b29_0 rfl ?_ | refine mx_build rfl rfl rfl rfl (b25_1 _ _) rfl ?_ | refine mx_build rfl rfl rfl rfl (b31_1 _ _) rfl ?_ | refine mx_build rfl rfl rfl rfl (b31_2 _ _ _) rfl ?_) | (refine a_new rfl rfl rfl rfl rfl (fun _ => ?_)) | (refine g_box rfl ?_; first | refine a_boxl rfl rfl rfl rfl rfl rfl (fun _ => ?_) | refine a_box1 rfl rfl rfl rfl rfl rfl rfl (fun _ => ?_)) | (first | refine mx_indexn E rfl rfl rfl rfl rfl rfl rfl rfl (by omega) (by first | exact vr_RR _ (by omega)) rfl ?_ | refine mx_index E rfl rfl rfl rfl rfl rfl rfl rfl (by omega) (by omega) (by first | exact vr_RR _ (by omega)) rfl ?_) | (refine g_bs rfl ?_; first | refine a_bs0 E rfl rfl rfl rfl rfl rfl (fun _ => ?_) | refine a_bsi E rfl rfl rfl rfl rfl (by (repeat (first | exact EvI.nil | (apply EvI.cons; rfl)))) (by rfl) (by rfl) (by rfl) rfl (fun _ => ?_)) | (refine g_conv rfl ?_; first | refine mx_cv E rfl rfl rfl rfl rfl rfl (by assumption) rfl ?_ | refine mx_cv E rfl rfl rfl rfl rfl rfl (IntWalk.i64_in _ (by omega)) rfl ?_ | refine mx_cv E rfl rfl rfl rfl rfl rfl (IntWalk.u64_in _ (by omega)) rfl ?_ | refine mx_cv E rfl rfl rfl rfl rfl rfl (IntWalk.u8_in _ (by omega)) rfl ?_ | refine mx_cv E rfl rfl rfl rfl rfl rfl rfl rfl ?_) | (first | (refine g_bi .max rfl ?_; refine mx_maxi rfl rfl rfl rfl rfl rfl rfl ?_) | (refine g_bi .min rfl ?_; refine mx_mini rfl rfl rfl rfl rfl rfl rfl ?_)) | (first | refine mx_streq rfl rfl rfl rfl rfl rfl ?_ | refine mx_fn rfl rfl rfl rfl rfl rfl ?_) | (fail)) | refine cw_seq ?_ | refine cw_line rfl ?_ | (fail) | refine cw_block ?_ | refine cw_cond_f rfl ?_ | refine cw_cond_t rfl ?_ | refine cw_skip ?_ | refine cw_exit ?_ | refine cw_ret ?_ | refine pw_then ?_ | refine pw_then_x ?_ | refine pw_then_r ?_ | refine pw_block ?_ | refine pw_block_e ?_ | refine pw_block_n rfl ?_ | refine pw_block_r ?_))
  refine g_cf 18 rfl ?_
  refine a_callv rfl rfl rfl rfl Try.func18 rfl rfl rfl (.bool true) (fun w' hw => hsame ha3 hb3 (rdC_star (hw.holds 0 _ rfl) hb3).d (rdC_star (hw.holds 6 _ rfl) hba).d) rfl ?_
  (repeat (((refine (?_ : MX _ _ _ _ _ _ _ _ _ _ _)); first | (refine mx_mv _ rfl rfl (by conv => {lhs; whnf}) ?_) | (refine g_pick rfl ?_; refine mx_and rfl rfl rfl rfl rfl rfl ?_ ) ) ))
  refine g_cf 9 rfl ?_
  refine a_callv rfl rfl rfl rfl Try.func9 rfl rfl rfl (.bool true) (fun w' hw => works9 w') rfl ?_
  (repeat (first | ((refine (?_ : MX _ _ _ _ _ _ _ _ _ _ _)); first | refine mx_end ?_ | (refine mx_as _ rfl rfl (by conv => {lhs; whnf}) ?_) | (refine g_pick rfl ?_; refine mx_and rfl rfl rfl rfl rfl rfl ?_ ) ) | refine cw_ret ?_ | refine pw_then ?_ ))
  exact pw_ret rfl rfl rfl rfl fun w hw => ⟨rfl, hw.keep.grow⟩
end Go.Proofs.Ytdkolggmabnifaa
