/- The document's cache: New, Run, Progs, Drop, Forget. -/
import Derived.Test.YtikdbgheefjpkaaQm
set_option maxRecDepth 100000
set_option maxHeartbeats 8000000
set_option linter.unusedSimpArgs false
set_option linter.unusedVariables false
namespace Go.Proofs.Ytikdbgheefjpkaa
open Go Go.Sx Go.RowKit
theorem b106 (m : Int) : Blt Try.prog 106 [(0, .int .i64 m)] [.int .i64 m, .slice none 0 0, .slice none 0 0] := ⟨by kernel_rfl⟩
/-- The head of the document's cache. -/
@[reducible] def hdR (most : Int) (oa : Option Addr) (n oc : Nat) (la : Option Addr) (m lc : Nat) : List Value := [.int .i64 most, .slice oa n oc, .slice la m lc]
/-- The document's cache. -/
def RC (bx : Nat) (most : Int) (oa : Option Addr) (oc : Nat) (fs : List CD) (la : Option Addr) (lc : Nat) (rl : List Int) : List Res := [row bx 106 (hdR most oa fs.length oc la rl.length lc), ownd oa oc 59 4 fs.length (fs.flatMap cCD), allD fs, ownd la lc 3 1 rl.length (rl.flatMap cI)]
theorem new39 (m m' : Int) (hm : max 0 m = m') (w : World) : Calls Try.prog 39 #[.int .i64 m] w fun e w' => ∃ a : Nat, e = .returned (.pointer (some ⟨a, 0, none⟩)) ∧ Ok (domL []) w (RC a m' none 0 [] none 0 []) w' := by
  subst hm
  refine enter1 (S := domL []) 7 Try.func39 rfl rfl rfl (Ok.start w) ?_
  (repeat (first | ((refine (?_ : MX _ _ _ _ _ _ _ _ _ _ _)); first | refine mx_end ?_ | (refine mx_mv _ rfl rfl (by conv => {lhs; whnf}) ?_) | (refine mx_as _ rfl rfl (by conv => {lhs; whnf}) ?_) | (refine g_build rfl ?_; refine mx_build rfl rfl rfl rfl (b106 _) rfl ?_) | (refine g_box rfl ?_; refine a_boxl rfl rfl rfl rfl rfl rfl (fun _ => ?_) ) | ((refine g_bi .max rfl ?_; refine mx_maxi rfl rfl rfl rfl rfl rfl rfl ?_) ) ) | refine cw_seq ?_ | refine cw_line rfl ?_ | refine cw_ret ?_ | refine pw_then ?_ ))
  refine pw_ret rfl rfl rfl rfl fun w' hw => ⟨_, rfl, ?_⟩
  exact ((allD_nil (hw.own_nil 59 4)).own_nil 3 1).pick [3, 2, 1, 0] (by simp) rfl
/-- How often it ran. -/
def cnt (p : Int) (rl : List Int) : Int := ((rl.filter fun q => decide (q = p)).length : Int)
theorem cnt_le (p : Int) (rl : List Int) : 0 ≤ cnt p rl ∧ cnt p rl ≤ rl.length := ⟨by unfold cnt; omega, by unfold cnt; have := List.length_filter_le (fun q => decide (q = p)) rl; omega⟩
theorem cnt_snoc (p q : Int) (rl : List Int) : cnt q (rl ++ [p]) = if q = p then cnt p rl + 1 else cnt q rl := by
  unfold cnt
  rw [List.filter_append]
  by_cases h : q = p
  · subst h
    rw [if_pos rfl, List.filter_cons_of_pos (by simp)]
    simp
  · rw [if_neg h, List.filter_cons_of_neg (by simpa using fun e : p = q => h e.symm)]
    simp
theorem runs93 (bx : Nat) (v0 v1 : Value) (la : Option Addr) (lc : Nat) (rl : List Int) (hs : rl.length ≤ 100000) (p v : Int) (hv : cnt p rl = v) (w : World) (h1 : (row bx 106 [v0, v1, .slice la rl.length lc]).holds w) (hl : InL w la 1 cI rl) :
    Calls Try.prog 93 #[.pointer (some ⟨bx, 0, none⟩), .int .i64 p] w fun e w' => e = .returned (.int .i64 v) ∧ Grow w w' := by
  subst hv
  refine enter2 (S := fun _ => False) 28 Try.func93 rfl rfl rfl (Ok.start w) ?_
  have hS0 : ¬ (fun _ : Nat => False) bx := id
  (repeat (first | ((refine (?_ : MX _ _ _ _ _ _ _ _ _ _ _)); first | refine mx_end ?_ | (refine mx_as _ rfl rfl (by conv => {lhs; whnf}) ?_) ) | refine cw_seq ?_ | refine cw_line rfl ?_ | refine cw_block ?_ | refine pw_then ?_ ))
  refine cw_loop (fun i : Nat => [(6, .int .i64 i), (5, .int .i64 (cnt p (rl.take i))), (0, .pointer (some ⟨bx, 0, none⟩)), (1, .int .i64 p)]) (fun i => []) (fun i => i ≤ rl.length) (fun i => rl.length - i) 0 (Nat.zero_le _) ⟨rfl, rfl, rfl, rfl, trivial⟩ (fun w h => h) ?_
  intro i jk hi
  by_cases h2 : (i : Int) < rl.length
  case neg =>
    obtain rfl : i = rl.length := by omega
    rw [List.take_length]
    (repeat (first | ((refine (?_ : MX _ _ _ _ _ _ _ _ _ _ _)); first | refine mx_end ?_ | (refine mx_mv _ rfl rfl (by conv => {lhs; whnf}) ?_) | (refine mx_as _ rfl rfl (by conv => {lhs; whnf}) ?_) | ( refine mx_fa E rfl rfl rfl rfl ?_) | (refine g_load rfl ?_; refine mx_orow E rfl rfl rfl rfl rfl (by assumption) (by assumption) (by rfl) rfl ?_ ) | (refine g_bin rfl ?_; ( (refine mx_cmpl .lss rfl rfl rfl rfl rfl (by exact cmp_lt_f (by omega) ) ?_) ) ) | (refine mx_nc rfl rfl rfl ?_) | (refine g_bi .len rfl ?_; refine mx_len E rfl rfl rfl rfl ?_) ) | refine cw_seq ?_ | refine cw_line rfl ?_ | refine cw_cond_f rfl ?_ | refine cw_exit ?_ | refine cw_ret ?_ | refine pw_then ?_ | refine pw_then_x ?_ | refine pw_block_e ?_ ))
    exact pw_ret rfl rfl rfl rfl fun w hw => ⟨rfl, hw.keep.grow⟩
  obtain ⟨x, hx⟩ := getElem_some (xs := rl) (i := i) (by omega)
  obtain ⟨b4, off, e, hcc⟩ := inl_at hl hx
  subst e
  have hS : ¬ (fun _ : Nat => False) b4 := id
  have hc1 : w.cell? ⟨b4, off + i * 1, none⟩ = some (.int .i64 x) := hcc 0 _ rfl
  have htk : rl.take (i + 1) = rl.take i ++ [x] := by rw [List.take_add_one, hx]; rfl
  have hcb := cnt_le p (rl.take i)
  rw [List.length_take] at hcb
  have hcs := cnt_snoc x p (rl.take i)
  rw [← htk] at hcs
  by_cases hp : x = p
  · rw [if_pos hp.symm, hp] at hcs
    (repeat (first | ((refine (?_ : MX _ _ _ _ _ _ _ _ _ _ _)); first | refine mx_end ?_ | (refine mx_mv _ rfl rfl (by conv => {lhs; whnf}) ?_) | (refine mx_as _ rfl rfl (by conv => {lhs; whnf}) ?_) | ( refine mx_fa E rfl rfl rfl rfl ?_) | (refine g_load rfl ?_; first | refine mx_old1 E rfl rfl rfl rfl rfl (by assumption) (by assumption) rfl ?_ | refine mx_orow E rfl rfl rfl rfl rfl (by assumption) (by assumption) (by rfl) rfl ?_ ) | (refine g_bin rfl ?_; first | (first | (refine mx_cmpl .eql rfl rfl rfl rfl rfl (by exact cmp_eq_t (by omega) ) ?_) | (refine mx_cmpl .lss rfl rfl rfl rfl rfl (by exact cmp_lt_t (by omega) ) ?_) ) | ( refine mx_ar rfl rfl rfl rfl rfl rfl (IntWalk.i64_in _ (by omega)) rfl ?_ ) ) | (refine g_ix rfl ?_; refine mx_ixsn E rfl rfl rfl rfl rfl rfl (by omega) rfl ?_ ) | (refine mx_nc rfl rfl rfl ?_) | (refine g_bi .len rfl ?_; refine mx_len E rfl rfl rfl rfl ?_) ) | refine cw_seq ?_ | refine cw_line rfl ?_ | refine cw_block ?_ | refine cw_cond_t rfl ?_ | refine cw_skip ?_ | refine pw_then ?_ | refine pw_block ?_ ))
    exact pw_round (i + 1) (by omega) (by omega) (by rw [hcs]; exact ⟨rfl, rfl, rfl, rfl, trivial⟩) (fun w h => h)
  · rw [if_neg (fun e => hp e.symm)] at hcs
    (repeat (first | ((refine (?_ : MX _ _ _ _ _ _ _ _ _ _ _)); first | refine mx_end ?_ | (refine mx_mv _ rfl rfl (by conv => {lhs; whnf}) ?_) | (refine mx_as _ rfl rfl (by conv => {lhs; whnf}) ?_) | ( refine mx_fa E rfl rfl rfl rfl ?_) | (refine g_load rfl ?_; first | refine mx_old1 E rfl rfl rfl rfl rfl (by assumption) (by assumption) rfl ?_ | refine mx_orow E rfl rfl rfl rfl rfl (by assumption) (by assumption) (by rfl) rfl ?_ ) | (refine g_bin rfl ?_; first | (first | (refine mx_cmpl .eql rfl rfl rfl rfl rfl (by first | exact cmp_eq_t (by omega) | exact cmp_eq_f (by omega) ) ?_) | (refine mx_cmpl .lss rfl rfl rfl rfl rfl (by exact cmp_lt_t (by omega) ) ?_) ) | ( refine mx_ar rfl rfl rfl rfl rfl rfl (IntWalk.i64_in _ (by omega)) rfl ?_ ) ) | (refine g_ix rfl ?_; refine mx_ixsn E rfl rfl rfl rfl rfl rfl (by omega) rfl ?_ ) | (refine mx_nc rfl rfl rfl ?_) | (refine g_bi .len rfl ?_; refine mx_len E rfl rfl rfl rfl ?_) ) | refine cw_seq ?_ | refine cw_line rfl ?_ | refine cw_block ?_ | refine cw_cond_f rfl ?_ | refine cw_cond_t rfl ?_ | refine cw_skip ?_ | refine pw_then ?_ | refine pw_block ?_ ))
    exact pw_round (i + 1) (by omega) (by omega) (by rw [hcs]; exact ⟨rfl, rfl, rfl, rfl, trivial⟩) (fun w h => h)
theorem run70 (bx : Nat) (most : Int) (oa : Option Addr) (oc n : Nat) (la : Option Addr) (lc : Nat) (rl : List Int) (hs : rl.length ≤ 10000) (p v : Int) (hv : cnt p rl + 1 = v) (w : World) (h0 : Ok (domL [row bx 106 (hdR most oa n oc la rl.length lc), ownd la lc 3 1 rl.length (rl.flatMap cI)]) w [row bx 106 (hdR most oa n oc la rl.length lc), ownd la lc 3 1 rl.length (rl.flatMap cI)] w) :
    Calls Try.prog 70 #[.pointer (some ⟨bx, 0, none⟩), .int .i64 p] w fun e w' => ∃ a : Option Addr × Nat, e = .returned (.int .i64 v) ∧ Ok (domL [row bx 106 (hdR most oa n oc la rl.length lc), ownd la lc 3 1 rl.length (rl.flatMap cI)]) w [row bx 106 (hdR most oa n oc a.1 (rl ++ [p]).length a.2), ownd a.1 a.2 3 1 (rl ++ [p]).length ((rl ++ [p]).flatMap cI)] w' := by
  refine enter2 (S := domL [row bx 106 (hdR most oa n oc la rl.length lc), ownd la lc 3 1 rl.length (rl.flatMap cI)]) (H := [row bx 106 (hdR most oa n oc la rl.length lc), ownd la lc 3 1 rl.length (rl.flatMap cI)]) 18 Try.func70 rfl rfl rfl h0 ?_
  have hv2 : cnt p (rl ++ [p]) = v := by rw [cnt_snoc, if_pos rfl]; exact hv
  (repeat (first | ((refine (?_ : MX _ _ _ _ _ _ _ _ _ _ _)); first | refine mx_end ?_ | (refine mx_mv _ rfl rfl (by conv => {lhs; whnf}) ?_) | (refine mx_as _ rfl rfl (by conv => {lhs; whnf}) ?_) | ( refine mx_fa E rfl rfl rfl rfl ?_) | (refine g_load rfl ?_; refine mx_get E rfl rfl rfl rfl rfl (by rfl) rfl ?_ ) | (refine mx_nc rfl rfl rfl ?_) | (refine g_bs rfl ?_; refine a_bsi E rfl rfl rfl rfl rfl (by (repeat (first | exact EvI.nil | (apply EvI.cons; rfl)))) (by rfl) (by rfl) (by rfl) rfl (fun _ => ?_)) ) | refine cw_seq ?_ | refine cw_line rfl ?_ | refine pw_then ?_ ))
  rename_i b9
  refine g_bi .append rfl ?_
  refine a_app E rfl rfl rfl rfl rfl rfl rfl rfl [.int .i64 p] rfl (fun w hw => fun _ => ⟨b9, 0, rfl, fun j u hj => by rw [add_at, Nat.zero_add]; exact row_cell (hw.holds 0 _ rfl) hj⟩) rfl (by omega) rfl (fun _ _ _ _ => trivial) (fun a2 c2 => ?_)
  have e1 : rl.flatMap cI ++ [.int .i64 p] = (rl ++ [p]).flatMap cI := by rw [List.flatMap_append]; simp
  have e2 : rl.length + 1 = (rl ++ [p]).length := by simp
  rw [e1, e2]
  have hl2 : (rl ++ [p]).length ≤ 100000 := by rw [← e2]; omega
  (repeat (first | ((refine (?_ : MX _ _ _ _ _ _ _ _ _ _ _)); first | refine mx_end ?_ | (refine mx_mv _ rfl rfl (by conv => {lhs; whnf}) ?_) | ( refine mx_fa E rfl rfl rfl rfl ?_) | (refine mx_nc rfl rfl rfl ?_) | (refine g_store rfl ?_; refine s_1 E rfl rfl rfl rfl rfl rfl rfl rfl (by exact spS (spS sp0) ) rfl ?_) ) | refine cw_seq ?_ | refine cw_line rfl ?_ | refine pw_then ?_ ))
  refine g_cf 93 rfl ?_
  refine a_callv rfl rfl rfl rfl Try.func93 rfl rfl rfl (.int .i64 v) (fun w' hw => runs93 bx _ _ a2 c2 (rl ++ [p]) hl2 p v hv2 w' (hw.holds 1 _ rfl) (own_in len_I (hw.holds 2 _ rfl) (Nat.le_refl _))) rfl ?_
  (repeat (first | ((refine (?_ : MX _ _ _ _ _ _ _ _ _ _ _)); first | refine mx_end ?_ | (refine mx_as _ rfl rfl (by conv => {lhs; whnf}) ?_) ) | refine cw_ret ?_ | refine pw_then ?_ ))
  exact pw_ret rfl rfl rfl rfl fun w' hw => ⟨(a2, c2), rfl, hw.pick [1, 2] (by simp) rfl⟩
theorem progs42 (bx : Nat) (v0 v2 : Value) (oa : Option Addr) (oc : Nat) (fs : List CD) (hs : fs.length ≤ 100000) (w : World) (h1 : (row bx 106 [v0, .slice oa fs.length oc, v2]).holds w) (hl : InL w oa 4 cCD fs) :
    Calls Try.prog 42 #[.pointer (some ⟨bx, 0, none⟩)] w fun e w' => ∃ a : Option Addr × Nat, e = .returned (.slice a.1 fs.length a.2) ∧ Ok (domL []) w [ownd a.1 a.2 3 1 fs.length ((fs.map CD.prog).flatMap cI)] w' := by
  refine enter1 (S := domL []) 26 Try.func42 rfl rfl rfl (Ok.start w) ?_
  have hS0 : ¬ (domL [] : Nat → Prop) bx := no_dom _
  (repeat (first | ((refine (?_ : MX _ _ _ _ _ _ _ _ _ _ _)); first | refine mx_end ?_ | (refine mx_as _ rfl rfl (by conv => {lhs; whnf}) ?_) ) | refine cw_seq ?_ | refine cw_line rfl ?_ | refine cw_block ?_ | refine pw_then ?_ ))
  refine cw_loop (ι := Nat × (Option Addr × Nat)) (fun q => [(4, .int .i64 q.1), (3, .slice q.2.1 q.1 q.2.2), (0, .pointer (some ⟨bx, 0, none⟩))]) (fun q => [ownd q.2.1 q.2.2 3 1 q.1 (((fs.map CD.prog).take q.1).flatMap cI)]) (fun q => q.1 ≤ fs.length) (fun q => fs.length - q.1) (0, (none, 0)) (Nat.zero_le _) ⟨rfl, rfl, rfl, trivial⟩ (fun w h => h.own_nil 3 1) ?_
  rintro ⟨i, ⟨a1, c1⟩⟩ jk hi
  dsimp only at hi ⊢
  by_cases h2 : (i : Int) < fs.length
  case neg =>
    obtain rfl : i = fs.length := by omega
    rw [List.take_of_length_le (by simp)]
    (repeat (first | ((refine (?_ : MX _ _ _ _ _ _ _ _ _ _ _)); first | refine mx_end ?_ | (refine mx_mv _ rfl rfl (by conv => {lhs; whnf}) ?_) | (refine mx_as _ rfl rfl (by conv => {lhs; whnf}) ?_) | ( refine mx_fa E rfl rfl rfl rfl ?_) | (refine g_load rfl ?_; refine mx_orow E rfl rfl rfl rfl rfl (by assumption) (by assumption) (by rfl) rfl ?_ ) | (refine g_bin rfl ?_; ( (refine mx_cmpl .lss rfl rfl rfl rfl rfl (by exact cmp_lt_f (by omega) ) ?_) ) ) | (refine mx_nc rfl rfl rfl ?_) | (refine g_bi .len rfl ?_; refine mx_len E rfl rfl rfl rfl ?_) ) | refine cw_seq ?_ | refine cw_line rfl ?_ | refine cw_cond_f rfl ?_ | refine cw_exit ?_ | refine cw_ret ?_ | refine pw_then ?_ | refine pw_then_x ?_ | refine pw_block_e ?_ ))
    exact pw_ret rfl rfl rfl rfl fun w' hw => ⟨(a1, c1), rfl, hw⟩
  obtain ⟨x, hx⟩ := getElem_some (xs := fs) (i := i) (by omega)
  obtain ⟨b4, off, e, hcc⟩ := inl_at hl hx
  subst e
  have hS : ¬ (domL [] : Nat → Prop) b4 := no_dom _
  have hc1 : w.cell? ⟨b4, off + i * 4, none⟩ = some (.int .i64 x.prog) := hcc 0 _ rfl
  have hxk : (fs.map CD.prog)[i]? = some x.prog := by rw [List.getElem?_map, hx]; rfl
  (repeat (first | ((refine (?_ : MX _ _ _ _ _ _ _ _ _ _ _)); first | refine mx_end ?_ | (refine mx_mv _ rfl rfl (by conv => {lhs; whnf}) ?_) | (first | refine mx_fa0 E rfl rfl rfl rfl ?_ | refine mx_fa E rfl rfl rfl rfl ?_) | (refine g_load rfl ?_; first | refine mx_old1 E rfl rfl rfl rfl rfl (by assumption) (by assumption) rfl ?_ | refine mx_orow E rfl rfl rfl rfl rfl (by assumption) (by assumption) (by rfl) rfl ?_ ) | (refine g_bin rfl ?_; ( (refine mx_cmpl .lss rfl rfl rfl rfl rfl (by exact cmp_lt_t (by omega) ) ?_) ) ) | (refine g_ix rfl ?_; refine mx_ixsn E rfl rfl rfl rfl rfl rfl (by omega) rfl ?_ ) | (refine mx_nc rfl rfl rfl ?_) | (refine g_bi .len rfl ?_; refine mx_len E rfl rfl rfl rfl ?_) | (refine g_bs rfl ?_; refine a_bsi E rfl rfl rfl rfl rfl (by (repeat (first | exact EvI.nil | (apply EvI.cons; rfl)))) (by rfl) (by rfl) (by rfl) rfl (fun _ => ?_)) ) | refine cw_seq ?_ | refine cw_line rfl ?_ | refine cw_block ?_ | refine cw_cond_t rfl ?_ | refine cw_skip ?_ | refine pw_then ?_ ))
  rename_i b9
  refine g_bi .append rfl ?_
  refine a_app E rfl rfl rfl rfl rfl rfl rfl rfl [.int .i64 x.prog] rfl (fun w hw => fun _ => ⟨b9, 0, rfl, fun j u hj => by rw [add_at, Nat.zero_add]; exact row_cell (hw.holds 0 _ rfl) hj⟩) rfl (by omega) rfl (fun _ _ _ _ => trivial) (fun a2 c2 => ?_)
  rw [take_c cI hxk]
  (repeat (first | ((refine (?_ : MX _ _ _ _ _ _ _ _ _ _ _)); first | refine mx_end ?_ | (refine mx_mv _ rfl rfl (by conv => {lhs; whnf}) ?_) | (refine mx_as _ rfl rfl (by conv => {lhs; whnf}) ?_) | (refine g_bin rfl ?_; ( refine mx_ar rfl rfl rfl rfl rfl rfl (IntWalk.i64_in _ (by omega)) rfl ?_ ) ) ) | refine cw_line rfl ?_ | refine pw_then ?_ | refine pw_block ?_ ))
  exact pw_round (i + 1, a2, c2) (by show i + 1 ≤ fs.length; omega) (by show fs.length - (i + 1) < fs.length - i; omega) ⟨rfl, rfl, rfl, trivial⟩ (fun w h => h.only 1 rfl)
/-- Those that stay. -/
@[reducible] def wo (p : Int) (fs : List CD) : List CD := fs.filter fun c => decide (c.prog ≠ p)
theorem drop73 (bx : Nat) (most : Int) (oa : Option Addr) (oc : Nat) (fs : List CD) (la : Option Addr) (m lc : Nat) (p : Int) (b : Bool) (hb : decide ((wo p fs).length < fs.length) = b) (hs : fs.length ≤ 100000) (w : World) (hl : InL w oa 4 cCD fs) (hne : fs ≠ [] → ∀ b off, oa = some ⟨b, off, none⟩ → ¬ domL [row bx 106 (hdR most oa fs.length oc la m lc)] b) (h0 : Ok (domL [row bx 106 (hdR most oa fs.length oc la m lc)]) w [row bx 106 (hdR most oa fs.length oc la m lc)] w) :
    Calls Try.prog 73 #[.pointer (some ⟨bx, 0, none⟩), .int .i64 p] w fun e w' => ∃ a : Option Addr × Nat, e = .returned (.bool b) ∧ Ok (domL [row bx 106 (hdR most oa fs.length oc la m lc)]) w [row bx 106 (hdR most a.1 (wo p fs).length a.2 la m lc), ownd a.1 a.2 59 4 (wo p fs).length ((wo p fs).flatMap cCD)] w' := by
  subst hb
  refine enter2 (S := domL [row bx 106 (hdR most oa fs.length oc la m lc)]) (H := [row bx 106 (hdR most oa fs.length oc la m lc)]) 50 Try.func73 rfl rfl rfl h0 ?_
  (repeat (first | ((refine (?_ : MX _ _ _ _ _ _ _ _ _ _ _)); first | refine mx_end ?_ | (refine mx_as _ rfl rfl (by conv => {lhs; whnf}) ?_) ) | refine cw_seq ?_ | refine cw_line rfl ?_ | refine cw_block ?_ | refine pw_then ?_ ))
  refine cw_loop (ι := Nat × (Option Addr × Nat)) (fun q => [(6, .int .i64 q.1), (5, .slice q.2.1 (wo p (fs.take q.1)).length q.2.2), (0, .pointer (some ⟨bx, 0, none⟩)), (1, .int .i64 p)]) (fun q => [ownd q.2.1 q.2.2 59 4 (wo p (fs.take q.1)).length ((wo p (fs.take q.1)).flatMap cCD), row bx 106 (hdR most oa fs.length oc la m lc)]) (fun q => q.1 ≤ fs.length) (fun q => fs.length - q.1) (0, (none, 0)) (Nat.zero_le _) ⟨rfl, rfl, rfl, rfl, trivial⟩ (fun w h => h.own_nil 59 4) ?_
  rintro ⟨i, ⟨a1, c1⟩⟩ jk hi
  dsimp only at hi ⊢
  by_cases h1 : (i : Int) < fs.length
  case neg =>
    obtain rfl : i = fs.length := by omega
    rw [List.take_length]
    by_cases hlt : ((wo p fs).length : Int) < fs.length
    · rw [decide_eq_true (by omega)]
      (repeat (first | ((refine (?_ : MX _ _ _ _ _ _ _ _ _ _ _)); first | refine mx_end ?_ | (refine mx_mv _ rfl rfl (by conv => {lhs; whnf}) ?_) | (refine mx_as _ rfl rfl (by conv => {lhs; whnf}) ?_) | ( refine mx_fa E rfl rfl rfl rfl ?_) | (refine g_load rfl ?_; refine mx_get E rfl rfl rfl rfl rfl (by rfl) rfl ?_ ) | (refine g_bin rfl ?_; ( (refine mx_cmpl .lss rfl rfl rfl rfl rfl (by first | exact cmp_lt_t (by omega) | exact cmp_lt_f (by omega) ) ?_) ) ) | (refine mx_nc rfl rfl rfl ?_) | (refine g_bi .len rfl ?_; refine mx_len E rfl rfl rfl rfl ?_) | (refine g_store rfl ?_; refine s_1 E rfl rfl rfl rfl rfl rfl rfl rfl (by exact spS sp0 ) rfl ?_) ) | refine cw_seq ?_ | refine cw_line rfl ?_ | refine cw_cond_f rfl ?_ | refine cw_exit ?_ | refine cw_ret ?_ | refine pw_then ?_ | refine pw_then_x ?_ | refine pw_block_e ?_ ))
      exact pw_ret rfl rfl rfl rfl fun w' hw => ⟨(a1, c1), rfl, hw.pick [1, 0] (by simp) rfl⟩
    · rw [decide_eq_false (by omega)]
      (repeat (first | ((refine (?_ : MX _ _ _ _ _ _ _ _ _ _ _)); first | refine mx_end ?_ | (refine mx_mv _ rfl rfl (by conv => {lhs; whnf}) ?_) | (refine mx_as _ rfl rfl (by conv => {lhs; whnf}) ?_) | ( refine mx_fa E rfl rfl rfl rfl ?_) | (refine g_load rfl ?_; refine mx_get E rfl rfl rfl rfl rfl (by rfl) rfl ?_ ) | (refine g_bin rfl ?_; ( (refine mx_cmpl .lss rfl rfl rfl rfl rfl (by exact cmp_lt_f (by omega) ) ?_) ) ) | (refine mx_nc rfl rfl rfl ?_) | (refine g_bi .len rfl ?_; refine mx_len E rfl rfl rfl rfl ?_) | (refine g_store rfl ?_; refine s_1 E rfl rfl rfl rfl rfl rfl rfl rfl (by exact spS sp0 ) rfl ?_) ) | refine cw_seq ?_ | refine cw_line rfl ?_ | refine cw_cond_f rfl ?_ | refine cw_exit ?_ | refine cw_ret ?_ | refine pw_then ?_ | refine pw_then_x ?_ | refine pw_block_e ?_ ))
      exact pw_ret rfl rfl rfl rfl fun w' hw => ⟨(a1, c1), rfl, hw.pick [1, 0] (by simp) rfl⟩
  obtain ⟨x, hx⟩ := getElem_some (xs := fs) (i := i) (by omega)
  have hne' := hne (by intro e; subst e; simp at hx)
  obtain ⟨b4, off, e, hcc⟩ := inl_at hl hx
  subst e
  have hS : ¬ (domL [row bx 106 (hdR most (some ⟨b4, off, none⟩) fs.length oc la m lc)] : Nat → Prop) b4 := hne' b4 off rfl
  have hc0 : ∀ (k : Nat) (v : Value), (cCD x)[k]? = some v → w.cell? ⟨b4, off + i * 4 + k, none⟩ = some v := hcc
  have hc1 : w.cell? ⟨b4, off + i * 4, none⟩ = some (.int .i64 x.prog) := hcc 0 _ rfl
  have htk : fs.take (i + 1) = fs.take i ++ [x] := by rw [List.take_add_one, hx]; rfl
  have hfl : (wo p (fs.take i)).length ≤ 100000 := by
    refine Nat.le_trans (List.length_filter_le ..) ?_
    rw [List.length_take]
    omega
  by_cases hk : x.prog = p
  · have e2 : wo p (fs.take (i + 1)) = wo p (fs.take i) := by
      show (fs.take (i + 1)).filter _ = _
      rw [htk, List.filter_append, List.filter_cons_of_neg (by simp [hk])]; exact List.append_nil _
    (repeat (first | ((refine (?_ : MX _ _ _ _ _ _ _ _ _ _ _)); first | refine mx_end ?_ | (refine mx_mv _ rfl rfl (by conv => {lhs; whnf}) ?_) | (refine mx_as _ rfl rfl (by conv => {lhs; whnf}) ?_) | (first | refine mx_fa0 E rfl rfl rfl rfl ?_ | refine mx_fa E rfl rfl rfl rfl ?_) | (refine g_load rfl ?_; first | refine mx_get E rfl rfl rfl rfl rfl (by rfl) rfl ?_ | refine mx_old1 E rfl rfl rfl rfl rfl (by assumption) (by assumption) rfl ?_ ) | (refine g_bin rfl ?_; first | (first | (refine mx_cmpl .neq rfl rfl rfl rfl rfl (by exact cmp_ne_f (by omega) ) ?_) | (refine mx_cmpl .lss rfl rfl rfl rfl rfl (by exact cmp_lt_t (by omega) ) ?_) ) | ( refine mx_ar rfl rfl rfl rfl rfl rfl (IntWalk.i64_in _ (by omega)) rfl ?_ ) ) | (refine g_ix rfl ?_; refine mx_ixsn E rfl rfl rfl rfl rfl rfl (by omega) rfl ?_ ) | (refine mx_nc rfl rfl rfl ?_) | (refine g_bi .len rfl ?_; refine mx_len E rfl rfl rfl rfl ?_) ) | refine cw_seq ?_ | refine cw_line rfl ?_ | refine cw_block ?_ | refine cw_cond_f rfl ?_ | refine cw_cond_t rfl ?_ | refine cw_skip ?_ | refine pw_then ?_ | refine pw_block ?_ ))
    exact pw_round (i + 1, (a1, c1)) (by show i + 1 ≤ fs.length; omega) (by show fs.length - (i + 1) < fs.length - i; omega) (by dsimp only; rw [e2]; exact ⟨rfl, rfl, rfl, rfl, trivial⟩) (fun w h => by dsimp only; rw [e2]; exact h)
  · have e2 : wo p (fs.take (i + 1)) = wo p (fs.take i) ++ [x] := by
      show (fs.take (i + 1)).filter _ = _
      rw [htk, List.filter_append, List.filter_cons_of_pos (by simpa using hk)]; rfl
    have e3 : (wo p (fs.take i)).flatMap cCD ++ cCD x = (wo p (fs.take (i + 1))).flatMap cCD := by rw [e2, List.flatMap_append]; simp
    have e4 : (wo p (fs.take i)).length + 1 = (wo p (fs.take (i + 1))).length := by rw [e2]; simp
    (repeat (first | ((refine (?_ : MX _ _ _ _ _ _ _ _ _ _ _)); first | refine mx_end ?_ | (refine mx_mv _ rfl rfl (by conv => {lhs; whnf}) ?_) | (first | refine mx_fa0 E rfl rfl rfl rfl ?_ | refine mx_fa E rfl rfl rfl rfl ?_) | (refine g_load rfl ?_; first | refine mx_get E rfl rfl rfl rfl rfl (by rfl) rfl ?_ | refine mx_oldn E rfl rfl rfl rfl rfl (by assumption) (by assumption) (rfl) rfl ?_ | refine mx_old1 E rfl rfl rfl rfl rfl (by assumption) (by assumption) rfl ?_ ) | (refine g_bin rfl ?_; (first | (refine mx_cmpl .neq rfl rfl rfl rfl rfl (by exact cmp_ne_t (by omega) ) ?_) | (refine mx_cmpl .lss rfl rfl rfl rfl rfl (by exact cmp_lt_t (by omega) ) ?_) ) ) | (refine g_ix rfl ?_; refine mx_ixsn E rfl rfl rfl rfl rfl rfl (by omega) rfl ?_ ) | (refine mx_nc rfl rfl rfl ?_) | (refine g_bi .len rfl ?_; refine mx_len E rfl rfl rfl rfl ?_) ) | refine cw_seq ?_ | refine cw_line rfl ?_ | refine cw_block ?_ | refine cw_cond_t rfl ?_ | refine cw_skip ?_ | refine pw_then ?_ ))
    refine g_bs rfl ?_
    refine a_bslice1 E rfl rfl rfl rfl (us := cCD x) rfl rfl rfl rfl rfl rfl (fun b9 => ?_)
    refine g_bi .append rfl ?_
    refine a_app E rfl rfl rfl rfl rfl rfl rfl rfl (cCD x) rfl (fun w hw => fun _ => ⟨b9, 0, rfl, fun j u hj => by rw [add_at, Nat.zero_add]; exact row_cell (hw.holds 0 _ rfl) hj⟩) rfl (by omega) rfl (fun _ _ _ _ => trivial) (fun a2 c2 => ?_)
    rw [e3, e4]
    (repeat (first | ((refine (?_ : MX _ _ _ _ _ _ _ _ _ _ _)); first | refine mx_end ?_ | (refine mx_mv _ rfl rfl (by conv => {lhs; whnf}) ?_) | (refine mx_as _ rfl rfl (by conv => {lhs; whnf}) ?_) | (refine g_bin rfl ?_; ( refine mx_ar rfl rfl rfl rfl rfl rfl (IntWalk.i64_in _ (by omega)) rfl ?_ ) ) ) | refine cw_line rfl ?_ | refine pw_then ?_ | refine pw_block ?_ ))
    exact pw_round (i + 1, (a2, c2)) (by show i + 1 ≤ fs.length; omega) (by show fs.length - (i + 1) < fs.length - i; omega) ⟨rfl, rfl, rfl, rfl, trivial⟩ (fun w h => h.pick [1, 2] (by simp) rfl)
end Go.Proofs.Ytikdbgheefjpkaa
