/- The program's cells: a number in a cell, loaded and stored. -/
import Derived.Test.YtfekmflnfhjebaaCd
import Derived.Test.YtfekmflnfhjebaaNb
set_option maxRecDepth 100000
set_option maxHeartbeats 8000000
set_option linter.unusedSimpArgs false
set_option linter.unusedVariables false
namespace Go.Proofs.Ytfekmflnfhjebaa
open Go Go.Sx Go.RowKit
theorem index82 (ad : Option Addr) (m cap : Nat) (l : List Int) (hm : l.length = m) (hs : m ≤ 100000) (x : Int) (w : World) (hl : InL w ad 1 cI l) :
    Calls Try.prog 82 #[.slice ad m cap, .int .i64 x] w fun e w' => ∃ a : {v : Int // 0 ≤ v ↔ x ∈ l}, e = .returned (.int .i64 a.1) ∧ Ok (domL []) w [] w' := by
  refine enter2 (S := domL []) 19 Try.func82 rfl rfl rfl (Ok.start w) ?_
  (repeat (first | ((refine (?_ : MX _ _ _ _ _ _ _ _ _ _ _)); first | refine mx_end ?_ | (refine mx_mv _ rfl rfl (by conv => {lhs; whnf}) ?_) | (refine mx_as _ rfl rfl (by conv => {lhs; whnf}) ?_) | (refine g_bi .len rfl ?_; refine mx_len E rfl rfl rfl rfl ?_) ) | refine cw_seq ?_ | refine cw_line rfl ?_ | refine cw_block ?_ | refine pw_then ?_ ))
  refine cw_loop (ι := Nat) (fun i => [(8, .int .i64 i), (7, .int .i64 m), (0, .slice ad m cap), (1, .int .i64 x)]) (fun i => []) (fun i => i ≤ m ∧ ∀ j, j < i → l[j]? ≠ some x) (fun i => m - i) 0 ⟨by omega, fun j hj => by omega⟩ ⟨rfl, rfl, rfl, rfl, trivial⟩ (fun w h => h) ?_
  intro i jk ⟨hi, hno⟩
  by_cases him : (i : Int) < m
  case neg =>
    have hx : ¬ x ∈ l := fun h => by
      obtain ⟨j, hj⟩ := List.mem_iff_getElem?.1 h
      have := (List.getElem?_eq_some_iff.1 hj).1
      exact hno j (by omega) hj
    (repeat (first | ((refine (?_ : MX _ _ _ _ _ _ _ _ _ _ _)); first | refine mx_end ?_ | (refine mx_as _ rfl rfl (by conv => {lhs; whnf}) ?_) | (refine g_bin rfl ?_; ( (refine mx_cmpl .lss rfl rfl rfl rfl rfl (by exact cmp_lt_f (by omega) ) ?_) ) ) ) | refine cw_seq ?_ | refine cw_line rfl ?_ | refine cw_cond_f rfl ?_ | refine cw_exit ?_ | refine cw_ret ?_ | refine pw_then ?_ | refine pw_then_x ?_ | refine pw_block_e ?_ ))
    exact pw_ret rfl rfl rfl rfl fun w' hw => ⟨⟨-1, by constructor <;> intro h; exact absurd h (by decide); exact absurd h hx⟩, rfl, hw⟩
  case pos =>
    obtain ⟨y, hy⟩ := getElem_some (xs := l) (i := i) (by omega)
    obtain ⟨b4, off, e, hcc⟩ := inl_at hl hy
    subst e
    have hS : ¬ (domL [] : Nat → Prop) b4 := no_dom b4
    have hc0 : w.cell? ⟨b4, off + i * 1, none⟩ = some (.int .i64 y) := hcc 0 _ rfl
    by_cases hxy : x = y
    · (repeat (first | ((refine (?_ : MX _ _ _ _ _ _ _ _ _ _ _)); first | refine mx_end ?_ | (refine mx_mv _ rfl rfl (by conv => {lhs; whnf}) ?_) | (refine mx_as _ rfl rfl (by conv => {lhs; whnf}) ?_) | (refine g_load rfl ?_; refine mx_old1 E rfl rfl rfl rfl rfl (by assumption) (by assumption) rfl ?_ ) | (refine g_bin rfl ?_; (first | (refine mx_cmpl .eql rfl rfl rfl rfl rfl (by exact cmp_eq_t (by omega) ) ?_) | (refine mx_cmpl .lss rfl rfl rfl rfl rfl (by exact cmp_lt_t (by omega) ) ?_) ) ) | (refine g_ix rfl ?_; refine mx_ixsn E rfl rfl rfl rfl rfl rfl (by omega) rfl ?_ ) ) | refine cw_seq ?_ | refine cw_line rfl ?_ | refine cw_block ?_ | refine cw_cond_t rfl ?_ | refine cw_skip ?_ | refine cw_ret ?_ | refine pw_then ?_ | refine pw_then_r ?_ | refine pw_block_r ?_))
      refine pw_ret rfl rfl rfl rfl fun w' hw => ⟨⟨(i : Int), ⟨fun _ => by rw [hxy]; exact List.mem_of_getElem? hy, fun _ => by omega⟩⟩, rfl, hw⟩
    · (repeat (first | ((refine (?_ : MX _ _ _ _ _ _ _ _ _ _ _)); first | refine mx_end ?_ | (refine mx_mv _ rfl rfl (by conv => {lhs; whnf}) ?_) | (refine mx_as _ rfl rfl (by conv => {lhs; whnf}) ?_) | (refine g_load rfl ?_; refine mx_old1 E rfl rfl rfl rfl rfl (by assumption) (by assumption) rfl ?_ ) | (refine g_bin rfl ?_; first | (first | (refine mx_cmpl .eql rfl rfl rfl rfl rfl (by exact cmp_eq_f (by omega) ) ?_) | (refine mx_cmpl .lss rfl rfl rfl rfl rfl (by exact cmp_lt_t (by omega) ) ?_) ) | (refine mx_ar rfl rfl rfl rfl rfl rfl (IntWalk.i64_in _ (by omega)) rfl ?_ ) ) | (refine g_ix rfl ?_; refine mx_ixsn E rfl rfl rfl rfl rfl rfl (by omega) rfl ?_ ) ) | refine cw_seq ?_ | refine cw_line rfl ?_ | refine cw_block ?_ | refine cw_cond_f rfl ?_ | refine cw_cond_t rfl ?_ | refine cw_skip ?_ | refine pw_then ?_ | refine pw_block ?_ ))
      refine pw_round (i + 1) ⟨by omega, fun j hj => ?_⟩ (by omega) ⟨rfl, rfl, rfl, rfl, trivial⟩ (fun w h => h)
      by_cases hji : j = i
      · subst hji
        rw [hy]
        exact fun e => hxy (Option.some.inj e).symm
      · exact hno j (by omega)
theorem contains78 (ad : Option Addr) (m cap : Nat) (l : List Int) (hm : l.length = m) (hs : m ≤ 100000) (x : Int) (w : World) (hl : InL w ad 1 cI l) :
    Calls Try.prog 78 #[.slice ad m cap, .int .i64 x] w fun e w' => e = .returned (.bool (decide (x ∈ l))) ∧ Grow w w' := by
  refine enter2 (S := fun _ => False) 9 Try.func78 rfl rfl rfl (Ok.start w) ?_
  (repeat (first | ((refine (?_ : MX _ _ _ _ _ _ _ _ _ _ _)); first | refine mx_end ?_ | (refine mx_mv _ rfl rfl (by conv => {lhs; whnf}) ?_) | (refine mx_as _ rfl rfl (by conv => {lhs; whnf}) ?_) ) | refine cw_seq ?_ | refine cw_line rfl ?_ | refine pw_then ?_ ))
  refine g_cf 82 rfl ?_
  refine a_callL rfl rfl rfl rfl Try.func82 rfl rfl rfl [] _ rfl (fun a : {v : Int // 0 ≤ v ↔ x ∈ l} => .int .i64 a.1) (fun a => []) (fun w' hw _ => index82 ad m cap l hm hs x w' (hl.keep hw fun _ _ _ h => h)) (fun _ => rfl) (fun _ _ _ => trivial) (fun a => ?_)
  obtain ⟨v, hv⟩ := a
  have e1 : decide (0 ≤ v) = decide (x ∈ l) := by rw [Bool.eq_iff_iff, decide_eq_true_iff, decide_eq_true_iff]; exact hv
  (repeat (first | ((refine (?_ : MX _ _ _ _ _ _ _ _ _ _ _)); first | refine mx_end ?_ | (refine mx_as _ rfl rfl (by conv => {lhs; whnf}) ?_) | (refine g_bin rfl ?_; ( (refine mx_cmpl .geq rfl rfl rfl rfl rfl (by rfl) ?_)) ) ) | refine cw_ret ?_ | refine pw_then ?_ ))
  exact pw_ret rfl rfl rfl rfl fun w' hw => ⟨by show Ending.returned (Value.bool (decide (0 ≤ v))) = _; rw [e1], hw.keep.grow⟩
def fits (c : PC) (off size : Int) : Prop := (size = 1 ∨ size = 2 ∨ size = 4 ∨ size = 8) ∧ 0 ≤ off ∧ off + size ≤ c.bs.length
theorem mem_sz {x : Int} (h : x = 1 ∨ x = 2 ∨ x = 4 ∨ x = 8) : decide (x ∈ ([1, 2, 4, 8] : List Int)) = true := decide_eq_true (by simpa using h)
theorem mem_nz {x : Int} (h : ¬ (x = 1 ∨ x = 2 ∨ x = 4 ∨ x = 8)) : decide (x ∈ ([1, 2, 4, 8] : List Int)) = false := decide_eq_false (by simpa using h)
theorem part66n (bx r : Nat) (last k off size : Int) (cs : List PC) (hno : ∀ c, lc k cs = some c → ¬ fits c off size) (ho : -9223372036854775808 ≤ off ∧ off < 9223372036854775808) (hb : ∀ c ∈ cs, c.bs.length ≤ 100000) (w : World) (h1 : (row bx 83 (hdC r last)).holds w) (h2 : (mapR r (kvC cs)).holds w) (h3 : (allC cs).holds w) :
    Calls Try.prog 66 #[.pointer (some ⟨bx, 0, none⟩), .int .i64 k, .int .i64 off, .int .i64 size] w fun e w' => e = .returned (.tuple #[.pointer none, .slice none 0 0, .bool false]) ∧ Grow w w' := by
  refine enter4 (S := fun _ => False) 64 Try.func66 rfl rfl rfl (Ok.start w) ?_
  have hS : ¬ (fun _ : Nat => False) bx := id
  cases hc : lc k cs with
  | none =>
    have hlv := look_none hc
    (repeat (first | ((refine (?_ : MX _ _ _ _ _ _ _ _ _ _ _)); first | refine mx_end ?_ | (refine mx_mv _ rfl rfl (by conv => {lhs; whnf}) ?_) | (refine mx_as _ rfl rfl (by conv => {lhs; whnf}) ?_) | (refine mx_fa0 E rfl rfl rfl rfl ?_ ) | (refine g_load rfl ?_; refine mx_orow E rfl rfl rfl rfl rfl (by assumption) (by assumption) (by rfl) rfl ?_ ) | (refine mx_nc rfl rfl rfl ?_) | (refine mx_not rfl rfl rfl ?_) | (refine mx_ex _ rfl rfl rfl (by conv => {lhs; whnf}) ?_) | (refine mx_skip rfl rfl rfl ?_) | (refine g_pick rfl ?_; refine mx_ort rfl rfl rfl rfl rfl ?_ ) | ( (refine mx_look mt81 rfl rfl rfl rfl rfl (hr := ⟨.inl ⟨fun _ => rfl, fun w' hw => Ok.oldM hw (by with_reducible assumption) (by exact id )⟩⟩) (by with_reducible assumption) rfl ?_)) ) | refine cw_seq ?_ | refine cw_line rfl ?_ | refine cw_cond_t rfl ?_ | refine cw_ret ?_ | refine pw_then ?_ | refine pw_then_r ?_ ))
    exact pw_rets rfl [_, _, _] ⟨rfl, rfl, rfl, trivial⟩ rfl fun w' hw => ⟨rfl, hw.keep.grow⟩
  | some c =>
    have hlv := look_some hc
    have hcr := inC h3 (lc_mem hc).1
    have hbl := hb c (lc_mem hc).1
    have hn := hno c hc
    unfold fits at hn
    have hSp : ¬ (fun _ : Nat => False) c.p := id
    by_cases hsz : size = 1 ∨ size = 2 ∨ size = 4 ∨ size = 8
    case neg =>
      (repeat (first | ((refine (?_ : MX _ _ _ _ _ _ _ _ _ _ _)); first | refine mx_end ?_ | (refine mx_mv _ rfl rfl (by conv => {lhs; whnf}) ?_) | (refine mx_as _ rfl rfl (by conv => {lhs; whnf}) ?_) | (refine mx_fa0 E rfl rfl rfl rfl ?_ ) | (refine g_load rfl ?_; refine mx_orow E rfl rfl rfl rfl rfl (by assumption) (by assumption) (by rfl) rfl ?_ ) | (refine mx_nc rfl rfl rfl ?_) | (refine mx_not rfl rfl rfl ?_) | (refine mx_ex _ rfl rfl rfl (by conv => {lhs; whnf}) ?_) | (refine g_bs rfl ?_; refine a_bsi E rfl rfl rfl rfl rfl (by (repeat (first | exact EvI.nil | (apply EvI.cons; rfl)))) (by rfl) (by rfl) (by rfl) rfl (fun _ => ?_)) | ( (refine mx_look mt81 rfl rfl rfl rfl rfl (hr := ⟨.inl ⟨fun _ => rfl, fun w' hw => Ok.oldM hw (by with_reducible assumption) (by exact id )⟩⟩) (by with_reducible assumption) rfl ?_)) ) | refine cw_seq ?_ | refine cw_line rfl ?_ | refine pw_then ?_ ))
      rename_i bk
      refine g_cf 78 rfl ?_; refine a_callv rfl rfl rfl rfl Try.func78 rfl rfl rfl (.bool false) (fun w' hw => by have h78 := contains78 (some ⟨bk, 0, none⟩) 4 4 [1, 2, 4, 8] rfl (by omega) size w' (row_in len_I (hw.holds 0 _ rfl)); rw [mem_nz hsz] at h78; exact h78) rfl ?_
      (repeat (first | ((refine (?_ : MX _ _ _ _ _ _ _ _ _ _ _)); first | refine mx_end ?_ | (refine mx_mv _ rfl rfl (by conv => {lhs; whnf}) ?_) | (refine mx_as _ rfl rfl (by conv => {lhs; whnf}) ?_) | (refine mx_not rfl rfl rfl ?_) | (refine mx_skip rfl rfl rfl ?_) | (refine g_pick rfl ?_; first | refine mx_ort rfl rfl rfl rfl rfl ?_ | refine mx_or rfl rfl rfl rfl rfl rfl ?_ ) ) | refine cw_seq ?_ | refine cw_line rfl ?_ | refine cw_cond_t rfl ?_ | refine cw_ret ?_ | refine pw_then ?_ | refine pw_then_r ?_ ))
      exact pw_rets rfl [_, _, _] ⟨rfl, rfl, rfl, trivial⟩ rfl fun w' hw => ⟨rfl, hw.keep.grow⟩
    case pos =>
      (repeat (first | ((refine (?_ : MX _ _ _ _ _ _ _ _ _ _ _)); first | refine mx_end ?_ | (refine mx_mv _ rfl rfl (by conv => {lhs; whnf}) ?_) | (refine mx_as _ rfl rfl (by conv => {lhs; whnf}) ?_) | (refine mx_fa0 E rfl rfl rfl rfl ?_ ) | (refine g_load rfl ?_; refine mx_orow E rfl rfl rfl rfl rfl (by assumption) (by assumption) (by rfl) rfl ?_ ) | (refine mx_nc rfl rfl rfl ?_) | (refine mx_not rfl rfl rfl ?_) | (refine mx_ex _ rfl rfl rfl (by conv => {lhs; whnf}) ?_) | (refine g_bs rfl ?_; refine a_bsi E rfl rfl rfl rfl rfl (by (repeat (first | exact EvI.nil | (apply EvI.cons; rfl)))) (by rfl) (by rfl) (by rfl) rfl (fun _ => ?_)) | ( (refine mx_look mt81 rfl rfl rfl rfl rfl (hr := ⟨.inl ⟨fun _ => rfl, fun w' hw => Ok.oldM hw (by with_reducible assumption) (by exact id )⟩⟩) (by with_reducible assumption) rfl ?_)) ) | refine cw_seq ?_ | refine cw_line rfl ?_ | refine pw_then ?_ ))
      rename_i bk
      refine g_cf 78 rfl ?_; refine a_callv rfl rfl rfl rfl Try.func78 rfl rfl rfl (.bool true) (fun w' hw => by have h78 := contains78 (some ⟨bk, 0, none⟩) 4 4 [1, 2, 4, 8] rfl (by omega) size w' (row_in len_I (hw.holds 0 _ rfl)); rw [mem_sz hsz] at h78; exact h78) rfl ?_
      by_cases ho0 : off < 0
      · (repeat (first | ((refine (?_ : MX _ _ _ _ _ _ _ _ _ _ _)); first | refine mx_end ?_ | (refine mx_mv _ rfl rfl (by conv => {lhs; whnf}) ?_) | (refine mx_as _ rfl rfl (by conv => {lhs; whnf}) ?_) | (refine g_bin rfl ?_; ( (refine mx_cmpl .lss rfl rfl rfl rfl rfl (by exact cmp_lt_t (by omega) ) ?_) ) ) | (refine mx_not rfl rfl rfl ?_) | (refine mx_skip rfl rfl rfl ?_) | (refine g_pick rfl ?_; first | refine mx_ort rfl rfl rfl rfl rfl ?_ | refine mx_or rfl rfl rfl rfl rfl rfl ?_ ) ) | refine cw_seq ?_ | refine cw_line rfl ?_ | refine cw_cond_t rfl ?_ | refine cw_ret ?_ | refine pw_then ?_ | refine pw_then_r ?_ ))
        exact pw_rets rfl [_, _, _] ⟨rfl, rfl, rfl, trivial⟩ rfl fun w' hw => ⟨rfl, hw.keep.grow⟩
      · by_cases hol : off > c.bs.length
        · (repeat (first | ((refine (?_ : MX _ _ _ _ _ _ _ _ _ _ _)); first | refine mx_end ?_ | (refine mx_mv _ rfl rfl (by conv => {lhs; whnf}) ?_) | (refine mx_as _ rfl rfl (by conv => {lhs; whnf}) ?_) | (refine mx_fa0 E rfl rfl rfl rfl ?_ ) | (refine g_load rfl ?_; refine mx_orow E rfl rfl rfl rfl rfl (by assumption) (by assumption) (by rfl) rfl ?_ ) | (refine g_bin rfl ?_; (first | (refine mx_cmpl .lss rfl rfl rfl rfl rfl (by first | exact cmp_lt_t (by omega) | exact cmp_lt_f (by omega) ) ?_) | (refine mx_cmpl .gtr rfl rfl rfl rfl rfl (by exact cmp_gt_t (by omega) ) ?_) ) ) | (refine mx_nc rfl rfl rfl ?_) | (refine g_bi .len rfl ?_; refine mx_len E rfl rfl rfl rfl ?_) | (refine mx_not rfl rfl rfl ?_) | (refine mx_skip rfl rfl rfl ?_) | (refine g_pick rfl ?_; first | refine mx_ort rfl rfl rfl rfl rfl ?_ | refine mx_or rfl rfl rfl rfl rfl rfl ?_ ) ) | refine cw_seq ?_ | refine cw_line rfl ?_ | refine cw_cond_t rfl ?_ | refine cw_ret ?_ | refine pw_then ?_ | refine pw_then_r ?_ ))
          exact pw_rets rfl [_, _, _] ⟨rfl, rfl, rfl, trivial⟩ rfl fun w' hw => ⟨rfl, hw.keep.grow⟩
        · (repeat (first | ((refine (?_ : MX _ _ _ _ _ _ _ _ _ _ _)); first | refine mx_end ?_ | (refine mx_mv _ rfl rfl (by conv => {lhs; whnf}) ?_) | (refine mx_as _ rfl rfl (by conv => {lhs; whnf}) ?_) | (refine mx_fa0 E rfl rfl rfl rfl ?_ ) | (refine g_load rfl ?_; refine mx_orow E rfl rfl rfl rfl rfl (by assumption) (by assumption) (by rfl) rfl ?_ ) | (refine g_bin rfl ?_; first | (first | (refine mx_cmpl .lss rfl rfl rfl rfl rfl (by first | exact cmp_lt_f (by omega) | rfl) ?_) | (refine mx_cmpl .gtr rfl rfl rfl rfl rfl (by first | exact cmp_gt_t (by omega) | exact cmp_gt_f (by omega) | rfl) ?_) ) | (refine mx_ar rfl rfl rfl rfl rfl rfl (IntWalk.i64_in _ (by omega)) rfl ?_ ) ) | (refine mx_nc rfl rfl rfl ?_) | (refine g_bi .len rfl ?_; refine mx_len E rfl rfl rfl rfl ?_) | (refine mx_not rfl rfl rfl ?_) | (refine g_pick rfl ?_; refine mx_or rfl rfl rfl rfl rfl rfl ?_ ) ) | refine cw_seq ?_ | refine cw_line rfl ?_ | refine cw_cond_t rfl ?_ | refine cw_ret ?_ | refine pw_then ?_ | refine pw_then_r ?_ ))
          exact pw_rets rfl [_, _, _] ⟨rfl, rfl, rfl, trivial⟩ rfl fun w' hw => ⟨rfl, hw.keep.grow⟩
theorem part66y (bx r : Nat) (last k : Int) (cs : List PC) (c : PC) (hc : lc k cs = some c) (ob nb bb : Nat) (hba : c.ba = some ⟨bb, 0, none⟩) (hsz : nb = 1 ∨ nb = 2 ∨ nb = 4 ∨ nb = 8) (hfit : ob + nb ≤ c.bs.length) (hcap : c.bs.length ≤ c.cap) (hb : c.bs.length ≤ 100000) (w : World) (h1 : (row bx 83 (hdC r last)).holds w) (h2 : (mapR r (kvC cs)).holds w) (hcr : (row c.p 94 (cPC c)).holds w) :
    Calls Try.prog 66 #[.pointer (some ⟨bx, 0, none⟩), .int .i64 k, .int .i64 ob, .int .i64 nb] w fun e w' => e = .returned (.tuple #[.pointer (some ⟨c.p, 0, none⟩), .slice (some ⟨bb, ob, none⟩) nb (c.cap - ob), .bool true]) ∧ Grow w w' := by
  obtain ⟨id', p, ba, cap, bs, wr, bt, dr⟩ := c
  have hba : ba = some ⟨bb, 0, none⟩ := hba
  subst hba
  dsimp only at hfit hcap hb ⊢
  replace hcr : (row p 94 [.slice (some ⟨bb, 0, none⟩) bs.length cap, .int .i64 wr, .complex .f64 (fe bt.x) (fe bt.y), .int .i64 bt.n, .int .i64 bt.last, .bool dr]).holds w := hcr
  refine enter4 (S := fun _ => False) 64 Try.func66 rfl rfl rfl (Ok.start w) ?_
  have hS : ¬ (fun _ : Nat => False) bx := id
  have hlv := look_some hc
  dsimp only at hlv
  have hSp : ¬ (fun _ : Nat => False) p := id
  (repeat (first | ((refine (?_ : MX _ _ _ _ _ _ _ _ _ _ _)); first | refine mx_end ?_ | (refine mx_mv _ rfl rfl (by conv => {lhs; whnf}) ?_) | (refine mx_as _ rfl rfl (by conv => {lhs; whnf}) ?_) | (refine mx_fa0 E rfl rfl rfl rfl ?_ ) | (refine g_load rfl ?_; refine mx_orow E rfl rfl rfl rfl rfl (by assumption) (by assumption) (by rfl) rfl ?_ ) | (refine mx_nc rfl rfl rfl ?_) | (refine mx_not rfl rfl rfl ?_) | (refine mx_ex _ rfl rfl rfl (by conv => {lhs; whnf}) ?_) | (refine g_bs rfl ?_; refine a_bsi E rfl rfl rfl rfl rfl (by (repeat (first | exact EvI.nil | (apply EvI.cons; rfl)))) (by rfl) (by rfl) (by rfl) rfl (fun _ => ?_)) | ( (refine mx_look mt81 rfl rfl rfl rfl rfl (hr := ⟨.inl ⟨fun _ => rfl, fun w' hw => Ok.oldM hw (by with_reducible assumption) (by exact id )⟩⟩) (by with_reducible assumption) rfl ?_)) ) | refine cw_seq ?_ | refine cw_line rfl ?_ | refine pw_then ?_ ))
  rename_i bk
  refine g_cf 78 rfl ?_; refine a_callv rfl rfl rfl rfl Try.func78 rfl rfl rfl (.bool true) (fun w' hw => by have h78 := contains78 (some ⟨bk, 0, none⟩) 4 4 [1, 2, 4, 8] rfl (by omega) (nb : Int) w' (row_in len_I (hw.holds 0 _ rfl)); rw [mem_sz (by omega)] at h78; exact h78) rfl ?_
  (repeat (first | ((refine (?_ : MX _ _ _ _ _ _ _ _ _ _ _)); first | refine mx_end ?_ | (refine mx_mv _ rfl rfl (by conv => {lhs; whnf}) ?_) | (refine mx_fa0 E rfl rfl rfl rfl ?_ ) | (refine g_load rfl ?_; refine mx_orow E rfl rfl rfl rfl rfl (by assumption) (by assumption) (by rfl) rfl ?_ ) | (refine g_bin rfl ?_; first | (first | (refine mx_cmpl .lss rfl rfl rfl rfl rfl (by first | exact cmp_lt_f (by omega) | rfl) ?_) | (refine mx_cmpl .gtr rfl rfl rfl rfl rfl (by first | exact cmp_gt_f (by omega) | rfl) ?_) ) | (refine mx_ar rfl rfl rfl rfl rfl rfl (IntWalk.i64_in _ (by omega)) rfl ?_ ) ) | (refine mx_nc rfl rfl rfl ?_) | (refine g_bi .len rfl ?_; refine mx_len E rfl rfl rfl rfl ?_) | (refine mx_not rfl rfl rfl ?_) | (refine g_pick rfl ?_; refine mx_or rfl rfl rfl rfl rfl rfl ?_ ) ) | refine cw_seq ?_ | refine cw_cond_f rfl ?_ | refine cw_skip ?_ | refine pw_then ?_ ))
  refine cw_drawq mixed rfl (by kernel_rfl) rfl ?_
  (repeat (((refine (?_ : MX _ _ _ _ _ _ _ _ _ _ _)); first | (refine mx_mv _ rfl rfl (by conv => {lhs; whnf}) ?_) | (refine mx_fa0 E rfl rfl rfl rfl ?_ ) | (refine g_load rfl ?_; refine mx_orow E rfl rfl rfl rfl rfl (by assumption) (by assumption) (by rfl) rfl ?_ ) | (refine g_bin rfl ?_; (refine mx_ar rfl rfl rfl rfl rfl rfl (IntWalk.i64_in _ (by omega)) rfl ?_ ) ) | (refine mx_nc rfl rfl rfl ?_) ) ))
  refine mx_slice_lh E rfl rfl rfl rfl rfl rfl rfl (by omega) (by omega) (by omega) (by omega) rfl ?_
  rw [show ((ob : Int) + (nb : Int)).toNat - (ob : Int).toNat = nb by omega, show 0 + (ob : Int).toNat * 1 = ob by omega, show cap - (ob : Int).toNat = cap - ob by omega]
  (repeat (first | ((refine (?_ : MX _ _ _ _ _ _ _ _ _ _ _)); first | refine mx_end ?_ | (refine mx_as _ rfl rfl (by conv => {lhs; whnf}) ?_) ) | refine cw_ret ?_ | refine pw_then ?_ ))
  exact pw_rets rfl [_, _, _] ⟨rfl, rfl, rfl, trivial⟩ rfl fun w' hw => ⟨rfl, hw.keep.grow⟩
/-- Bytes of which some were written over. -/
def wrB (bs : List Int) (off : Nat) (us : List Int) : List Int := bs.take off ++ us ++ bs.drop (off + us.length)
theorem wrB_len {bs : List Int} {off : Nat} {us : List Int} (h : off + us.length ≤ bs.length) : (wrB bs off us).length = bs.length := by
  simp only [wrB, List.length_append, List.length_take, List.length_drop]
  omega
theorem byts_s (v : Int) (i : Nat) : byts v (i + 1) = byts v i ++ [bytw v i] := by simp [byts, List.range_succ]
theorem sp_wr (bs : List Int) (v : Int) (rest : List Value) {off i : Nat} (h : off + i < bs.length) : Sp ((wrB bs off (byts v i)).flatMap cU ++ rest) (off + i * 1) [.int .u8 (bytw v i)] ((wrB bs off (byts v (i + 1))).flatMap cU ++ rest) := by
  unfold wrB
  rw [byts_s, byts_len, List.drop_eq_getElem_cons h, List.length_append, byts_len, List.length_singleton]
  have := Sp.right ((bs.take off ++ byts v i).flatMap cU) (sp0 (a := .int .u8 bs[off + i]) (v := .int .u8 (bytw v i)) (l := (bs.drop (off + i + 1)).flatMap cU ++ rest))
  rw [flatU_len, List.length_append, byts_len, List.length_take, Nat.min_eq_left (by omega), Nat.add_zero] at this
  rw [Nat.mul_one]
  have e1 : ∀ x : Int, (bs.take off ++ byts v i).flatMap cU ++ (Value.int .u8 x :: ((bs.drop (off + i + 1)).flatMap cU ++ rest)) = (bs.take off ++ byts v i ++ (x :: bs.drop (off + i + 1))).flatMap cU ++ rest := fun x => by
    simp [List.flatMap_append, List.flatMap_cons]
  rw [e1, e1] at this
  rw [show off + (i + 1) = off + i + 1 by omega]
  simpa [List.append_assoc] using this
theorem load49n (bx r : Nat) (last k off size : Int) (cs : List PC) (hno : ∀ c, lc k cs = some c → ¬ fits c off size) (ho : -9223372036854775808 ≤ off ∧ off < 9223372036854775808) (hb : ∀ c ∈ cs, c.bs.length ≤ 100000) (w : World) (h1 : (row bx 83 (hdC r last)).holds w) (h2 : (mapR r (kvC cs)).holds w) (h3 : (allC cs).holds w) :
    Calls Try.prog 49 #[.pointer (some ⟨bx, 0, none⟩), .int .i64 k, .int .i64 off, .int .i64 size] w fun e w' => e = .returned (.tuple #[.int .u64 0, .bool false]) ∧ Grow w w' := by
  refine enter4 (S := fun _ => False) 42 Try.func49 rfl rfl rfl (Ok.start w) ?_
  (repeat (first | ((refine (?_ : MX _ _ _ _ _ _ _ _ _ _ _)); first | refine mx_end ?_ | (refine mx_mv _ rfl rfl (by conv => {lhs; whnf}) ?_) | (refine mx_as _ rfl rfl (by conv => {lhs; whnf}) ?_) ) | refine cw_seq ?_ | refine cw_line rfl ?_ | refine pw_then ?_ ))
  refine g_cf 66 rfl ?_
  refine a_callv rfl rfl rfl rfl Try.func66 rfl rfl rfl _ (fun w' hw => part66n bx r last k off size cs hno ho hb w' (hw.orow h1 id) (Ok.oldM hw h2 id) (oldA hw h3 (fun _ => id))) rfl ?_
  (repeat (first | ((refine (?_ : MX _ _ _ _ _ _ _ _ _ _ _)); first | refine mx_end ?_ | (refine mx_mv _ rfl rfl (by conv => {lhs; whnf}) ?_) | (refine mx_as _ rfl rfl (by conv => {lhs; whnf}) ?_) | (refine g_bi .len rfl ?_; refine mx_len E rfl rfl rfl rfl ?_) | (refine mx_ex _ rfl rfl rfl (by conv => {lhs; whnf}) ?_) ) | refine cw_seq ?_ | refine cw_line rfl ?_ | refine cw_block ?_ | refine pw_then ?_ ))
  refine cw_loop (ι := Nat) (fun i => [(27, .int .i64 0), (26, .int .i64 0), (13, .int .u64 0), (12, .bool false)]) (fun i => []) (fun i => True) (fun i => 0) 0 trivial ⟨rfl, rfl, rfl, rfl, trivial⟩ (fun w h => h) ?_
  intro i jk hi
  (repeat (first | ((refine (?_ : MX _ _ _ _ _ _ _ _ _ _ _)); first | refine mx_end ?_ | (refine mx_mv _ rfl rfl (by conv => {lhs; whnf}) ?_) | (refine mx_as _ rfl rfl (by conv => {lhs; whnf}) ?_) | (refine g_bin rfl ?_; ( (refine mx_cmpl .lss rfl rfl rfl rfl rfl (by exact cmp_lt_f (by omega) ) ?_) ) ) ) | refine cw_seq ?_ | refine cw_line rfl ?_ | refine cw_cond_f rfl ?_ | refine cw_exit ?_ | refine cw_ret ?_ | refine pw_then ?_ | refine pw_then_x ?_ | refine pw_block_e ?_ ))
  exact pw_rets rfl [_, _] ⟨rfl, rfl, trivial⟩ rfl fun w' hw => ⟨rfl, hw.keep.grow⟩
theorem load49y (bx r : Nat) (last k : Int) (cs : List PC) (c : PC) (hc : lc k cs = some c) (ob nb bb : Nat) (hba : c.ba = some ⟨bb, 0, none⟩) (hsz : nb = 1 ∨ nb = 2 ∨ nb = 4 ∨ nb = 8) (hfit : ob + nb ≤ c.bs.length) (hby : Byts c.bs) (hb : c.bs.length ≤ 100000) (w : World) (h1 : (row bx 83 (hdC r last)).holds w) (h2 : (mapR r (kvC cs)).holds w) (h3 : (allC cs).holds w) :
    Calls Try.prog 49 #[.pointer (some ⟨bx, 0, none⟩), .int .i64 k, .int .i64 ob, .int .i64 nb] w fun e w' => e = .returned (.tuple #[.int .u64 (numB ((c.bs.drop ob).take nb)), .bool true]) ∧ Grow w w' := by
  have hcr := inC h3 (lc_mem hc).1
  have hown := inB h3 (lc_mem hc).1
  rw [hba] at hown
  obtain ⟨rest, _, _, hcap, _, hrow⟩ := own_open hown
  have hin := own_in (xs := c.bs) len_U hown (Nat.le_refl _)
  have hbs : Byts ((c.bs.drop ob).take nb) := fun x hx => hby x (List.mem_of_mem_drop (List.mem_of_mem_take hx))
  have hbl : ((c.bs.drop ob).take nb).length = nb := by rw [List.length_take, List.length_drop]; omega
  refine enter4 (S := fun _ => False) 42 Try.func49 rfl rfl rfl (Ok.start w) ?_
  (repeat (first | ((refine (?_ : MX _ _ _ _ _ _ _ _ _ _ _)); first | refine mx_end ?_ | (refine mx_mv _ rfl rfl (by conv => {lhs; whnf}) ?_) | (refine mx_as _ rfl rfl (by conv => {lhs; whnf}) ?_) ) | refine cw_seq ?_ | refine cw_line rfl ?_ | refine pw_then ?_ ))
  refine g_cf 66 rfl ?_
  refine a_callv rfl rfl rfl rfl Try.func66 rfl rfl rfl _ (fun w' hw => part66y bx r last k cs c hc ob nb bb hba hsz hfit hcap hb w' (hw.orow h1 id) (Ok.oldM hw h2 id) (hw.orow hcr id)) rfl ?_
  (repeat (first | ((refine (?_ : MX _ _ _ _ _ _ _ _ _ _ _)); first | refine mx_end ?_ | (refine mx_mv _ rfl rfl (by conv => {lhs; whnf}) ?_) | (refine mx_as _ rfl rfl (by conv => {lhs; whnf}) ?_) | (refine g_bi .len rfl ?_; refine mx_len E rfl rfl rfl rfl ?_) | (refine mx_ex _ rfl rfl rfl (by conv => {lhs; whnf}) ?_) ) | refine cw_seq ?_ | refine cw_line rfl ?_ | refine cw_block ?_ | refine pw_then ?_ ))
  refine cw_loop (ι := Nat) (fun i => [(27, .int .i64 i), (26, .int .i64 nb), (25, .slice (some ⟨bb, ob, none⟩) nb (c.cap - ob)), (13, .int .u64 (numB (((c.bs.drop ob).take nb).take i))), (12, .bool true)]) (fun i => []) (fun i => i ≤ nb) (fun i => nb - i) 0 (by omega) ⟨rfl, rfl, rfl, rfl, rfl, trivial⟩ (fun w h => h) ?_
  intro i jk hi
  by_cases hin2 : (i : Int) < nb
  case neg =>
    obtain rfl : i = nb := by omega
    rw [List.take_take, Nat.min_self]
    (repeat (first | ((refine (?_ : MX _ _ _ _ _ _ _ _ _ _ _)); first | refine mx_end ?_ | (refine mx_mv _ rfl rfl (by conv => {lhs; whnf}) ?_) | (refine mx_as _ rfl rfl (by conv => {lhs; whnf}) ?_) | (refine g_bin rfl ?_; ( (refine mx_cmpl .lss rfl rfl rfl rfl rfl (by exact cmp_lt_f (by omega) ) ?_) ) ) ) | refine cw_seq ?_ | refine cw_line rfl ?_ | refine cw_cond_f rfl ?_ | refine cw_exit ?_ | refine cw_ret ?_ | refine pw_then ?_ | refine pw_then_x ?_ | refine pw_block_e ?_ ))
    exact pw_rets rfl [_, _] ⟨rfl, rfl, trivial⟩ rfl fun w' hw => ⟨rfl, hw.keep.grow⟩
  case pos =>
    obtain ⟨x, hx⟩ := getElem_some (xs := (c.bs.drop ob).take nb) (i := i) (by omega)
    have hx2 : c.bs[ob + i]? = some x := by
      rw [List.getElem?_take_of_lt (by omega), List.getElem?_drop] at hx
      exact hx
    obtain ⟨b4, o4, e, hcc⟩ := inl_at hin hx2
    obtain ⟨rfl, rfl⟩ : bb = b4 ∧ 0 = o4 := by simpa using e
    have hSb : ¬ (fun _ : Nat => False) bb := id
    have hc0 : w.cell? ⟨bb, ob + i * 1, none⟩ = some (.int .u8 x) := by
      have := hcc 0 (.int .u8 x) rfl
      rw [show 0 + (ob + i) * 1 + 0 = ob + i * 1 by omega] at this
      exact this
    have hxb := hbs x (List.mem_of_getElem? hx)
    obtain ⟨n1, n2⟩ := num_step ((c.bs.drop ob).take nb) hbs (by omega) hx
    (repeat (first | ((refine (?_ : MX _ _ _ _ _ _ _ _ _ _ _)); first | refine mx_end ?_ | (refine mx_mv _ rfl rfl (by conv => {lhs; whnf}) ?_) | (refine mx_as _ rfl rfl (by conv => {lhs; whnf}) ?_) | (refine g_load rfl ?_; refine mx_old1 E rfl rfl rfl rfl rfl (by assumption) (by assumption) rfl ?_ ) | (refine g_bin rfl ?_; first | ( (refine mx_cmpl .lss rfl rfl rfl rfl rfl (by exact cmp_lt_t (by omega) ) ?_) ) | (refine mx_ar rfl rfl rfl rfl rfl rfl (IntWalk.i64_in _ (by omega)) rfl ?_ ) | refine mx_bit rfl rfl rfl rfl rfl (congrArg some (by assumption)) rfl rfl ?_ | refine mx_sh rfl rfl rfl rfl rfl (by omega) (congrArg some (by assumption)) rfl rfl ?_ ) | (refine g_ix rfl ?_; refine mx_ixsn E rfl rfl rfl rfl rfl rfl (by omega) rfl ?_ ) | (refine g_conv rfl ?_; refine mx_cv E rfl rfl rfl rfl rfl rfl (IntWalk.u64_in _ (by omega)) rfl ?_ ) ) | refine cw_seq ?_ | refine cw_line rfl ?_ | refine cw_block ?_ | refine cw_cond_t rfl ?_ | refine cw_skip ?_ | refine pw_then ?_ | refine pw_block ?_ ))
    exact pw_round (i + 1) (by omega) (by omega) ⟨rfl, rfl, rfl, rfl, rfl, trivial⟩ (fun w h => h)
end Go.Proofs.Ytfekmflnfhjebaa
