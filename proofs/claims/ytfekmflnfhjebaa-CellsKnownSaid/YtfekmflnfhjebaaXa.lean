/- The document's cells: those that are told of, those that are not; versions, beats, numbers inside. -/
import Derived.Test.YtfekmflnfhjebaaRd
import Derived.Test.YtfekmflnfhjebaaPg
import Derived.Test.YtfekmflnfhjebaaCj
set_option maxRecDepth 100000
set_option maxHeartbeats 8000000
set_option linter.unusedSimpArgs false
set_option linter.unusedVariables false
namespace Go.Proofs.Ytfekmflnfhjebaa
open Go Go.Sx Go.RowKit
def NoM (ms : List MC) (k : Int) : Prop := k < 1 ∨ (ms.length : Int) < k ∨ ∃ (j : Nat) (m : MC), ms[j]? = some m ∧ k - 1 = (j : Int) ∧ m.swept = true
def ThM (ms : List MC) (k : Int) (j : Nat) (m : MC) : Prop := ms[j]? = some m ∧ k - 1 = (j : Int) ∧ m.swept = false
theorem th_or (ms : List MC) (k : Int) : NoM ms k ∨ ∃ j m, ThM ms k j m := by
  by_cases h1 : k < 1
  · exact .inl (.inl h1)
  by_cases h2 : (ms.length : Int) < k
  · exact .inl (.inr (.inl h2))
  obtain ⟨m, hm⟩ := getElem_some (xs := ms) (i := (k - 1).toNat) (by omega)
  cases hs : m.swept with
  | true => exact .inl (.inr (.inr ⟨(k - 1).toNat, m, hm, by omega, hs⟩))
  | false => exact .inr ⟨(k - 1).toNat, m, hm, by omega, hs⟩
theorem inMt {ms : List MC} {w : World} (h : (allM ms).holds w) {m : MC} (hm : m ∈ ms) : (ownd m.ta m.tc 3 1 m.ts.length (m.ts.flatMap cI)).holds w := star_holds h (List.mem_flatMap.2 ⟨m, hm, by simp [RM]⟩)
section
variable (mx : Nat) (ma : Option Addr) (mc : Nat) (ms : List MC)
theorem there62N (k : Int) (hk : NoM ms k) (hml : ms.length ≤ 100000) (w : World) (h1 : (row mx 78 [.slice ma ms.length mc]).holds w) (h2 : (ownd ma mc 89 5 ms.length (ms.flatMap cMC)).holds w) :
    Calls Try.prog 62 #[.pointer (some ⟨mx, 0, none⟩), .int .i64 k] w fun e w' => e = .returned (.bool false) ∧ Grow w w' := by
  rcases hk with h | h | ⟨j, m, hj, hk, hsw⟩
  · exact there62n mx ma mc ms k (.inl h) hml w h1
  · exact there62n mx ma mc ms k (.inr h) hml w h1
  have hlt := (List.getElem?_eq_some_iff.1 hj).1
  obtain ⟨b4, off, e, hcc⟩ := inl_at (own_in len_MC h2 (Nat.le_refl _)) hj
  subst e
  refine enter2 (S := fun _ => False) 28 Try.func62 rfl rfl rfl (Ok.start w) ?_
  have hS : ¬ (fun _ : Nat => False) mx := id
  have hS4 : ¬ (fun _ : Nat => False) b4 := id
  have hc0 : w.cell? ⟨b4, off + j * 5 + 4, none⟩ = some (.bool true) := by
    have := hcc 4 (.bool m.swept) rfl
    rwa [hsw] at this
  (repeat (first | ((refine (?_ : MX _ _ _ _ _ _ _ _ _ _ _)); first | refine mx_end ?_ | (refine mx_mv _ rfl rfl (by conv => {lhs; whnf}) ?_) | (refine mx_as _ rfl rfl (by conv => {lhs; whnf}) ?_) | (first | refine mx_fa0 E rfl rfl rfl rfl ?_ | refine mx_fa E rfl rfl rfl rfl ?_) | (refine g_load rfl ?_; first | refine mx_old1 E rfl rfl rfl rfl rfl (by assumption) (by assumption) rfl ?_ | refine mx_orow E rfl rfl rfl rfl rfl (by assumption) (by assumption) (by rfl) rfl ?_ ) | (refine g_bin rfl ?_; first | (first | (refine mx_cmpl .leq rfl rfl rfl rfl rfl (by first | exact cmp_le_t (by omega) | rfl) ?_) | (refine mx_cmpl .geq rfl rfl rfl rfl rfl (by first | exact cmp_ge_t (by omega) | rfl) ?_)) | (refine mx_ar rfl rfl rfl rfl rfl rfl ((IntWalk.i64_in _ (by omega)).trans (by with_reducible assumption)) rfl ?_ ) ) | (refine g_ix rfl ?_; refine mx_ixsn E rfl rfl rfl rfl rfl rfl (by omega) rfl ?_ ) | (refine mx_nc rfl rfl rfl ?_) | (refine g_bi .len rfl ?_; refine mx_len E rfl rfl rfl rfl ?_) | (refine mx_not rfl rfl rfl ?_) | (refine g_pick rfl ?_; refine mx_and rfl rfl rfl rfl rfl rfl ?_ ) ) | refine cw_seq ?_ | refine cw_line rfl ?_ | refine cw_ret ?_ | refine pw_then ?_ ))
  exact pw_ret rfl rfl rfl rfl fun w' hw => ⟨rfl, hw.keep.grow⟩
theorem size38N (k : Int) (hk : NoM ms k) (hml : ms.length ≤ 100000) (w : World) (h1 : (row mx 78 [.slice ma ms.length mc]).holds w) (h2 : (ownd ma mc 89 5 ms.length (ms.flatMap cMC)).holds w) :
    Calls Try.prog 38 #[.pointer (some ⟨mx, 0, none⟩), .int .i64 k] w fun e w' => e = .returned (.int .i64 0) ∧ Grow w w' := by
  refine enter2 (S := fun _ => False) 19 Try.func38 rfl rfl rfl (Ok.start w) ?_
  (repeat (first | ((refine (?_ : MX _ _ _ _ _ _ _ _ _ _ _)); first | refine mx_end ?_ | (refine mx_mv _ rfl rfl (by conv => {lhs; whnf}) ?_) | (refine mx_as _ rfl rfl (by conv => {lhs; whnf}) ?_) ) | refine cw_seq ?_ | refine cw_line rfl ?_ | refine pw_then ?_ ))
  refine g_cf 62 rfl ?_; refine a_callv rfl rfl rfl rfl Try.func62 rfl rfl rfl (.bool false) (fun w' hw => there62N mx ma mc ms k hk hml w' (hw.orow h1 id) (oldR hw h2 (own_lt h2))) rfl ?_
  (repeat (first | ((refine (?_ : MX _ _ _ _ _ _ _ _ _ _ _)); first | refine mx_end ?_ | (refine mx_as _ rfl rfl (by conv => {lhs; whnf}) ?_) | (refine mx_not rfl rfl rfl ?_) ) | refine cw_seq ?_ | refine cw_line rfl ?_ | refine cw_cond_t rfl ?_ | refine cw_ret ?_ | refine pw_then ?_ | refine pw_then_r ?_ ))
  exact pw_ret rfl rfl rfl rfl fun w' hw => ⟨rfl, hw.keep.grow⟩
theorem bytes41N (k : Int) (hk : NoM ms k) (hml : ms.length ≤ 100000) (w : World) (h1 : (row mx 78 [.slice ma ms.length mc]).holds w) (h2 : (ownd ma mc 89 5 ms.length (ms.flatMap cMC)).holds w) :
    Calls Try.prog 41 #[.pointer (some ⟨mx, 0, none⟩), .int .i64 k] w fun e w' => e = .returned (.slice none 0 0) ∧ Grow w w' := by
  refine enter2 (S := fun _ => False) 19 Try.func41 rfl rfl rfl (Ok.start w) ?_
  (repeat (first | ((refine (?_ : MX _ _ _ _ _ _ _ _ _ _ _)); first | refine mx_end ?_ | (refine mx_mv _ rfl rfl (by conv => {lhs; whnf}) ?_) | (refine mx_as _ rfl rfl (by conv => {lhs; whnf}) ?_) ) | refine cw_seq ?_ | refine cw_line rfl ?_ | refine pw_then ?_ ))
  refine g_cf 62 rfl ?_; refine a_callv rfl rfl rfl rfl Try.func62 rfl rfl rfl (.bool false) (fun w' hw => there62N mx ma mc ms k hk hml w' (hw.orow h1 id) (oldR hw h2 (own_lt h2))) rfl ?_
  (repeat (first | ((refine (?_ : MX _ _ _ _ _ _ _ _ _ _ _)); first | refine mx_end ?_ | (refine mx_as _ rfl rfl (by conv => {lhs; whnf}) ?_) | (refine mx_not rfl rfl rfl ?_) ) | refine cw_seq ?_ | refine cw_line rfl ?_ | refine cw_cond_t rfl ?_ | refine cw_ret ?_ | refine pw_then ?_ | refine pw_then_r ?_ ))
  exact pw_ret rfl rfl rfl rfl fun w' hw => ⟨rfl, hw.keep.grow⟩
theorem version75N (k : Int) (hk : NoM ms k) (hml : ms.length ≤ 100000) (w : World) (h1 : (row mx 78 [.slice ma ms.length mc]).holds w) (h2 : (ownd ma mc 89 5 ms.length (ms.flatMap cMC)).holds w) :
    Calls Try.prog 75 #[.pointer (some ⟨mx, 0, none⟩), .int .i64 k] w fun e w' => e = .returned (.int .i64 0) ∧ Grow w w' := by
  refine enter2 (S := fun _ => False) 18 Try.func75 rfl rfl rfl (Ok.start w) ?_
  (repeat (first | ((refine (?_ : MX _ _ _ _ _ _ _ _ _ _ _)); first | refine mx_end ?_ | (refine mx_mv _ rfl rfl (by conv => {lhs; whnf}) ?_) | (refine mx_as _ rfl rfl (by conv => {lhs; whnf}) ?_) ) | refine cw_seq ?_ | refine cw_line rfl ?_ | refine pw_then ?_ ))
  refine g_cf 62 rfl ?_; refine a_callv rfl rfl rfl rfl Try.func62 rfl rfl rfl (.bool false) (fun w' hw => there62N mx ma mc ms k hk hml w' (hw.orow h1 id) (oldR hw h2 (own_lt h2))) rfl ?_
  (repeat (first | ((refine (?_ : MX _ _ _ _ _ _ _ _ _ _ _)); first | refine mx_end ?_ | (refine mx_as _ rfl rfl (by conv => {lhs; whnf}) ?_) | (refine mx_not rfl rfl rfl ?_) ) | refine cw_seq ?_ | refine cw_line rfl ?_ | refine cw_cond_t rfl ?_ | refine cw_ret ?_ | refine pw_then ?_ | refine pw_then_r ?_ ))
  exact pw_ret rfl rfl rfl rfl fun w' hw => ⟨rfl, hw.keep.grow⟩
theorem steady77N (k now : Int) (hk : NoM ms k) (hml : ms.length ≤ 100000) (w : World) (h1 : (row mx 78 [.slice ma ms.length mc]).holds w) (h2 : (ownd ma mc 89 5 ms.length (ms.flatMap cMC)).holds w) :
    Calls Try.prog 77 #[.pointer (some ⟨mx, 0, none⟩), .int .i64 k, .int .i64 now] w fun e w' => e = .returned (.bool false) ∧ Grow w w' := by
  refine enter3 (S := fun _ => False) 23 Try.func77 rfl rfl rfl (Ok.start w) ?_
  (repeat (first | ((refine (?_ : MX _ _ _ _ _ _ _ _ _ _ _)); first | refine mx_end ?_ | (refine mx_mv _ rfl rfl (by conv => {lhs; whnf}) ?_) | (refine mx_as _ rfl rfl (by conv => {lhs; whnf}) ?_) ) | refine cw_seq ?_ | refine cw_line rfl ?_ | refine pw_then ?_ ))
  refine g_cf 62 rfl ?_; refine a_callv rfl rfl rfl rfl Try.func62 rfl rfl rfl (.bool false) (fun w' hw => there62N mx ma mc ms k hk hml w' (hw.orow h1 id) (oldR hw h2 (own_lt h2))) rfl ?_
  (repeat (first | ((refine (?_ : MX _ _ _ _ _ _ _ _ _ _ _)); first | refine mx_end ?_ | (refine mx_mv _ rfl rfl (by conv => {lhs; whnf}) ?_) | (refine mx_as _ rfl rfl (by conv => {lhs; whnf}) ?_) | (refine mx_skip rfl rfl rfl ?_) | (refine g_pick rfl ?_; refine mx_andf rfl rfl rfl rfl rfl ?_ ) ) | refine cw_ret ?_ | refine pw_then ?_ ))
  exact pw_ret rfl rfl rfl rfl fun w' hw => ⟨rfl, hw.keep.grow⟩
theorem inside80N (k off size : Int) (hk : NoM ms k) (hml : ms.length ≤ 100000) (w : World) (h1 : (row mx 78 [.slice ma ms.length mc]).holds w) (h2 : (ownd ma mc 89 5 ms.length (ms.flatMap cMC)).holds w) :
    Calls Try.prog 80 #[.pointer (some ⟨mx, 0, none⟩), .int .i64 k, .int .i64 off, .int .i64 size] w fun e w' => e = .returned (.bool false) ∧ Grow w w' := by
  refine enter4 (S := fun _ => False) 48 Try.func80 rfl rfl rfl (Ok.start w) ?_
  (repeat (first | ((refine (?_ : MX _ _ _ _ _ _ _ _ _ _ _)); first | refine mx_end ?_ | (refine mx_mv _ rfl rfl (by conv => {lhs; whnf}) ?_) | (refine mx_as _ rfl rfl (by conv => {lhs; whnf}) ?_) ) | refine cw_seq ?_ | refine cw_line rfl ?_ | refine pw_then ?_ ))
  refine g_cf 62 rfl ?_; refine a_callv rfl rfl rfl rfl Try.func62 rfl rfl rfl (.bool false) (fun w' hw => there62N mx ma mc ms k hk hml w' (hw.orow h1 id) (oldR hw h2 (own_lt h2))) rfl ?_
  (repeat (first | ((refine (?_ : MX _ _ _ _ _ _ _ _ _ _ _)); first | refine mx_end ?_ | (refine mx_mv _ rfl rfl (by conv => {lhs; whnf}) ?_) | (refine mx_as _ rfl rfl (by conv => {lhs; whnf}) ?_) | (refine mx_skip rfl rfl rfl ?_) | (refine g_pick rfl ?_; refine mx_andf rfl rfl rfl rfl rfl ?_ ) ) | refine cw_ret ?_ | refine pw_then ?_ ))
  exact pw_ret rfl rfl rfl rfl fun w' hw => ⟨rfl, hw.keep.grow⟩
theorem version75y (k : Int) (j : Nat) (m : MC) (ht : ThM ms k j m) (hml : ms.length ≤ 100000) (w : World) (h1 : (row mx 78 [.slice ma ms.length mc]).holds w) (h2 : (ownd ma mc 89 5 ms.length (ms.flatMap cMC)).holds w) :
    Calls Try.prog 75 #[.pointer (some ⟨mx, 0, none⟩), .int .i64 k] w fun e w' => e = .returned (.int .i64 m.wr) ∧ Grow w w' := by
  obtain ⟨hj, hk, hsw⟩ := ht
  have hlt := (List.getElem?_eq_some_iff.1 hj).1
  have h2' := h2
  obtain ⟨b4, off, e, hcc⟩ := inl_at (own_in len_MC h2 (Nat.le_refl _)) hj
  subst e
  refine enter2 (S := fun _ => False) 18 Try.func75 rfl rfl rfl (Ok.start w) ?_
  have hS : ¬ (fun _ : Nat => False) mx := id
  have hS4 : ¬ (fun _ : Nat => False) b4 := id
  have hc0 : w.cell? ⟨b4, off + j * 5 + 1, none⟩ = some (.int .i64 m.wr) := hcc 1 _ rfl
  (repeat (first | ((refine (?_ : MX _ _ _ _ _ _ _ _ _ _ _)); first | refine mx_end ?_ | (refine mx_mv _ rfl rfl (by conv => {lhs; whnf}) ?_) | (refine mx_as _ rfl rfl (by conv => {lhs; whnf}) ?_) ) | refine cw_seq ?_ | refine cw_line rfl ?_ | refine pw_then ?_ ))
  refine g_cf 62 rfl ?_; refine a_callv rfl rfl rfl rfl Try.func62 rfl rfl rfl (.bool true) (fun w' hw => there62y mx _ mc ms k j m hj hk hsw hml w' (hw.orow h1 id) (oldR hw h2' (own_lt h2'))) rfl ?_
  (repeat (first | ((refine (?_ : MX _ _ _ _ _ _ _ _ _ _ _)); first | refine mx_end ?_ | (refine mx_mv _ rfl rfl (by conv => {lhs; whnf}) ?_) | (refine mx_as _ rfl rfl (by conv => {lhs; whnf}) ?_) | (first | refine mx_fa0 E rfl rfl rfl rfl ?_ | refine mx_fa E rfl rfl rfl rfl ?_) | (refine g_load rfl ?_; first | refine mx_old1 E rfl rfl rfl rfl rfl (by assumption) (by assumption) rfl ?_ | refine mx_orow E rfl rfl rfl rfl rfl (by assumption) (by assumption) (by rfl) rfl ?_ ) | (refine g_bin rfl ?_; (refine mx_ar rfl rfl rfl rfl rfl rfl ((IntWalk.i64_in _ (by omega)).trans (by with_reducible assumption)) rfl ?_ ) ) | (refine g_ix rfl ?_; refine mx_ixsn E rfl rfl rfl rfl rfl rfl (by omega) rfl ?_ ) | (refine mx_nc rfl rfl rfl ?_) | (refine mx_not rfl rfl rfl ?_) ) | refine cw_seq ?_ | refine cw_line rfl ?_ | refine cw_cond_f rfl ?_ | refine cw_skip ?_ | refine cw_ret ?_ | refine pw_then ?_ ))
  exact pw_ret rfl rfl rfl rfl fun w' hw => ⟨rfl, hw.keep.grow⟩
theorem steady77y (k now : Int) (j : Nat) (m : MC) (ht : ThM ms k j m) (hml : ms.length ≤ 100000) (hts : m.ts.length ≤ 100000) (w : World) (h1 : (row mx 78 [.slice ma ms.length mc]).holds w) (h2 : (ownd ma mc 89 5 ms.length (ms.flatMap cMC)).holds w) (h3 : (allM ms).holds w) :
    Calls Try.prog 77 #[.pointer (some ⟨mx, 0, none⟩), .int .i64 k, .int .i64 now] w fun e w' => e = .returned (.bool ((wrs m.ts).std now)) ∧ Grow w w' := by
  obtain ⟨hj, hk, hsw⟩ := ht
  have hlt := (List.getElem?_eq_some_iff.1 hj).1
  have h2' := h2
  have hown := inMt h3 (List.mem_of_getElem? hj)
  obtain ⟨b4, off, e, hcc⟩ := inl_at (own_in len_MC h2 (Nat.le_refl _)) hj
  subst e
  refine enter3 (S := fun _ => False) 23 Try.func77 rfl rfl rfl (Ok.start w) ?_
  have hS : ¬ (fun _ : Nat => False) mx := id
  have hS4 : ¬ (fun _ : Nat => False) b4 := id
  have hcb : ∀ (q : Nat) (v : Value), [Value.slice m.ta m.ts.length m.tc][q]? = some v → w.cell? ⟨b4, off + j * 5 + 2 + q, none⟩ = some v := fun q v hq => by
    have h0 : q = 0 := by
      have := (List.getElem?_eq_some_iff.1 hq).1
      simpa using this
    subst h0
    exact hcc 2 v hq
  (repeat (first | ((refine (?_ : MX _ _ _ _ _ _ _ _ _ _ _)); first | refine mx_end ?_ | (refine mx_mv _ rfl rfl (by conv => {lhs; whnf}) ?_) | (refine mx_as _ rfl rfl (by conv => {lhs; whnf}) ?_) ) | refine cw_seq ?_ | refine cw_line rfl ?_ | refine pw_then ?_ ))
  refine g_cf 62 rfl ?_; refine a_callv rfl rfl rfl rfl Try.func62 rfl rfl rfl (.bool true) (fun w' hw => there62y mx _ mc ms k j m hj hk hsw hml w' (hw.orow h1 id) (oldR hw h2' (own_lt h2'))) rfl ?_
  (repeat (((refine (?_ : MX _ _ _ _ _ _ _ _ _ _ _)); first | (refine mx_mv _ rfl rfl (by conv => {lhs; whnf}) ?_) | (first | refine mx_fa0 E rfl rfl rfl rfl ?_ | refine mx_fa E rfl rfl rfl rfl ?_) | (refine g_load rfl ?_; first | refine mx_oldn E rfl rfl rfl rfl rfl (by assumption) (by assumption) (rfl) rfl ?_ | refine mx_orow E rfl rfl rfl rfl rfl (by assumption) (by assumption) (by rfl) rfl ?_ ) | (refine g_bin rfl ?_; (refine mx_ar rfl rfl rfl rfl rfl rfl ((IntWalk.i64_in _ (by omega)).trans (by with_reducible assumption)) rfl ?_ ) ) | (refine g_ix rfl ?_; refine mx_ixsn E rfl rfl rfl rfl rfl rfl (by omega) rfl ?_ ) | (refine mx_nc rfl rfl rfl ?_) ) ))
  refine g_cf 26 rfl ?_
  refine a_callv rfl rfl rfl rfl Try.func26 rfl rfl rfl _ (fun w' hw => steady26 m.ta m.tc m.ts now (by omega) w' ((own_in len_I hown (Nat.le_refl _)).keep hw fun _ _ _ h => h)) rfl ?_
  (repeat (first | ((refine (?_ : MX _ _ _ _ _ _ _ _ _ _ _)); first | refine mx_end ?_ | (refine mx_as _ rfl rfl (by conv => {lhs; whnf}) ?_) | (refine g_pick rfl ?_; refine mx_and rfl rfl rfl rfl rfl rfl ?_ ) ) | refine cw_ret ?_ | refine pw_then ?_ ))
  exact pw_ret rfl rfl rfl rfl fun w' hw => ⟨rfl, hw.keep.grow⟩
def fitM (n : Nat) (off size : Int) : Prop := (size = 1 ∨ size = 2 ∨ size = 4 ∨ size = 8) ∧ 0 ≤ off ∧ off + size ≤ (n : Int)
instance (n : Nat) (off size : Int) : Decidable (fitM n off size) := by unfold fitM; infer_instance
end
end Go.Proofs.Ytfekmflnfhjebaa
