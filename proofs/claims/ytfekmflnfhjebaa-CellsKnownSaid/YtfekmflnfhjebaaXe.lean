/- The document's cells: a number stored, all of a cell written. -/
import Derived.Test.YtfekmflnfhjebaaXd
set_option maxRecDepth 100000
set_option maxHeartbeats 8000000
set_option linter.unusedSimpArgs false
set_option linter.unusedVariables false
namespace Go.Proofs.Ytfekmflnfhjebaa
open Go Go.Sx Go.RowKit
section
variable (mx : Nat) (ma : Option Addr) (mc : Nat) (ms : List MC)
theorem copyBn (ad : Option Addr) (n cap : Nat) (xs : List Int) (hx : xs.length = n) (hn : n ≤ 1000000) (w : World) (hl : InL w ad 1 cU xs) : Calls Try.prog 64 #[.slice ad n cap] w fun e w' => ∃ a : Option Addr × Nat, e = .returned (.slice a.1 n a.2) ∧ Ok (domL []) w [ownd a.1 a.2 5 1 n (xs.flatMap cU)] w' :=
  (copyB ad n cap xs hx (by omega) w hl).mono fun e w' ⟨a, h1, h2, h3, h4⟩ => ⟨a, h1, (Ok.start (S := domL []) w).push (Chg.of_grow (D := fun _ => False) h2) (fun _ _ => id) _ h3 h4⟩
theorem bw_len (m : MC) (a : Option Addr × Nat) (xs : List Int) : (m.bw a xs).bs.length = xs.length := rfl
theorem store69n (k off size v now : Int) (hn : NoM ms k ∨ ∃ j m, ThM ms k j m ∧ ¬ fitM m.bs.length off size ∧ m.bs.length ≤ 100000) (hml : ms.length ≤ 100000) (w : World) (h1 : (row mx 78 [.slice ma ms.length mc]).holds w) (h2 : (ownd ma mc 89 5 ms.length (ms.flatMap cMC)).holds w) :
    Calls Try.prog 69 #[.pointer (some ⟨mx, 0, none⟩), .int .i64 k, .int .i64 off, .int .i64 size, .int .u64 v, .int .i64 now] w fun e w' => e = .returned (.bool false) ∧ Grow w w' := by
  have h80 : ∀ w', Ok (fun _ => False) w [] w' → Calls Try.prog 80 #[.pointer (some ⟨mx, 0, none⟩), .int .i64 k, .int .i64 off, .int .i64 size] w' fun e w'' => e = .returned (.bool false) ∧ Grow w' w'' := fun w' hw => by
    rcases hn with hn | ⟨j, m, ht, hf, hb⟩
    · exact inside80N mx ma mc ms k off size hn hml w' (hw.orow h1 id) (oldR hw h2 (own_lt h2))
    · have := inside80y mx ma mc ms k off size j m ht hml hb w' (hw.orow h1 id) (oldR hw h2 (own_lt h2))
      rwa [decide_eq_false hf] at this
  refine enter6 (S := fun _ => False) 48 Try.func69 rfl rfl rfl (Ok.start w) ?_
  (repeat (first | ((refine (?_ : MX _ _ _ _ _ _ _ _ _ _ _)); first | refine mx_end ?_ | (refine mx_mv _ rfl rfl (by conv => {lhs; whnf}) ?_) | (refine mx_as _ rfl rfl (by conv => {lhs; whnf}) ?_) ) | refine cw_seq ?_ | refine cw_line rfl ?_ | refine pw_then ?_ ))
  refine g_cf 80 rfl ?_
  refine a_callv rfl rfl rfl rfl Try.func80 rfl rfl rfl (.bool false) h80 rfl ?_
  (repeat (first | ((refine (?_ : MX _ _ _ _ _ _ _ _ _ _ _)); first | refine mx_end ?_ | (refine mx_as _ rfl rfl (by conv => {lhs; whnf}) ?_) | (refine mx_not rfl rfl rfl ?_) ) | refine cw_seq ?_ | refine cw_line rfl ?_ | refine cw_cond_t rfl ?_ | refine cw_ret ?_ | refine pw_then ?_ | refine pw_then_r ?_ ))
  exact pw_ret rfl rfl rfl rfl fun w' hw => ⟨rfl, hw.keep.grow⟩
theorem om_bw {S : Nat → Prop} {w0 w : World} {j : Nat} {m : MC} (hj : ms[j]? = some m) (a : Option Addr × Nat) (xs : List Int) {H : List Res} (h : Ok S w0 (ownd a.1 a.2 5 1 xs.length (xs.flatMap cU) :: ownd m.ta m.tc 3 1 m.ts.length (m.ts.flatMap cI) :: allM (ms.eraseIdx j) :: row mx 78 [.slice ma ms.length mc] :: ownd ma mc 89 5 ms.length ((ms.set j (m.bw a xs)).flatMap cMC) :: H) w) : Ok S w0 (Sx.star (OM mx ma mc (ms.set j (m.bw a xs))) :: H) w := by
  have h1 := plugM (m := m.bw a xs) (permMs hj) h
  refine Ok.star ?_
  unfold OM
  rw [List.length_set]
  exact h1.perm (by
    refine ((List.Perm.swap _ _ _).trans ?_)
    exact (List.Perm.swap _ _ _).cons _)
theorem store69y (k : Int) (ob nb j : Nat) (m : MC) (v now : Int) (hv : 0 ≤ v ∧ v < 18446744073709551616) (ht : ThM ms k j m) (hf : fitM m.bs.length ob nb) (hml : ms.length ≤ 100000) (hbl : m.bs.length ≤ 100000) (htl : m.ts.length ≤ 100000) (hwr : m.wr ≤ 100000) (w : World) (h0 : Ok (domL (OM mx ma mc ms)) w (OM mx ma mc ms) w) :
    Calls Try.prog 69 #[.pointer (some ⟨mx, 0, none⟩), .int .i64 k, .int .i64 ob, .int .i64 nb, .int .u64 v, .int .i64 now] w fun e w' => ∃ a : Option Addr × Nat, e = .returned (.bool true) ∧ Ok (domL (OM mx ma mc ms)) w (OM mx ma mc (ms.set j ((m.bw (m.ba, m.cap) (wrB m.bs ob (byts v nb))).tw a now))) w' := by
  have ht' := ht
  obtain ⟨hj, hk, hsw⟩ := ht
  have hlt := (List.getElem?_eq_some_iff.1 hj).1
  obtain ⟨b4, rfl⟩ := om_ne ma mc ms hj (h0.holds 1 _ rfl)
  obtain ⟨rest, ⟨e1, e2, e3, e4⟩, h1⟩ := ok_open 1 rfl h0
  have hf' := hf
  obtain ⟨hs, hf1, hf2⟩ := hf
  have hnb8 : nb ≤ 8 ∧ 1 ≤ nb := by omega
  have h2 : Ok (domL (OM mx (some ⟨b4, 0, none⟩) mc ms)) w [ownd m.ba m.cap 5 1 m.bs.length (m.bs.flatMap cU), ownd m.ta m.tc 3 1 m.ts.length (m.ts.flatMap cI), allM (ms.eraseIdx j), row mx 78 [.slice (some ⟨b4, 0, none⟩) ms.length mc], row b4 89 (ms.flatMap cMC ++ rest)] w := unplugM (permM hj) (h1.pick [2, 0, 1] (by simp) rfl)
  obtain ⟨bb, hbb, _⟩ := (own_at (h2.holds 0 _ rfl)).2.1 (by omega)
  rw [hbb] at h2
  obtain ⟨rest2, ⟨f1, f2, f3, f4⟩, h3⟩ := ok_open 0 rfl h2
  have hv0 : (ms.flatMap cMC ++ rest)[0 + j * 5]? = some (.slice (some ⟨bb, 0, none⟩) m.bs.length m.cap) := by
    have := rd_at len_MC hj (o := 0) (by omega) (v := .slice m.ba m.bs.length m.cap) rfl rest (p := 0 + j * 5) (by omega)
    rwa [hbb] at this
  have hsum : (ob : Int) + (nb : Int) = ((ob + nb : Nat) : Int) := rfl
  have hv00 : v / 2 ^ (8 * 0) = v := by simp
  refine enter6 (S := domL (OM mx (some ⟨b4, 0, none⟩) mc ms)) (H := [row bb 5 (m.bs.flatMap cU ++ rest2), ownd m.ta m.tc 3 1 m.ts.length (m.ts.flatMap cI), allM (ms.eraseIdx j), row mx 78 [.slice (some ⟨b4, 0, none⟩) ms.length mc], row b4 89 (ms.flatMap cMC ++ rest)]) 48 Try.func69 rfl rfl rfl h3 ?_
  (repeat (first | ((refine (?_ : MX _ _ _ _ _ _ _ _ _ _ _)); first | refine mx_end ?_ | (refine mx_mv _ rfl rfl (by conv => {lhs; whnf}) ?_) | (refine mx_as _ rfl rfl (by conv => {lhs; whnf}) ?_) ) | refine cw_seq ?_ | refine cw_line rfl ?_ | refine pw_then ?_ ))
  refine g_cf 80 rfl ?_
  refine a_callv rfl rfl rfl rfl Try.func80 rfl rfl rfl (.bool true) (fun w' hw => by
    have := inside80y mx (some ⟨b4, 0, none⟩) mc ms k ob nb j m ht' hml hbl w' (hw.holds 3 _ rfl) (own_close e1 e2 e3 e4 (hw.holds 4 _ rfl))
    rwa [decide_eq_true hf'] at this) rfl ?_
  (repeat (first | ((refine (?_ : MX _ _ _ _ _ _ _ _ _ _ _)); first | refine mx_end ?_ | (refine mx_mv _ rfl rfl (by conv => {lhs; whnf}) ?_) | (refine mx_as _ rfl rfl (by conv => {lhs; whnf}) ?_) | (refine mx_not rfl rfl rfl ?_) ) | refine cw_seq ?_ | refine cw_line rfl ?_ | refine cw_block ?_ | refine cw_cond_f rfl ?_ | refine cw_skip ?_ | refine pw_then ?_ ))
  refine cw_loop (ι := Nat) (fun q : Nat => [(13, .int .i64 ((ob + q : Nat) : Int)), (4, .int .u64 (v / 2 ^ (8 * q))), (0, .pointer (some ⟨mx, 0, none⟩)), (1, .int .i64 k), (2, .int .i64 ob), (3, .int .i64 nb), (5, .int .i64 now)]) (fun q => [row bb 5 ((wrB m.bs ob (byts v q)).flatMap cU ++ rest2), ownd m.ta m.tc 3 1 m.ts.length (m.ts.flatMap cI), allM (ms.eraseIdx j), row mx 78 [.slice (some ⟨b4, 0, none⟩) ms.length mc], row b4 89 (ms.flatMap cMC ++ rest)]) (fun q => q ≤ nb) (fun q => nb - q) 0 (Nat.zero_le _) ⟨rfl, (by rw [hv00]; rfl), rfl, rfl, rfl, rfl, rfl, trivial⟩ (fun w h => by
    have e : wrB m.bs ob (byts v 0) = m.bs := by simp [wrB, byts]
    rw [e]
    exact h) ?_
  intro q jk hq
  by_cases hqn : ((ob + q : Nat) : Int) < ((ob + nb : Nat) : Int)
  case pos =>
    have hsw1 : Sp ((wrB m.bs ob (byts v q)).flatMap cU ++ rest2) (0 + (ob + q) * 1) [.int .u8 (bytw v q)] ((wrB m.bs ob (byts v (q + 1))).flatMap cU ++ rest2) := by
      have := sp_wr m.bs v rest2 (off := ob) (i := q) (by omega)
      rwa [show ob + q * 1 = 0 + (ob + q) * 1 by omega] at this
    have hV0 : 0 ≤ v / 2 ^ (8 * q) := Int.ediv_nonneg hv.1 (Int.le_of_lt (Int.pow_pos (by decide)))
    have hV1 : v / 2 ^ (8 * q) ≤ v := Int.ediv_le_self _ hv.1
    have hcv : IntKind.u8.wrap (v / 2 ^ (8 * q) % 256) = bytw v q := by
      unfold bytw
      rw [IntKind.wrap_u8, IntKind.wrap_u8]
      omega
    have hnx : v / 2 ^ (8 * (q + 1)) = v / 2 ^ (8 * q) / 256 := by
      rw [show 8 * (q + 1) = 8 * q + 8 by omega, Int.pow_add, ← Int.ediv_ediv_of_nonneg (Int.le_of_lt (Int.pow_pos (by decide)))]
      rfl
    have hq1 : ((ob + q : Nat) : Int) + 1 = ((ob + (q + 1) : Nat) : Int) := by omega
    generalize v / 2 ^ (8 * q) = V at *
    have hr : V.tmod 256 = V % 256 := Int.tmod_eq_emod_of_nonneg hV0
    have hd : IntKind.u64.wrap (V.tdiv 256) = v / 2 ^ (8 * (q + 1)) := by
      rw [hnx, Int.tdiv_eq_ediv_of_nonneg hV0, wrapU]
      omega
    (repeat (first | ((refine (?_ : MX _ _ _ _ _ _ _ _ _ _ _)); first | refine mx_end ?_ | (refine mx_mv _ rfl rfl (by conv => {lhs; whnf}) ?_) | (refine mx_as _ rfl rfl (by conv => {lhs; whnf}) ?_) | (refine mx_fa0 E rfl rfl rfl rfl ?_ ) | (refine g_load rfl ?_; refine mx_get E rfl rfl rfl rfl rfl (by first | assumption | rfl) rfl ?_ ) | (refine g_bin rfl ?_; first | ( (refine mx_cmpl .lss rfl rfl rfl rfl rfl (by exact cmp_lt_t (by omega) ) ?_) ) | (refine mx_ar rfl rfl rfl rfl rfl rfl ((IntWalk.i64_in _ (by omega)).trans (by with_reducible assumption)) rfl ?_ ) | refine mx_dv rfl rfl rfl rfl rfl (by decide) (congrArg some (by assumption)) rfl rfl ?_ ) | (refine g_ix rfl ?_; refine mx_ixsn E rfl rfl rfl rfl rfl rfl (by omega) rfl ?_ ) | (refine mx_nc rfl rfl rfl ?_) | (refine g_store rfl ?_; refine s_1 E rfl rfl rfl rfl rfl rfl rfl rfl (by assumption ) rfl ?_) | (refine g_conv rfl ?_; refine mx_cv E rfl rfl rfl rfl rfl rfl (by with_reducible assumption) rfl ?_) ) | refine cw_seq ?_ | refine cw_line rfl ?_ | refine cw_block ?_ | refine cw_cond_t rfl ?_ | refine cw_skip ?_ | refine pw_then ?_ | refine pw_block ?_ ))
    exact pw_round (q + 1) (by omega) (by omega) ⟨rfl, rfl, rfl, rfl, rfl, rfl, rfl, trivial⟩ (fun w h => h)
  case neg =>
    obtain rfl : q = nb := by omega
    have hwl : (wrB m.bs ob (byts v q)).length = m.bs.length := wrB_len (by rw [byts_len]; omega)
    generalize wrB m.bs ob (byts v q) = xs at hwl ⊢
    have hms : ms.set j (m.bw (m.ba, m.cap) xs) = ms.set j (m.bw (m.ba, m.cap) xs) := rfl
    have hcc : (ms.set j (m.bw (m.ba, m.cap) xs)).flatMap cMC = ms.flatMap cMC := by
      obtain ⟨g1, g2⟩ := list_cut hj
      rw [g2]
      conv => rhs; rw [g1]
      rw [List.flatMap_append, List.flatMap_append, List.flatMap_cons, List.flatMap_cons]
      have : cMC (m.bw (m.ba, m.cap) xs) = cMC m := by
        show [Value.slice m.ba xs.length m.cap, _, _, _, _] = _
        rw [hwl]
        rfl
      rw [this]
    (repeat (first | ((refine (?_ : MX _ _ _ _ _ _ _ _ _ _ _)); first | refine mx_end ?_ | (refine mx_mv _ rfl rfl (by conv => {lhs; whnf}) ?_) | (refine g_bin rfl ?_; first | ( (refine mx_cmpl .lss rfl rfl rfl rfl rfl (by exact cmp_lt_f (by omega) ) ?_) ) | (refine mx_ar rfl rfl rfl rfl rfl rfl ((IntWalk.i64_in _ (by omega)).trans (by with_reducible assumption)) rfl ?_ ) ) ) | refine cw_seq ?_ | refine cw_line rfl ?_ | refine cw_cond_f rfl ?_ | refine cw_exit ?_ | refine pw_then ?_ | refine pw_then_x ?_ | refine pw_block_e ?_ ))
    refine g_cf 81 rfl ?_
    refine mx_weak (H' := [Sx.star (OM mx (some ⟨b4, 0, none⟩) mc (ms.set j (m.bw (m.ba, m.cap) xs)))]) (fun w h => by
      have h3 := ok_close (xs := xs.flatMap cU) (rest := rest2) (len := m.bs.length) (z := 1) (cap := m.cap) 0 rfl (by rw [flatU_len]; omega) (by rw [List.length_append, flatU_len, ← f2, List.length_append, flatU_len]; omega) f3 f4 h
      have h4 := ok_close (xs := ms.flatMap cMC) (rest := rest) (len := ms.length) (z := 5) (cap := mc) 4 rfl e1 e2 e3 e4 h3
      rw [← hwl, ← hbb] at h4
      rw [← hcc] at h4
      exact om_bw mx (some ⟨b4, 0, none⟩) mc ms hj (m.ba, m.cap) xs h4) (fun _ _ => trivial) ?_
    refine a_callo rfl rfl rfl rfl Try.func81 rfl rfl rfl 0 rfl (fun a : Option Addr × Nat => .tuple #[]) (fun a => []) (fun a => OM mx (some ⟨b4, 0, none⟩) mc ((ms.set j (m.bw (m.ba, m.cap) xs)).set j ((m.bw (m.ba, m.cap) xs).tw a now))) (fun w' hw h => written81 mx (some ⟨b4, 0, none⟩) mc (ms.set j (m.bw (m.ba, m.cap) xs)) k now j (m.bw (m.ba, m.cap) xs) (by rw [List.getElem?_set_self hlt]) hk (by rw [List.length_set]; exact hml) htl hwr w' h) (fun _ => rfl) (fun _ _ _ => trivial) (fun a => ?_)
    rw [List.set_set]
    (repeat (first | ((refine (?_ : MX _ _ _ _ _ _ _ _ _ _ _)); first | refine mx_end ?_ | (refine mx_as _ rfl rfl (by conv => {lhs; whnf}) ?_) ) | refine cw_seq ?_ | refine cw_line rfl ?_ | refine cw_ret ?_ | refine pw_then ?_ ))
    refine pw_ret rfl rfl rfl rfl fun w' hw => ⟨a, rfl, ?_⟩
    have h9 := Ok.unstar (H := []) hw
    rwa [List.append_nil] at h9
theorem write70n (k : Int) (ad : Option Addr) (n cap : Nat) (now : Int) (hn : NoM ms k ∨ ∃ j m, ThM ms k j m ∧ m.bs.length ≠ n) (hnl : n ≤ 100000) (hml : ms.length ≤ 100000) (w : World) (h1 : (row mx 78 [.slice ma ms.length mc]).holds w) (h2 : (ownd ma mc 89 5 ms.length (ms.flatMap cMC)).holds w) :
    Calls Try.prog 70 #[.pointer (some ⟨mx, 0, none⟩), .int .i64 k, .slice ad n cap, .int .i64 now] w fun e w' => e = .returned (.bool false) ∧ Grow w w' := by
  rcases hn with hn | ⟨j, m, ⟨hj, hk, hsw⟩, hne⟩
  · refine enter4 (S := fun _ => False) 35 Try.func70 rfl rfl rfl (Ok.start w) ?_
    (repeat (first | ((refine (?_ : MX _ _ _ _ _ _ _ _ _ _ _)); first | refine mx_end ?_ | (refine mx_mv _ rfl rfl (by conv => {lhs; whnf}) ?_) | (refine mx_as _ rfl rfl (by conv => {lhs; whnf}) ?_) ) | refine cw_seq ?_ | refine cw_line rfl ?_ | refine pw_then ?_ ))
    refine g_cf 62 rfl ?_
    refine a_callv rfl rfl rfl rfl Try.func62 rfl rfl rfl (.bool false) (fun w' hw => there62N mx ma mc ms k hn hml w' (hw.orow h1 id) (oldR hw h2 (own_lt h2))) rfl ?_
    (repeat (first | ((refine (?_ : MX _ _ _ _ _ _ _ _ _ _ _)); first | refine mx_end ?_ | (refine mx_mv _ rfl rfl (by conv => {lhs; whnf}) ?_) | (refine mx_as _ rfl rfl (by conv => {lhs; whnf}) ?_) | (refine mx_not rfl rfl rfl ?_) | (refine mx_skip rfl rfl rfl ?_) | (refine g_pick rfl ?_; refine mx_ort rfl rfl rfl rfl rfl ?_ ) ) | refine cw_seq ?_ | refine cw_line rfl ?_ | refine cw_cond_t rfl ?_ | refine cw_ret ?_ | refine pw_then ?_ | refine pw_then_r ?_ ))
    exact pw_ret rfl rfl rfl rfl fun w' hw => ⟨rfl, hw.keep.grow⟩
  · refine enter4 (S := fun _ => False) 35 Try.func70 rfl rfl rfl (Ok.start w) ?_
    (repeat (first | ((refine (?_ : MX _ _ _ _ _ _ _ _ _ _ _)); first | refine mx_end ?_ | (refine mx_mv _ rfl rfl (by conv => {lhs; whnf}) ?_) | (refine mx_as _ rfl rfl (by conv => {lhs; whnf}) ?_) ) | refine cw_seq ?_ | refine cw_line rfl ?_ | refine pw_then ?_ ))
    refine g_cf 62 rfl ?_
    refine a_callv rfl rfl rfl rfl Try.func62 rfl rfl rfl (.bool true) (fun w' hw => there62y mx _ mc ms k j m hj hk hsw hml w' (hw.orow h1 id) (oldR hw h2 (own_lt h2))) rfl ?_
    (repeat (((refine (?_ : MX _ _ _ _ _ _ _ _ _ _ _)); first | (refine mx_mv _ rfl rfl (by conv => {lhs; whnf}) ?_) | (refine mx_not rfl rfl rfl ?_) ) ))
    refine g_cf 38 rfl ?_
    refine a_callv rfl rfl rfl rfl Try.func38 rfl rfl rfl (.int .i64 m.bs.length) (fun w' hw => size38y mx _ mc ms k j m hj hk hsw hml w' (hw.orow h1 id) (oldR hw h2 (own_lt h2))) rfl ?_
    (repeat (first | ((refine (?_ : MX _ _ _ _ _ _ _ _ _ _ _)); first | refine mx_end ?_ | (refine mx_mv _ rfl rfl (by conv => {lhs; whnf}) ?_) | (refine mx_as _ rfl rfl (by conv => {lhs; whnf}) ?_) | (refine g_bin rfl ?_; ( (refine mx_cmpl .neq rfl rfl rfl rfl rfl (by exact cmp_ne_t (by omega) ) ?_) ) ) | (refine g_bi .len rfl ?_; refine mx_len E rfl rfl rfl rfl ?_) | (refine g_pick rfl ?_; refine mx_or rfl rfl rfl rfl rfl rfl ?_ ) ) | refine cw_seq ?_ | refine cw_line rfl ?_ | refine cw_cond_t rfl ?_ | refine cw_ret ?_ | refine pw_then ?_ | refine pw_then_r ?_ ))
    exact pw_ret rfl rfl rfl rfl fun w' hw => ⟨rfl, hw.keep.grow⟩
theorem write70y (k : Int) (j : Nat) (m : MC) (ad : Option Addr) (n cap : Nat) (xs : List Int) (now : Int) (hx : xs.length = n) (hbl : m.bs.length = n) (hnl : n ≤ 100000) (ht : ThM ms k j m) (hml : ms.length ≤ 100000) (htl : m.ts.length ≤ 100000) (hwr : m.wr ≤ 100000) (w : World) (h0 : Ok (domL (OM mx ma mc ms)) w (OM mx ma mc ms) w) (hl : InL w ad 1 cU xs) (hne : xs ≠ [] → ∀ b off, ad = some ⟨b, off, none⟩ → ¬ domL (OM mx ma mc ms) b) :
    Calls Try.prog 70 #[.pointer (some ⟨mx, 0, none⟩), .int .i64 k, .slice ad n cap, .int .i64 now] w fun e w' => ∃ a : (Option Addr × Nat) × Option Addr × Nat, e = .returned (.bool true) ∧ Ok (domL (OM mx ma mc ms)) w (OM mx ma mc (ms.set j ((m.bw a.1 xs).tw a.2 now))) w' := by
  obtain ⟨hj, hk, hsw⟩ := ht
  have hlt := (List.getElem?_eq_some_iff.1 hj).1
  obtain ⟨b4, rfl⟩ := om_ne ma mc ms hj (h0.holds 1 _ rfl)
  obtain ⟨rest, ⟨e1, e2, e3, e4⟩, h1⟩ := ok_open 1 rfl h0
  have h2 : Ok (domL (OM mx (some ⟨b4, 0, none⟩) mc ms)) w [ownd m.ba m.cap 5 1 m.bs.length (m.bs.flatMap cU), ownd m.ta m.tc 3 1 m.ts.length (m.ts.flatMap cI), allM (ms.eraseIdx j), row mx 78 [.slice (some ⟨b4, 0, none⟩) ms.length mc], row b4 89 (ms.flatMap cMC ++ rest)] w := unplugM (permM hj) (h1.pick [2, 0, 1] (by simp) rfl)
  refine enter4 (S := domL (OM mx (some ⟨b4, 0, none⟩) mc ms)) (H := [ownd m.ba m.cap 5 1 m.bs.length (m.bs.flatMap cU), ownd m.ta m.tc 3 1 m.ts.length (m.ts.flatMap cI), allM (ms.eraseIdx j), row mx 78 [.slice (some ⟨b4, 0, none⟩) ms.length mc], row b4 89 (ms.flatMap cMC ++ rest)]) 35 Try.func70 rfl rfl rfl h2 ?_
  (repeat (first | ((refine (?_ : MX _ _ _ _ _ _ _ _ _ _ _)); first | refine mx_end ?_ | (refine mx_mv _ rfl rfl (by conv => {lhs; whnf}) ?_) | (refine mx_as _ rfl rfl (by conv => {lhs; whnf}) ?_) ) | refine cw_seq ?_ | refine cw_line rfl ?_ | refine pw_then ?_ ))
  refine g_cf 62 rfl ?_
  refine a_callv rfl rfl rfl rfl Try.func62 rfl rfl rfl (.bool true) (fun w' hw => there62y mx _ mc ms k j m hj hk hsw hml w' (hw.holds 3 _ rfl) (own_close e1 e2 e3 e4 (hw.holds 4 _ rfl))) rfl ?_
  (repeat (((refine (?_ : MX _ _ _ _ _ _ _ _ _ _ _)); first | (refine mx_mv _ rfl rfl (by conv => {lhs; whnf}) ?_) | (refine mx_not rfl rfl rfl ?_) ) ))
  refine g_cf 38 rfl ?_
  refine a_callv rfl rfl rfl rfl Try.func38 rfl rfl rfl (.int .i64 m.bs.length) (fun w' hw => size38y mx _ mc ms k j m hj hk hsw hml w' (hw.holds 3 _ rfl) (own_close e1 e2 e3 e4 (hw.holds 4 _ rfl))) rfl ?_
  (repeat (first | ((refine (?_ : MX _ _ _ _ _ _ _ _ _ _ _)); first | refine mx_end ?_ | (refine mx_mv _ rfl rfl (by conv => {lhs; whnf}) ?_) | (refine g_bin rfl ?_; ( (refine mx_cmpl .neq rfl rfl rfl rfl rfl (by exact cmp_ne_f (by omega) ) ?_) ) ) | (refine g_bi .len rfl ?_; refine mx_len E rfl rfl rfl rfl ?_) | (refine g_pick rfl ?_; refine mx_or rfl rfl rfl rfl rfl rfl ?_ ) ) | refine cw_seq ?_ | refine cw_cond_f rfl ?_ | refine cw_skip ?_ | refine pw_then ?_ ))
  refine cw_bar [0, 1, 2, 3, 4, 5, 6, 7, 8, 9] 10 [] (fun i => Nat.ble 7 i) [row mx 78 [.slice (some ⟨b4, 0, none⟩) ms.length mc]] (fun _ => True) mixed (by kernel_rfl) (fun w h => h.only 3 rfl) ?_
  (repeat (((refine (?_ : MX _ _ _ _ _ _ _ _ _ _ _)); first | (refine mx_mv _ rfl rfl (by conv => {lhs; whnf}) ?_) | (refine mx_fa0 E rfl rfl rfl rfl ?_ ) | (refine g_load rfl ?_; refine mx_get E rfl rfl rfl rfl rfl (by rfl) rfl ?_ ) | (refine g_bin rfl ?_; (refine mx_ar rfl rfl rfl rfl rfl rfl ((IntWalk.i64_in _ (by omega)).trans (by with_reducible assumption)) rfl ?_ ) ) | (refine mx_nc rfl rfl rfl ?_) ) ))
  refine g_cf 64 rfl ?_
  refine a_callL rfl rfl rfl rfl Try.func64 rfl rfl rfl [] _ rfl (fun q : Option Addr × Nat => .slice q.1 n q.2) (fun q => [ownd q.1 q.2 5 1 n (xs.flatMap cU)]) (fun w' hw _ => copyBn ad n cap xs hx (by omega) w' (hl.keep' hw hne)) (fun _ => rfl) (fun a w h => h.only 4 rfl) (fun q => ?_)
  have hs0 : Sp (ms.flatMap cMC ++ rest) (0 + j * 5) [.slice q.1 n q.2] ((ms.set j (m.bw q xs)).flatMap cMC ++ rest) := by
    rw [← hx]
    exact sp_at len_MC hj (x' := m.bw q xs) (o := 0) (Sp.lit rfl rfl) rest (by omega)
  (repeat (((refine (?_ : MX _ _ _ _ _ _ _ _ _ _ _)); first | (refine mx_fa0 E rfl rfl rfl rfl ?_ ) | (refine g_ix rfl ?_; refine mx_ixsn E rfl rfl rfl rfl rfl rfl (by omega) rfl ?_ ) ) ))
  refine mx_bar (fun _ _ => trivial) ?_
  refine mx_weak (H' := [ownd q.1 q.2 5 1 n (xs.flatMap cU), ownd m.ba m.cap 5 1 m.bs.length (m.bs.flatMap cU), ownd m.ta m.tc 3 1 m.ts.length (m.ts.flatMap cI), allM (ms.eraseIdx j), row mx 78 [.slice (some ⟨b4, 0, none⟩) ms.length mc], row b4 89 (ms.flatMap cMC ++ rest)]) (fun w h => h) (fun _ _ => trivial) ?_
  (repeat (first | ((refine (?_ : MX _ _ _ _ _ _ _ _ _ _ _)); first | refine mx_end ?_ | (refine mx_mv _ rfl rfl (by conv => {lhs; whnf}) ?_) | (refine g_store rfl ?_; refine s_1 E rfl rfl rfl rfl rfl rfl rfl rfl (by assumption ) rfl ?_) ) | refine cw_seq ?_ | refine cw_line rfl ?_ | refine pw_then ?_ ))
  refine g_cf 81 rfl ?_
  have e5 : ((ms.set j (m.bw q xs)).flatMap cMC).length = ms.length * 5 := by rw [flatMap_len len_MC, List.length_set]
  refine mx_weak (H' := [Sx.star (OM mx (some ⟨b4, 0, none⟩) mc (ms.set j (m.bw q xs)))]) (fun w1 h => by
    have h4 := ok_close (xs := (ms.set j (m.bw q xs)).flatMap cMC) (rest := rest) (len := ms.length) (z := 5) (cap := mc) 5 rfl e5 (by rw [← e2, List.length_append, List.length_append, e5, e1]) e3 e4 h
    have h5 : Ok (domL (OM mx (some ⟨b4, 0, none⟩) mc ms)) w [ownd q.1 q.2 5 1 n (xs.flatMap cU), ownd m.ta m.tc 3 1 m.ts.length (m.ts.flatMap cI), allM (ms.eraseIdx j), row mx 78 [.slice (some ⟨b4, 0, none⟩) ms.length mc], ownd (some ⟨b4, 0, none⟩) mc 89 5 ms.length ((ms.set j (m.bw q xs)).flatMap cMC)] w1 := h4.pick [0, 2, 3, 4, 5] (by simp) rfl
    rw [← hx] at h5
    exact om_bw mx (some ⟨b4, 0, none⟩) mc ms hj q xs h5) (fun _ _ => trivial) ?_
  refine a_callo rfl rfl rfl rfl Try.func81 rfl rfl rfl 0 rfl (fun a : Option Addr × Nat => .tuple #[]) (fun a => []) (fun a => OM mx (some ⟨b4, 0, none⟩) mc ((ms.set j (m.bw q xs)).set j ((m.bw q xs).tw a now))) (fun w' hw h => written81 mx (some ⟨b4, 0, none⟩) mc (ms.set j (m.bw q xs)) k now j (m.bw q xs) (by rw [List.getElem?_set_self hlt]) hk (by rw [List.length_set]; exact hml) htl hwr w' h) (fun _ => rfl) (fun _ _ _ => trivial) (fun a => ?_)
  rw [List.set_set]
  (repeat (first | ((refine (?_ : MX _ _ _ _ _ _ _ _ _ _ _)); first | refine mx_end ?_ | (refine mx_as _ rfl rfl (by conv => {lhs; whnf}) ?_) ) | refine cw_seq ?_ | refine cw_line rfl ?_ | refine cw_ret ?_ | refine pw_then ?_ ))
  refine pw_ret rfl rfl rfl rfl fun w' hw => ⟨(q, a), rfl, ?_⟩
  have h9 := Ok.unstar (H := []) hw
  rwa [List.append_nil] at h9
end
end Go.Proofs.Ytfekmflnfhjebaa
