/- The document's cells: written. -/
import Derived.Test.YtfekmflnfhjebaaXb
import Derived.Test.YtfekmflnfhjebaaCs
set_option maxRecDepth 100000
set_option maxHeartbeats 8000000
set_option linter.unusedSimpArgs false
set_option linter.unusedVariables false
namespace Go.Proofs.Ytfekmflnfhjebaa
open Go Go.Sx Go.RowKit
theorem unplugM {S : Nat → Prop} {w0 w : World} {H : List Res} {ms es : List MC} {m : MC} (hp : (m :: es).Perm ms) (h : Ok S w0 (allM ms :: H) w) : Ok S w0 (ownd m.ba m.cap 5 1 m.bs.length (m.bs.flatMap cU) :: ownd m.ta m.tc 3 1 m.ts.length (m.ts.flatMap cI) :: allM es :: H) w := by
  have h1 := Ok.unstar h
  have hp2 : (ms.flatMap RM ++ H).Perm (es.flatMap RM ++ (ownd m.ba m.cap 5 1 m.bs.length (m.bs.flatMap cU) :: ownd m.ta m.tc 3 1 m.ts.length (m.ts.flatMap cI) :: H)) := by
    refine ((hp.symm.flatMap_right RM).append_right H).trans ?_
    rw [List.flatMap_cons, List.append_assoc]
    exact List.perm_append_comm_assoc (RM m) _ H
  exact (Ok.star (h1.perm hp2)).perm ((List.Perm.swap _ _ _).trans ((List.Perm.swap _ _ _).cons _))
theorem plugM {S : Nat → Prop} {w0 w : World} {H : List Res} {ms es : List MC} {m : MC} (hp : (m :: es).Perm ms) (h : Ok S w0 (ownd m.ba m.cap 5 1 m.bs.length (m.bs.flatMap cU) :: ownd m.ta m.tc 3 1 m.ts.length (m.ts.flatMap cI) :: allM es :: H) w) : Ok S w0 (allM ms :: H) w := by
  have h0 : Ok S w0 (allM es :: ownd m.ba m.cap 5 1 m.bs.length (m.bs.flatMap cU) :: ownd m.ta m.tc 3 1 m.ts.length (m.ts.flatMap cI) :: H) w := h.perm (((List.Perm.swap _ _ _).trans ((List.Perm.swap _ _ _).cons _)).symm)
  have h1 := Ok.unstar h0
  have hp2 : (es.flatMap RM ++ (ownd m.ba m.cap 5 1 m.bs.length (m.bs.flatMap cU) :: ownd m.ta m.tc 3 1 m.ts.length (m.ts.flatMap cI) :: H)).Perm (ms.flatMap RM ++ H) := by
    refine List.Perm.trans ?_ ((hp.flatMap_right RM).append_right H)
    rw [List.flatMap_cons, List.append_assoc]
    exact (List.perm_append_comm_assoc (RM m) _ H).symm
  exact Ok.star (h1.perm hp2)
theorem permM {ms : List MC} {i : Nat} {c : MC} (hi : ms[i]? = some c) : (c :: ms.eraseIdx i).Perm ms := by
  have hlt := (List.getElem?_eq_some_iff.1 hi).1
  have h1 := set_perm c ms i hlt
  have h2 : ms.set i c = ms := by
    rw [← (List.getElem?_eq_some_iff.1 hi).2]
    exact List.set_getElem_self _
  rwa [h2] at h1
theorem permMs {ms : List MC} {i : Nat} {c c' : MC} (hi : ms[i]? = some c) : (c' :: ms.eraseIdx i).Perm (ms.set i c') := set_perm c' ms i (List.getElem?_eq_some_iff.1 hi).1
theorem list_cut {α : Type} : ∀ {xs : List α} {j : Nat} {x : α}, xs[j]? = some x → xs = xs.take j ++ x :: xs.drop (j + 1) ∧ ∀ y, xs.set j y = xs.take j ++ y :: xs.drop (j + 1)
  | [], _, _, h => by simp at h
  | a :: xs, 0, x, h => by
    obtain rfl : a = x := by simpa using h
    exact ⟨rfl, fun y => rfl⟩
  | a :: xs, j + 1, x, h => by
    obtain ⟨h1, h2⟩ := list_cut (xs := xs) (j := j) (x := x) (by simpa using h)
    refine ⟨?_, fun y => ?_⟩
    · rw [List.take_succ_cons, List.drop_succ_cons, List.cons_append, ← h1]
    · rw [List.take_succ_cons, List.drop_succ_cons, List.cons_append, ← h2, List.set_cons_succ]
theorem sp_at {α : Type} {z : Nat} {c : α → List Value} (hz : ∀ x, (c x).length = z) {xs : List α} {j : Nat} {x x' : α} (hj : xs[j]? = some x) {o p : Nat} {us : List Value} (h : Sp (c x) o us (c x')) (rest : List Value) (hp : p = j * z + o) : Sp (xs.flatMap c ++ rest) p us ((xs.set j x').flatMap c ++ rest) := by
  obtain ⟨e1, e2⟩ := list_cut hj
  have hl : ((xs.take j).flatMap c).length = j * z := by
    rw [flatMap_len hz, List.length_take]
    have := (List.getElem?_eq_some_iff.1 hj).1
    rw [Nat.min_eq_left (by omega)]
  have h2 := Sp.right ((xs.take j).flatMap c) (Sp.left ((xs.drop (j + 1)).flatMap c ++ rest) h)
  rw [hl, ← hp] at h2
  have f : ∀ y : α, (xs.take j ++ y :: xs.drop (j + 1)).flatMap c ++ rest = (xs.take j).flatMap c ++ (c y ++ ((xs.drop (j + 1)).flatMap c ++ rest)) := fun y => by simp
  rw [← f x] at h2
  rw [e2 x', f x']
  rwa [← e1] at h2
theorem rd_at {α : Type} {z : Nat} {c : α → List Value} (hz : ∀ x, (c x).length = z) {xs : List α} {j : Nat} {x : α} (hj : xs[j]? = some x) {o p : Nat} {v : Value} (ho : o < z) (h : (c x)[o]? = some v) (rest : List Value) (hp : p = j * z + o) : (xs.flatMap c ++ rest)[p]? = some v := by
  have h1 := flatMap_at hz xs j o x hj ho
  rw [h] at h1
  rw [hp]
  exact (List.getElem?_append_left (by rw [flatMap_len hz]; exact (List.getElem?_eq_some_iff.1 h1).1 |> fun h => by rwa [flatMap_len hz] at h)).trans h1
theorem vr_at {α : Type} {z : Nat} {c : α → List Value} (hz : ∀ x, (c x).length = z) {xs : List α} {j : Nat} {x : α} (hj : xs[j]? = some x) {o p : Nat} {v : Value} (ho : o < z) (h : (c x)[o]? = some v) (rest : List Value) (hp : p = j * z + o) : Vr (xs.flatMap c ++ rest) p 1 [v] := by
  have h1 := rd_at hz hj ho h rest hp
  refine ⟨⟨?_⟩, rfl⟩
  obtain ⟨hl, e⟩ := List.getElem?_eq_some_iff.1 h1
  rw [List.drop_eq_getElem_cons hl, e]
  rfl
theorem write23n (ad : Option Addr) (cap : Nat) (l : List Int) (now : Int) (hm : l.length ≤ 1000000) (w : World) (hl : InL w ad 1 cI l) : Calls Try.prog 23 #[.agg #[.slice ad l.length cap], .int .i64 now] w fun e w' => ∃ a : Option Addr × Nat, e = .returned (.agg #[.slice a.1 (l.length + 1) a.2]) ∧ Ok (domL []) w [ownd a.1 a.2 3 1 (l.length + 1) ((l ++ [now]).flatMap cI)] w' :=
  (write23 ad cap l now hm w hl).mono fun e w' ⟨a, h1, h2, h3, h4⟩ => ⟨a, h1, (Ok.start (S := domL []) w).push (Chg.of_grow (D := fun _ => False) h2) (fun _ _ => id) _ h3 h4⟩
def MC.w1 (m : MC) : MC := { m with wr := m.wr + 1 }
def MC.tw (m : MC) (a : Option Addr × Nat) (now : Int) : MC := { m with wr := m.wr + 1, ta := a.1, tc := a.2, ts := m.ts ++ [now] }
def MC.bw (m : MC) (a : Option Addr × Nat) (xs : List Int) : MC := { m with ba := a.1, cap := a.2, bs := xs }
def MC.gn (m : MC) : MC := { m with gone := true }
def MC.sw (m : MC) : MC := { m with swept := true }
section
variable (mx : Nat) (ma : Option Addr) (mc : Nat) (ms : List MC)
theorem om_set {S : Nat → Prop} {w0 w : World} {j : Nat} {m' : MC} (h : Ok S w0 [row mx 78 [.slice ma ms.length mc], ownd ma mc 89 5 ms.length ((ms.set j m').flatMap cMC), allM (ms.set j m')] w) : Ok S w0 (OM mx ma mc (ms.set j m')) w := by
  unfold OM
  rw [List.length_set]
  exact h
theorem om_ne {j : Nat} {m : MC} (hj : ms[j]? = some m) {w : World} (h : (ownd ma mc 89 5 ms.length (ms.flatMap cMC)).holds w) : ∃ b, ma = some ⟨b, 0, none⟩ := by
  obtain ⟨b, e, _⟩ := (own_at h).2.1 (by have := (List.getElem?_eq_some_iff.1 hj).1; omega)
  exact ⟨b, e⟩
theorem written81 (k now : Int) (j : Nat) (m : MC) (hj : ms[j]? = some m) (hk : k - 1 = (j : Int)) (hml : ms.length ≤ 100000) (htl : m.ts.length ≤ 100000) (hwr : m.wr ≤ 100000) (w : World) (h0 : Ok (domL (OM mx ma mc ms)) w (OM mx ma mc ms) w) :
    Calls Try.prog 81 #[.pointer (some ⟨mx, 0, none⟩), .int .i64 k, .int .i64 now] w fun e w' => ∃ a : Option Addr × Nat, e = .returned (.tuple #[]) ∧ Ok (domL (OM mx ma mc ms)) w (OM mx ma mc (ms.set j (m.tw a now))) w' := by
  have hlt := (List.getElem?_eq_some_iff.1 hj).1
  obtain ⟨b4, rfl⟩ := om_ne ma mc ms hj (h0.holds 1 _ rfl)
  obtain ⟨rest, ⟨e1, e2, e3, e4⟩, h1⟩ := ok_open 1 rfl h0
  have h2 : Ok (domL (OM mx (some ⟨b4, 0, none⟩) mc ms)) w [ownd m.ba m.cap 5 1 m.bs.length (m.bs.flatMap cU), ownd m.ta m.tc 3 1 m.ts.length (m.ts.flatMap cI), allM (ms.eraseIdx j), row mx 78 [.slice (some ⟨b4, 0, none⟩) ms.length mc], row b4 89 (ms.flatMap cMC ++ rest)] w := unplugM (permM hj) (h1.pick [2, 0, 1] (by simp) rfl)
  refine enter3 (S := domL (OM mx (some ⟨b4, 0, none⟩) mc ms)) (H := [ownd m.ba m.cap 5 1 m.bs.length (m.bs.flatMap cU), ownd m.ta m.tc 3 1 m.ts.length (m.ts.flatMap cI), allM (ms.eraseIdx j), row mx 78 [.slice (some ⟨b4, 0, none⟩) ms.length mc], row b4 89 (ms.flatMap cMC ++ rest)]) 43 Try.func81 rfl rfl rfl h2 ?_
  have hv1 : (ms.flatMap cMC ++ rest)[0 + j * 5 + 1]? = some (.int .i64 m.wr) := rd_at len_MC hj (o := 1) (by omega) rfl rest (by omega)
  have hw1 : (m.wr : Int) + 1 = ((m.wr + 1 : Nat) : Int) := rfl
  have hs1 : Sp (ms.flatMap cMC ++ rest) (0 + j * 5 + 1) [.int .i64 ((m.wr + 1 : Nat) : Int)] ((ms.set j m.w1).flatMap cMC ++ rest) := sp_at len_MC hj (o := 1) (Sp.lit rfl rfl) rest (by omega)
  have hj2 : (ms.set j m.w1)[j]? = some m.w1 := by rw [List.getElem?_set_self hlt]
  have hv2 : Vr ((ms.set j m.w1).flatMap cMC ++ rest) (0 + j * 5 + 2) 1 [.slice m.ta m.ts.length m.tc] := vr_at len_MC hj2 (o := 2) (by omega) rfl rest (by omega)
  have hs2 : ∀ a : Option Addr × Nat, Sp ((ms.set j m.w1).flatMap cMC ++ rest) (0 + j * 5 + 2) [.slice a.1 (m.ts.length + 1) a.2] ((ms.set j (m.tw a now)).flatMap cMC ++ rest) := fun a => by
    have := sp_at len_MC hj2 (x' := m.tw a now) (o := 2) (us := [.slice a.1 (m.ts.length + 1) a.2]) (Sp.lit rfl (by
      show _ = [m.ba |> fun x => Value.slice x m.bs.length m.cap, Value.int .i64 ((m.wr + 1 : Nat) : Int), Value.slice a.1 (m.ts ++ [now]).length a.2, Value.bool m.gone, Value.bool m.swept]
      rw [List.length_append]
      rfl)) rest (p := 0 + j * 5 + 2) (by omega)
    rwa [List.set_set] at this
  (repeat ( refine cw_seq ?_ ))
  refine cw_bar [0, 1, 2, 3, 4, 5, 6, 7, 8, 9, 10, 11, 12, 13, 14, 15, 16, 17] 18 [] (fun i => Nat.ble 18 i) [row mx 78 [.slice (some ⟨b4, 0, none⟩) ms.length mc], row b4 89 (ms.flatMap cMC ++ rest)] (fun _ => True) mixed (by kernel_rfl) (fun w h => h.pick [3, 4] (by simp) rfl) ?_
  (repeat (((refine (?_ : MX _ _ _ _ _ _ _ _ _ _ _)); first | (refine mx_mv _ rfl rfl (by conv => {lhs; whnf}) ?_) | (first | refine mx_fa0 E rfl rfl rfl rfl ?_ | refine mx_fa E rfl rfl rfl rfl ?_) | (refine g_load rfl ?_; refine mx_get E rfl rfl rfl rfl rfl (by first | assumption | rfl) rfl ?_ ) | (refine g_bin rfl ?_; (refine mx_ar rfl rfl rfl rfl rfl rfl ((IntWalk.i64_in _ (by omega)).trans (by with_reducible assumption)) rfl ?_ ) ) | (refine g_ix rfl ?_; refine mx_ixsn E rfl rfl rfl rfl rfl rfl (by omega) rfl ?_ ) | (refine mx_nc rfl rfl rfl ?_) ) ))
  refine mx_bar (fun _ _ => trivial) ?_
  (repeat (first | ((refine (?_ : MX _ _ _ _ _ _ _ _ _ _ _)); first | refine mx_end ?_ | (refine g_store rfl ?_; refine s_1 E rfl rfl rfl rfl rfl rfl rfl rfl (by assumption ) rfl ?_) ) | refine pw_then ?_ ))
  refine cw_bar [0, 1, 2, 3, 4, 5, 6, 7, 8, 9, 10, 11, 12, 13, 14, 15, 16, 17, 18] 19 [] (fun i => Nat.ble 16 i) [row mx 78 [.slice (some ⟨b4, 0, none⟩) ms.length mc], row b4 89 ((ms.set j m.w1).flatMap cMC ++ rest)] (fun _ => True) mixed (by kernel_rfl) (fun w h => h.pick [3, 4] (by simp) rfl) ?_
  (repeat (((refine (?_ : MX _ _ _ _ _ _ _ _ _ _ _)); first | (refine mx_mv _ rfl rfl (by conv => {lhs; whnf}) ?_) | (first | refine mx_fa0 E rfl rfl rfl rfl ?_ | refine mx_fa E rfl rfl rfl rfl ?_) | (refine g_load rfl ?_; first | refine mx_get E rfl rfl rfl rfl rfl (by rfl) rfl ?_ | refine mx_getn E rfl rfl rfl rfl rfl (by assumption ) rfl ?_ ) | (refine g_bin rfl ?_; (refine mx_ar rfl rfl rfl rfl rfl rfl ((IntWalk.i64_in _ (by omega)).trans (by with_reducible assumption)) rfl ?_ ) ) | (refine g_ix rfl ?_; refine mx_ixsn E rfl rfl rfl rfl rfl rfl (by omega) rfl ?_ ) | (refine mx_nc rfl rfl rfl ?_) ) ))
  refine g_cf 23 rfl ?_
  refine a_callL rfl rfl rfl rfl Try.func23 rfl rfl rfl [] _ rfl (fun a : Option Addr × Nat => .agg #[.slice a.1 (m.ts.length + 1) a.2]) (fun a => [ownd a.1 a.2 3 1 (m.ts.length + 1) ((m.ts ++ [now]).flatMap cI)]) (fun w' hw _ => write23n m.ta m.tc m.ts now (by omega) w' (own_in len_I (hw.holds 1 _ rfl) (Nat.le_refl _))) (fun _ => rfl) (fun a w h => h.pick [4, 5] (by simp) rfl) (fun a => ?_)
  have hs2 := hs2 a
  (repeat (((refine (?_ : MX _ _ _ _ _ _ _ _ _ _ _)); first | ( refine mx_fa E rfl rfl rfl rfl ?_) | (refine g_ix rfl ?_; refine mx_ixsn E rfl rfl rfl rfl rfl rfl (by omega) rfl ?_ ) ) ))
  refine mx_bar (fun _ _ => trivial) ?_
  refine mx_weak (H' := [ownd a.1 a.2 3 1 (m.ts.length + 1) ((m.ts ++ [now]).flatMap cI), ownd m.ba m.cap 5 1 m.bs.length (m.bs.flatMap cU), ownd m.ta m.tc 3 1 m.ts.length (m.ts.flatMap cI), allM (ms.eraseIdx j), row mx 78 [.slice (some ⟨b4, 0, none⟩) ms.length mc], row b4 89 ((ms.set j m.w1).flatMap cMC ++ rest)]) (fun w h => h) (fun _ _ => trivial) ?_
  (repeat (((refine (?_ : MX _ _ _ _ _ _ _ _ _ _ _)); first | refine mx_end ?_ | (refine g_store rfl ?_; refine s_l E rfl rfl rfl rfl rfl rfl rfl (by assumption ) rfl ?_ ) ) ))
  refine pw_ret0 rfl rfl fun w' hw => ⟨a, rfl, ?_⟩
  have e5 : ((ms.set j (m.tw a now)).flatMap cMC).length = ms.length * 5 := by rw [flatMap_len len_MC, List.length_set]
  have h3 := ok_close (xs := (ms.set j (m.tw a now)).flatMap cMC) (rest := rest) (len := ms.length) (z := 5) (cap := mc) 5 rfl e5 (by rw [← e2, List.length_append, List.length_append, e5, e1]) e3 e4 hw
  have h4 : Ok (domL (OM mx (some ⟨b4, 0, none⟩) mc ms)) w [ownd (m.tw a now).ba (m.tw a now).cap 5 1 (m.tw a now).bs.length ((m.tw a now).bs.flatMap cU), ownd (m.tw a now).ta (m.tw a now).tc 3 1 (m.ts.length + 1) ((m.tw a now).ts.flatMap cI), allM (ms.eraseIdx j), row mx 78 [.slice (some ⟨b4, 0, none⟩) ms.length mc], ownd (some ⟨b4, 0, none⟩) mc 89 5 ms.length ((ms.set j (m.tw a now)).flatMap cMC)] w' := h3.pick [1, 0, 3, 4, 5] (by simp) rfl
  have e6 : m.ts.length + 1 = (m.tw a now).ts.length := by show _ = (m.ts ++ [now]).length; simp
  rw [e6] at h4
  have h5 := plugM (permMs hj) h4
  exact om_set mx (some ⟨b4, 0, none⟩) mc ms (h5.pick [1, 2, 0] (by simp) rfl)
end
end Go.Proofs.Ytfekmflnfhjebaa
