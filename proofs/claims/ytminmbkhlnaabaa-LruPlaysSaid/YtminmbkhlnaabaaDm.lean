/- The document's map of which the key goes that was used longest ago: used, found, taken away, put; walked once each. -/
import Derived.Test.YtminmbkhlnaabaaDl
set_option maxRecDepth 100000
set_option maxHeartbeats 8000000
set_option linter.unusedSimpArgs false
set_option linter.unusedVariables false
namespace Go.Proofs.Ytminmbkhlnaabaa
open Go Go.Sx Go.RowKit
theorem sp_flat {α : Type} {c : α → List Value} {z : Nat} (hz : ∀ x, (c x).length = z) {us : List Value} {o : Nat} : ∀ {xs : List α} {i : Nat} {x x' : α} {rest : List Value}, xs[i]? = some x → Sp (c x) o us (c x') → Sp (xs.flatMap c ++ rest) (i * z + o) us ((xs.set i x').flatMap c ++ rest)
  | [], i, x, x', rest, h, _ => by simp at h
  | y :: ys, 0, x, x', rest, h, hs => by
    obtain rfl : y = x := by simpa using h
    rw [List.set_cons_zero, List.flatMap_cons, List.flatMap_cons, List.append_assoc, List.append_assoc, Nat.zero_mul, Nat.zero_add]
    exact Sp.left _ hs
  | y :: ys, i + 1, x, x', rest, h, hs => by
    have h' : ys[i]? = some x := by simpa using h
    rw [List.set_cons_succ, List.flatMap_cons, List.flatMap_cons, List.append_assoc, List.append_assoc]
    have := Sp.right (c y) (sp_flat hz (rest := rest) h' hs)
    rw [hz y] at this
    rw [show (i + 1) * z + o = z + (i * z + o) by rw [Nat.add_mul]; omega]
    exact this
theorem own_get {α : Type} {c : α → List Value} {z : Nat} (hz : ∀ x, (c x).length = z) {w : World} {bb cap e len : Nat} {xs : List α} (h : (ownd (some ⟨bb, 0, none⟩) cap e z len (xs.flatMap c)).holds w) {i : Nat} {x : α} (hx : xs[i]? = some x) {o : Nat} {v : Value} (ho : o < z) (hv : (c x)[o]? = some v) : w.cell? ⟨bb, i * z + o, none⟩ = some v := by
  obtain ⟨h1, h2, _⟩ := own_at h
  have hi := (List.getElem?_eq_some_iff.1 hx).1
  rw [flatMap_len hz] at h1
  have hl : 0 < len := by
    rcases Nat.eq_zero_or_pos len with h | h
    · subst h
      rw [Nat.zero_mul] at h1
      have := Nat.mul_pos (show 0 < xs.length by omega) (show 0 < z by omega)
      omega
    · exact h
  obtain ⟨b, e, hc⟩ := h2 hl
  obtain rfl : bb = b := by simpa using e
  exact hc _ v (by rw [flatMap_at hz xs i o x hx ho]; exact hv)
theorem map_set_same {α β : Type} {f : α → β} : ∀ {xs : List α} {i : Nat} {x x' : α}, xs[i]? = some x → f x' = f x → (xs.set i x').map f = xs.map f
  | [], i, x, x', h, _ => by simp at h
  | y :: ys, 0, x, x', h, hs => by
    obtain rfl : y = x := by simpa using h
    simp [hs]
  | y :: ys, i + 1, x, x', h, hs => by
    have h' : ys[i]? = some x := by simpa using h
    simp [map_set_same h' hs]
theorem fidx_set {α : Type} {p : α → Bool} : ∀ {xs : List α} {i j : Nat} {x x' : α}, xs[i]? = some x → p x' = p x → fidx p (xs.set i x') j = fidx p xs j
  | [], i, j, x, x', h, _ => by simp at h
  | y :: ys, 0, j, x, x', h, hs => by
    obtain rfl : y = x := by simpa using h
    rw [List.set_cons_zero]
    unfold fidx
    rw [hs]
  | y :: ys, i + 1, j, x, x', h, hs => by
    have h' : ys[i]? = some x := by simpa using h
    rw [List.set_cons_succ]
    unfold fidx
    rw [fidx_set h' hs]
def DR.at' (r : DR) (u : Nat) : DR := { r with u := u }
theorem allD_set {rows : List DR} {i : Nat} {r : DR} (hx : rows[i]? = some r) (u : Nat) : allD (rows.set i (r.at' u)) = allD rows := by
  unfold allD
  rw [map_set_same (f := RDR) (x' := r.at' u) hx rfl]
section
variable (mx : Nat) (key most : Int) (uses : Nat) (la : Option Addr) (lc : Nat) (rows : List DR)
theorem duse71 (hs : rows.length ≤ 100000) (hu : uses ≤ 100000) (i : Nat) (r : DR) (hx : rows[i]? = some r) (w : World) (h0 : Ok (domL (OD mx key most uses la lc rows)) w (OD mx key most uses la lc rows) w) :
    Calls Try.prog 71 #[.pointer (some ⟨mx, 0, none⟩), .int .i64 i] w fun e w' => e = .returned (.tuple #[]) ∧ Ok (domL (OD mx key most uses la lc rows)) w (OD mx key most (uses + 1) la lc (rows.set i (r.at' (uses + 1)))) w' := by
  have hi := (List.getElem?_eq_some_iff.1 hx).1
  obtain ⟨bb, hbb, _⟩ := (own_at (h0.holds 1 _ rfl)).2.1 (by omega)
  subst hbb
  obtain ⟨rest, ⟨e1, e2, e3, e4⟩, h2⟩ := ok_open 1 rfl h0
  have hS := domL (OD mx key most uses (some ⟨bb, 0, none⟩) lc rows)
  generalize domL (OD mx key most uses (some ⟨bb, 0, none⟩) lc rows) = S at h2 ⊢
  refine enter2 (S := S) (H := [row mx 81 (hdD key most uses (some ⟨bb, 0, none⟩) rows.length lc), row bb 83 (rows.flatMap cDR ++ rest), allD rows]) 23 Try.func71 rfl rfl rfl h2 ?_
  have hsp : Sp (rows.flatMap cDR ++ rest) (0 + i * 3 + 2) [.int .i64 ((uses + 1 : Nat) : Int)] ((rows.set i (r.at' (uses + 1))).flatMap cDR ++ rest) := by
    rw [Nat.zero_add]
    exact sp_flat len_DR hx (Sp.lit rfl rfl)
  have hu1 : (uses : Int) + 1 = ((uses + 1 : Nat) : Int) := rfl
  (repeat (first | ((refine (?_ : MX _ _ _ _ _ _ _ _ _ _ _)); first | refine mx_end ?_ | (refine mx_mv _ rfl rfl (by conv => {lhs; whnf}) ?_) | ( refine mx_fa E rfl rfl rfl rfl ?_) | (refine g_load rfl ?_; refine mx_get E rfl rfl rfl rfl rfl (by rfl) rfl ?_ ) | (refine g_bin rfl ?_; (refine mx_ar rfl rfl rfl rfl rfl rfl ((IntWalk.i64_in _ (by omega)).trans (by with_reducible assumption)) rfl ?_ ) ) | (refine mx_nc rfl rfl rfl ?_) | (refine g_store rfl ?_; refine s_1 E rfl rfl rfl rfl rfl rfl rfl rfl (by exact spS (spS sp0) ) rfl ?_) ) | refine cw_seq ?_ | refine cw_line rfl ?_ | refine pw_then ?_ ))
  refine cw_drawm [0, 1, 2, 3, 4, 5, 6, 7, 8, 9, 10, 11] (fun i => Nat.beq i 11) _ mixed (by kernel_rfl) (fun w h => h.only 0 rfl) ?_
  (repeat (((refine (?_ : MX _ _ _ _ _ _ _ _ _ _ _)); first | refine mx_end ?_ | (refine mx_mv _ rfl rfl (by conv => {lhs; whnf}) ?_) | ( refine mx_fa E rfl rfl rfl rfl ?_) | (refine g_load rfl ?_; refine mx_get E rfl rfl rfl rfl rfl (by rfl) rfl ?_ ) | (refine g_ix rfl ?_; refine mx_ixsn E rfl rfl rfl rfl rfl rfl (by omega) rfl ?_ ) | (refine mx_nc rfl rfl rfl ?_) | (refine g_store rfl ?_; refine s_1 E rfl rfl rfl rfl rfl rfl rfl rfl (by exact hsp ) rfl ?_) ) ))
  refine pw_ret0 rfl rfl fun w' hw => ⟨rfl, ?_⟩
  have h3 := ok_close (xs := (rows.set i (r.at' (uses + 1))).flatMap cDR) (rest := rest) (len := rows.length) (z := 3) (cap := lc) 1 rfl (by rw [flatMap_len len_DR, List.length_set]) (by rw [List.length_append, flatMap_len len_DR, List.length_set, ← e2, List.length_append, flatMap_len len_DR]) e3 e4 hw
  unfold OD
  rw [allD_set hx, List.length_set]
  exact h3
def usesF (k : List Int) (uses : Nat) (rows : List DR) : Nat := match fidx (dlk k) rows 0 with
  | some _ => uses + 1
  | none => uses
def useF (k : List Int) (uses : Nat) (rows : List DR) : List DR := match fidx (dlk k) rows 0 with
  | some i => rows.set i ((rows.getD i default).at' (uses + 1))
  | none => rows
theorem peek_use (k : List Int) : peekD k (useF k uses rows) = peekD k rows := by
  unfold useF
  cases hf : fidx (dlk k) rows 0 with
  | none => rfl
  | some i =>
    obtain ⟨_, hi, r, hx, _⟩ := fidx_le hf
    rw [Nat.sub_zero] at hi hx
    have hg : rows.getD i default = r := by simp [List.getD, hx]
    dsimp only
    rw [hg]
    unfold peekD
    rw [fidx_set (p := dlk k) (x' := r.at' (uses + 1)) hx rfl, hf]
    dsimp only
    rw [hg]
    have : (rows.set i (r.at' (uses + 1))).getD i default = r.at' (uses + 1) := by simp [List.getD, List.getElem?_set_self hi]
    rw [this]
    rfl
theorem use_len (k : List Int) : (useF k uses rows).length = rows.length := by
  unfold useF
  split
  · exact List.length_set
  · rfl
theorem mem_use {k : List Int} {q : DR} (h : q ∈ useF k uses rows) : ∃ r ∈ rows, q.k = r.k := by
  unfold useF at h
  split at h
  · rename_i i hf
    obtain ⟨_, hi, r, hx, _⟩ := fidx_le hf
    rw [Nat.sub_zero] at hi hx
    rcases List.mem_or_eq_of_mem_set h with h | rfl
    · exact ⟨q, h, rfl⟩
    · refine ⟨r, List.mem_of_getElem? hx, ?_⟩
      simp [List.getD, hx, DR.at']
  · exact ⟨q, h, rfl⟩
theorem dfind56 (hs : rows.length ≤ 100000) (hu : uses ≤ 100000) (hk : ∀ r ∈ rows, r.k.length ≤ 100000) (ad : Option Addr) (m cap : Nat) (k : List Int) (hm : k.length = m) (w : World) (h0 : Ok (domL (OD mx key most uses la lc rows)) w (OD mx key most uses la lc rows) w) (hl : InL w ad 1 cU k) (hne : k ≠ [] → ∀ b off, ad = some ⟨b, off, none⟩ → ¬ domL (OD mx key most uses la lc rows) b) :
    Calls Try.prog 56 #[.pointer (some ⟨mx, 0, none⟩), .slice ad m cap] w fun e w' => e = .returned (.tuple #[.int .i64 (peekD k rows).1, .bool (peekD k rows).2]) ∧ Ok (domL (OD mx key most uses la lc rows)) w (OD mx key most (usesF k uses rows) la lc (useF k uses rows)) w' := by
  rw [← peek_use uses rows k]
  have hlen := use_len uses rows k
  have hmem : ∀ q ∈ useF k uses rows, q.k.length ≤ 100000 := fun q hq => by
    obtain ⟨r, hr, e⟩ := mem_use uses rows hq
    rw [e]; exact hk r hr
  refine enter2 (S := domL (OD mx key most uses la lc rows)) (H := [row mx 81 (hdD key most uses la rows.length lc), ownd la lc 83 3 rows.length (rows.flatMap cDR), allD rows]) 20 Try.func56 rfl rfl rfl h0 ?_
  (repeat (first | ((refine (?_ : MX _ _ _ _ _ _ _ _ _ _ _)); first | refine mx_end ?_ | (refine mx_mv _ rfl rfl (by conv => {lhs; whnf}) ?_) | (refine mx_as _ rfl rfl (by conv => {lhs; whnf}) ?_) ) | refine cw_seq ?_ | refine cw_line rfl ?_ | refine pw_then ?_ ))
  refine g_cf 69 rfl ?_; refine a_callv rfl rfl rfl rfl Try.func69 rfl rfl rfl (.int .i64 (oix (fidx (dlk k) rows 0))) (fun w' hw => dat69 mx key most uses la lc rows (by omega) hk ad m cap k hm w' (hw.holds 0 _ rfl) (own_in len_DR (hw.holds 1 _ rfl) (Nat.le_refl _)) (fun r hr => inD (hw.holds 2 _ rfl) hr) (hl.keep' hw hne)) rfl ?_
  cases hf : fidx (dlk k) rows 0 with
  | none =>
    have e1 : useF k uses rows = rows := by unfold useF; rw [hf]
    have e2 : usesF k uses rows = uses := by unfold usesF; rw [hf]
    rw [e1, e2, oix_none]
    (repeat (first | ((refine (?_ : MX _ _ _ _ _ _ _ _ _ _ _)); first | refine mx_end ?_ | (refine mx_mv _ rfl rfl (by conv => {lhs; whnf}) ?_) | (refine mx_as _ rfl rfl (by conv => {lhs; whnf}) ?_) | (refine g_bin rfl ?_; ( (refine mx_cmpl .geq rfl rfl rfl rfl rfl (by exact cmp_ge_f (by omega) ) ?_)) ) ) | refine cw_seq ?_ | refine cw_line rfl ?_ | refine cw_cond_f rfl ?_ | refine cw_skip ?_ | refine pw_then ?_ ))
    refine g_cf 57 rfl ?_
    refine a_callv rfl rfl rfl rfl Try.func57 rfl rfl rfl _ (fun w' hw => dpeek57 mx key most uses la lc rows hs hk ad m cap k hm w' (hw.holds 0 _ rfl) (own_in len_DR (hw.holds 1 _ rfl) (Nat.le_refl _)) (fun r hr => inD (hw.holds 2 _ rfl) hr) (hl.keep' hw hne)) rfl ?_
    (repeat (first | ((refine (?_ : MX _ _ _ _ _ _ _ _ _ _ _)); first | refine mx_end ?_ | (refine mx_as _ rfl rfl (by conv => {lhs; whnf}) ?_) | (refine mx_ex _ rfl rfl rfl (by conv => {lhs; whnf}) ?_) ) | refine cw_ret ?_ | refine pw_then ?_ ))
    exact pw_rets rfl [_, _] ⟨rfl, rfl, trivial⟩ rfl fun w' hw => ⟨rfl, hw⟩
  | some i =>
    obtain ⟨_, hi, r, hx, _⟩ := fidx_le hf
    rw [Nat.sub_zero] at hi hx
    have e1 : useF k uses rows = rows.set i (r.at' (uses + 1)) := by unfold useF; rw [hf]; simp [List.getD, hx]
    have e2 : usesF k uses rows = uses + 1 := by unfold usesF; rw [hf]
    rw [e1] at hlen hmem
    rw [e1, e2, oix_some]
    (repeat (first | ((refine (?_ : MX _ _ _ _ _ _ _ _ _ _ _)); first | refine mx_end ?_ | (refine mx_mv _ rfl rfl (by conv => {lhs; whnf}) ?_) | (refine mx_as _ rfl rfl (by conv => {lhs; whnf}) ?_) | (refine g_bin rfl ?_; ( (refine mx_cmpl .geq rfl rfl rfl rfl rfl (by exact cmp_ge_t (by omega) ) ?_)) ) ) | refine cw_seq ?_ | refine cw_line rfl ?_ | refine cw_cond_t rfl ?_ | refine pw_then ?_ ))
    refine g_cf 71 rfl ?_
    refine a_calls rfl rfl rfl rfl Try.func71 rfl rfl rfl (OD mx key most uses la lc rows) [] (fun w h => by rw [List.append_nil]; exact h) (fun a : Unit => .tuple #[]) (fun a => OD mx key most (uses + 1) la lc (rows.set i (r.at' (uses + 1)))) (fun w' hw h => (duse71 mx key most uses la lc rows hs hu i r hx w' h).mono fun e w' h => ⟨(), h⟩) (fun _ => rfl) (fun _ _ _ => trivial) (fun a => ?_)
    generalize rows.set i (r.at' (uses + 1)) = rows2 at hlen hmem ⊢
    refine mx_weak (H' := [row mx 81 (hdD key most (uses + 1) la rows2.length lc), ownd la lc 83 3 rows2.length (rows2.flatMap cDR), allD rows2]) (fun w h => by rwa [List.append_nil] at h) (fun _ _ => trivial) ?_
    (repeat (first | ((refine (?_ : MX _ _ _ _ _ _ _ _ _ _ _)); first | refine mx_end ?_ | (refine mx_mv _ rfl rfl (by conv => {lhs; whnf}) ?_) ) | refine cw_seq ?_ | refine cw_line rfl ?_ | refine pw_then ?_ ))
    refine g_cf 57 rfl ?_
    refine a_callv rfl rfl rfl rfl Try.func57 rfl rfl rfl _ (fun w' hw => dpeek57 mx key most (uses + 1) la lc rows2 (by omega) hmem ad m cap k hm w' (hw.holds 0 _ rfl) (own_in len_DR (hw.holds 1 _ rfl) (Nat.le_refl _)) (fun r hr => inD (hw.holds 2 _ rfl) hr) (hl.keep' hw hne)) rfl ?_
    (repeat (first | ((refine (?_ : MX _ _ _ _ _ _ _ _ _ _ _)); first | refine mx_end ?_ | (refine mx_as _ rfl rfl (by conv => {lhs; whnf}) ?_) | (refine mx_ex _ rfl rfl rfl (by conv => {lhs; whnf}) ?_) ) | refine cw_ret ?_ | refine pw_then ?_ ))
    exact pw_rets rfl [_, _] ⟨rfl, rfl, trivial⟩ rfl fun w' hw => ⟨rfl, hw⟩
def delD (k : List Int) (rows : List DR) : List DR := match fidx (dlk k) rows 0 with
  | some i => rows.eraseIdx i
  | none => rows
theorem allD_sub {S : Nat → Prop} {w0 w : World} {H : List Res} {rs qs : List DR} (hs : qs.Sublist rs) (h : Ok S w0 (allD rs :: H) w) : Ok S w0 (allD qs :: H) w :=
  Ok.star ((Ok.unstar h).sub ((hs.map RDR).append (List.Sublist.refl H)))
theorem ddel58 (hs : rows.length ≤ 100000) (hk : ∀ r ∈ rows, r.k.length ≤ 100000) (ad : Option Addr) (m cap : Nat) (k : List Int) (hm : k.length = m) (w : World) (h0 : Ok (domL (OD mx key most uses la lc rows)) w (OD mx key most uses la lc rows) w) (hl : InL w ad 1 cU k) (hne : k ≠ [] → ∀ b off, ad = some ⟨b, off, none⟩ → ¬ domL (OD mx key most uses la lc rows) b) :
    Calls Try.prog 58 #[.pointer (some ⟨mx, 0, none⟩), .slice ad m cap] w fun e w' => ∃ a : Option Addr × Nat, e = .returned (.tuple #[.int .i64 (peekD k rows).1, .bool (peekD k rows).2]) ∧ Ok (domL (OD mx key most uses la lc rows)) w (OD mx key most uses a.1 a.2 (delD k rows)) w' := by
  unfold peekD delD
  cases hf : fidx (dlk k) rows 0 with
  | none =>
    refine enter2 (S := domL (OD mx key most uses la lc rows)) (H := [row mx 81 (hdD key most uses la rows.length lc), ownd la lc 83 3 rows.length (rows.flatMap cDR), allD rows]) 28 Try.func58 rfl rfl rfl h0 ?_
    (repeat (first | ((refine (?_ : MX _ _ _ _ _ _ _ _ _ _ _)); first | refine mx_end ?_ | (refine mx_mv _ rfl rfl (by conv => {lhs; whnf}) ?_) | (refine mx_as _ rfl rfl (by conv => {lhs; whnf}) ?_) ) | refine cw_seq ?_ | refine cw_line rfl ?_ | refine pw_then ?_ ))
    refine g_cf 69 rfl ?_; refine a_callv rfl rfl rfl rfl Try.func69 rfl rfl rfl (.int .i64 (oix (fidx (dlk k) rows 0))) (fun w' hw => dat69 mx key most uses la lc rows (by omega) hk ad m cap k hm w' (hw.holds 0 _ rfl) (own_in len_DR (hw.holds 1 _ rfl) (Nat.le_refl _)) (fun r hr => inD (hw.holds 2 _ rfl) hr) (hl.keep' hw hne)) rfl ?_
    rw [hf, oix_none]
    (repeat (first | ((refine (?_ : MX _ _ _ _ _ _ _ _ _ _ _)); first | refine mx_end ?_ | (refine mx_mv _ rfl rfl (by conv => {lhs; whnf}) ?_) | (refine mx_as _ rfl rfl (by conv => {lhs; whnf}) ?_) | (refine g_bin rfl ?_; ( (refine mx_cmpl .lss rfl rfl rfl rfl rfl (by exact cmp_lt_t (by omega) ) ?_) ) ) ) | refine cw_seq ?_ | refine cw_line rfl ?_ | refine cw_cond_t rfl ?_ | refine cw_ret ?_ | refine pw_then ?_ | refine pw_then_r ?_ ))
    exact pw_rets rfl [_, _] ⟨rfl, rfl, trivial⟩ rfl fun w' hw => ⟨(la, lc), rfl, hw⟩
  | some i =>
    obtain ⟨_, hi, r, hx, _⟩ := fidx_le hf
    rw [Nat.sub_zero] at hi hx
    have hg : rows.getD i default = r := by simp [List.getD, hx]
    obtain ⟨bb, hbb, hcc⟩ := (own_at (h0.holds 1 _ rfl)).2.1 (by omega)
    refine enter2 (S := domL (OD mx key most uses la lc rows)) (H := [row mx 81 (hdD key most uses la rows.length lc), ownd la lc 83 3 rows.length (rows.flatMap cDR), allD rows]) 28 Try.func58 rfl rfl rfl h0 ?_
    (repeat (first | ((refine (?_ : MX _ _ _ _ _ _ _ _ _ _ _)); first | refine mx_end ?_ | (refine mx_mv _ rfl rfl (by conv => {lhs; whnf}) ?_) | (refine mx_as _ rfl rfl (by conv => {lhs; whnf}) ?_) ) | refine cw_seq ?_ | refine cw_line rfl ?_ | refine pw_then ?_ ))
    refine g_cf 69 rfl ?_; refine a_callv rfl rfl rfl rfl Try.func69 rfl rfl rfl (.int .i64 (oix (fidx (dlk k) rows 0))) (fun w' hw => dat69 mx key most uses la lc rows (by omega) hk ad m cap k hm w' (hw.holds 0 _ rfl) (own_in len_DR (hw.holds 1 _ rfl) (Nat.le_refl _)) (fun r hr => inD (hw.holds 2 _ rfl) hr) (hl.keep' hw hne)) rfl ?_
    rw [hf, oix_some]
    dsimp only
    rw [hg]
    subst hbb
    (repeat (first | ((refine (?_ : MX _ _ _ _ _ _ _ _ _ _ _)); first | refine mx_end ?_ | (refine mx_mv _ rfl rfl (by conv => {lhs; whnf}) ?_) | (refine mx_as _ rfl rfl (by conv => {lhs; whnf}) ?_) | ( refine mx_fa E rfl rfl rfl rfl ?_) | (refine g_load rfl ?_; refine mx_get E rfl rfl rfl rfl rfl (by rfl) rfl ?_ ) | (refine g_bin rfl ?_; ( (refine mx_cmpl .lss rfl rfl rfl rfl rfl (by exact cmp_lt_f (by omega) ) ?_) ) ) | (refine g_ix rfl ?_; refine mx_ixsn E rfl rfl rfl rfl rfl rfl (by omega) rfl ?_ ) | (refine mx_nc rfl rfl rfl ?_) ) | refine cw_seq ?_ | refine cw_line rfl ?_ | refine cw_cond_f rfl ?_ | refine cw_skip ?_ | refine pw_then ?_ ))
    refine g_load rfl ?_
    refine a_load1 E rfl rfl rfl rfl rfl rfl (v := .int .i64 r.c) (fun w hw => ?_) rfl ?_
    · rw [Nat.zero_add]
      exact own_get len_DR (hw.holds 1 _ rfl) hx (o := 1) (by omega) rfl
    (repeat (first | ((refine (?_ : MX _ _ _ _ _ _ _ _ _ _ _)); first | refine mx_end ?_ | (refine mx_mv _ rfl rfl (by conv => {lhs; whnf}) ?_) | (refine mx_as _ rfl rfl (by conv => {lhs; whnf}) ?_) ) | refine cw_seq ?_ | refine cw_line rfl ?_ | refine pw_then ?_ ))
    refine g_cf 70 rfl ?_
    refine a_callL rfl rfl rfl rfl Try.func70 rfl rfl rfl [] _ rfl (fun a : Option Addr × Nat => .slice a.1 (rows.eraseIdx i).length a.2) (fun a => [ownd a.1 a.2 83 3 (rows.eraseIdx i).length ((rows.eraseIdx i).flatMap cDR)]) (fun w' hw _ => dwithout70 mx key most uses _ lc rows hs i w' (hw.holds 0 _ rfl) (own_in len_DR (hw.holds 1 _ rfl) (Nat.le_refl _))) (fun _ => rfl) (fun _ _ _ => trivial) (fun a => ?_)
    rw [List.singleton_append]
    (repeat (first | ((refine (?_ : MX _ _ _ _ _ _ _ _ _ _ _)); first | refine mx_end ?_ | (refine mx_mv _ rfl rfl (by conv => {lhs; whnf}) ?_) | (refine mx_as _ rfl rfl (by conv => {lhs; whnf}) ?_) | ( refine mx_fa E rfl rfl rfl rfl ?_) | (refine mx_nc rfl rfl rfl ?_) | (refine g_store rfl ?_; refine s_1 E rfl rfl rfl rfl rfl rfl rfl rfl (by exact spS (spS (spS sp0)) ) rfl ?_) ) | refine cw_seq ?_ | refine cw_line rfl ?_ | refine cw_ret ?_ | refine pw_then ?_ ))
    refine pw_rets rfl [_, _] ⟨rfl, rfl, trivial⟩ rfl fun w' hw => ⟨a, rfl, ?_⟩
    have h1 := hw.pick (H' := [allD rows, row mx 81 (hdD key most uses a.1 (rows.eraseIdx i).length a.2), ownd a.1 a.2 83 3 (rows.eraseIdx i).length ((rows.eraseIdx i).flatMap cDR)]) [3, 1, 0] (by simp) rfl
    exact (allD_sub (List.eraseIdx_sublist rows i) h1).pick [1, 2, 0] (by simp) rfl
def dputE (key : Int) (k : List Int) (rows : List DR) : Int := if (k.length : Int) ≠ key then 14 else if (fidx (dlk k) rows 0).isSome then 11 else 0
theorem dput55e (c : Int) (hs : rows.length ≤ 100000) (hk : ∀ r ∈ rows, r.k.length ≤ 100000) (ad : Option Addr) (m cap : Nat) (k : List Int) (hm : k.length = m) (he : dputE key k rows ≠ 0) (w : World) (h0 : Ok (domL (OD mx key most uses la lc rows)) w (OD mx key most uses la lc rows) w) (hl : InL w ad 1 cU k) (hne : k ≠ [] → ∀ b off, ad = some ⟨b, off, none⟩ → ¬ domL (OD mx key most uses la lc rows) b) :
    Calls Try.prog 55 #[.pointer (some ⟨mx, 0, none⟩), .slice ad m cap, .int .i64 c] w fun e w' => e = .returned (.tuple #[.slice none 0 0, .int .i64 0, .int .i64 (dputE key k rows)]) ∧ Ok (domL (OD mx key most uses la lc rows)) w (OD mx key most uses la lc rows) w' := by
  refine enter3 (S := domL (OD mx key most uses la lc rows)) (H := [row mx 81 (hdD key most uses la rows.length lc), ownd la lc 83 3 rows.length (rows.flatMap cDR), allD rows]) 98 Try.func55 rfl rfl rfl h0 ?_
  unfold dputE at he ⊢
  rw [hm] at he ⊢
  by_cases hkey : (m : Int) = key
  · rw [if_neg (fun h => h hkey)] at he ⊢
    cases hf : fidx (dlk k) rows 0 with
    | none => rw [hf] at he; exact absurd rfl he
    | some i =>
      (repeat (first | ((refine (?_ : MX _ _ _ _ _ _ _ _ _ _ _)); first | refine mx_end ?_ | (refine mx_mv _ rfl rfl (by conv => {lhs; whnf}) ?_) | (refine mx_as _ rfl rfl (by conv => {lhs; whnf}) ?_) | (refine mx_fa0 E rfl rfl rfl rfl ?_ ) | (refine g_load rfl ?_; refine mx_get E rfl rfl rfl rfl rfl (by rfl) rfl ?_ ) | (refine g_bin rfl ?_; ( (refine mx_cmpl .neq rfl rfl rfl rfl rfl (by exact cmp_ne_f (by omega) ) ?_) ) ) | (refine mx_nc rfl rfl rfl ?_) | (refine g_bi .len rfl ?_; refine mx_len E rfl rfl rfl rfl ?_) ) | refine cw_seq ?_ | refine cw_line rfl ?_ | refine cw_cond_f rfl ?_ | refine cw_skip ?_ | refine pw_then ?_ ))
      refine g_cf 69 rfl ?_; refine a_callv rfl rfl rfl rfl Try.func69 rfl rfl rfl (.int .i64 (oix (fidx (dlk k) rows 0))) (fun w' hw => dat69 mx key most uses la lc rows (by omega) hk ad m cap k hm w' (hw.holds 0 _ rfl) (own_in len_DR (hw.holds 1 _ rfl) (Nat.le_refl _)) (fun r hr => inD (hw.holds 2 _ rfl) hr) (hl.keep' hw hne)) rfl ?_
      rw [hf, oix_some]
      (repeat (first | ((refine (?_ : MX _ _ _ _ _ _ _ _ _ _ _)); first | refine mx_end ?_ | (refine mx_as _ rfl rfl (by conv => {lhs; whnf}) ?_) | (refine g_bin rfl ?_; ( (refine mx_cmpl .geq rfl rfl rfl rfl rfl (by exact cmp_ge_t (by omega) ) ?_)) ) ) | refine cw_seq ?_ | refine cw_line rfl ?_ | refine cw_cond_t rfl ?_ | refine cw_ret ?_ | refine pw_then ?_ | refine pw_then_r ?_ ))
      exact pw_rets rfl [_, _, _] ⟨rfl, rfl, rfl, trivial⟩ rfl fun w' hw => ⟨rfl, hw⟩
  · rw [if_pos hkey]
    (repeat (first | ((refine (?_ : MX _ _ _ _ _ _ _ _ _ _ _)); first | refine mx_end ?_ | (refine mx_mv _ rfl rfl (by conv => {lhs; whnf}) ?_) | (refine mx_as _ rfl rfl (by conv => {lhs; whnf}) ?_) | (refine mx_fa0 E rfl rfl rfl rfl ?_ ) | (refine g_load rfl ?_; refine mx_get E rfl rfl rfl rfl rfl (by rfl) rfl ?_ ) | (refine g_bin rfl ?_; ( (refine mx_cmpl .neq rfl rfl rfl rfl rfl (by exact cmp_ne_t (by omega) ) ?_) ) ) | (refine mx_nc rfl rfl rfl ?_) | (refine g_bi .len rfl ?_; refine mx_len E rfl rfl rfl rfl ?_) ) | refine cw_seq ?_ | refine cw_line rfl ?_ | refine cw_cond_t rfl ?_ | refine cw_ret ?_ | refine pw_then ?_ | refine pw_then_r ?_ ))
    exact pw_rets rfl [_, _, _] ⟨rfl, rfl, rfl, trivial⟩ rfl fun w' hw => ⟨rfl, hw⟩
/-- A row that was used longest ago. -/
def Least (rows : List DR) (f : Nat) (r : DR) : Prop := rows[f]? = some r ∧ ∀ q ∈ rows, r.u ≤ q.u
theorem allD_snoc {S : Nat → Prop} {w0 w : World} {H : List Res} {rs : List DR} {r : DR} (h : Ok S w0 (RDR r :: allD rs :: H) w) : Ok S w0 (allD (rs ++ [r]) :: H) w := by
  have h1 : Ok S w0 (allD rs :: ([RDR r] ++ H)) w := h.perm (List.Perm.swap _ _ _)
  have h2 := Ok.unstar h1
  rw [← List.append_assoc] at h2
  have h3 := Ok.star h2
  unfold allD
  rw [List.map_append]
  exact h3
theorem put_new (rs : List DR) (q1 : Option Addr) (q2 : Nat) (k : List Int) (c : Int) (u : Nat) : (rs ++ [(⟨q1, q2, k, c, 0⟩ : DR)]).set rs.length (DR.at' ⟨q1, q2, k, c, 0⟩ u) = rs ++ [⟨q1, q2, k, c, u⟩] := by
  rw [List.set_append_right _ _ (Nat.le_refl _), Nat.sub_self]
  rfl
theorem perm4 {α : Type _} (a b c d : α) (X : List α) : (a :: b :: c :: d :: X).Perm (c :: d :: a :: b :: X) := (List.perm_append_comm (l₁ := [a, b]) (l₂ := [c, d])).append_right X
theorem perm3 {α : Type _} (a b c : α) (X : List α) : (a :: b :: c :: X).Perm (b :: c :: a :: X) := (List.perm_append_comm (l₁ := [a]) (l₂ := [b, c])).append_right X
theorem put_pack {S : Nat → Prop} {w0 w : World} {mx : Nat} {key most : Int} {uses : Nat} {a2 : Option Addr} {c2 : Nat} {rs : List DR} {q1 : Option Addr} {q2 m : Nat} {k : List Int} {c : Int} {X : List Res} (hm : k.length = m) (h : Ok S w0 (row mx 81 (hdD key most uses a2 (rs.length + 1) c2) :: ownd a2 c2 83 3 (rs.length + 1) (rs.flatMap cDR ++ [.slice q1 m q2, .int .i64 c, .int .i64 0]) :: ownd q1 q2 5 1 m (k.flatMap cU) :: allD rs :: X) w) : Ok S w0 (OD mx key most uses a2 c2 (rs ++ [⟨q1, q2, k, c, 0⟩]) ++ X) w := by
  subst hm
  have h1 : Ok S w0 (RDR ⟨q1, q2, k, c, 0⟩ :: allD rs :: row mx 81 (hdD key most uses a2 (rs.length + 1) c2) :: ownd a2 c2 83 3 (rs.length + 1) (rs.flatMap cDR ++ [.slice q1 k.length q2, .int .i64 c, .int .i64 0]) :: X) w := h.perm (perm4 _ _ _ _ _)
  have h2 := allD_snoc h1
  have e1 : (rs ++ [(⟨q1, q2, k, c, 0⟩ : DR)]).length = rs.length + 1 := by simp
  have e2 : (rs ++ [(⟨q1, q2, k, c, 0⟩ : DR)]).flatMap cDR = rs.flatMap cDR ++ [.slice q1 k.length q2, .int .i64 c, .int .i64 0] := by rw [List.flatMap_append]; rfl
  unfold OD
  rw [e1, e2]
  exact h2.perm (perm3 _ _ _ _)
theorem dput55s (c : Int) (hs : rows.length ≤ 10000) (hu : uses ≤ 10000) (hk : ∀ r ∈ rows, r.k.length ≤ 100000) (ad : Option Addr) (m cap : Nat) (k : List Int) (hm : k.length = m) (hm2 : m ≤ 100000) (he : dputE key k rows = 0) (hlt : (rows.length : Int) ≠ most) (w : World) (h0 : Ok (domL (OD mx key most uses la lc rows)) w (OD mx key most uses la lc rows) w) (hl : InL w ad 1 cU k) (hne : k ≠ [] → ∀ b off, ad = some ⟨b, off, none⟩ → ¬ domL (OD mx key most uses la lc rows) b) :
    Calls Try.prog 55 #[.pointer (some ⟨mx, 0, none⟩), .slice ad m cap, .int .i64 c] w fun e w' => ∃ a : (Option Addr × Nat) × Option Addr × Nat, e = .returned (.tuple #[.slice none 0 0, .int .i64 0, .int .i64 0]) ∧ Ok (domL (OD mx key most uses la lc rows)) w (OD mx key most (uses + 1) a.1.1 a.1.2 (rows ++ [⟨a.2.1, a.2.2, k, c, uses + 1⟩])) w' := by
  refine enter3 (S := domL (OD mx key most uses la lc rows)) (H := [row mx 81 (hdD key most uses la rows.length lc), ownd la lc 83 3 rows.length (rows.flatMap cDR), allD rows]) 98 Try.func55 rfl rfl rfl h0 ?_
  unfold dputE at he
  rw [hm] at he
  have hkey : (m : Int) = key := by
    by_cases h : (m : Int) = key
    · exact h
    · rw [if_pos h] at he; cases he
  rw [if_neg (fun h => h hkey)] at he
  have hf : fidx (dlk k) rows 0 = none := by
    cases hf : fidx (dlk k) rows 0 with
    | none => rfl
    | some i => rw [hf] at he; cases he
  (repeat (first | ((refine (?_ : MX _ _ _ _ _ _ _ _ _ _ _)); first | refine mx_end ?_ | (refine mx_mv _ rfl rfl (by conv => {lhs; whnf}) ?_) | (refine mx_as _ rfl rfl (by conv => {lhs; whnf}) ?_) | (refine mx_fa0 E rfl rfl rfl rfl ?_ ) | (refine g_load rfl ?_; refine mx_get E rfl rfl rfl rfl rfl (by rfl) rfl ?_ ) | (refine g_bin rfl ?_; ( (refine mx_cmpl .neq rfl rfl rfl rfl rfl (by exact cmp_ne_f (by omega) ) ?_) ) ) | (refine mx_nc rfl rfl rfl ?_) | (refine g_bi .len rfl ?_; refine mx_len E rfl rfl rfl rfl ?_) ) | refine cw_seq ?_ | refine cw_line rfl ?_ | refine cw_cond_f rfl ?_ | refine cw_skip ?_ | refine pw_then ?_ ))
  refine g_cf 69 rfl ?_; refine a_callv rfl rfl rfl rfl Try.func69 rfl rfl rfl (.int .i64 (oix (fidx (dlk k) rows 0))) (fun w' hw => dat69 mx key most uses la lc rows (by omega) hk ad m cap k hm w' (hw.holds 0 _ rfl) (own_in len_DR (hw.holds 1 _ rfl) (Nat.le_refl _)) (fun r hr => inD (hw.holds 2 _ rfl) hr) (hl.keep' hw hne)) rfl ?_
  rw [hf, oix_none]
  (repeat (first | ((refine (?_ : MX _ _ _ _ _ _ _ _ _ _ _)); first | refine mx_end ?_ | (refine g_bin rfl ?_; ( (refine mx_cmpl .geq rfl rfl rfl rfl rfl (by exact cmp_ge_f (by omega) ) ?_)) ) | (refine a_new rfl rfl rfl rfl rfl (fun _ => ?_)) ) | refine cw_seq ?_ | refine cw_line rfl ?_ | refine cw_cond_f rfl ?_ | refine cw_skip ?_ | refine pw_then ?_ ))
  refine cw_drawq mixed rfl (by kernel_rfl) rfl ?_
  (repeat (first | ((refine (?_ : MX _ _ _ _ _ _ _ _ _ _ _)); first | refine mx_end ?_ | (refine mx_mv _ rfl rfl (by conv => {lhs; whnf}) ?_) | ( refine mx_fa E rfl rfl rfl rfl ?_) | (refine g_load rfl ?_; refine mx_get E rfl rfl rfl rfl rfl (by rfl) rfl ?_ ) | (refine g_bin rfl ?_; ((refine mx_cmpl .eql rfl rfl rfl rfl rfl (by exact cmp_eq_f (by omega) ) ?_) ) ) | (refine mx_nc rfl rfl rfl ?_) | (refine g_bi .len rfl ?_; refine mx_len E rfl rfl rfl rfl ?_) ) | refine cw_seq ?_ | refine cw_cond_f rfl ?_ | refine cw_skip ?_ | refine pw_then ?_ ))
  rename_i b9
  refine cw_bar [0, 1, 2, 3, 4, 5, 7, 6, 8, 9, 10, 11, 12] 13 [] (fun i => or (Nat.beq i 6) (Nat.ble 8 i)) [row mx 81 (hdD key most uses la (rows).length lc)] (fun _ => True) mixed (by kernel_rfl) (fun w h => h.only 1 rfl) ?_
  (repeat (((refine (?_ : MX _ _ _ _ _ _ _ _ _ _ _)); first | (refine mx_mv _ rfl rfl (by conv => {lhs; whnf}) ?_) | ( refine mx_fa E rfl rfl rfl rfl ?_) | (refine g_load rfl ?_; refine mx_get E rfl rfl rfl rfl rfl (by rfl) rfl ?_ ) | (refine mx_nc rfl rfl rfl ?_) ) ))
  refine g_cf 50 rfl ?_; refine a_calln rfl rfl rfl rfl Try.func50 rfl rfl rfl (fun q : Option Addr × Nat => .slice q.1 m q.2) (fun q => ownd q.1 q.2 5 1 m (k.flatMap cU)) (fun w' hw => copyB ad m cap k hm (by omega) w' (hl.keep' hw hne)) rfl (fun q => ?_); obtain ⟨q1, q2⟩ := q
  (repeat (((refine (?_ : MX _ _ _ _ _ _ _ _ _ _ _)); (refine g_build rfl ?_; refine mx_build rfl rfl rfl rfl (b83 _ _ _ _) rfl ?_) ) ))
  refine g_bs rfl ?_; refine a_bslice1 E rfl rfl rfl rfl (us := [.slice q1 m q2, .int .i64 c, .int .i64 0]) rfl rfl rfl rfl rfl rfl (fun b6 => ?_); refine g_bi .append rfl ?_; refine a_app E rfl rfl rfl rfl rfl rfl rfl rfl [.slice q1 m q2, .int .i64 c, .int .i64 0] rfl (fun w hw => fun _ => ⟨b6, 0, rfl, fun j u hj => by rw [add_at, Nat.zero_add]; exact row_cell (hw.holds 0 _ rfl) hj⟩) rfl (by omega) rfl (fun _ _ w h => h.only 3 rfl) (fun a2 c2 => ?_)
  (repeat (((refine (?_ : MX _ _ _ _ _ _ _ _ _ _ _)); first | ( refine mx_fa E rfl rfl rfl rfl ?_) | (refine mx_nc rfl rfl rfl ?_) ) ))
  refine mx_bar (fun _ _ => trivial) ?_
  have hr1 : ((rows.length + 1 : Nat) : Int) - 1 = (rows.length : Int) := by omega
  (repeat (first | ((refine (?_ : MX _ _ _ _ _ _ _ _ _ _ _)); first | refine mx_end ?_ | (refine mx_mv _ rfl rfl (by conv => {lhs; whnf}) ?_) | ( refine mx_fa E rfl rfl rfl rfl ?_) | (refine g_load rfl ?_; refine mx_get E rfl rfl rfl rfl rfl (by rfl) rfl ?_ ) | (refine g_bin rfl ?_; (refine mx_ar rfl rfl rfl rfl rfl rfl ((IntWalk.i64_in _ (by omega)).trans (by with_reducible assumption)) rfl ?_ ) ) | (refine mx_nc rfl rfl rfl ?_) | (refine g_bi .len rfl ?_; refine mx_len E rfl rfl rfl rfl ?_) | (refine g_store rfl ?_; refine s_1 E rfl rfl rfl rfl rfl rfl rfl rfl (by exact spS (spS (spS sp0)) ) rfl ?_) ) | refine cw_seq ?_ | refine cw_line rfl ?_ | refine pw_then ?_ ))
  refine mx_weak (H' := OD mx key most uses a2 c2 (rows ++ [⟨q1, q2, k, c, 0⟩]) ++ [row b9 83 [.slice none 0 0, .int .i64 0, .int .i64 0]]) (fun w h => put_pack hm (h.pick [3, 4, 1, 5, 2] (by simp) rfl)) (fun _ _ => trivial) ?_; refine g_cf 71 rfl ?_; refine a_calls rfl rfl rfl rfl Try.func71 rfl rfl rfl (OD mx key most uses a2 c2 (rows ++ [⟨q1, q2, k, c, 0⟩])) ([row b9 83 [.slice none 0 0, .int .i64 0, .int .i64 0]]) (fun w h => h) (fun a : Unit => .tuple #[]) (fun a => OD mx key most (uses + 1) a2 c2 (rows ++ [⟨q1, q2, k, c, uses + 1⟩])) (fun w' hw h => (put_new (rows) q1 q2 k c (uses + 1)) ▸ (duse71 mx key most uses a2 c2 _ (by simp; omega) (by omega) (rows).length ⟨q1, q2, k, c, 0⟩ (by simp) w' h).mono fun e w' h => ⟨(), h⟩) (fun _ => rfl) (fun _ _ _ => trivial) (fun a => ?_); refine mx_weak (H' := row b9 83 [.slice none 0 0, .int .i64 0, .int .i64 0] :: OD mx key most (uses + 1) a2 c2 (rows ++ [⟨q1, q2, k, c, uses + 1⟩])) (fun w h => h.perm List.perm_append_comm) (fun _ _ => trivial) ?_
  (repeat (first | ((refine (?_ : MX _ _ _ _ _ _ _ _ _ _ _)); refine mx_end ?_ ) | refine cw_seq ?_ | refine pw_then ?_ ))
  refine cw_drawq mixed rfl (by kernel_rfl) rfl ?_
  (repeat (first | ((refine (?_ : MX _ _ _ _ _ _ _ _ _ _ _)); first | refine mx_end ?_ | (refine mx_as _ rfl rfl (by conv => {lhs; whnf}) ?_) | (first | refine mx_fa0 E rfl rfl rfl rfl ?_ | refine mx_fa E rfl rfl rfl rfl ?_) | (refine g_load rfl ?_; refine mx_get E rfl rfl rfl rfl rfl (by rfl) rfl ?_ ) ) | refine cw_ret ?_ | refine pw_then ?_ ))
  exact pw_rets rfl [_, _, _] ⟨rfl, rfl, rfl, trivial⟩ rfl fun w' hw => ⟨((a2, c2), q1, q2), rfl, hw.pick [1, 2, 3] (by simp) rfl⟩
theorem cw_some {α : Sort _} {P : Program} {Q : Exit → Act → World → Prop} {n : Nat} {st : Slots} {c : Code} {S : Nat → Prop} {w0 : World} {H : List Res} {H' : α → List Res} (hH : ∀ w, Ok S w0 H w → ∃ x, Ok S w0 (H' x) w) (h : ∀ x, CW P c Q n st S w0 (H' x)) : CW P c Q n st S w0 H := ⟨fun w hw => by
  obtain ⟨x, hx⟩ := hH w hw
  exact (h x).run w hx⟩
theorem row_flat {α : Type} {c : α → List Value} {z : Nat} (hz : ∀ x, (c x).length = z) {xs : List α} {rest : List Value} {i : Nat} {x : α} (hx : xs[i]? = some x) {o : Nat} {v : Value} (ho : o < z) (hv : (c x)[o]? = some v) : (xs.flatMap c ++ rest)[0 + i * z + o]? = some v := by
  have hi := (List.getElem?_eq_some_iff.1 hx).1
  have h1 := flatMap_at hz xs i o x hx ho
  rw [hv] at h1
  rw [Nat.zero_add, List.getElem?_append_left (List.getElem?_eq_some_iff.1 h1).1]
  exact h1
theorem vr_flat {α : Type} {c : α → List Value} {z : Nat} (hz : ∀ x, (c x).length = z) {xs : List α} {rest : List Value} {i : Nat} {x : α} (hx : xs[i]? = some x) : Vr (xs.flatMap c ++ rest) (0 + i * z) z (c x) := by
  refine ⟨⟨?_⟩, hz x⟩
  rw [hz x]
  apply List.ext_getElem?
  intro j
  by_cases hj : j < z
  · rw [List.getElem?_take_of_lt hj, List.getElem?_drop]
    cases hv : (c x)[j]? with
    | none => rw [List.getElem?_eq_none_iff, hz] at hv; omega
    | some v => exact row_flat hz hx hj hv
  · rw [List.getElem?_eq_none (by rw [List.length_take]; omega), List.getElem?_eq_none (by rw [hz]; omega)]
theorem allD_one {S : Nat → Prop} {w0 w : World} {H : List Res} {rs : List DR} {f : Nat} {r : DR} (hx : rs[f]? = some r) (h : Ok S w0 (allD rs :: H) w) : Ok S w0 (RDR r :: allD (rs.eraseIdx f) :: H) w := by
  have h1 := Ok.unstar h
  have hlt := (List.getElem?_eq_some_iff.1 hx).1
  have hp : (r :: rs.eraseIdx f).Perm rs := by
    have h1 := set_perm r rs f hlt
    have h2 : rs.set f r = rs := by
      rw [← (List.getElem?_eq_some_iff.1 hx).2]
      exact List.set_getElem_self _
    rwa [h2] at h1
  have h2 : Ok S w0 ((rs.eraseIdx f).map RDR ++ ([RDR r] ++ H)) w := h1.perm (by
    refine ((hp.symm.map RDR).append_right H).trans ?_
    rw [List.map_cons, List.cons_append]
    exact List.perm_middle.symm)
  exact (Ok.star h2).perm (List.Perm.swap _ _ _)
theorem row_inl {α : Type} {c : α → List Value} {z : Nat} (hz : ∀ x, (c x).length = z) {w : World} {bb T : Nat} {xs : List α} {rest : List Value} (h : (row bb T (xs.flatMap c ++ rest)).holds w) : InL w (some ⟨bb, 0, none⟩) z c xs := fun _ => ⟨bb, 0, rfl, fun i x hx k v hk => by
  have hkz : k < z := by rw [← hz x]; exact (List.getElem?_eq_some_iff.1 hk).1
  exact row_cell h (row_flat hz hx hkz hk)⟩
theorem dput55f (c : Int) (hs : rows.length ≤ 10000) (hu : uses ≤ 10000) (hk : ∀ r ∈ rows, r.k.length ≤ 100000) (ad : Option Addr) (m cap : Nat) (k : List Int) (hm : k.length = m) (hm2 : m ≤ 100000) (he : dputE key k rows = 0) (hlt : (rows.length : Int) = most) (hpos : 0 < rows.length) (w : World) (h0 : Ok (domL (OD mx key most uses la lc rows)) w (OD mx key most uses la lc rows) w) (hl : InL w ad 1 cU k) (hne : k ≠ [] → ∀ b off, ad = some ⟨b, off, none⟩ → ¬ domL (OD mx key most uses la lc rows) b) :
    Calls Try.prog 55 #[.pointer (some ⟨mx, 0, none⟩), .slice ad m cap, .int .i64 c] w fun e w' => ∃ a : ((Option Addr × Nat) × Option Addr × Nat) × {p : Nat × DR // Least rows p.1 p.2}, e = .returned (.tuple #[.slice a.2.1.2.ka a.2.1.2.k.length a.2.1.2.kc, .int .i64 a.2.1.2.c, .int .i64 0]) ∧ Ok (domL (OD mx key most uses la lc rows)) w (RDR a.2.1.2 :: OD mx key most (uses + 1) a.1.1.1 a.1.1.2 (rows.eraseIdx a.2.1.1 ++ [⟨a.1.2.1, a.1.2.2, k, c, uses + 1⟩])) w' := by
  obtain ⟨bb, hbb, _⟩ := (own_at (h0.holds 1 _ rfl)).2.1 hpos
  have h0' := h0
  refine enter3 (S := domL (OD mx key most uses la lc rows)) (H := [row mx 81 (hdD key most uses la rows.length lc), ownd la lc 83 3 rows.length (rows.flatMap cDR), allD rows]) 98 Try.func55 rfl rfl rfl h0 ?_
  unfold dputE at he
  rw [hm] at he
  have hkey : (m : Int) = key := by
    by_cases h : (m : Int) = key
    · exact h
    · rw [if_pos h] at he; cases he
  rw [if_neg (fun h => h hkey)] at he
  have hf : fidx (dlk k) rows 0 = none := by
    cases hf : fidx (dlk k) rows 0 with
    | none => rfl
    | some i => rw [hf] at he; cases he
  (repeat (first | ((refine (?_ : MX _ _ _ _ _ _ _ _ _ _ _)); first | refine mx_end ?_ | (refine mx_mv _ rfl rfl (by conv => {lhs; whnf}) ?_) | (refine mx_as _ rfl rfl (by conv => {lhs; whnf}) ?_) | (refine mx_fa0 E rfl rfl rfl rfl ?_ ) | (refine g_load rfl ?_; refine mx_get E rfl rfl rfl rfl rfl (by rfl) rfl ?_ ) | (refine g_bin rfl ?_; ( (refine mx_cmpl .neq rfl rfl rfl rfl rfl (by exact cmp_ne_f (by omega) ) ?_) ) ) | (refine mx_nc rfl rfl rfl ?_) | (refine g_bi .len rfl ?_; refine mx_len E rfl rfl rfl rfl ?_) ) | refine cw_seq ?_ | refine cw_line rfl ?_ | refine cw_cond_f rfl ?_ | refine cw_skip ?_ | refine pw_then ?_ ))
  refine g_cf 69 rfl ?_; refine a_callv rfl rfl rfl rfl Try.func69 rfl rfl rfl (.int .i64 (oix (fidx (dlk k) rows 0))) (fun w' hw => dat69 mx key most uses la lc rows (by omega) hk ad m cap k hm w' (hw.holds 0 _ rfl) (own_in len_DR (hw.holds 1 _ rfl) (Nat.le_refl _)) (fun r hr => inD (hw.holds 2 _ rfl) hr) (hl.keep' hw hne)) rfl ?_
  rw [hf, oix_none]
  (repeat (first | ((refine (?_ : MX _ _ _ _ _ _ _ _ _ _ _)); first | refine mx_end ?_ | (refine g_bin rfl ?_; ( (refine mx_cmpl .geq rfl rfl rfl rfl rfl (by exact cmp_ge_f (by omega) ) ?_)) ) | (refine a_new rfl rfl rfl rfl rfl (fun _ => ?_)) ) | refine cw_seq ?_ | refine cw_line rfl ?_ | refine cw_cond_f rfl ?_ | refine cw_skip ?_ | refine pw_then ?_ ))
  rename_i b9
  refine cw_drawq mixed rfl (by kernel_rfl) rfl ?_
  subst hbb
  (repeat (first | ((refine (?_ : MX _ _ _ _ _ _ _ _ _ _ _)); first | refine mx_end ?_ | (refine mx_mv _ rfl rfl (by conv => {lhs; whnf}) ?_) | (refine mx_as _ rfl rfl (by conv => {lhs; whnf}) ?_) | ( refine mx_fa E rfl rfl rfl rfl ?_) | (refine g_load rfl ?_; refine mx_get E rfl rfl rfl rfl rfl (by rfl) rfl ?_ ) | (refine g_bin rfl ?_; ((refine mx_cmpl .eql rfl rfl rfl rfl rfl (by exact cmp_eq_t (by omega) ) ?_) ) ) | (refine mx_nc rfl rfl rfl ?_) | (refine g_bi .len rfl ?_; refine mx_len E rfl rfl rfl rfl ?_) ) | refine cw_seq ?_ | refine cw_line rfl ?_ | refine cw_block ?_ | refine cw_cond_t rfl ?_ | refine pw_then ?_ ))
  refine cw_some (H' := fun rest => [row b9 83 [.slice none 0 0, .int .i64 0, .int .i64 0], row mx 81 (hdD key most uses (some ⟨bb, 0, none⟩) rows.length lc), row bb 83 (rows.flatMap cDR ++ rest), allD rows]) (fun w h => by
    obtain ⟨rest, _, h2⟩ := ok_open 2 rfl h
    exact ⟨rest, h2⟩) (fun rest => ?_)
  refine cw_loop (ι := Nat × Nat) (fun p => [(11, .int .i64 p.1), (10, .int .i64 p.2), (9, .pointer (some ⟨b9, 0, none⟩)), (0, .pointer (some ⟨mx, 0, none⟩)), (1, .slice ad m cap), (2, .int .i64 c)]) (fun p => [row b9 83 [.slice none 0 0, .int .i64 0, .int .i64 0], row mx 81 (hdD key most uses (some ⟨bb, 0, none⟩) rows.length lc), row bb 83 (rows.flatMap cDR ++ rest), allD rows]) (fun p => p.1 ≤ rows.length ∧ p.2 < rows.length ∧ ∀ q ∈ rows.take p.1, (rows.getD p.2 default).u ≤ q.u) (fun p => rows.length - p.1) (0, 0) ⟨by show 0 ≤ rows.length; omega, hpos, by simp⟩ ⟨rfl, rfl, rfl, rfl, rfl, rfl, trivial⟩ (fun w h => h) ?_
  rintro ⟨i, f⟩ jk ⟨hi, hfl, hmin⟩
  dsimp only at hi hfl hmin ⊢
  obtain ⟨rf, hxf⟩ := getElem_some (xs := rows) (i := f) hfl
  have hgf : rows.getD f default = rf := by simp [List.getD, hxf]
  rw [hgf] at hmin
  have hrf : (rows.flatMap cDR ++ rest)[0 + f * 3 + 2]? = some (.int .i64 rf.u) := row_flat len_DR hxf (by omega) rfl
  by_cases h0 : (i : Int) < rows.length
  case pos =>
    obtain ⟨r, hx⟩ := getElem_some (xs := rows) (i := i) (by omega)
    have hr : (rows.flatMap cDR ++ rest)[0 + i * 3 + 2]? = some (.int .i64 r.u) := row_flat len_DR hx (by omega) rfl
    have hi1 : (i : Int) + 1 = ((i + 1 : Nat) : Int) := rfl
    (repeat (first | ((refine (?_ : MX _ _ _ _ _ _ _ _ _ _ _)); first | refine mx_end ?_ | (refine mx_mv _ rfl rfl (by conv => {lhs; whnf}) ?_) | ( refine mx_fa E rfl rfl rfl rfl ?_) | (refine g_load rfl ?_; refine mx_get E rfl rfl rfl rfl rfl (by rfl) rfl ?_ ) | (refine g_bin rfl ?_; ( (refine mx_cmpl .lss rfl rfl rfl rfl rfl (by exact cmp_lt_t (by omega) ) ?_) ) ) | (refine mx_nc rfl rfl rfl ?_) | (refine g_bi .len rfl ?_; refine mx_len E rfl rfl rfl rfl ?_) ) | refine cw_seq ?_ | refine cw_line rfl ?_ | refine cw_block ?_ | refine cw_cond_t rfl ?_ | refine cw_skip ?_ | refine pw_then ?_ ))
    refine cw_drawq mixed rfl (by kernel_rfl) rfl ?_
    by_cases hlt2 : (r.u : Int) < rf.u
    · (repeat (first | ((refine (?_ : MX _ _ _ _ _ _ _ _ _ _ _)); first | refine mx_end ?_ | (refine mx_mv _ rfl rfl (by conv => {lhs; whnf}) ?_) | (refine mx_as _ rfl rfl (by conv => {lhs; whnf}) ?_) | ( refine mx_fa E rfl rfl rfl rfl ?_) | (refine g_load rfl ?_; refine mx_get E rfl rfl rfl rfl rfl (by first | assumption | rfl) rfl ?_ ) | (refine g_bin rfl ?_; first | ( (refine mx_cmpl .lss rfl rfl rfl rfl rfl (by exact cmp_lt_t (by omega) ) ?_) ) | (refine mx_ar rfl rfl rfl rfl rfl rfl ((IntWalk.i64_in _ (by omega)).trans (by with_reducible assumption)) rfl ?_ ) ) | (refine g_ix rfl ?_; refine mx_ixsn E rfl rfl rfl rfl rfl rfl (by omega) rfl ?_ ) | (refine mx_nc rfl rfl rfl ?_) ) | refine cw_line rfl ?_ | refine cw_cond_t rfl ?_ | refine pw_then ?_ | refine pw_block ?_ ))
      refine pw_round (i + 1, i) ⟨by show i + 1 ≤ rows.length; omega, by show i < rows.length; omega, fun q hq => ?_⟩ (by show rows.length - (i + 1) < rows.length - i; omega) ⟨rfl, rfl, rfl, rfl, rfl, rfl, trivial⟩ (fun w h => h)
      have hgi : rows.getD i default = r := by simp [List.getD, hx]
      show (rows.getD i default).u ≤ q.u
      rw [hgi]
      have hq : q ∈ rows.take (i + 1) := hq
      rw [List.take_add_one, hx] at hq
      rcases List.mem_append.1 hq with hq | hq
      · have := hmin q hq; omega
      · obtain rfl : q = r := by simpa using hq
        exact Nat.le_refl _
    · (repeat (first | ((refine (?_ : MX _ _ _ _ _ _ _ _ _ _ _)); first | refine mx_end ?_ | (refine mx_mv _ rfl rfl (by conv => {lhs; whnf}) ?_) | (refine mx_as _ rfl rfl (by conv => {lhs; whnf}) ?_) | ( refine mx_fa E rfl rfl rfl rfl ?_) | (refine g_load rfl ?_; refine mx_get E rfl rfl rfl rfl rfl (by first | assumption | rfl) rfl ?_ ) | (refine g_bin rfl ?_; first | ( (refine mx_cmpl .lss rfl rfl rfl rfl rfl (by first | exact cmp_lt_t (by omega) | exact cmp_lt_f (by omega) ) ?_) ) | (refine mx_ar rfl rfl rfl rfl rfl rfl ((IntWalk.i64_in _ (by omega)).trans (by with_reducible assumption)) rfl ?_ ) ) | (refine g_ix rfl ?_; refine mx_ixsn E rfl rfl rfl rfl rfl rfl (by omega) rfl ?_ ) | (refine mx_nc rfl rfl rfl ?_) ) | refine cw_line rfl ?_ | refine cw_cond_f rfl ?_ | refine cw_skip ?_ | refine pw_then ?_ | refine pw_block ?_ ))
      refine pw_round (i + 1, f) ⟨by show i + 1 ≤ rows.length; omega, hfl, fun q hq => ?_⟩ (by show rows.length - (i + 1) < rows.length - i; omega) ⟨rfl, rfl, rfl, rfl, rfl, rfl, trivial⟩ (fun w h => h)
      show (rows.getD f default).u ≤ q.u
      rw [hgf]
      have hq : q ∈ rows.take (i + 1) := hq
      rw [List.take_add_one, hx] at hq
      rcases List.mem_append.1 hq with hq | hq
      · exact hmin q hq
      · obtain rfl : q = r := by simpa using hq
        omega
  case neg =>
    rw [List.take_of_length_le (by omega)] at hmin
    have hvr : Vr (rows.flatMap cDR ++ rest) (0 + f * 3) 3 (cDR rf) := vr_flat len_DR hxf
    have hlr : InL w (some ⟨bb, 0, none⟩) 3 cDR rows := own_in len_DR (h0'.holds 1 _ rfl) (Nat.le_refl _)
    have hel : (rows.eraseIdx f).length + 1 = rows.length := by rw [List.length_eraseIdx, if_pos hfl]; omega
    (repeat (first | ((refine (?_ : MX _ _ _ _ _ _ _ _ _ _ _)); first | refine mx_end ?_ | (refine mx_mv _ rfl rfl (by conv => {lhs; whnf}) ?_) | ( refine mx_fa E rfl rfl rfl rfl ?_) | (refine g_load rfl ?_; first | refine mx_get E rfl rfl rfl rfl rfl (by rfl) rfl ?_ | refine mx_getn E rfl rfl rfl rfl rfl (by exact hvr ) rfl ?_ ) | (refine g_bin rfl ?_; ( (refine mx_cmpl .lss rfl rfl rfl rfl rfl (by exact cmp_lt_f (by omega) ) ?_) ) ) | (refine g_ix rfl ?_; refine mx_ixsn E rfl rfl rfl rfl rfl rfl (by omega) rfl ?_ ) | (refine mx_nc rfl rfl rfl ?_) | (refine g_bi .len rfl ?_; refine mx_len E rfl rfl rfl rfl ?_) | (refine g_store rfl ?_; refine s_l E rfl rfl rfl rfl rfl rfl rfl (by exact Sp.all rfl ) rfl ?_ ) ) | refine cw_seq ?_ | refine cw_line rfl ?_ | refine cw_cond_f rfl ?_ | refine cw_exit ?_ | refine pw_then ?_ | refine pw_then_x ?_ | refine pw_block_e ?_ ))
    refine g_cf 70 rfl ?_
    refine a_callL rfl rfl rfl rfl Try.func70 rfl rfl rfl [] _ rfl (fun a : Option Addr × Nat => .slice a.1 (rows.eraseIdx f).length a.2) (fun a => [ownd a.1 a.2 83 3 (rows.eraseIdx f).length ((rows.eraseIdx f).flatMap cDR)]) (fun w' hw _ => dwithout70 mx key most uses _ lc rows (by omega) f w' (hw.holds 1 _ rfl) (row_inl len_DR (hw.holds 2 _ rfl))) (fun _ => rfl) (fun _ _ _ => trivial) (fun a => ?_)
    obtain ⟨a1, c1⟩ := a
    rw [List.singleton_append]
    (repeat (first | ((refine (?_ : MX _ _ _ _ _ _ _ _ _ _ _)); first | refine mx_end ?_ | ( refine mx_fa E rfl rfl rfl rfl ?_) | (refine mx_nc rfl rfl rfl ?_) | (refine g_store rfl ?_; refine s_1 E rfl rfl rfl rfl rfl rfl rfl rfl (by exact spS (spS (spS sp0)) ) rfl ?_) ) | refine cw_seq ?_ | refine pw_then ?_ ))
    refine cw_weak (H' := [row b9 83 (cDR rf), row mx 81 (hdD key most uses a1 (rows.eraseIdx f).length c1), ownd a1 c1 83 3 (rows.eraseIdx f).length ((rows.eraseIdx f).flatMap cDR), allD (rows.eraseIdx f), RDR rf]) (fun w h => (allD_one hxf (h.pick (H' := [allD rows, row b9 83 (cDR rf), row mx 81 (hdD key most uses a1 (rows.eraseIdx f).length c1), ownd a1 c1 83 3 (rows.eraseIdx f).length ((rows.eraseIdx f).flatMap cDR)]) [4, 1, 2, 0] (by simp) rfl)).pick [2, 3, 4, 1, 0] (by simp) rfl) ?_
    have hL : Least rows f rf := ⟨hxf, hmin⟩
    generalize hrs : rows.eraseIdx f = rs at hel ⊢
    refine cw_bar [0, 1, 2, 3, 4, 5, 7, 6, 8, 9, 10, 11, 12] 13 [] (fun i => or (Nat.beq i 6) (Nat.ble 8 i)) [row mx 81 (hdD key most uses a1 (rs).length c1)] (fun _ => True) mixed (by kernel_rfl) (fun w h => h.only 1 rfl) ?_
    (repeat (((refine (?_ : MX _ _ _ _ _ _ _ _ _ _ _)); first | (refine mx_mv _ rfl rfl (by conv => {lhs; whnf}) ?_) | ( refine mx_fa E rfl rfl rfl rfl ?_) | (refine g_load rfl ?_; refine mx_get E rfl rfl rfl rfl rfl (by rfl) rfl ?_ ) | (refine mx_nc rfl rfl rfl ?_) ) ))
    refine g_cf 50 rfl ?_; refine a_calln rfl rfl rfl rfl Try.func50 rfl rfl rfl (fun q : Option Addr × Nat => .slice q.1 m q.2) (fun q => ownd q.1 q.2 5 1 m (k.flatMap cU)) (fun w' hw => copyB ad m cap k hm (by omega) w' (hl.keep' hw hne)) rfl (fun q => ?_); obtain ⟨q1, q2⟩ := q
    (repeat (((refine (?_ : MX _ _ _ _ _ _ _ _ _ _ _)); (refine g_build rfl ?_; refine mx_build rfl rfl rfl rfl (b83 _ _ _ _) rfl ?_) ) ))
    refine g_bs rfl ?_; refine a_bslice1 E rfl rfl rfl rfl (us := [.slice q1 m q2, .int .i64 c, .int .i64 0]) rfl rfl rfl rfl rfl rfl (fun b6 => ?_); refine g_bi .append rfl ?_; refine a_app E rfl rfl rfl rfl rfl rfl rfl rfl [.slice q1 m q2, .int .i64 c, .int .i64 0] rfl (fun w hw => fun _ => ⟨b6, 0, rfl, fun j u hj => by rw [add_at, Nat.zero_add]; exact row_cell (hw.holds 0 _ rfl) hj⟩) rfl (by omega) rfl (fun _ _ w h => h.only 3 rfl) (fun a2 c2 => ?_)
    (repeat (((refine (?_ : MX _ _ _ _ _ _ _ _ _ _ _)); first | ( refine mx_fa E rfl rfl rfl rfl ?_) | (refine mx_nc rfl rfl rfl ?_) ) ))
    refine mx_bar (fun _ _ => trivial) ?_
    have hr1 : ((rs.length + 1 : Nat) : Int) - 1 = (rs.length : Int) := by omega
    (repeat (first | ((refine (?_ : MX _ _ _ _ _ _ _ _ _ _ _)); first | refine mx_end ?_ | (refine mx_mv _ rfl rfl (by conv => {lhs; whnf}) ?_) | ( refine mx_fa E rfl rfl rfl rfl ?_) | (refine g_load rfl ?_; refine mx_get E rfl rfl rfl rfl rfl (by rfl) rfl ?_ ) | (refine g_bin rfl ?_; (refine mx_ar rfl rfl rfl rfl rfl rfl ((IntWalk.i64_in _ (by omega)).trans (by with_reducible assumption)) rfl ?_ ) ) | (refine mx_nc rfl rfl rfl ?_) | (refine g_bi .len rfl ?_; refine mx_len E rfl rfl rfl rfl ?_) | (refine g_store rfl ?_; refine s_1 E rfl rfl rfl rfl rfl rfl rfl rfl (by exact spS (spS (spS sp0)) ) rfl ?_) ) | refine cw_seq ?_ | refine cw_line rfl ?_ | refine pw_then ?_ ))
    refine mx_weak (H' := OD mx key most uses a2 c2 (rs ++ [⟨q1, q2, k, c, 0⟩]) ++ [row b9 83 (cDR rf), RDR rf]) (fun w h => put_pack hm (h.pick [3, 4, 1, 5, 2, 6] (by simp) rfl)) (fun _ _ => trivial) ?_; refine g_cf 71 rfl ?_; refine a_calls rfl rfl rfl rfl Try.func71 rfl rfl rfl (OD mx key most uses a2 c2 (rs ++ [⟨q1, q2, k, c, 0⟩])) ([row b9 83 (cDR rf), RDR rf]) (fun w h => h) (fun a : Unit => .tuple #[]) (fun a => OD mx key most (uses + 1) a2 c2 (rs ++ [⟨q1, q2, k, c, uses + 1⟩])) (fun w' hw h => (put_new (rs) q1 q2 k c (uses + 1)) ▸ (duse71 mx key most uses a2 c2 _ (by simp; omega) (by omega) (rs).length ⟨q1, q2, k, c, 0⟩ (by simp) w' h).mono fun e w' h => ⟨(), h⟩) (fun _ => rfl) (fun _ _ _ => trivial) (fun a => ?_); refine mx_weak (H' := row b9 83 (cDR rf) :: RDR rf :: OD mx key most (uses + 1) a2 c2 (rs ++ [⟨q1, q2, k, c, uses + 1⟩])) (fun w h => h.perm List.perm_append_comm) (fun _ _ => trivial) ?_
    (repeat (first | ((refine (?_ : MX _ _ _ _ _ _ _ _ _ _ _)); refine mx_end ?_ ) | refine cw_seq ?_ | refine pw_then ?_ ))
    refine cw_drawq mixed rfl (by kernel_rfl) rfl ?_
    (repeat (first | ((refine (?_ : MX _ _ _ _ _ _ _ _ _ _ _)); first | refine mx_end ?_ | (refine mx_as _ rfl rfl (by conv => {lhs; whnf}) ?_) | (first | refine mx_fa0 E rfl rfl rfl rfl ?_ | refine mx_fa E rfl rfl rfl rfl ?_) | (refine g_load rfl ?_; refine mx_get E rfl rfl rfl rfl rfl (by rfl) rfl ?_ ) ) | refine cw_ret ?_ | refine pw_then ?_ ))
    exact pw_rets rfl [_, _, _] ⟨rfl, rfl, rfl, trivial⟩ rfl fun w' hw => ⟨(((a2, c2), q1, q2), ⟨(f, rf), hL⟩), rfl, by
      show Ok _ _ (RDR rf :: OD mx key most (uses + 1) a2 c2 (rows.eraseIdx f ++ [⟨q1, q2, k, c, uses + 1⟩])) _
      rw [hrs]
      exact hw.pick [1, 2, 3, 4] (by simp) rfl⟩
end
end Go.Proofs.Ytminmbkhlnaabaa
