/- An act with both maps of which the key goes that was used longest ago. -/
import Derived.Test.YtminmbkhlnaabaaDq
import Derived.Test.YtminmbkhlnaabaaOb2
set_option maxRecDepth 100000
set_option maxHeartbeats 8000000
set_option linter.unusedSimpArgs false
set_option linter.unusedVariables false
namespace Go.Proofs.Ytminmbkhlnaabaa
open Go Go.Sx Go.RowKit
structure AD where
  k : Int
  c : Int
  ad : Option Addr
  cap : Nat
  data : List Int
  deriving Inhabited
@[reducible] def cAD (a : AD) : List Value := [.int .i64 a.k, .int .i64 a.c, .slice a.ad a.data.length a.cap]
theorem len_AD (a : AD) : (cAD a).length = 3 := rfl
instance : ZeroT Try.prog 42 (cAD ⟨0, 0, none, 0, []⟩) := ⟨by kernel_rfl⟩
structure LS where
  ra : Option Addr
  rc : Nat
  rows : List RW
  uses : Nat
  la : Option Addr
  lc : Nat
  ds : List DR
structure LI (most : Int) (s : LS) (n : Nat) : Prop where
  rl : ∃ L, Rl L s.rows s.ds s.uses
  un : s.uses ≤ n
  rlen : (s.rows.length : Int) ≤ most
  good : Good 60 s.rows
def OX (bx mx : Nat) (key most : Int) (s : LS) : List Res := OL bx key most s.ra s.rc s.rows ++ OD mx key most s.uses s.la s.lc s.ds
theorem LI.ds60 {most : Int} {s : LS} {n : Nat} (h : LI most s n) : ∀ d ∈ s.ds, d.k.length ≤ 60 ∧ ∀ x ∈ d.k, 0 ≤ x ∧ x < 256 := fun d hd => by
  obtain ⟨L, hl⟩ := h.rl
  have : rwOf d ∈ s.rows := by rw [hl.eq]; exact List.mem_map.2 ⟨d, hl.perm.mem_iff.2 hd, rfl⟩
  exact ⟨(h.good _ this).2, (h.good _ this).1⟩
theorem own_ne {S : Nat → Prop} {w0 w : World} {H L : List Res} {ad : Option Addr} {cap e z len : Nat} {xs : List Value} (hw : Ok S w0 H w) (i j : Nat) (hi : H[i]? = some (ownd ad cap e z len xs)) (hj : H[j]? = some (star L)) (hij : i ≠ j) {k : List Int} : k ≠ [] → ∀ b off, ad = some ⟨b, off, none⟩ → ¬ domL L b := fun _ b off e hd => by
  subst e
  exact hw.sep i j _ _ hi hj hij b rfl hd
theorem old_ne {α : Type} {S : Nat → Prop} {w0 w : World} {H L : List Res} {z : Nat} {c : α → List Value} {xs : List α} {ad : Option Addr} (hw : Ok S w0 H w) (j : Nat) (hj : H[j]? = some (star L)) (hz : ∀ x, (c x).length = z) (hp : 0 < z) (hl : InL w0 ad z c xs) (hne : xs ≠ [] → ∀ b off, ad = some ⟨b, off, none⟩ → ¬ S b) : xs ≠ [] → ∀ b off, ad = some ⟨b, off, none⟩ → ¬ domL L b := fun hx b off e hd => by
  cases xs with
  | nil => exact hx rfl
  | cons x xs =>
    obtain ⟨b', off', e', hc⟩ := hl hx
    rw [e] at e'
    obtain ⟨rfl, rfl⟩ : b = b' ∧ off = off' := by simpa using e'
    have hx' := hz x
    cases hcx : c x with
    | nil => rw [hcx] at hx'; simp at hx'; omega
    | cons v vs =>
      have := hc 0 x rfl 0 v (by rw [hcx]; rfl)
      exact hne hx b off e ((hw.own j _ hj b hd).2 (World.block_lt_of_cell? w0 _ this))
theorem usesF_le (k : List Int) (u : Nat) (rows : List DR) : usesF k u rows ≤ u + 1 := by unfold usesF; split <;> omega
theorem un_two {S : Nat → Prop} {w0 w : World} {A B : List Res} (h : Ok S w0 [star A, star B] w) : Ok S w0 (A ++ B) w := by
  have h1 : Ok S w0 (A ++ [star B]) w := Ok.unstar h
  have h2 : Ok S w0 (star B :: A) w := h1.perm (List.perm_append_comm (l₁ := A) (l₂ := [star B]))
  exact (Ok.unstar h2).perm List.perm_append_comm
theorem nil_in {α : Type} {w : World} {ad : Option Addr} {z : Nat} {c : α → List Value} : InL w ad z c [] := fun h => absurd rfl h
theorem put_fin {S : Nat → Prop} {w0 w : World} {e : Ending} {mx : Nat} {key most : Int} {L : List DR} {s : LS} (hL : Rl L s.rows s.ds s.uses) {k : List Int} {c : Int} (he2 : dputE key k s.ds = 0) (hfull : (s.ds.length : Int) = most) (hpos : 0 < s.ds.length) {kG : List Int} {cG : Int} (hG : putG most s.rows = ⟨kG, cG⟩)
    (a : ((Option Addr × Nat) × Option Addr × Nat) × {p : Nat × DR // Least s.ds p.1 p.2}) (h1 : e = .returned (.tuple #[.slice a.2.1.2.ka a.2.1.2.k.length a.2.1.2.kc, .int .i64 a.2.1.2.c, .int .i64 0])) (h2 : Ok S w0 (RDR a.2.1.2 :: OD mx key most (s.uses + 1) a.1.1.1 a.1.1.2 (s.ds.eraseIdx a.2.1.1 ++ [⟨a.1.2.1, a.1.2.2, k, c, s.uses + 1⟩])) w) :
    ∃ q : (Option Addr × Nat) × (Option Addr × Nat) × {ds' : List DR // ∃ L', Rl L' (putL most s.rows k c) ds' (s.uses + 1)}, e = .returned (.tuple #[.slice q.1.1 kG.length q.1.2, .int .i64 cG, .int .i64 0]) ∧ Ok S w0 ([ownd q.1.1 q.1.2 5 1 kG.length (kG.flatMap cU)] ++ OD mx key most (s.uses + 1) q.2.1.1 q.2.1.2 q.2.2.1) w := by
  obtain ⟨⟨a1, a2⟩, ⟨⟨f, rf⟩, hle⟩⟩ := a
  obtain ⟨p1, p2⟩ := hL.putf c he2 hfull hpos hle a2.1 a2.2
  rw [hG] at p2
  obtain ⟨rfl, rfl⟩ : kG = rf.k ∧ cG = rf.c := by simpa [rwOf] using p2
  exact ⟨((rf.ka, rf.kc), a1, ⟨_, p1⟩), h1, h2⟩
theorem does23 (bx mx : Nat) (key most : Int) (hmost : 1 ≤ most ∧ most ≤ 64) (s : LS) (n : Nat) (hn : n ≤ 300) (hI : LI most s n) (a : AD) (ha : a.data.length ≤ 60) (hd4 : ∀ x ∈ a.data, 0 ≤ x ∧ x < 256) (w : World) (h0 : Ok (domL (OX bx mx key most s)) w (OX bx mx key most s) w) (hl : InL w a.ad 1 cU a.data) (hne : a.data ≠ [] → ∀ b off, a.ad = some ⟨b, off, none⟩ → ¬ domL (OX bx mx key most s) b) :
    Calls Try.prog 23 #[.pointer (some ⟨bx, 0, none⟩), .pointer (some ⟨mx, 0, none⟩), .agg (cAD a).toArray] w fun e w' => ∃ s' : {s' : LS // LI most s' (n + 1)}, e = .returned (.bool true) ∧ Ok (domL (OX bx mx key most s)) w (OX bx mx key most s'.1) w' := by
  obtain ⟨L, hL⟩ := hI.rl
  have hlen := hL.len
  have hrl := hI.rlen
  have hun := hI.un
  have hpk := hL.peek a.data
  have hdk : ∀ d ∈ s.ds, d.k.length ≤ 100000 := fun d hd => by have := (hI.ds60 d hd).1; omega
  have hk0 := Int.emod_nonneg a.k (show (6 : Int) ≠ 0 by decide)
  have hk1 := Int.emod_lt_of_pos a.k (show (0 : Int) < 6 by decide)
  obtain ⟨v, hv⟩ : ∃ v, a.k % 6 = v := ⟨_, rfl⟩
  rw [hv] at hk0 hk1
  refine enter3 (S := domL (OX bx mx key most s)) (H := OX bx mx key most s) 155 Try.func23 rfl rfl rfl h0 ?_
  refine cw_weak (H' := [star (OL bx key most s.ra s.rc s.rows), star (OD mx key most s.uses s.la s.lc s.ds)]) (fun w h => by
    have h1 := Ok.star (L := OL bx key most s.ra s.rc s.rows) (H := OD mx key most s.uses s.la s.lc s.ds) h
    have h2 := h1.perm (H' := OD mx key most s.uses s.la s.lc s.ds ++ [star (OL bx key most s.ra s.rc s.rows)]) (List.perm_append_comm (l₁ := [star (OL bx key most s.ra s.rc s.rows)]))
    exact h2.star.perm (List.Perm.swap _ _ _)) ?_
  (repeat (first | ((refine (?_ : MX _ _ _ _ _ _ _ _ _ _ _)); first | refine mx_end ?_ | (refine mx_as _ rfl rfl (by conv => {lhs; whnf}) ?_) | ( refine mx_fa E rfl rfl rfl rfl ?_) | (refine g_load rfl ?_; refine mx_get E rfl rfl rfl rfl rfl (by rfl) rfl ?_ ) | (refine g_box rfl ?_; refine a_boxl rfl rfl rfl rfl rfl rfl (fun _ => ?_) ) ) | refine cw_seq ?_ | refine cw_line rfl ?_ | refine pw_then ?_ ))
  refine g_cf 30 rfl ?_
  refine a_calln rfl rfl rfl rfl Try.func30 rfl rfl rfl (fun q : Option Addr × Nat => .slice q.1 (a.data.length + 5) q.2) (fun q => ownd q.1 q.2 5 1 (a.data.length + 5) ((a.data ++ mksB 5).flatMap cU)) (fun w' hw => lentB a.ad a.data.length a.cap a.data rfl (by omega) w' (hl.keep' hw hne)) rfl (fun q => ?_)
  obtain ⟨a1, c1⟩ := q
  rename_i b5
  (repeat (first | ((refine (?_ : MX _ _ _ _ _ _ _ _ _ _ _)); first | refine mx_end ?_ | (refine mx_as _ rfl rfl (by conv => {lhs; whnf}) ?_) ) | refine pw_then ?_))
  refine cw_know (p := a.data.length + 5 ≤ c1) (fun w hw => (own_at (hw.holds 0 _ rfl)).2.2) (fun hc1 => ?_)
  (repeat (first | ((refine (?_ : MX _ _ _ _ _ _ _ _ _ _ _)); first | (refine mx_mv _ rfl rfl (by conv => {lhs; whnf}) ?_) | ( refine mx_fa E rfl rfl rfl rfl ?_) | (refine g_load rfl ?_; refine mx_get E rfl rfl rfl rfl rfl (by rfl) rfl ?_ ) | (refine g_bi .len rfl ?_; refine mx_len E rfl rfl rfl rfl ?_) ) | refine cw_seq ?_ | refine cw_line rfl ?_ ))
  refine mx_slice_to E rfl rfl rfl rfl rfl rfl (by omega) (by omega) rfl ?_
  rw [Int.toNat_natCast]
  (repeat (first | ((refine (?_ : MX _ _ _ _ _ _ _ _ _ _ _)); first | refine mx_end ?_ | (refine mx_as _ rfl rfl (by conv => {lhs; whnf}) ?_) ) | refine pw_then ?_))
  refine cw_seq ?_; refine cw_line rfl ?_; (repeat (first | ((refine (?_ : MX _ _ _ _ _ _ _ _ _ _ _)); first | refine mx_end ?_ | (refine mx_as _ rfl rfl (by conv => {lhs; whnf}) ?_) ) | refine pw_then ?_))
  refine cw_mid (ι := {s' : LS // LI most s' (n + 1)}) (fun s' => [(9, .bool true), (7, .slice a1 (a.data.length + 5) c1), (5, .pointer (some ⟨b5, 0, none⟩)), (0, .pointer (some ⟨bx, 0, none⟩)), (1, .pointer (some ⟨mx, 0, none⟩))]) (fun s' => [ownd a1 c1 5 1 (a.data.length + 5) ((a.data ++ mksB 5).flatMap cU), row b5 42 (cAD a), star (OL bx key most s'.1.ra s'.1.rc s'.1.rows), star (OD mx key most s'.1.uses s'.1.la s'.1.lc s'.1.ds)]) (fun _ => True) ?_ ?_
  · by_cases hv3 : v = 3
    · (repeat (first | ((refine (?_ : MX _ _ _ _ _ _ _ _ _ _ _)); first | refine mx_end ?_ | (refine mx_mv _ rfl rfl (by conv => {lhs; whnf}) ?_) | (refine mx_as _ rfl rfl (by conv => {lhs; whnf}) ?_) | (refine mx_fa0 E rfl rfl rfl rfl ?_ ) | (refine g_load rfl ?_; refine mx_get E rfl rfl rfl rfl rfl (by rfl) rfl ?_ ) | (refine g_bin rfl ?_; ((refine mx_cmpl .eql rfl rfl rfl rfl rfl (by first | exact cmp_eq_t (by omega) | exact cmp_eq_f (by omega) ) ?_) ) ) | (refine g_call rfl ?_; (refine g_cf 28 rfl ?_; refine mx_call rfl rfl rfl Try.func28 rfl rfl rfl _ (fun w => pickE _ _ _ (by omega) (by omega) (by assumption) w) rfl ?_))) | refine cw_seq ?_ | refine cw_line rfl ?_ | refine cw_block ?_ | refine cw_cond_f rfl ?_ | refine cw_cond_t rfl ?_ | refine pw_then ?_ ))
      refine g_cf 14 rfl ?_; refine a_co0 rfl rfl rfl rfl Try.func14 rfl rfl rfl (OL bx key most s.ra s.rc s.rows) (fun q : Option Addr × Nat => .tuple #[.int .i64 (peekD a.data s.ds).1, .bool (peekD a.data s.ds).2]) (fun q => OL bx key most q.1 q.2 (findR a.data s.rows)) (fun w' hw h => by have h14 := find14 bx key most s.ra s.rc s.rows (a1, c1).1 a.data.length (a1, c1).2 a.data (by omega) hI.good.R hd4 rfl w' h (by have := (own_in len_U (hw.holds 0 _ rfl) (by simp [mksB_len])).take a.data.length; rwa [List.take_left' rfl] at this) (own_ne hw 0 2 rfl rfl (by decide)); rw [hpk] at h14; exact h14) (fun _ => rfl) (fun _ _ _ => trivial) (fun q => ?_)
      (repeat (first | ((refine (?_ : MX _ _ _ _ _ _ _ _ _ _ _)); first | refine mx_end ?_ | (refine mx_mv _ rfl rfl (by conv => {lhs; whnf}) ?_) | (refine mx_as _ rfl rfl (by conv => {lhs; whnf}) ?_) | ( refine mx_fa E rfl rfl rfl rfl ?_) | (refine g_load rfl ?_; refine mx_get E rfl rfl rfl rfl rfl (by rfl) rfl ?_ ) | (refine mx_ex _ rfl rfl rfl (by conv => {lhs; whnf}) ?_) ) | refine cw_seq ?_ | refine cw_line rfl ?_ | refine pw_then ?_ ))
      refine g_cf 56 rfl ?_; refine a_cou rfl rfl rfl rfl Try.func56 rfl rfl rfl (OD mx key most s.uses s.la s.lc s.ds) (.tuple #[.int .i64 (peekD a.data s.ds).1, .bool (peekD a.data s.ds).2]) (OD mx key most (usesF a.data s.uses s.ds) s.la s.lc (useF a.data s.uses s.ds)) (fun w' hw h => (dfind56 mx key most s.uses s.la s.lc s.ds (by omega) (by omega) hdk a.ad a.data.length a.cap a.data rfl w' h (hl.keep' hw hne) (old_ne hw 3 rfl len_U (by omega) hl hne))) rfl (fun _ _ => trivial) ?_
      (repeat (first | ((refine (?_ : MX _ _ _ _ _ _ _ _ _ _ _)); first | refine mx_end ?_ | (refine mx_mv _ rfl rfl (by conv => {lhs; whnf}) ?_) | (refine mx_as _ rfl rfl (by conv => {lhs; whnf}) ?_) | (refine g_bin rfl ?_; first | ((refine mx_cmpl .eql rfl rfl rfl rfl rfl (by exact cmp_eq_t (by omega) ) ?_) ) | refine mx_bsame E rfl rfl rfl rfl rfl rfl rfl ?_ ) | (refine mx_ex _ rfl rfl rfl (by conv => {lhs; whnf}) ?_) | (refine g_pick rfl ?_; refine mx_and rfl rfl rfl rfl rfl rfl ?_ ) ) | refine cw_line rfl ?_ | refine pw_then ?_ | refine pw_block ?_ ))
      exact pw_mid ⟨⟨q.1, q.2, findR a.data s.rows, usesF a.data s.uses s.ds, s.la, s.lc, useF a.data s.uses s.ds⟩, hL.use a.data, by have := usesF_le a.data s.uses s.ds; show usesF a.data s.uses s.ds ≤ n + 1; omega, by show ((findR a.data s.rows).length : Int) ≤ most; rw [find_len]; exact hrl, hI.good.find _⟩ trivial ⟨rfl, rfl, rfl, rfl, rfl, trivial⟩ (fun w h => h)
    by_cases hv4 : v = 4
    · (repeat (first | ((refine (?_ : MX _ _ _ _ _ _ _ _ _ _ _)); first | refine mx_end ?_ | (refine mx_mv _ rfl rfl (by conv => {lhs; whnf}) ?_) | (refine mx_as _ rfl rfl (by conv => {lhs; whnf}) ?_) | (refine mx_fa0 E rfl rfl rfl rfl ?_ ) | (refine g_load rfl ?_; refine mx_get E rfl rfl rfl rfl rfl (by rfl) rfl ?_ ) | (refine g_bin rfl ?_; ((refine mx_cmpl .eql rfl rfl rfl rfl rfl (by first | exact cmp_eq_t (by omega) | exact cmp_eq_f (by omega) ) ?_) ) ) | (refine g_call rfl ?_; (refine g_cf 28 rfl ?_; refine mx_call rfl rfl rfl Try.func28 rfl rfl rfl _ (fun w => pickE _ _ _ (by omega) (by omega) (by assumption) w) rfl ?_))) | refine cw_seq ?_ | refine cw_line rfl ?_ | refine cw_block ?_ | refine cw_cond_f rfl ?_ | refine cw_cond_t rfl ?_ | refine pw_then ?_ ))
      refine g_cf 16 rfl ?_; refine a_callv rfl rfl rfl rfl Try.func16 rfl rfl rfl (.tuple #[.int .i64 (peekD a.data s.ds).1, .bool (peekD a.data s.ds).2]) (fun w' hw => by have h16 := peek16 bx key most s.ra s.rc s.rows (a1, c1).1 a.data.length (a1, c1).2 a.data (by omega) hI.good.R hd4 rfl w' (star_holds (hw.holds 2 _ rfl) (by simp [OL])) (src_inl len_R (by omega) (star_holds (hw.holds 2 _ rfl) (r := rdR s.ra s.rows.length s.rc (s.rows.flatMap cR)) (by simp [OL])).1) (by have := (own_in len_U (hw.holds 0 _ rfl) (by simp [mksB_len])).take a.data.length; rwa [List.take_left' rfl] at this); rw [hpk] at h16; exact h16) rfl ?_
      (repeat (first | ((refine (?_ : MX _ _ _ _ _ _ _ _ _ _ _)); first | refine mx_end ?_ | (refine mx_mv _ rfl rfl (by conv => {lhs; whnf}) ?_) | (refine mx_as _ rfl rfl (by conv => {lhs; whnf}) ?_) | ( refine mx_fa E rfl rfl rfl rfl ?_) | (refine g_load rfl ?_; refine mx_get E rfl rfl rfl rfl rfl (by rfl) rfl ?_ ) | (refine mx_ex _ rfl rfl rfl (by conv => {lhs; whnf}) ?_) ) | refine cw_seq ?_ | refine cw_line rfl ?_ | refine pw_then ?_ ))
      refine g_cf 57 rfl ?_; refine a_callv rfl rfl rfl rfl Try.func57 rfl rfl rfl (.tuple #[.int .i64 (peekD a.data s.ds).1, .bool (peekD a.data s.ds).2]) (fun w' hw => dpeek57 mx key most s.uses s.la s.lc s.ds (by omega) hdk a.ad a.data.length a.cap a.data rfl w' (star_holds (hw.holds 3 _ rfl) (by simp [OD])) (own_in len_DR (star_holds (hw.holds 3 _ rfl) (r := ownd s.la s.lc 83 3 s.ds.length (s.ds.flatMap cDR)) (by simp [OD])) (Nat.le_refl _)) (fun r hr => inD (star_holds (hw.holds 3 _ rfl) (r := allD s.ds) (by simp [OD])) hr) (hl.keep' hw hne)) rfl ?_
      (repeat (first | ((refine (?_ : MX _ _ _ _ _ _ _ _ _ _ _)); first | refine mx_end ?_ | (refine mx_mv _ rfl rfl (by conv => {lhs; whnf}) ?_) | (refine mx_as _ rfl rfl (by conv => {lhs; whnf}) ?_) | (refine g_bin rfl ?_; first | ((refine mx_cmpl .eql rfl rfl rfl rfl rfl (by exact cmp_eq_t (by omega) ) ?_) ) | refine mx_bsame E rfl rfl rfl rfl rfl rfl rfl ?_ ) | (refine mx_ex _ rfl rfl rfl (by conv => {lhs; whnf}) ?_) | (refine g_pick rfl ?_; refine mx_and rfl rfl rfl rfl rfl rfl ?_ ) ) | refine cw_line rfl ?_ | refine pw_then ?_ | refine pw_block ?_ ))
      exact pw_mid ⟨s, hI.rl, by omega, hrl, hI.good⟩ trivial ⟨rfl, rfl, rfl, rfl, rfl, trivial⟩ (fun w h => h)
    by_cases hv5 : v = 5
    · (repeat (first | ((refine (?_ : MX _ _ _ _ _ _ _ _ _ _ _)); first | refine mx_end ?_ | (refine mx_mv _ rfl rfl (by conv => {lhs; whnf}) ?_) | (refine mx_as _ rfl rfl (by conv => {lhs; whnf}) ?_) | (refine mx_fa0 E rfl rfl rfl rfl ?_ ) | (refine g_load rfl ?_; refine mx_get E rfl rfl rfl rfl rfl (by rfl) rfl ?_ ) | (refine g_bin rfl ?_; ((refine mx_cmpl .eql rfl rfl rfl rfl rfl (by exact cmp_eq_f (by omega) ) ?_) ) ) | (refine g_call rfl ?_; (refine g_cf 28 rfl ?_; refine mx_call rfl rfl rfl Try.func28 rfl rfl rfl _ (fun w => pickE _ _ _ (by omega) (by omega) (by assumption) w) rfl ?_))) | refine cw_seq ?_ | refine cw_line rfl ?_ | refine cw_block ?_ | refine cw_cond_f rfl ?_ | refine pw_then ?_ ))
      refine g_cf 21 rfl ?_; refine a_co0 rfl rfl rfl rfl Try.func21 rfl rfl rfl (OL bx key most s.ra s.rc s.rows) (fun q : Option Addr × Nat => .tuple #[.int .i64 (peekD a.data s.ds).1, .bool (peekD a.data s.ds).2]) (fun q => OL bx key most q.1 q.2 (delR a.data s.rows)) (fun w' hw h => by have h14 := del21 bx key most s.ra s.rc s.rows (a1, c1).1 a.data.length (a1, c1).2 a.data (by omega) hI.good.R hd4 rfl w' h (by have := (own_in len_U (hw.holds 0 _ rfl) (by simp [mksB_len])).take a.data.length; rwa [List.take_left' rfl] at this) (own_ne hw 0 2 rfl rfl (by decide)); rw [hpk] at h14; exact h14) (fun _ => rfl) (fun _ _ _ => trivial) (fun q => ?_)
      (repeat (first | ((refine (?_ : MX _ _ _ _ _ _ _ _ _ _ _)); first | refine mx_end ?_ | (refine mx_mv _ rfl rfl (by conv => {lhs; whnf}) ?_) | (refine mx_as _ rfl rfl (by conv => {lhs; whnf}) ?_) | ( refine mx_fa E rfl rfl rfl rfl ?_) | (refine g_load rfl ?_; refine mx_get E rfl rfl rfl rfl rfl (by rfl) rfl ?_ ) | (refine mx_ex _ rfl rfl rfl (by conv => {lhs; whnf}) ?_) ) | refine cw_seq ?_ | refine cw_line rfl ?_ | refine pw_then ?_ ))
      refine g_cf 58 rfl ?_; refine a_co0 rfl rfl rfl rfl Try.func58 rfl rfl rfl (OD mx key most s.uses s.la s.lc s.ds) (fun q : Option Addr × Nat => .tuple #[.int .i64 (peekD a.data s.ds).1, .bool (peekD a.data s.ds).2]) (fun q => OD mx key most s.uses q.1 q.2 (delD a.data s.ds)) (fun w' hw h => ddel58 mx key most s.uses s.la s.lc s.ds (by omega) hdk a.ad a.data.length a.cap a.data rfl w' h (hl.keep' hw hne) (old_ne hw 3 rfl len_U (by omega) hl hne)) (fun _ => rfl) (fun _ _ _ => trivial) (fun q2 => ?_)
      (repeat (first | ((refine (?_ : MX _ _ _ _ _ _ _ _ _ _ _)); first | refine mx_end ?_ | (refine mx_mv _ rfl rfl (by conv => {lhs; whnf}) ?_) | (refine mx_as _ rfl rfl (by conv => {lhs; whnf}) ?_) | (refine g_bin rfl ?_; first | ((refine mx_cmpl .eql rfl rfl rfl rfl rfl (by exact cmp_eq_t (by omega) ) ?_) ) | refine mx_bsame E rfl rfl rfl rfl rfl rfl rfl ?_ ) | (refine mx_ex _ rfl rfl rfl (by conv => {lhs; whnf}) ?_) | (refine g_pick rfl ?_; refine mx_and rfl rfl rfl rfl rfl rfl ?_ ) ) | refine cw_line rfl ?_ | refine pw_then ?_ | refine pw_block ?_ ))
      exact pw_mid ⟨⟨q.1, q.2, delR a.data s.rows, s.uses, q2.1, q2.2, delD a.data s.ds⟩, hL.del a.data, by show s.uses ≤ n + 1; omega, by have := del_len a.data s.rows; show ((delR a.data s.rows).length : Int) ≤ most; omega, hI.good.del _⟩ trivial ⟨rfl, rfl, rfl, rfl, rfl, trivial⟩ (fun w h => h)
    have hv012 : v = 0 ∨ v = 1 ∨ v = 2 := by omega
    have fin : ∀ ra' rc' la' lc' ds', (∃ L', Rl L' (putL most s.rows a.data a.c) ds' (s.uses + 1)) → LI most ⟨ra', rc', putL most s.rows a.data a.c, s.uses + 1, la', lc', ds'⟩ (n + 1) := fun ra' rc' la' lc' ds' h => ⟨h, by show s.uses + 1 ≤ n + 1; omega, put_len hmost.1 hrl, hI.good.put hd4 ha⟩
    by_cases he : putE key a.data s.rows = 0
    case neg =>
      have he2 : dputE key a.data s.ds ≠ 0 := by rw [← hL.putE]; exact he
      rcases hv012 with hv0 | hv1 | hv2
      all_goals (
        (repeat (first | ((refine (?_ : MX _ _ _ _ _ _ _ _ _ _ _)); first | refine mx_end ?_ | (refine mx_mv _ rfl rfl (by conv => {lhs; whnf}) ?_) | (refine mx_as _ rfl rfl (by conv => {lhs; whnf}) ?_) | (first | refine mx_fa0 E rfl rfl rfl rfl ?_ | refine mx_fa E rfl rfl rfl rfl ?_) | (refine g_load rfl ?_; refine mx_get E rfl rfl rfl rfl rfl (by rfl) rfl ?_ ) | (refine g_bin rfl ?_; ((refine mx_cmpl .eql rfl rfl rfl rfl rfl (by first | exact cmp_eq_t (by omega) | exact cmp_eq_f (by omega) ) ?_) ) ) | (refine g_call rfl ?_; (refine g_cf 28 rfl ?_; refine mx_call rfl rfl rfl Try.func28 rfl rfl rfl _ (fun w => pickE _ _ _ (by omega) (by omega) (by assumption) w) rfl ?_))) | refine cw_seq ?_ | refine cw_line rfl ?_ | refine cw_block ?_ | refine cw_cond_f rfl ?_ | refine cw_cond_t rfl ?_ | refine cw_skip ?_ | refine pw_then ?_ ))
        refine g_cf 13 rfl ?_; refine a_cou rfl rfl rfl rfl Try.func13 rfl rfl rfl (OL bx key most s.ra s.rc s.rows) (.tuple #[.slice none 0 0, .int .i64 0, .int .i64 (dputE key a.data s.ds)]) (OL bx key most s.ra s.rc s.rows) (fun w' hw h => by have h13 := put13e bx key most s.ra s.rc s.rows (a1, c1).1 a.data.length (a1, c1).2 a.data a.c (by omega) hI.good.R hd4 rfl he w' h (by have := (own_in len_U (hw.holds 0 _ rfl) (by simp [mksB_len])).take a.data.length; rwa [List.take_left' rfl] at this) (own_ne hw 0 2 rfl rfl (by decide)); rw [hL.putE] at h13; exact h13) rfl (fun _ _ => trivial) ?_
        (repeat (first | ((refine (?_ : MX _ _ _ _ _ _ _ _ _ _ _)); first | refine mx_end ?_ | (refine mx_mv _ rfl rfl (by conv => {lhs; whnf}) ?_) | (refine mx_as _ rfl rfl (by conv => {lhs; whnf}) ?_) | ( refine mx_fa E rfl rfl rfl rfl ?_) | (refine g_load rfl ?_; refine mx_get E rfl rfl rfl rfl rfl (by rfl) rfl ?_ ) | (refine mx_ex _ rfl rfl rfl (by conv => {lhs; whnf}) ?_) ) | refine cw_seq ?_ | refine cw_line rfl ?_ | refine pw_then ?_ ))
        refine g_cf 55 rfl ?_; refine a_cou rfl rfl rfl rfl Try.func55 rfl rfl rfl (OD mx key most s.uses s.la s.lc s.ds) (.tuple #[.slice none 0 0, .int .i64 0, .int .i64 (dputE key a.data s.ds)]) (OD mx key most s.uses s.la s.lc s.ds) (fun w' hw h => (dput55e mx key most s.uses s.la s.lc s.ds a.c (by omega) hdk a.ad a.data.length a.cap a.data rfl he2 w' h (hl.keep' hw hne) (old_ne hw 3 rfl len_U (by omega) hl hne))) rfl (fun _ _ => trivial) ?_
        (repeat (first | ((refine (?_ : MX _ _ _ _ _ _ _ _ _ _ _)); first | refine mx_end ?_ | (refine mx_mv _ rfl rfl (by conv => {lhs; whnf}) ?_) | (refine mx_as _ rfl rfl (by conv => {lhs; whnf}) ?_) | (refine mx_ex _ rfl rfl rfl (by conv => {lhs; whnf}) ?_) ) | refine cw_seq ?_ | refine cw_line rfl ?_ | refine pw_then ?_ ))
        refine g_cf 36 rfl ?_; refine a_callv rfl rfl rfl rfl Try.func36 rfl rfl rfl (.bool true) (fun w' hw => sameB none none 0 0 0 0 [] [] rfl rfl (by omega) w' nil_in nil_in) rfl ?_
        (repeat (first | ((refine (?_ : MX _ _ _ _ _ _ _ _ _ _ _)); first | refine mx_end ?_ | (refine mx_mv _ rfl rfl (by conv => {lhs; whnf}) ?_) | (refine mx_as _ rfl rfl (by conv => {lhs; whnf}) ?_) | (refine g_bin rfl ?_; ((refine mx_cmpl .eql rfl rfl rfl rfl rfl (by exact cmp_eq_t (by omega) ) ?_) ) ) | (refine g_pick rfl ?_; refine mx_and rfl rfl rfl rfl rfl rfl ?_ ) ) | refine cw_line rfl ?_ | refine pw_then ?_ ))
        refine g_cf 27 rfl ?_
        refine a_callv rfl rfl rfl rfl Try.func27 rfl rfl rfl (.tuple #[]) (fun w' hw => spoil0 none 0 w') rfl ?_
        (repeat (first | ((refine (?_ : MX _ _ _ _ _ _ _ _ _ _ _)); refine mx_end ?_ ) | refine pw_block ?_ ))
        exact pw_mid ⟨s, hI.rl, by omega, hrl, hI.good⟩ trivial ⟨rfl, rfl, rfl, rfl, rfl, trivial⟩ (fun w h => h))
    case pos =>
      have he2 : dputE key a.data s.ds = 0 := by rw [← hL.putE]; exact he
      by_cases hfull : (s.ds.length : Int) = most
      case neg =>
        have hG : putG most s.rows = ⟨[], 0⟩ := by unfold putG; rw [if_neg (by omega)]
        rcases hv012 with hv0 | hv1 | hv2
        all_goals (
          (repeat (first | ((refine (?_ : MX _ _ _ _ _ _ _ _ _ _ _)); first | refine mx_end ?_ | (refine mx_mv _ rfl rfl (by conv => {lhs; whnf}) ?_) | (refine mx_as _ rfl rfl (by conv => {lhs; whnf}) ?_) | (first | refine mx_fa0 E rfl rfl rfl rfl ?_ | refine mx_fa E rfl rfl rfl rfl ?_) | (refine g_load rfl ?_; refine mx_get E rfl rfl rfl rfl rfl (by rfl) rfl ?_ ) | (refine g_bin rfl ?_; ((refine mx_cmpl .eql rfl rfl rfl rfl rfl (by first | exact cmp_eq_t (by omega) | exact cmp_eq_f (by omega) ) ?_) ) ) | (refine g_call rfl ?_; (refine g_cf 28 rfl ?_; refine mx_call rfl rfl rfl Try.func28 rfl rfl rfl _ (fun w => pickE _ _ _ (by omega) (by omega) (by assumption) w) rfl ?_))) | refine cw_seq ?_ | refine cw_line rfl ?_ | refine cw_block ?_ | refine cw_cond_f rfl ?_ | refine cw_cond_t rfl ?_ | refine cw_skip ?_ | refine pw_then ?_ ))
          refine g_cf 13 rfl ?_; refine a_co1 rfl rfl rfl rfl Try.func13 rfl rfl rfl (OL bx key most s.ra s.rc s.rows) (fun q : PutA => .tuple #[.slice (some ⟨q.b, 0, none⟩) 0 q.cap, .int .i64 0, .int .i64 0]) (fun q => strR q.b 5 q.rest) (fun q => OL bx key most q.ra q.rc (putL most s.rows a.data a.c)) (fun w' hw h => by have h13 := put13s bx key most s.ra s.rc s.rows (a1, c1).1 a.data.length (a1, c1).2 a.data a.c (by omega) hI.good.R (by omega) (by omega) hd4 rfl he w' h (by have := (own_in len_U (hw.holds 0 _ rfl) (by simp [mksB_len])).take a.data.length; rwa [List.take_left' rfl] at this) (own_ne hw 0 2 rfl rfl (by decide)); rw [hG] at h13; exact h13) (fun _ => rfl) (fun _ _ _ => trivial) (fun q => ?_)
          (repeat (first | ((refine (?_ : MX _ _ _ _ _ _ _ _ _ _ _)); first | refine mx_end ?_ | (refine mx_mv _ rfl rfl (by conv => {lhs; whnf}) ?_) | (refine mx_as _ rfl rfl (by conv => {lhs; whnf}) ?_) | ( refine mx_fa E rfl rfl rfl rfl ?_) | (refine g_load rfl ?_; refine mx_get E rfl rfl rfl rfl rfl (by rfl) rfl ?_ ) | (refine mx_ex _ rfl rfl rfl (by conv => {lhs; whnf}) ?_) ) | refine cw_seq ?_ | refine cw_line rfl ?_ | refine pw_then ?_ ))
          refine g_cf 55 rfl ?_; refine a_co0 rfl rfl rfl rfl Try.func55 rfl rfl rfl (OD mx key most s.uses s.la s.lc s.ds) (fun q : (Option Addr × Nat) × Option Addr × Nat => .tuple #[.slice none 0 0, .int .i64 0, .int .i64 0]) (fun q => OD mx key most (s.uses + 1) q.1.1 q.1.2 (s.ds ++ [(⟨q.2.1, q.2.2, a.data, a.c, s.uses + 1⟩ : DR)])) (fun w' hw h => dput55s mx key most s.uses s.la s.lc s.ds a.c (by omega) (by omega) hdk a.ad a.data.length a.cap a.data rfl (by omega) he2 hfull w' h (hl.keep' hw hne) (old_ne hw 4 rfl len_U (by omega) hl hne)) (fun _ => rfl) (fun _ _ _ => trivial) (fun q2 => ?_)
          (repeat (first | ((refine (?_ : MX _ _ _ _ _ _ _ _ _ _ _)); first | refine mx_end ?_ | (refine mx_mv _ rfl rfl (by conv => {lhs; whnf}) ?_) | (refine mx_as _ rfl rfl (by conv => {lhs; whnf}) ?_) | (refine mx_ex _ rfl rfl rfl (by conv => {lhs; whnf}) ?_) ) | refine cw_seq ?_ | refine cw_line rfl ?_ | refine pw_then ?_ ))
          refine g_cf 36 rfl ?_; refine a_callv rfl rfl rfl rfl Try.func36 rfl rfl rfl (.bool true) (fun w' hw => sameB (some ⟨q.b, 0, none⟩) none 0 0 q.cap 0 [] [] rfl rfl (by omega) w' nil_in nil_in) rfl ?_
          (repeat (first | ((refine (?_ : MX _ _ _ _ _ _ _ _ _ _ _)); first | refine mx_end ?_ | (refine mx_mv _ rfl rfl (by conv => {lhs; whnf}) ?_) | (refine mx_as _ rfl rfl (by conv => {lhs; whnf}) ?_) | (refine g_bin rfl ?_; ((refine mx_cmpl .eql rfl rfl rfl rfl rfl (by exact cmp_eq_t (by omega) ) ?_) ) ) | (refine g_pick rfl ?_; refine mx_and rfl rfl rfl rfl rfl rfl ?_ ) ) | refine cw_line rfl ?_ | refine pw_then ?_ ))
          refine g_cf 27 rfl ?_
          refine a_callv rfl rfl rfl rfl Try.func27 rfl rfl rfl (.tuple #[]) (fun w' hw => spoil0 _ _ w') rfl ?_
          (repeat (first | ((refine (?_ : MX _ _ _ _ _ _ _ _ _ _ _)); refine mx_end ?_ ) | refine pw_block ?_ ))
          exact pw_mid ⟨_, fin q.ra q.rc q2.1.1 q2.1.2 _ (hL.put a.c he2 hfull q2.2.1 q2.2.2)⟩ trivial ⟨rfl, rfl, rfl, rfl, rfl, trivial⟩ (fun w h => h.pick [1, 2, 3, 4] (by simp) rfl))
      case pos =>
        have hpos : 0 < s.ds.length := by omega
        obtain ⟨⟨kG, cG⟩, hG⟩ : ∃ g, putG most s.rows = g := ⟨_, rfl⟩
        have hkl : kG.length ≤ 60 := by
          have h1 : (⟨kG, cG⟩ : RW) ∈ s.rows := by
            rw [← hG]
            unfold putG
            rw [if_pos (by omega)]
            obtain ⟨x, hx⟩ := getElem_some (xs := s.rows) (i := s.rows.length - 1) (by omega)
            simp only [List.getD, hx, Option.getD_some]
            exact List.mem_of_getElem? hx
          exact (hI.good _ h1).2
        rcases hv012 with hv0 | hv1 | hv2
        all_goals (
          (repeat (first | ((refine (?_ : MX _ _ _ _ _ _ _ _ _ _ _)); first | refine mx_end ?_ | (refine mx_mv _ rfl rfl (by conv => {lhs; whnf}) ?_) | (refine mx_as _ rfl rfl (by conv => {lhs; whnf}) ?_) | (first | refine mx_fa0 E rfl rfl rfl rfl ?_ | refine mx_fa E rfl rfl rfl rfl ?_) | (refine g_load rfl ?_; refine mx_get E rfl rfl rfl rfl rfl (by rfl) rfl ?_ ) | (refine g_bin rfl ?_; ((refine mx_cmpl .eql rfl rfl rfl rfl rfl (by first | exact cmp_eq_t (by omega) | exact cmp_eq_f (by omega) ) ?_) ) ) | (refine g_call rfl ?_; (refine g_cf 28 rfl ?_; refine mx_call rfl rfl rfl Try.func28 rfl rfl rfl _ (fun w => pickE _ _ _ (by omega) (by omega) (by assumption) w) rfl ?_))) | refine cw_seq ?_ | refine cw_line rfl ?_ | refine cw_block ?_ | refine cw_cond_f rfl ?_ | refine cw_cond_t rfl ?_ | refine cw_skip ?_ | refine pw_then ?_ ))
          refine g_cf 13 rfl ?_; refine a_co1 rfl rfl rfl rfl Try.func13 rfl rfl rfl (OL bx key most s.ra s.rc s.rows) (fun q : PutA => .tuple #[.slice (some ⟨q.b, 0, none⟩) kG.length q.cap, .int .i64 cG, .int .i64 0]) (fun q => strR q.b 5 (kG.map (Value.int .u8) ++ q.rest)) (fun q => OL bx key most q.ra q.rc (putL most s.rows a.data a.c)) (fun w' hw h => by have h13 := put13s bx key most s.ra s.rc s.rows (a1, c1).1 a.data.length (a1, c1).2 a.data a.c (by omega) hI.good.R (by omega) (by omega) hd4 rfl he w' h (by have := (own_in len_U (hw.holds 0 _ rfl) (by simp [mksB_len])).take a.data.length; rwa [List.take_left' rfl] at this) (own_ne hw 0 2 rfl rfl (by decide)); rw [hG] at h13; exact h13) (fun _ => rfl) (fun _ _ _ => trivial) (fun q => ?_)
          (repeat (first | ((refine (?_ : MX _ _ _ _ _ _ _ _ _ _ _)); first | refine mx_end ?_ | (refine mx_mv _ rfl rfl (by conv => {lhs; whnf}) ?_) | (refine mx_as _ rfl rfl (by conv => {lhs; whnf}) ?_) | ( refine mx_fa E rfl rfl rfl rfl ?_) | (refine g_load rfl ?_; refine mx_get E rfl rfl rfl rfl rfl (by rfl) rfl ?_ ) | (refine mx_ex _ rfl rfl rfl (by conv => {lhs; whnf}) ?_) ) | refine cw_seq ?_ | refine cw_line rfl ?_ | refine pw_then ?_ ))
          refine g_cf 55 rfl ?_; refine a_co1 rfl rfl rfl rfl Try.func55 rfl rfl rfl (OD mx key most s.uses s.la s.lc s.ds) (fun q : (Option Addr × Nat) × (Option Addr × Nat) × {ds' : List DR // ∃ L', Rl L' (putL most s.rows a.data a.c) ds' (s.uses + 1)} => .tuple #[.slice q.1.1 kG.length q.1.2, .int .i64 cG, .int .i64 0]) (fun q => ownd q.1.1 q.1.2 5 1 kG.length (kG.flatMap cU)) (fun q => OD mx key most (s.uses + 1) q.2.1.1 q.2.1.2 q.2.2.1) (fun w' hw h => (dput55f mx key most s.uses s.la s.lc s.ds a.c (by omega) (by omega) hdk a.ad a.data.length a.cap a.data rfl (by omega) he2 hfull hpos w' h (hl.keep' hw hne) (old_ne hw 4 rfl len_U (by omega) hl hne)).mono fun e w' ⟨q, h1, h2⟩ => put_fin hL he2 hfull hpos hG q h1 h2) (fun _ => rfl) (fun _ _ _ => trivial) (fun q2 => ?_)
          (repeat (first | ((refine (?_ : MX _ _ _ _ _ _ _ _ _ _ _)); first | refine mx_end ?_ | (refine mx_mv _ rfl rfl (by conv => {lhs; whnf}) ?_) | (refine mx_as _ rfl rfl (by conv => {lhs; whnf}) ?_) | (refine mx_ex _ rfl rfl rfl (by conv => {lhs; whnf}) ?_) ) | refine cw_seq ?_ | refine cw_line rfl ?_ | refine pw_then ?_ ))
          refine g_cf 36 rfl ?_; refine a_callv rfl rfl rfl rfl Try.func36 rfl rfl rfl (.bool true) (fun w' hw => by have h36 := sameB (some ⟨q.b, 0, none⟩) q2.1.1 kG.length kG.length q.cap q2.1.2 kG kG rfl rfl (by omega) w' (str_in (hw.holds 1 _ rfl)) (own_in len_U (hw.holds 0 _ rfl) (Nat.le_refl _)); rw [decide_eq_true rfl] at h36; exact h36) rfl ?_
          (repeat (first | ((refine (?_ : MX _ _ _ _ _ _ _ _ _ _ _)); first | refine mx_end ?_ | (refine mx_mv _ rfl rfl (by conv => {lhs; whnf}) ?_) | (refine mx_as _ rfl rfl (by conv => {lhs; whnf}) ?_) | (refine g_bin rfl ?_; ((refine mx_cmpl .eql rfl rfl rfl rfl rfl (by exact cmp_eq_t (by omega) ) ?_) ) ) | (refine g_pick rfl ?_; refine mx_and rfl rfl rfl rfl rfl rfl ?_ ) ) | refine cw_line rfl ?_ | refine pw_then ?_ ))
          refine mx_weak (H' := [ownd q2.1.1 q2.1.2 5 1 kG.length (kG.flatMap cU), jkR q.b 5 (kG.map (Value.int .u8) ++ q.rest).length, ownd a1 c1 5 1 (a.data.length + 5) ((a.data ++ mksB 5).flatMap cU), row b5 42 (cAD a), star (OL bx key most q.ra q.rc (putL most s.rows a.data a.c)), star (OD mx key most (s.uses + 1) q2.2.1.1 q2.2.1.2 q2.2.2.1)]) (fun w h => h.rep 1 rfl _ (fun b hb => hb) (strR_jk (h.holds 1 _ rfl))) (fun _ _ => trivial) ?_
          refine g_cf 27 rfl ?_
          refine a_callu rfl rfl rfl rfl Try.func27 rfl rfl rfl (jkR q.b 5 (kG.map (Value.int .u8) ++ q.rest).length) (upS up0) rfl (.tuple #[]) (fun w' hw h => spoilJ q.b kG.length q.cap _ (by simp) (by omega) w' h ((hw.own 1 _ rfl q.b rfl).1)) rfl (fun _ _ => trivial) ?_
          (repeat (first | ((refine (?_ : MX _ _ _ _ _ _ _ _ _ _ _)); refine mx_end ?_ ) | refine pw_block ?_ ))
          exact pw_mid ⟨_, fin q.ra q.rc q2.2.1.1 q2.2.1.2 _ q2.2.2.2⟩ trivial ⟨rfl, rfl, rfl, rfl, rfl, trivial⟩ (fun w h => h.pick [2, 3, 4, 5] (by simp) rfl))
  rintro ⟨s', hs'⟩ jk -
  dsimp only
  (repeat (first | ((refine (?_ : MX _ _ _ _ _ _ _ _ _ _ _)); first | (refine mx_mv _ rfl rfl (by conv => {lhs; whnf}) ?_) | ( refine mx_fa E rfl rfl rfl rfl ?_) | (refine g_load rfl ?_; refine mx_get E rfl rfl rfl rfl rfl (by rfl) rfl ?_ ) ) | refine cw_seq ?_ | refine cw_line rfl ?_ ))
  refine g_cf 33 rfl ?_
  refine a_callv rfl rfl rfl rfl Try.func33 rfl rfl rfl (.bool true) (fun w' hw => keptB a1 a.ad a.data.length c1 a.cap a.data rfl (by omega) hc1 w' (own_in len_U (hw.holds 0 _ rfl) (by simp [mksB_len])) (hl.keep' hw hne)) rfl ?_
  (repeat (first | ((refine (?_ : MX _ _ _ _ _ _ _ _ _ _ _)); first | refine mx_end ?_ | (refine mx_mv _ rfl rfl (by conv => {lhs; whnf}) ?_) | (refine mx_as _ rfl rfl (by conv => {lhs; whnf}) ?_) ) | refine cw_seq ?_ | refine cw_line rfl ?_ | refine pw_then ?_ ))
  refine g_cf 27 rfl ?_
  refine a_callu rfl rfl rfl rfl Try.func27 rfl rfl rfl (ownd a1 c1 5 1 (a.data.length + 5) ((splB (a.data.length + 5)).flatMap cU)) up0 rfl (.tuple #[]) (fun w' hw h => spoilB a1 (a.data.length + 5) c1 _ (by omega) w' h) rfl (fun _ _ => trivial) ?_
  (repeat (first | ((refine (?_ : MX _ _ _ _ _ _ _ _ _ _ _)); first | refine mx_end ?_ | (refine mx_mv _ rfl rfl (by conv => {lhs; whnf}) ?_) | (refine mx_as _ rfl rfl (by conv => {lhs; whnf}) ?_) | (refine g_pick rfl ?_; refine mx_and rfl rfl rfl rfl rfl rfl ?_ ) ) | refine cw_seq ?_ | refine cw_line rfl ?_ | refine cw_ret ?_ | refine pw_then ?_ ))
  exact pw_ret rfl rfl rfl rfl fun w' hw => ⟨⟨s', hs'⟩, rfl, un_two (hw.pick [2, 3] (by simp) rfl)⟩
end Go.Proofs.Ytminmbkhlnaabaa
