/- For the law HashKnown: rows of bytes; keys that calls share. -/
import Derived.Test.YtminmbkhlnaabaaLHashSums
import Derived.Test.YtminmbkhlnaabaaLHashRuns
import Derived.Test.YtminmbkhlnaabaaLHashHolds
import Derived.Test.YtminmbkhlnaabaaLHashWears
set_option maxRecDepth 100000
set_option maxHeartbeats 8000000
set_option linter.unusedSimpArgs false
set_option linter.unusedVariables false
namespace Go.Proofs.Ytminmbkhlnaabaa
open Go Go.Sx Go.RowKit
def rowK (n : Nat) : List Int := (List.range n).map fun i : Nat => IntKind.u8.wrap (3 + 5 * (i : Int))
theorem wrap8 (x : Int) : 0 ≤ IntKind.u8.wrap x ∧ IntKind.u8.wrap x < 256 := by
  have : IntKind.u8.wrap x = x % 256 := by simp [IntKind.wrap, IntKind.bits, IntKind.signed]
  rw [this]
  omega
theorem rowK_len (n : Nat) : (rowK n).length = n := by simp [rowK]
theorem rowK_succ (n : Nat) : rowK (n + 1) = rowK n ++ [IntKind.u8.wrap (3 + 5 * (n : Int))] := by simp [rowK, List.range_succ]
theorem rowK_byt (n : Nat) : BytK (rowK n) := fun x hx => by
  obtain ⟨i, _, rfl⟩ := List.mem_map.1 hx
  exact wrap8 _
theorem row51 (n : Nat) (hn : n ≤ 100) (w : World) : Calls Try.prog 51 #[.int .i64 n] w fun e w' => ∃ a : Option Addr × Nat, e = .returned (.slice a.1 n a.2) ∧ Ok (domL []) w [ownd a.1 a.2 5 1 n ((rowK n).flatMap cU)] w' := by
  refine enter1 (S := domL []) 18 Try.func51 rfl rfl rfl (Ok.start w) ?_
  (repeat (first | ((refine (?_ : MX _ _ _ _ _ _ _ _ _ _ _)); first | refine mx_end ?_ | (refine mx_as _ rfl rfl (by conv => {lhs; whnf}) ?_) ) | refine cw_seq ?_ | refine cw_line rfl ?_ | refine cw_block ?_ | refine pw_then ?_ ))
  refine cw_loop (ι := Nat × Option Addr × Nat) (fun q => [(4, .int .i64 q.1), (3, .slice q.2.1 q.1 q.2.2), (0, .int .i64 n)]) (fun q => [ownd q.2.1 q.2.2 5 1 q.1 ((rowK q.1).flatMap cU)]) (fun q => q.1 ≤ n) (fun q => n - q.1) (0, none, 0) (by simp) ⟨rfl, rfl, rfl, trivial⟩ (fun w h => h.own_nil 5 1) ?_
  rintro ⟨i, a1, c1⟩ jk hi
  dsimp only at hi ⊢
  by_cases h0 : (i : Int) < n
  case neg =>
    obtain rfl : i = n := by omega
    (repeat (first | ((refine (?_ : MX _ _ _ _ _ _ _ _ _ _ _)); first | refine mx_end ?_ | (refine mx_mv _ rfl rfl (by conv => {lhs; whnf}) ?_) | (refine mx_as _ rfl rfl (by conv => {lhs; whnf}) ?_) | (refine g_bin rfl ?_; ( (refine mx_cmpl .lss rfl rfl rfl rfl rfl (by exact cmp_lt_f (by omega) ) ?_) ) ) ) | refine cw_seq ?_ | refine cw_line rfl ?_ | refine cw_cond_f rfl ?_ | refine cw_exit ?_ | refine cw_ret ?_ | refine pw_then ?_ | refine pw_then_x ?_ | refine pw_block_e ?_ ))
    exact pw_ret rfl rfl rfl rfl fun w' hw => ⟨(a1, c1), rfl, hw⟩
  case pos =>
    (repeat (first | ((refine (?_ : MX _ _ _ _ _ _ _ _ _ _ _)); first | refine mx_end ?_ | (refine mx_mv _ rfl rfl (by conv => {lhs; whnf}) ?_) | (refine g_bin rfl ?_; first | ( (refine mx_cmpl .lss rfl rfl rfl rfl rfl (by exact cmp_lt_t (by omega) ) ?_) ) | (refine mx_ar rfl rfl rfl rfl rfl rfl (IntWalk.i64_in _ (by omega)) rfl ?_ ) ) | (refine g_bs rfl ?_; refine a_bsi E rfl rfl rfl rfl rfl (by (repeat (first | exact EvI.nil | (apply EvI.cons; rfl)))) (by rfl) (by rfl) (by rfl) rfl (fun _ => ?_)) | (refine g_conv rfl ?_; refine mx_cv E rfl rfl rfl rfl rfl rfl rfl rfl ?_) ) | refine cw_seq ?_ | refine cw_line rfl ?_ | refine cw_block ?_ | refine cw_cond_t rfl ?_ | refine cw_skip ?_ | refine pw_then ?_ ))
    refine g_bi .append rfl ?_
    refine a_app E rfl rfl rfl rfl rfl rfl rfl rfl [.int .u8 (IntKind.u8.wrap (3 + 5 * (i : Int)))] rfl (fun w hw => one_src (hw.holds 0 _ rfl)) rfl (by omega) rfl (fun _ _ _ _ => trivial) (fun a2 c2 => ?_)
    rw [app_flat, ← rowK_succ]
    (repeat (first | ((refine (?_ : MX _ _ _ _ _ _ _ _ _ _ _)); first | refine mx_end ?_ | (refine mx_mv _ rfl rfl (by conv => {lhs; whnf}) ?_) | (refine mx_as _ rfl rfl (by conv => {lhs; whnf}) ?_) | (refine g_bin rfl ?_; (refine mx_ar rfl rfl rfl rfl rfl rfl (IntWalk.i64_in _ (by omega)) rfl ?_ ) ) ) | refine cw_line rfl ?_ | refine pw_then ?_ | refine pw_block ?_ ))
    refine pw_round (i + 1, a2, c2) (by show i + 1 ≤ n; omega) (by show n - (i + 1) < n - i; omega) ⟨rfl, rfl, rfl, trivial⟩ (fun w h => h.only 1 rfl)
theorem own_cap {w : World} {ad : Option Addr} {cap e z len : Nat} {xs : List Value} (h : (ownd ad cap e z len xs).holds w) : cap ≤ maxLen := by
  rcases h.2 with ⟨hv, hn⟩ | ⟨g, c, cur, hv, hb, hg, h1, h2, h3, h4⟩
  · have := (Value.slice.inj hv).2.2
    omega
  · have := (Value.slice.inj hv).2.2
    omega
theorem mapU (xs : List Int) : xs.flatMap cU = xs.map (Value.int .u8) := by
  induction xs with
  | nil => rfl
  | cons x xs ih => rw [List.flatMap_cons, ih]; rfl
structure KQ where
  b : Nat
  v : List Int
  deriving Inhabited
def kqR (l : List KQ) : Res where
  dom := fun b => ∃ q ∈ l, q.b = b
  holds := fun w => ∀ q ∈ l, (row q.b 5 (q.v.map (Value.int .u8))).holds w
  loc := fun w w' h hh q hq => (row q.b 5 (q.v.map (Value.int .u8))).loc w w' (fun b hb => h b ⟨q, hq, hb.symm⟩) (hh q hq)
theorem kq_in {w : World} {l : List KQ} (h : (kqR l).holds w) {q : KQ} (hq : q ∈ l) : InL w (some ⟨q.b, 0, none⟩) 1 cU q.v := by
  have := h q hq
  rw [← mapU] at this
  exact row_in len_U this
/-- A call's key is one of those that lie there, or what is behind its first byte. -/
def OfQ (sz : Nat) (qs : List KQ) (a : AH) : Prop := ∃ q ∈ qs, q.v.length = sz ∧ BytK q.v ∧ ((a.ad = some ⟨q.b, 0, none⟩ ∧ a.data = q.v ∧ a.cap = sz) ∨ (a.ad = sla (some ⟨q.b, 0, none⟩) sz 1 1 ∧ a.data = q.v.drop 1 ∧ a.cap = sz - 1))
theorem OfQ.acts {w : World} {sz : Nat} {qs : List KQ} {l : List AH} (hs : sz ≤ 100) (h : (kqR qs).holds w) (ha : ∀ a ∈ l, OfQ sz qs a) : ActsH w l := fun a haa => by
  have hmx : maxLen = 9223372036854775807 := rfl
  obtain ⟨q, hq, h1, h2, ⟨e1, e2, e3⟩ | ⟨e1, e2, e3⟩⟩ := ha a haa
  · rw [e1, e2, e3]
    exact ⟨kq_in h hq, by omega, by omega, h2⟩
  · rw [e1, e2, e3]
    refine ⟨(kq_in h hq).drop sz 1 (by omega), by rw [List.length_drop]; omega, by omega, fun x hx => h2 x (List.mem_of_mem_drop hx)⟩
theorem OfQ.more {sz : Nat} {qs qs' : List KQ} {a : AH} (h : OfQ sz qs a) (hs : ∀ q ∈ qs, q ∈ qs') : OfQ sz qs' a := by
  obtain ⟨q, hq, r⟩ := h
  exact ⟨q, hs q hq, r⟩
theorem s_a : sumK [97] = 3826002220 := by decide +kernel
theorem s_foobar : sumK [102, 111, 111, 98, 97, 114] = 3214735720 := by decide +kernel
end Go.Proofs.Ytminmbkhlnaabaa
