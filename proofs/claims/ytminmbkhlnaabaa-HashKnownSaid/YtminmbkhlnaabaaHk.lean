/- Keys told, written over. -/
import Derived.Test.YtminmbkhlnaabaaHj
set_option maxRecDepth 100000
set_option maxHeartbeats 8000000
set_option linter.unusedSimpArgs false
set_option linter.unusedVariables false
namespace Go.Proofs.Ytminmbkhlnaabaa
open Go Go.Sx Go.RowKit
def splT (t : TX) : TX := ⟨t.ad, t.cap, splB t.k.length⟩
theorem RT_spl (t : TX) : RT (splT t) = ownd t.ad t.cap 5 1 t.k.length ((splB t.k.length).flatMap cU) := by
  unfold RT splT
  dsimp only
  rw [splB_len]
section
variable {S : Nat → Prop} {w0 w : World} {H : List Res}
theorem allT_out {a b : List TX} {t : TX} (h : Ok S w0 (allT (a ++ t :: b) :: H) w) : Ok S w0 (RT t :: allT (a ++ b) :: H) w := by
  have h1 := Ok.unstar h
  have h2 : Ok S w0 ((a ++ b).map RT ++ (RT t :: H)) w := h1.perm (by
    rw [List.map_append, List.map_append, List.map_cons, List.append_assoc, List.append_assoc]
    refine List.Perm.append_left _ ?_
    exact (List.perm_middle (l₁ := b.map RT) (l₂ := H) (a := RT t)).symm)
  exact (Ok.star h2).perm (List.Perm.swap _ _ _)
theorem allT_in {a b : List TX} {t : TX} (h : Ok S w0 (RT t :: allT (a ++ b) :: H) w) : Ok S w0 (allT (a ++ t :: b) :: H) w := by
  have h1 : Ok S w0 (allT (a ++ b) :: RT t :: H) w := h.perm (List.Perm.swap _ _ _)
  have h2 := Ok.unstar h1
  have h3 : Ok S w0 ((a ++ t :: b).map RT ++ H) w := h2.perm (by
    rw [List.map_append, List.map_append, List.map_cons, List.append_assoc, List.append_assoc]
    refine List.Perm.append_left _ ?_
    exact List.perm_middle (l₁ := b.map RT) (l₂ := H) (a := RT t))
  exact Ok.star h3
end
theorem spoilT48 (ad : Option Addr) (cap : Nat) (ts : List TX) (hs : ts.length ≤ 1000000) (hk : ∀ t ∈ ts, t.k.length ≤ 1000000) (w : World) (h0 : Ok (domL [allT ts]) w [allT ts] w) (hl : InL w ad 1 cT ts) (hne : ts ≠ [] → ∀ b off, ad = some ⟨b, off, none⟩ → ¬ domL [allT ts] b) :
    Calls Try.prog 48 #[.slice ad ts.length cap] w fun e w' => e = .returned (.tuple #[]) ∧ Ok (domL [allT ts]) w [] w' := by
  refine enter1 (S := domL [allT ts]) (H := [allT ts]) 14 Try.func48 rfl rfl rfl h0 ?_
  (repeat (first | ((refine (?_ : MX _ _ _ _ _ _ _ _ _ _ _)); first | refine mx_end ?_ | (refine mx_as _ rfl rfl (by conv => {lhs; whnf}) ?_) ) | refine cw_seq ?_ | refine cw_line rfl ?_ | refine cw_block ?_ | refine pw_then ?_ ))
  refine cw_loop (fun i : Nat => [(2, .int .i64 i), (0, .slice ad ts.length cap)]) (fun i => [allT ((ts.take i).map splT ++ ts.drop i)]) (fun i => i ≤ ts.length) (fun i => ts.length - i) 0 (Nat.zero_le _) ⟨rfl, rfl, trivial⟩ (fun w h => h) ?_
  intro i jk hi
  by_cases h1 : (i : Int) < ts.length
  case neg =>
    (repeat (first | ((refine (?_ : MX _ _ _ _ _ _ _ _ _ _ _)); first | refine mx_end ?_ | (refine mx_mv _ rfl rfl (by conv => {lhs; whnf}) ?_) | (refine g_bin rfl ?_; ( (refine mx_cmpl .lss rfl rfl rfl rfl rfl (by exact cmp_lt_f (by omega) ) ?_) ) ) | (refine g_bi .len rfl ?_; refine mx_len E rfl rfl rfl rfl ?_) ) | refine cw_seq ?_ | refine cw_line rfl ?_ | refine cw_cond_f rfl ?_ | refine cw_exit ?_ | refine pw_then ?_ | refine pw_then_x ?_ | refine pw_block_e ?_ ))
    exact pw_ret0 rfl rfl fun w hw => ⟨rfl, hw.pick [] (by simp) rfl⟩
  case pos =>
    obtain ⟨t, ht⟩ := getElem_some (xs := ts) (i := i) (by omega)
    obtain ⟨b4, off, e, hcc⟩ := inl_at hl ht
    subst e
    have hS : ¬ domL [allT ts] b4 := hne (by intro h; rw [h] at ht; simp at ht) b4 off rfl
    have hc0 : w.cell? ⟨b4, off + i * 1, none⟩ = some (.slice t.ad t.k.length t.cap) := hcc 0 _ rfl
    have hd : ts.drop i = t :: ts.drop (i + 1) := by
      rw [List.drop_eq_getElem_cons (by omega)]
      congr 1
      exact (List.getElem?_eq_some_iff.1 ht).2
    have htk := hk t (List.mem_of_getElem? ht)
    rw [hd]
    refine cw_weak (H' := [RT t, allT ((ts.take i).map splT ++ ts.drop (i + 1))]) (fun w h => allT_out h) ?_
    (repeat (first | ((refine (?_ : MX _ _ _ _ _ _ _ _ _ _ _)); first | refine mx_end ?_ | (refine mx_mv _ rfl rfl (by conv => {lhs; whnf}) ?_) | (refine g_load rfl ?_; refine mx_old1 E rfl rfl rfl rfl rfl (by assumption) (by assumption) rfl ?_ ) | (refine g_bin rfl ?_; ( (refine mx_cmpl .lss rfl rfl rfl rfl rfl (by exact cmp_lt_t (by omega) ) ?_) ) ) | (refine g_ix rfl ?_; refine mx_ixsn E rfl rfl rfl rfl rfl rfl (by omega) rfl ?_ ) | (refine g_bi .len rfl ?_; refine mx_len E rfl rfl rfl rfl ?_) ) | refine cw_seq ?_ | refine cw_line rfl ?_ | refine cw_block ?_ | refine cw_cond_t rfl ?_ | refine cw_skip ?_ | refine pw_then ?_ ))
    refine g_cf 27 rfl ?_
    refine a_callu rfl rfl rfl rfl Try.func27 rfl rfl rfl (RT (splT t)) up0 (by rw [RT_spl]; rfl) (.tuple #[]) (fun w' hw h => by rw [RT_spl]; exact spoilB t.ad t.k.length t.cap _ htk w' h) rfl (fun _ _ => trivial) ?_
    (repeat (first | ((refine (?_ : MX _ _ _ _ _ _ _ _ _ _ _)); first | refine mx_end ?_ | (refine mx_mv _ rfl rfl (by conv => {lhs; whnf}) ?_) | (refine mx_as _ rfl rfl (by conv => {lhs; whnf}) ?_) | (refine g_bin rfl ?_; (refine mx_ar rfl rfl rfl rfl rfl rfl (IntWalk.i64_in _ (by omega)) rfl ?_ ) ) ) | refine cw_line rfl ?_ | refine pw_then ?_ | refine pw_block ?_ ))
    refine pw_round (i + 1) (by omega) (by omega) ⟨rfl, rfl, trivial⟩ (fun w h => ?_)
    have e : (ts.take (i + 1)).map splT ++ ts.drop (i + 1) = (ts.take i).map splT ++ splT t :: ts.drop (i + 1) := by
      rw [List.take_add_one, ht, List.map_append]
      simp
    rw [e]
    exact allT_in h
end Go.Proofs.Ytminmbkhlnaabaa
