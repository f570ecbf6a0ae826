/- Keys of a map in order: slices.Sorted(maps.Keys(m)), by the kit's contracts laid at this program. -/
import Derived.Test.YtikdbgheefjpkaaSrt
import Derived.Test.YtikdbgheefjpkaaMr
import Derived.Shelf.SlIterI.Nil
import Derived.Shelf.SlIterI.Sorted
set_option maxRecDepth 100000
set_option maxHeartbeats 2000000
set_option linter.unusedSimpArgs false
set_option linter.unusedVariables false
namespace Go.Proofs.Ytikdbgheefjpkaa
open Go Go.Sx Go.RowKit
/- The numbers of the library's functions and types here. -/
def keysZ_ren : Go.Shelf.Ren := ⟨fun | 7 => 69 | 10 => 92 | n => n, fun | 23 => 93 | 26 => 3 | 3 => 59 | 28 => 102 | 0 => 0 | 27 => 101 | 33 => 76 | 4 => 4 | n => n, fun | n => n⟩
theorem keysZ : Go.Proofs.SlLaysZI.n7 Try.prog keysZ_ren where
  mixed := by kernel_rfl
  f7 := ⟨ "maps.Keys[map[int]lockgate/api.Code,int,lockgate/api.Code]", by decide, Try.func69.trans (congrArg some (by kernel_rfl))⟩
  f10 := ⟨ "maps.Keys[map[int]lockgate/api.Code,int,lockgate/api.Code]$1", by decide, Try.func92.trans (congrArg some (by kernel_rfl))⟩
  t0 := Try.underlying0
  a0 := Try.isAgg0
  z0 := Try.sizeOf0
  v0 := Try.zeroValue0
  t4 := Try.underlying4
  a4 := Try.isAgg4
  z4 := Try.sizeOf4
  v4 := Try.zeroValue4
  t23 := Try.underlying93
  a23 := Try.isAgg93
  z23 := Try.sizeOf93
  v23 := Try.zeroValue93
  t26 := Try.underlying3
  a26 := Try.isAgg3
  z26 := Try.sizeOf3
  v26 := Try.zeroValue3
  t27 := Try.underlying101
  a27 := Try.isAgg101
  z27 := Try.sizeOf101
  v27 := Try.zeroValue101
  t28 := Try.underlying102
  a28 := Try.isAgg102
  z28 := Try.sizeOf102
  v28 := Try.zeroValue102
  t33 := Try.underlying76
  a33 := Try.isAgg76
  z33 := Try.sizeOf76
  v33 := Try.zeroValue76
def sortedZ_ren : Go.Shelf.Ren := ⟨fun | 6 => 68 | 8 => 91 | 9 => 78 | 11 => 101 | 13 => 100 | 12 => 99 | 23 => 111 | 24 => 112 | 14 => 102 | 15 => 103 | 16 => 104 | 17 => 105 | 18 => 106 | 19 => 107 | 20 => 108 | 21 => 109 | 22 => 110 | 25 => 113 | 26 => 114 | 27 => 115 | 28 => 116 | 29 => 117 | 30 => 118 | 31 => 119 | n => n, fun | 26 => 3 | 28 => 102 | 24 => 35 | 0 => 0 | 3 => 3 | 37 => 130 | 48 => 142 | 50 => 120 | 4 => 4 | 40 => 134 | 39 => 133 | 45 => 139 | 5 => 5 | 9 => 9 | 51 => 144 | 55 => 148 | 57 => 150 | 58 => 151 | 33 => 76 | n => n, fun | n => n⟩
theorem sortedZ : Go.Proofs.SlLaysZI.n6 Try.prog sortedZ_ren where
  mixed := by kernel_rfl
  f6 := ⟨ "slices.Sorted[int]", by decide, Try.func68.trans (congrArg some (by kernel_rfl))⟩
  f8 := ⟨ "slices.Collect[int]", by decide, Try.func91.trans (congrArg some (by kernel_rfl))⟩
  f11 := ⟨ "slices.AppendSeq[[]int,int]", by decide, Try.func101.trans (congrArg some (by kernel_rfl))⟩
  t0 := Try.underlying0
  a0 := Try.isAgg0
  z0 := Try.sizeOf0
  v0 := Try.zeroValue0
  t24 := Try.underlying35
  a24 := Try.isAgg35
  z24 := Try.sizeOf35
  v24 := Try.zeroValue35
  t26 := Try.underlying3
  a26 := Try.isAgg3
  z26 := Try.sizeOf3
  v26 := Try.zeroValue3
  t28 := Try.underlying102
  a28 := Try.isAgg102
  z28 := Try.sizeOf102
  v28 := Try.zeroValue102
  i26 := by kernel_rfl

open Go.Maps Go.Sort Go.Shelf in
theorem sortsZ (m : Nat) : AnyZI.SortsIn Try.prog sortedZ_ren Fence.wide m :=
  ⟨fun blk off cap ss W hH hblk hsz => callsIn_wide.2 (Go.Proofs.Any.slices_Sort_int lays189 blk off cap ss W hH hblk hsz),
   fun p cap W => callsIn_wide.2 (Go.Proofs.Any.slices_Sort_int_none lays189 p cap W)⟩
def R0 : Value → Option (DataW Unit × List MemPlace) := fun _ => some (.nil, [])
def wfI (x : Int) : Prop := (Lit.int .i64 x).wf = true
theorem insert_perm {H : Type} (x : Lit × DataW H) : ∀ l : List (Lit × DataW H), (DataW.insert x l).Perm (x :: l)
  | [] => .refl _
  | y :: r => by
    unfold DataW.insert
    split
    · exact .refl _
    · exact ((insert_perm x r).cons y).trans (List.Perm.swap _ _ _)
theorem foldr_perm {H : Type} : ∀ l : List (Lit × DataW H), (l.foldr DataW.insert []).Perm l
  | [] => .refl _
  | x :: l => (insert_perm x _).trans ((foldr_perm l).cons x)
theorem keyOf_i {x : Int} (h : wfI x) : keyOf Try.prog 3 (.int .i64 x) = some (.int .i64 x) := by
  have hu : Try.prog.underlying 3 = some (.int .i64) := by kernel_rfl
  unfold wfI at h
  simp [keyOf, mapKey, hu, h]
theorem rg_eq {es : List MapEntry} {m : List (Int × Value)} (h : es.map kv = m.map ik) (hw : ∀ p ∈ m, wfI p.1) : es.map (Go.WideElems.rg Try.prog 3 R0) = m.map (fun p => (Lit.int .i64 p.1, DataW.nil)) ∧ ∀ x ∈ es, ∃ y, Go.WideElems.rd Try.prog 3 R0 x = some y := by
  induction es generalizing m with
  | nil => cases m with
    | nil => exact ⟨rfl, by simp⟩
    | cons p m => simp at h
  | cons e es ih => cases m with
    | nil => simp at h
    | cons p m =>
      simp only [List.map_cons, List.cons.injEq] at h
      obtain ⟨h1, h2⟩ := h
      obtain ⟨i1, i2⟩ := ih h2 (fun q hq => hw q (List.mem_cons_of_mem _ hq))
      have hk : e.key = .int .i64 p.1 := congrArg Prod.fst h1
      have hr : Go.WideElems.rd Try.prog 3 R0 e = some (.int .i64 p.1, .nil) := by
        unfold Go.WideElems.rd
        rw [hk, keyOf_i (hw p (by simp))]
        rfl
      refine ⟨?_, fun x hx => ?_⟩
      · rw [List.map_cons, List.map_cons, i1]
        unfold Go.WideElems.rg
        rw [hr]
        rfl
      · rcases List.mem_cons.1 hx with rfl | hx
        · exact ⟨_, hr⟩
        · exact i2 x hx
theorem own_map {b : Nat} {m : List (Int × Value)} {w : World} (h : (mapR b m).holds w) (hn : (m.map (·.1)).Nodup) (hw : ∀ p ∈ m, wfI p.1) (hl : m.length ≤ 1000000) : ∃ D0 : DataW Unit, w.ownsMap Try.prog 3 R0 b m.length D0 ∧ Go.Maps.size D0 = m.length ∧ ∀ ss : List Int, ss.Perm (intKeys D0) → ss.Perm (m.map (·.1)) := by
  obtain ⟨es, clock, h1, h2, h3⟩ := h
  have hlen : es.size = m.length := by have := congrArg List.length h2; simpa using this
  obtain ⟨g1, g2⟩ := rg_eq h2 hw
  have hkeys : (es.toList.map (·.key)) = m.map fun p => Value.int .i64 p.1 := by
    have := congrArg (List.map Prod.fst) h2
    simpa [List.map_map, kv, ik, Function.comp_def] using this
  have hmx : maxLen = 9223372036854775807 := rfl
  refine ⟨_, ⟨es, clock, h1, ⟨by omega, ⟨h3.2, h3.1, ?_⟩, g2⟩, by omega, rfl⟩, ?_, fun ss hs => ?_⟩
  · rw [hkeys]
    have := List.pairwise_map.1 hn
    exact List.pairwise_map.2 (this.imp fun hne e => hne (by injection e))
  · show List.length _ = _
    rw [(foldr_perm _).length_eq, g1, List.length_map]
  · refine hs.trans ?_
    show (List.map _ _).Perm _
    refine ((foldr_perm _).map _).trans ?_
    rw [g1, List.map_map]
    exact .refl _
theorem keys69 (b : Nat) (w : World) : Calls Try.prog 69 #[.map (some b)] w fun e w' => ∃ c : Nat, e = .returned (.func (.func 92) #[] #[.pointer (some ⟨c, 0, none⟩)]) ∧ Ok (domL []) w [row c 93 [.map (some b)]] w' := by
  have h := AnyZI.keys_in keysZ Fence.wide 5 trivial rfl (some b) w
  refine ((callsIn_wide (n := 5)).1 h).mono fun e w' ⟨h1, h2⟩ => ⟨w.heap.size, h1, ?_⟩
  subst h2
  exact (Ok.start w).push (D := fun _ => False) (Chg.alloc _ _ _) (fun _ _ h => h) (row w.heap.size 93 [.map (some b)]) (heap_alloc_new w _) fun k hk => by
    obtain rfl : k = w.heap.size := hk
    exact ⟨by simp, by omega⟩
theorem sorted68 (c b : Nat) (m : List (Int × Value)) (hn : (m.map (·.1)).Nodup) (hw : ∀ p ∈ m, wfI p.1) (hl : m.length ≤ 1000000) (w : World) (hc : (row c 93 [.map (some b)]).holds w) (hm : (mapR b m).holds w) :
    Calls Try.prog 68 #[.func (.func 92) #[] #[.pointer (some ⟨c, 0, none⟩)]] w fun e w' => ∃ a : Option Addr × Nat, e = .returned (.slice a.1 m.length a.2) ∧ Ok (domL []) w [ownd a.1 a.2 3 1 m.length ((srt (m.map (·.1))).flatMap fun a : Int => [Value.int .i64 a])] w' := by
  have hmx : maxLen = 9223372036854775807 := rfl
  obtain ⟨D0, hown, hsz, hperm⟩ := own_map hm hn hw hl
  have hlt : c < w.heap.size := (Array.getElem?_eq_some_iff.1 hc).1
  have hseq : SeqGives Fence.wide 2 Try.prog 92 #[.pointer (some ⟨c, 0, none⟩)] encZ (fun ss => ss.Perm (intKeys D0)) (Go.Maps.size D0) w :=
    AnyZI.keys_gives (ρ := keysZ_ren) { keysZ with } Fence.wide 2 trivial rfl (by omega) c b m.length D0 w hlt (row_cell hc rfl) hown
  have cS := AnyZI.sorted_in sortedZ Fence.wide 5 trivial trivial trivial trivial rfl (by omega) (sortsZ _) (enters_of Try.func78 (by kernel_rfl) rfl) 92 #[.pointer (some ⟨c, 0, none⟩)] trivial (enters_of Try.func92 (by kernel_rfl) rfl) _ _ (by rw [hsz]; omega) (by rw [hsz]; omega) _ hseq
  change CallsIn _ _ Try.prog 68 _ _ _ at cS
  refine ((callsIn_wide (n := 5)).1 cS).mono fun e w' ⟨v, ss, h1, h2, h3, h4, h5⟩ => ?_
  have hp := hperm ss h2
  have hsl : ss.length = m.length := by rw [hp.length_eq, List.length_map]
  have hso : (ss.mergeSort fun x y => decide (x ≤ y)) = srt (m.map (·.1)) := by
    have h6 : (srt ss).Perm (srt (m.map (·.1))) := (srt_perm ss).trans (hp.trans (srt_perm _).symm)
    exact h6.eq_of_pairwise (fun a b _ _ h1 h2 => by omega) (srt_le ss) (srt_le _)
  rw [hso, hsl] at h3
  rw [map_fm]
  obtain ⟨a, rfl⟩ : ∃ a : Option Addr × Nat, v = .slice a.1 m.length a.2 := by
    rcases h3.2 with ⟨e1, e2⟩ | ⟨g, cap, cur, e1, _⟩
    · exact ⟨(none, 0), by rw [e1, e2]⟩
    · exact ⟨(some ⟨g, 0, none⟩, cap), e1⟩
  refine ⟨a, h1, .of (Chg.of_grow h5) (fun r hr => ?_) (fun r hr k hk => ?_) (by simp)⟩
  · obtain rfl := List.mem_singleton.1 hr
    exact ownsRow_base_a h3 (Nat.zero_le _)
  · obtain rfl := List.mem_singleton.1 hr
    have := h3.lt k hk
    exact ⟨this.2, fun h => by omega⟩
end Go.Proofs.Ytikdbgheefjpkaa
