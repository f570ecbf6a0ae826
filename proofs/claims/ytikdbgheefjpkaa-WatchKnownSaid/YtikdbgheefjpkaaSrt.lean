/- Lists of ints in order: the library's Sort, by the kit's contract, laid at this program. -/
import Derived.Test.YtikdbgheefjpkaaBc
import Derived.Test.YtikdbgheefjpkaaObj
import Derived.Shelf.Sort.Plain
import Derived.Shelf.Slices.In.SortNone
set_option maxRecDepth 100000
set_option linter.unusedSimpArgs false
set_option linter.unusedVariables false
namespace Go.Proofs.Ytikdbgheefjpkaa
open Go Go.Sx Go.RowKit
/- The numbers of the library's functions and types here. -/
def lays189_ren : Go.Shelf.Ren := ⟨fun | 189 => 78 | 125 => 100 | 257 => 99 | 128 => 111 | 129 => 112 | 294 => 102 | 295 => 103 | 296 => 104 | 297 => 105 | 298 => 106 | 299 => 107 | 216 => 108 | 300 => 109 | 301 => 110 | 328 => 113 | 329 => 114 | 330 => 115 | 331 => 116 | 332 => 117 | 215 => 118 | 343 => 119 | n => n, fun | 28 => 35 | 3 => 3 | 46 => 130 | 0 => 0 | 51 => 142 | 53 => 120 | 4 => 4 | 183 => 134 | 182 => 133 | 131 => 139 | 5 => 5 | 9 => 9 | 218 => 144 | 222 => 148 | 228 => 150 | 229 => 151 | n => n, fun | n => n⟩
theorem lays189 : Go.Proofs.Lays.n189 Try.prog lays189_ren where
  mixed := by kernel_rfl
  f125 := Try.func100.trans (congrArg some (by kernel_rfl))
  f128 := Try.func111.trans (congrArg some (by kernel_rfl))
  f129 := Try.func112.trans (congrArg some (by kernel_rfl))
  f189 := Try.func78.trans (congrArg some (by kernel_rfl))
  f215 := Try.func118.trans (congrArg some (by kernel_rfl))
  f216 := Try.func108.trans (congrArg some (by kernel_rfl))
  f257 := Try.func99.trans (congrArg some (by kernel_rfl))
  f294 := Try.func102.trans (congrArg some (by kernel_rfl))
  f295 := Try.func103.trans (congrArg some (by kernel_rfl))
  f296 := Try.func104.trans (congrArg some (by kernel_rfl))
  f297 := Try.func105.trans (congrArg some (by kernel_rfl))
  f298 := Try.func106.trans (congrArg some (by kernel_rfl))
  f299 := Try.func107.trans (congrArg some (by kernel_rfl))
  f300 := Try.func109.trans (congrArg some (by kernel_rfl))
  f301 := Try.func110.trans (congrArg some (by kernel_rfl))
  f328 := Try.func113.trans (congrArg some (by kernel_rfl))
  f329 := Try.func114.trans (congrArg some (by kernel_rfl))
  f330 := Try.func115.trans (congrArg some (by kernel_rfl))
  f331 := Try.func116.trans (congrArg some (by kernel_rfl))
  f332 := Try.func117.trans (congrArg some (by kernel_rfl))
  f343 := Try.func119.trans (congrArg some (by kernel_rfl))
  t0 := Try.underlying0
  a0 := Try.isAgg0
  z0 := Try.sizeOf0
  v0 := Try.zeroValue0
  t3 := Try.underlying3
  a3 := Try.isAgg3
  z3 := Try.sizeOf3
  v3 := Try.zeroValue3
  t4 := Try.underlying4
  a4 := Try.isAgg4
  z4 := Try.sizeOf4
  v4 := Try.zeroValue4
  t5 := Try.underlying5
  a5 := Try.isAgg5
  z5 := Try.sizeOf5
  v5 := Try.zeroValue5
  t9 := Try.underlying9
  a9 := Try.isAgg9
  z9 := Try.sizeOf9
  v9 := Try.zeroValue9
  t28 := Try.underlying35
  a28 := Try.isAgg35
  z28 := Try.sizeOf35
  v28 := Try.zeroValue35
  t46 := Try.underlying130
  a46 := Try.isAgg130
  z46 := Try.sizeOf130
  v46 := Try.zeroValue130
  t51 := Try.underlying142
  a51 := Try.isAgg142
  z51 := Try.sizeOf142
  v51 := Try.zeroValue142
  t53 := Try.underlying120
  a53 := Try.isAgg120
  z53 := Try.sizeOf120
  v53 := Try.zeroValue120
  t131 := Try.underlying139
  a131 := Try.isAgg139
  z131 := Try.sizeOf139
  v131 := Try.zeroValue139
  t182 := Try.underlying133
  a182 := Try.isAgg133
  z182 := Try.sizeOf133
  v182 := Try.zeroValue133
  t183 := Try.underlying134
  a183 := Try.isAgg134
  z183 := Try.sizeOf134
  v183 := Try.zeroValue134
  t218 := Try.underlying144
  a218 := Try.isAgg144
  z218 := Try.sizeOf144
  v218 := Try.zeroValue144
  t222 := Try.underlying148
  a222 := Try.isAgg148
  z222 := Try.sizeOf148
  v222 := Try.zeroValue148
  t228 := Try.underlying150
  a228 := Try.isAgg150
  z228 := Try.sizeOf150
  v228 := Try.zeroValue150
  t229 := Try.underlying151
  a229 := Try.isAgg151
  z229 := Try.sizeOf151
  v229 := Try.zeroValue151
/-- In order. -/
def srt (xs : List Int) : List Int := xs.mergeSort fun x y => decide (x ≤ y)
theorem srt_len (xs : List Int) : (srt xs).length = xs.length := List.length_mergeSort ..
theorem putCells_row (ys : List Int) (zs : List Value) (rest : List Value) (h : ys.length = zs.length) : Go.Sort.putCells (Value.int .i64) 0 ys.toArray (zs ++ rest).toArray = (ys.map (Value.int .i64) ++ rest).toArray := by
  apply Array.ext_getElem?
  intro k
  unfold Go.Sort.putCells
  rw [Array.getElem?_mapIdx]
  by_cases hk : k < ys.length
  · have h1 : k < (zs ++ rest).length := by rw [List.length_append]; omega
    rw [List.getElem?_toArray, List.getElem?_toArray, List.getElem?_append_left (by omega), List.getElem?_append_left (by simpa using hk), List.getElem?_map, List.getElem?_eq_getElem hk, List.getElem?_eq_getElem (by omega)]
    simp [hk]
  · rw [List.getElem?_toArray, List.getElem?_toArray, List.getElem?_append_right (by omega), List.getElem?_append_right (by simpa using hk)]
    cases hr : rest[k - zs.length]? with
    | none => simp [h, hr]
    | some v => simp [h, hr]; intro hh; omega
theorem map_fm (xs : List Int) : xs.flatMap (fun a : Int => [Value.int .i64 a]) = xs.map (Value.int .i64) := by
  induction xs with
  | nil => rfl
  | cons x xs ih => rw [List.flatMap_cons, ih]; rfl
/-- Sort puts a list of its own in order. -/
theorem sort78 (ad : Option Addr) (cap : Nat) (xs : List Int) (hs : xs.length ≤ 1000000) (w : World) (h0 : Ok (domL [ownd ad cap 3 1 xs.length (xs.flatMap fun a : Int => [Value.int .i64 a])]) w [ownd ad cap 3 1 xs.length (xs.flatMap fun a : Int => [Value.int .i64 a])] w) :
    Calls Try.prog 78 #[.slice ad xs.length cap] w fun e w' => ∃ u : Unit, e = .returned (.tuple #[]) ∧ Ok (domL [ownd ad cap 3 1 xs.length (xs.flatMap fun a : Int => [Value.int .i64 a])]) w [ownd ad cap 3 1 xs.length ((srt xs).flatMap fun a : Int => [Value.int .i64 a])] w' := by
  have f78 : lays189_ren.f 189 = 78 := rfl
  by_cases hz : xs = []
  · subst hz
    have h1 := Go.Proofs.Any.slices_Sort_int_none lays189 ad cap w
    rw [f78] at h1
    refine h1.mono fun e w' ⟨h2, h3⟩ => ⟨(), h2, ?_⟩
    subst h3
    have e0 : srt [] = [] := by simp [srt]
    rw [e0]
    exact h0
  have hpos : 0 < xs.length := List.length_pos_iff.2 hz
  obtain ⟨b, rfl⟩ : ∃ b, ad = some ⟨b, 0, none⟩ := by
    obtain ⟨b, e, _⟩ := (own_at (h0.holds 0 _ rfl)).2.1 hpos
    exact ⟨b, e⟩
  obtain ⟨rest, e1, e2, e3, e4, e5⟩ := own_open (h0.holds 0 _ rfl)
  rw [map_fm] at e1 e2 e5
  have hb : w.heap[b]? = some (.cells (xs.map (Value.int .i64) ++ rest).toArray 3 (0, 0)) := e5
  have hlt : b < w.heap.size := (Array.getElem?_eq_some_iff.1 hb).1
  have hH : Go.Sort.Holds (Value.int .i64) w b 0 xs.toArray := fun j hj => by
    have hj' : j < xs.length := by simpa using hj
    refine ⟨?_, ?_⟩
    · refine row_cell e5 ?_
      rw [Nat.zero_add, List.getElem?_append_left (by simpa using hj'), List.getElem?_map, List.getElem?_eq_getElem hj']
      simp [hj']
    · simp [World.frozen?, hb]
  have h1 := Go.Proofs.Any.slices_Sort_int lays189 b 0 cap xs w hH hlt (by omega)
  rw [f78] at h1
  refine h1.mono fun e w' ⟨h2, n, os, h3⟩ => ⟨(), h2, ?_⟩
  have hput := putCells_row (srt xs) (xs.map (Value.int .i64)) rest (by rw [srt_len]; simp)
  have hheap : w'.heap = (w.heap.modify b (Go.Sort.onCells (Go.Sort.putCells (Value.int .i64) 0 (srt xs).toArray))) ++ os := by
    rw [h3]
    rfl
  have hnew : w'.heap[b]? = some (.cells ((srt xs).map (Value.int .i64) ++ rest).toArray 3 (0, 0)) := by
    rw [hheap, Array.getElem?_append_left (by simpa using hlt), Array.getElem?_modify, if_pos rfl, hb]
    simp only [Option.map_some, Go.Sort.onCells]
    rw [hput]
  have hchg : Chg (fun k => k = b) w w' := by
    refine ⟨by rw [h3]; rfl, by rw [h3]; rfl, by rw [h3]; rfl, by rw [hheap]; simp, fun k hk hd => ?_⟩
    rw [hheap, Array.getElem?_append_left (by simpa using hk), Array.getElem?_modify, if_neg (fun e => hd e.symm)]
  have hrow : (row b 3 ((srt xs).map (Value.int .i64) ++ rest)).holds w' := hnew
  have hown := own_close (cap := cap) (len := xs.length) (z := 1) (by simp [srt_len]) (by rw [← e2]; simp [srt_len]) e3 e4 hrow
  rw [← map_fm] at hown
  have hdom : ∀ k, (ownd (some ⟨b, 0, none⟩) cap 3 1 xs.length ((srt xs).flatMap fun a : Int => [Value.int .i64 a])).dom k → k = b := fun k hk => by
    have : (Value.slice (some ⟨b, 0, none⟩) xs.length cap).ownBlock = some k := hk
    simp [Value.ownBlock] at this
    exact this.symm
  have hdom2 : domL [ownd (some ⟨b, 0, none⟩) cap 3 1 xs.length (xs.flatMap fun a : Int => [Value.int .i64 a])] b := ⟨0, _, rfl, by show (Value.slice (some ⟨b, 0, none⟩) xs.length cap).ownBlock = some b; simp [Value.ownBlock]⟩
  refine .of (hchg.mono fun k _ hk => by rw [hk]; exact hdom2) (fun r hr => ?_) (fun r hr k hk => ?_) (by simp)
  · obtain rfl := List.mem_singleton.1 hr
    exact hown
  · obtain rfl := List.mem_singleton.1 hr
    obtain rfl := hdom k hk
    exact ⟨Nat.lt_of_lt_of_le hlt hchg.size, fun _ => hdom2⟩
theorem srt_mem {xs : List Int} {x : Int} : x ∈ srt xs ↔ x ∈ xs := List.mem_mergeSort
theorem srt_le (xs : List Int) : (srt xs).Pairwise (· ≤ ·) := by
  have := List.pairwise_mergeSort (le := fun x y : Int => decide (x ≤ y)) (fun a b c h1 h2 => by simp at *; omega) (fun a b => by simp; omega) xs
  simpa [srt] using this
theorem srt_perm (xs : List Int) : (srt xs).Perm xs := List.mergeSort_perm ..
/-- A rising list is told by what is in it. -/
theorem rise_eq : ∀ {l m : List Int}, l.Pairwise (· < ·) → m.Pairwise (· < ·) → (∀ x, x ∈ l ↔ x ∈ m) → l = m
  | [], [], _, _, _ => rfl
  | [], y :: m, _, _, h => by have := (h y).2 (by simp); simp at this
  | x :: l, [], _, _, h => by have := (h x).1 (by simp); simp at this
  | x :: l, y :: m, h1, h2, h => by
    have h1' := List.pairwise_cons.1 h1
    have h2' := List.pairwise_cons.1 h2
    have hxy : x = y := by
      have hx := (h x).1 (by simp)
      have hy := (h y).2 (by simp)
      rcases List.mem_cons.1 hx with e | hx
      · exact e
      · rcases List.mem_cons.1 hy with e | hy
        · exact e.symm
        · have := h1'.1 y hy
          have := h2'.1 x hx
          omega
    subst hxy
    congr 1
    refine rise_eq h1'.2 h2'.2 fun z => ⟨fun hz => ?_, fun hz => ?_⟩
    · rcases List.mem_cons.1 ((h z).1 (List.mem_cons_of_mem _ hz)) with e | h3
      · subst e; have := h1'.1 z hz; omega
      · exact h3
    · rcases List.mem_cons.1 ((h z).2 (List.mem_cons_of_mem _ hz)) with e | h3
      · subst e; have := h2'.1 z hz; omega
      · exact h3
theorem srt_rise {xs : List Int} (h : xs.Nodup) : (srt xs).Pairwise (· < ·) := by
  have h1 := srt_le xs
  have h2 : (srt xs).Pairwise (· ≠ ·) := (srt_perm xs).symm.pairwise h (fun h e => h e.symm)
  exact (h1.and h2).imp fun ⟨a, b⟩ => by omega
end Go.Proofs.Ytikdbgheefjpkaa
