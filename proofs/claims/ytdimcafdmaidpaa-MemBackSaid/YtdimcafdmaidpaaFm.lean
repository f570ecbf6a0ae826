/- Frames as plain data, and as cells: what stands where, what a store makes of them. -/
import Derived.Test.YtdimcafdmaidpaaEnv
set_option linter.unusedVariables false
set_option linter.unusedSimpArgs false
namespace Go.Proofs.Ytdimcafdmaidpaa
open Go Go.Sx Go.RowKit
structure V3 where
  k : Int
  n : Int
  i : Int
  deriving DecidableEq, Inhabited
structure SL where
  v : V3
  b : Nat → Int
  a : Int
  deriving Inhabited
structure Fr where
  prog : Int
  pc : Int
  tails : Int
  R : Nat → V3
  S : Nat → SL
  deriving Inhabited
def cV (v : V3) : List Value := [.int .i64 v.k, .int .u64 v.n, .int .i64 v.i]
def cB (b : Nat → Int) : List Value := tab 8 fun j => [.int .u8 (b j)]
def cS (s : SL) : List Value := cV s.v ++ (cB s.b ++ [.int .u8 s.a])
def cRs (R : Nat → V3) : List Value := tab 11 fun i => cV (R i)
def cSs (S : Nat → SL) : List Value := tab 64 fun i => cS (S i)
def cF (f : Fr) : List Value := [.int .i64 f.prog, .int .i64 f.pc, .int .i64 f.tails] ++ (cRs f.R ++ cSs f.S)
def kV : List LK := [.int .i64, .int .u64, .int .i64]
def kB : List LK := tab 8 fun _ => [.int .u8]
def kS : List LK := kV ++ (kB ++ [.int .u8])
def kRs : List LK := tab 11 fun _ => kV
def kSs : List LK := tab 64 fun _ => kS
def kF : List LK := [.int .i64, .int .i64, .int .i64] ++ (kRs ++ kSs)
instance : FlatT Try.prog 24 kV := ⟨⟨by kernel_rfl, by kernel_rfl, by kernel_rfl⟩⟩
instance : FlatT Try.prog 25 kRs := ⟨⟨by kernel_rfl, by kernel_rfl, by kernel_rfl⟩⟩
instance : FlatT Try.prog 28 kS := ⟨⟨by kernel_rfl, by kernel_rfl, by kernel_rfl⟩⟩
instance : FlatT Try.prog 29 kSs := ⟨⟨by kernel_rfl, by kernel_rfl, by kernel_rfl⟩⟩
instance : FlatT Try.prog 31 kF := ⟨⟨by kernel_rfl, by kernel_rfl, by kernel_rfl⟩⟩
theorem len_V (v : V3) : (cV v).length = 3 := rfl
theorem len_B (b : Nat → Int) : (cB b).length = 8 := tab_length (z := 1) (fun _ => rfl) 8
theorem len_S (s : SL) : (cS s).length = 12 := by simp [cS, len_V, len_B]
theorem len_Rs (R : Nat → V3) : (cRs R).length = 33 := tab_length (fun i => len_V _) 11
theorem len_Ss (S : Nat → SL) : (cSs S).length = 768 := tab_length (fun i => len_S _) 64
theorem len_F (f : Fr) : (cF f).length = 804 := by simp [cF, len_Rs, len_Ss]
instance (v : V3) : Fits kV (cV v) := ⟨rfl⟩
instance (b : Nat → Int) : Fits kB (cB b) := ⟨allFit_tab (fun _ => rfl) 8⟩
instance fits_S (s : SL) : Fits kS (cS s) := ⟨allFit_append rfl (allFit_append (Fits.fits (ks := kB)) rfl)⟩
instance fits_Rs (R : Nat → V3) : Fits kRs (cRs R) := ⟨allFit_tab (fun _ => rfl) 11⟩
instance fits_Ss (S : Nat → SL) : Fits kSs (cSs S) := ⟨allFit_tab (fun _ => Fits.fits) 64⟩
instance fits_F (f : Fr) : Fits kF (cF f) := ⟨allFit_append rfl (allFit_append (fits_Rs _).fits (fits_Ss _).fits)⟩
instance cl_V (v : V3) : Cl (cV v) 3 := ⟨rfl, rfl⟩
instance cl_S (s : SL) : Cl (cS s) 12 := ⟨len_S s, by
  have h1 := oneCells_tab (f := fun j => [Value.int .u8 (s.b j)]) (fun _ => rfl) 8
  simp only [cS, cB, List.all_append, h1]; rfl⟩
instance cl_F (f : Fr) : Cl (cF f) 804 := ⟨len_F f, by
  have h1 := oneCells_tab (f := fun i => cV (f.R i)) (fun _ => rfl) 11
  have h2 := oneCells_tab (f := fun i => cS (f.S i)) (fun i => (cl_S _).one) 64
  simp only [cF, cRs, cSs, List.all_append, h1, h2]; rfl⟩
theorem rd_prog (f : Fr) : (cF f)[0]? = some (.int .i64 f.prog) := rfl
theorem rd_pc (f : Fr) : (cF f)[1]? = some (.int .i64 f.pc) := rfl
theorem rd_tails (f : Fr) : (cF f)[2]? = some (.int .i64 f.tails) := rfl
theorem vw_R (f : Fr) {i : Nat} (hi : i < 11) : Vw (cF f) (3 + i * 3) (cV (f.R i)) :=
  Vw.right _ (Vw.left _ (by rw [len_Rs]; simp [len_V]; omega) (Vw.tab (fun i => len_V _) hi (c := 0) (by simp [len_V]) (Vw.all _)))
theorem vw_S (f : Fr) {i : Nat} (hi : i < 64) : Vw (cF f) (36 + i * 12) (cS (f.S i)) := by
  have := Vw.right (cRs f.R) (Vw.tab (f := fun i => cS (f.S i)) (fun i => len_S _) hi (c := 0) (by simp [len_S]) (Vw.all (cS (f.S i))))
  rw [len_Rs] at this
  have h := Vw.right [.int .i64 f.prog, .int .i64 f.pc, .int .i64 f.tails] this
  have e : [Value.int .i64 f.prog, .int .i64 f.pc, .int .i64 f.tails].length + (33 + (i * 12 + 0)) = 36 + i * 12 := by simp; omega
  rw [e] at h
  exact h
theorem vw_SV (f : Fr) {i : Nat} (hi : i < 64) : Vw (cF f) (36 + i * 12) (cV (f.S i).v) := by
  have := Vw.right (cRs f.R) (Vw.tab (f := fun i => cS (f.S i)) (fun i => len_S _) hi (c := 0) (by simp [len_V]) (Vw.left (cB (f.S i).b ++ [.int .u8 (f.S i).a]) (by simp) (Vw.all (cV (f.S i).v))))
  rw [len_Rs] at this
  have h := Vw.right [.int .i64 f.prog, .int .i64 f.pc, .int .i64 f.tails] this
  have e : [Value.int .i64 f.prog, .int .i64 f.pc, .int .i64 f.tails].length + (33 + (i * 12 + 0)) = 36 + i * 12 := by simp; omega
  rw [e] at h
  exact h
theorem vw_Rs (f : Fr) : Vw (cF f) 3 (cRs f.R) := Vw.right [_, _, _] (Vw.left _ (by omega) (Vw.all _))
theorem vw_Ss (f : Fr) : Vw (cF f) 36 (cSs f.S) := by
  have h := Vw.right [.int .i64 f.prog, .int .i64 f.pc, .int .i64 f.tails] (Vw.right (cRs f.R) (Vw.all (cSs f.S)))
  rw [len_Rs] at h
  exact h
theorem vw_RR (R : Nat → V3) {i : Nat} (hi : i < 11) : Vw (cRs R) (i * 3) (cV (R i)) := Vw.tab (fun i => len_V _) hi (c := 0) (by simp [len_V]) (Vw.all _)
def Fr.setR (f : Fr) (i : Nat) (v : V3) : Fr := { f with R := fset f.R i v }
def Fr.setS (f : Fr) (i : Nat) (s : SL) : Fr := { f with S := fset f.S i s }
def Fr.setProg (f : Fr) (a : Int) : Fr := { f with prog := a }
def Fr.setPc (f : Fr) (a : Int) : Fr := { f with pc := a }
def Fr.setTails (f : Fr) (a : Int) : Fr := { f with tails := a }
theorem sp_R (f : Fr) {i : Nat} (hi : i < 11) (v : V3) : Sp (cF f) (3 + i * 3) (cV v) (cF (f.setR i v)) := by
  have := Sp.right [.int .i64 f.prog, .int .i64 f.pc, .int .i64 f.tails] (Sp.left (cSs f.S) (Sp.tab (f := fun i => cV (f.R i)) (fun i => len_V _) hi (c := 0) (by simp [len_V]) (Sp.all (vs := cV (f.R i)) (us := cV v) rfl)))
  rw [tab_fset] at this
  exact this
theorem sp_S (f : Fr) {i : Nat} (hi : i < 64) (s : SL) : Sp (cF f) (36 + i * 12) (cS s) (cF (f.setS i s)) := by
  have := Sp.right (cRs f.R) (Sp.tab (f := fun i => cS (f.S i)) (fun i => len_S _) hi (c := 0) (by simp [len_S]) (Sp.all (vs := cS (f.S i)) (us := cS s) (by rw [len_S, len_S])))
  rw [len_Rs, tab_fset] at this
  have h := Sp.right [.int .i64 f.prog, .int .i64 f.pc, .int .i64 f.tails] this
  have e : [Value.int .i64 f.prog, .int .i64 f.pc, .int .i64 f.tails].length + (33 + (i * 12 + 0)) = 36 + i * 12 := by simp; omega
  rw [e] at h
  exact h
def clr (f : Fr) : Fr := { f with R := fun j => if 1 ≤ j ∧ j < 6 then ⟨0, 0, 0⟩ else f.R j }
theorem sp_clr (f : Fr) : Sp (cF f) 6 (tab 5 fun _ => cV ⟨0, 0, 0⟩) (cF (clr f)) := by
  have := Sp.right [.int .i64 f.prog, .int .i64 f.pc, .int .i64 f.tails] (Sp.left (cSs f.S) (Sp.tabs (n := 11) (i := 1) (m := 5) (f := fun i => cV (f.R i)) (g := fun _ => cV ⟨0, 0, 0⟩) (z := 3) (fun i => len_V _) (fun i => len_V _) (by omega)))
  have e : (tab 11 fun j => if 1 ≤ j ∧ j < 1 + 5 then cV ⟨0, 0, 0⟩ else cV (f.R j)) = cRs (clr f).R := tab_congr 11 fun j _ => by simp only [clr]; split <;> rfl
  rw [e] at this
  exact this
theorem sp_prog (f : Fr) (a : Int) : Sp (cF f) 0 [.int .i64 a] (cF (f.setProg a)) := Sp.left _ (xs := [_, _, _]) (Sp.lit rfl rfl)
theorem sp_pc (f : Fr) (a : Int) : Sp (cF f) 1 [.int .i64 a] (cF (f.setPc a)) := Sp.left _ (xs := [_, _, _]) (Sp.lit rfl rfl)
theorem sp_tails (f : Fr) (a : Int) : Sp (cF f) 2 [.int .i64 a] (cF (f.setTails a)) := Sp.left _ (xs := [_, _, _]) (Sp.lit rfl rfl)
theorem vr_F (f : Fr) : Vr (cF f) 0 804 (cF f) := .all (len_F f)
theorem vr_V (v : V3) : Vr (cV v) 0 3 (cV v) := .all (len_V v)
theorem vr_S' (s : SL) : Vr (cS s) 0 12 (cS s) := .all (len_S s)
theorem vr_R (f : Fr) {i : Nat} (hi : i < 11) : Vr (cF f) (3 + i * 3) 3 (cV (f.R i)) := ⟨vw_R f hi, len_V _⟩
theorem vr_S (f : Fr) {i : Nat} (hi : i < 64) : Vr (cF f) (36 + i * 12) 12 (cS (f.S i)) := ⟨vw_S f hi, len_S _⟩
theorem vr_SV (f : Fr) {i : Nat} (hi : i < 64) : Vr (cF f) (36 + i * 12) 3 (cV (f.S i).v) := ⟨vw_SV f hi, len_V _⟩
theorem vr_Rs (f : Fr) : Vr (cF f) 3 33 (cRs f.R) := ⟨vw_Rs f, len_Rs _⟩
theorem vr_Ss (f : Fr) : Vr (cF f) 36 768 (cSs f.S) := ⟨vw_Ss f, len_Ss _⟩
theorem vr_RR (R : Nat → V3) {i : Nat} (hi : i < 11) : Vr (cRs R) (i * 3) 3 (cV (R i)) := ⟨vw_RR R hi, len_V _⟩
attribute [instance] fl39 ze39 ze3 ze5 ze22 ze4
def V3.o : V3 := ⟨0, 0, 0⟩
def SL.o : SL := ⟨V3.o, fun _ => 0, 0⟩
def Fr.o : Fr := ⟨0, 0, 0, fun _ => V3.o, fun _ => SL.o⟩
instance : ZeroT Try.prog 24 (cV V3.o) := ⟨by kernel_rfl⟩
instance : ZeroT Try.prog 28 (cS SL.o) := ⟨by kernel_rfl⟩
instance : ZeroT Try.prog 31 (cF Fr.o) := ⟨by kernel_rfl⟩
theorem b24_0 : Blt Try.prog 24 [] (cV V3.o) := ⟨by kernel_rfl⟩
theorem b24_1 (k : Int) : Blt Try.prog 24 [(0, .int .i64 k)] (cV ⟨k, 0, 0⟩) := ⟨by kernel_rfl⟩
theorem b24_2 (k n : Int) : Blt Try.prog 24 [(0, .int .i64 k), (1, .int .u64 n)] (cV ⟨k, n, 0⟩) := ⟨by kernel_rfl⟩
theorem b25_1 (v u : V3) : Blt Try.prog 25 [(1, .agg (cV v).toArray), (10, .agg (cV u).toArray)] (cRs (fset (fset (fun _ => V3.o) 1 v) 10 u)) := ⟨by kernel_rfl⟩
theorem b31_1 (p t : Int) : Blt Try.prog 31 [(0, .int .i64 p), (2, .int .i64 t)] (cF ⟨p, 0, t, fun _ => V3.o, fun _ => SL.o⟩) := ⟨by kernel_rfl⟩
theorem b31_2 (p t : Int) (R : Nat → V3) : Blt Try.prog 31 [(0, .int .i64 p), (2, .int .i64 t), (3, .agg (cRs R).toArray)] (cF ⟨p, 0, t, R, fun _ => SL.o⟩) := ⟨by kernel_rfl⟩
theorem b28_0 : Blt Try.prog 28 [] (cS SL.o) := ⟨by kernel_rfl⟩
theorem b29_0 : Blt Try.prog 29 [] (cSs fun _ => SL.o) := ⟨by kernel_rfl⟩
theorem cV_inj {a b : V3} : cV a = cV b ↔ a = b := by
  cases a; cases b; simp [cV]
theorem eqs_V {a b : V3} : eqs (cV a) (cV b) = decide (a = b) := by
  have := (eqs_of (ks := kV) (xs := cV a) (ys := cV b)).trans cV_inj
  cases h : eqs (cV a) (cV b) <;> simp_all
theorem eqs_S {a b : SL} : eqs (cS a) (cS b) = true ↔ cS a = cS b := eqs_of (ks := kS)
theorem cF_inj {f g : Fr} : cF f = cF g ↔ f.prog = g.prog ∧ f.pc = g.pc ∧ f.tails = g.tails ∧ (∀ i, i < 11 → f.R i = g.R i) ∧ ∀ i, i < 64 → cS (f.S i) = cS (g.S i) := by
  have h1 := tab_inj (f := fun i => cV (f.R i)) (g := fun i => cV (g.R i)) (fun i => len_V _) (fun i => len_V _) 11
  have h2 := tab_inj (f := fun i => cS (f.S i)) (g := fun i => cS (g.S i)) (fun i => len_S _) (fun i => len_S _) 64
  have h3 : cRs f.R ++ cSs f.S = cRs g.R ++ cSs g.S ↔ cRs f.R = cRs g.R ∧ cSs f.S = cSs g.S := ⟨fun h => List.append_inj h (by rw [len_Rs, len_Rs]), fun h => by rw [h.1, h.2]⟩
  simp only [cF, List.cons_append, List.nil_append, List.cons.injEq, Value.int.injEq, true_and, h3]
  simp only [cRs, cSs, h1, h2, cV_inj]
theorem eqs_F {f g : Fr} : eqs (cF f) (cF g) = true ↔ cF f = cF g := eqs_of (ks := kF)
theorem of_V (vs : List Value) (h : allFit kV vs = true) : ∃ v, vs = cV v := by
  match vs, h with
  | [.int .i64 a, .int .u64 b, .int .i64 c], _ => exact ⟨⟨a, b, c⟩, rfl⟩
theorem of_1 (vs : List Value) (h : allFit [.int .u8] vs = true) : ∃ a : Int, vs = [.int .u8 a] := by
  match vs, h with
  | [.int .u8 a], _ => exact ⟨a, rfl⟩
theorem of_S (vs : List Value) (h : allFit kS vs = true) : ∃ s, vs = cS s := by
  obtain ⟨h1, h2⟩ := allFit_take_drop _ _ _ h
  obtain ⟨h3, h4⟩ := allFit_take_drop _ _ _ h2
  obtain ⟨v, hv⟩ := of_V _ h1
  obtain ⟨b, hb⟩ := tab_of (c := fun a : Int => [Value.int .u8 a]) of_1 8 _ h3
  obtain ⟨a, ha⟩ := of_1 _ h4
  refine ⟨⟨v, b, a⟩, ?_⟩
  unfold cS cB
  rw [← hv, ← hb, ← ha, List.take_append_drop, List.take_append_drop]
theorem of_F (vs : List Value) (h : allFit kF vs = true) : ∃ f, vs = cF f := by
  obtain ⟨h1, h2⟩ := allFit_take_drop _ _ _ h
  obtain ⟨h3, h4⟩ := allFit_take_drop _ _ _ h2
  obtain ⟨R, hR⟩ := tab_of of_V 11 _ h3
  obtain ⟨S, hS⟩ := tab_of of_S 64 _ h4
  obtain ⟨p, q, r, hp⟩ : ∃ p q r : Int, vs.take 3 = [.int .i64 p, .int .i64 q, .int .i64 r] := by
    match vs.take 3, h1 with
    | [.int .i64 a, .int .i64 b, .int .i64 c], _ => exact ⟨a, b, c, rfl⟩
  refine ⟨⟨p, q, r, R, S⟩, ?_⟩
  unfold cF cRs cSs
  rw [← hp, ← hR, ← hS, List.take_append_drop]
  exact (List.take_append_drop 3 vs).symm
theorem cF_congr {f g : Fr} (h1 : f.prog = g.prog) (h2 : f.pc = g.pc) (h3 : f.tails = g.tails) (h4 : ∀ i, i < 11 → f.R i = g.R i) (h5 : ∀ i, i < 64 → f.S i = g.S i) : cF f = cF g :=
  cF_inj.2 ⟨h1, h2, h3, h4, fun i hi => by rw [h5 i hi]⟩
theorem rd_Rk (f : Fr) {i : Nat} (hi : i < 11) : (cF f)[3 + i * 3]? = some (.int .i64 (f.R i).k) := (vw_R f hi).get (j := 0) rfl
theorem rd_Sk (f : Fr) {i : Nat} (hi : i < 64) : (cF f)[36 + i * 12]? = some (.int .i64 (f.S i).v.k) := (vw_SV f hi).get (j := 0) rfl
theorem b39_2 (a b : Int) : Blt Try.prog 39 [(0, .int .i64 a), (1, .int .u64 b)] [.int .i64 a, .int .u64 b] := ⟨by kernel_rfl⟩
theorem b28_1 (v : V3) : Blt Try.prog 28 [(0, .agg (cV v).toArray)] (cS ⟨v, fun _ => 0, 0⟩) := ⟨by kernel_rfl⟩
theorem rd_Vk (v : V3) : (cV v)[0]? = some (.int .i64 v.k) := rfl
theorem rd_Vn (v : V3) : (cV v)[1]? = some (.int .u64 v.n) := rfl
theorem rd_Vi (v : V3) : (cV v)[2]? = some (.int .i64 v.i) := rfl
theorem vw_SV' (s : SL) : Vw (cS s) 0 (cV s.v) := Vw.left _ (by simp [len_V]) (Vw.all _)
theorem vr_SV' (s : SL) : Vr (cS s) 0 3 (cV s.v) := ⟨vw_SV' s, len_V _⟩
def SL.setB (s : SL) (k : Nat) (c : Int) : SL := { s with b := fset s.b k c }
def SL.setA (s : SL) (a : Int) : SL := { s with a := a }
theorem vw_Sb (s : SL) {k : Nat} (hk : k < 8) : Vw (cS s) (3 + k * 1) [.int .u8 (s.b k)] := by
  have h := Vw.right (cV s.v) (Vw.left (xs := cB s.b) [Value.int .u8 s.a] (by rw [len_B]; simp; omega) (Vw.tab (f := fun j => [Value.int .u8 (s.b j)]) (z := 1) (fun _ => rfl) hk (c := 0) (by simp) (Vw.all _)))
  rw [len_V] at h
  exact h
theorem vw_Sa (s : SL) : Vw (cS s) 11 [.int .u8 s.a] := by
  have h := Vw.right (cV s.v) (Vw.right (cB s.b) (Vw.all [Value.int .u8 s.a]))
  rw [len_V, len_B] at h
  exact h
theorem sp_Sb1 (s : SL) {k : Nat} (hk : k < 8) (c : Int) : Sp (cS s) (3 + k * 1) [.int .u8 c] (cS (s.setB k c)) := by
  have h := Sp.right (cV s.v) (Sp.left [Value.int .u8 s.a] (Sp.tab (f := fun j => [Value.int .u8 (s.b j)]) (z := 1) (fun _ => rfl) hk (c := 0) (us := [.int .u8 c]) (vs := [.int .u8 c]) (by simp) (Sp.lit rfl rfl)))
  rw [len_V, tab_fset 8 (fun j => [Value.int .u8 j]) s.b k c] at h
  exact h
theorem sp_Sa1 (s : SL) (c : Int) : Sp (cS s) 11 [.int .u8 c] (cS (s.setA c)) := by
  have h := Sp.right (cV s.v) (Sp.right (cB s.b) (Sp.lit (vs := [Value.int .u8 s.a]) (us := [.int .u8 c]) (off := 0) rfl rfl))
  rw [len_V, len_B] at h
  exact h
theorem vw_Sx (f : Fr) {i o : Nat} {us : List Value} (hi : i < 64) (ho : o + us.length ≤ 12) (h : Vw (cS (f.S i)) o us) : Vw (cF f) (36 + i * 12 + o) us := by
  have := Vw.right (cRs f.R) (Vw.tab (f := fun i => cS (f.S i)) (fun i => len_S _) hi (c := o) ho h)
  rw [len_Rs] at this
  have h := Vw.right [.int .i64 f.prog, .int .i64 f.pc, .int .i64 f.tails] this
  have e : [Value.int .i64 f.prog, .int .i64 f.pc, .int .i64 f.tails].length + (33 + (i * 12 + o)) = 36 + i * 12 + o := by simp; omega
  rw [e] at h
  exact h
theorem sp_Sx (f : Fr) {i o : Nat} {us : List Value} (hi : i < 64) (s : SL) (ho : o + us.length ≤ 12) (h : Sp (cS (f.S i)) o us (cS s)) : Sp (cF f) (36 + i * 12 + o) us (cF (f.setS i s)) := by
  have := Sp.right (cRs f.R) (Sp.tab (f := fun i => cS (f.S i)) (fun i => len_S _) hi (c := o) ho h)
  rw [len_Rs, tab_fset] at this
  have h := Sp.right [.int .i64 f.prog, .int .i64 f.pc, .int .i64 f.tails] this
  have e : [Value.int .i64 f.prog, .int .i64 f.pc, .int .i64 f.tails].length + (33 + (i * 12 + o)) = 36 + i * 12 + o := by simp; omega
  rw [e] at h
  exact h
theorem rd_Sb (f : Fr) {i k : Nat} (hi : i < 64) (hk : k < 8) : (cF f)[36 + i * 12 + 3 + k * 1]? = some (.int .u8 ((f.S i).b k)) := by
  have := (vw_Sx f hi (by simp; omega) (vw_Sb (f.S i) hk)).get (j := 0) rfl
  rw [Nat.add_zero, ← Nat.add_assoc] at this
  exact this
theorem rd_Sa (f : Fr) {i : Nat} (hi : i < 64) : (cF f)[36 + i * 12 + 11]? = some (.int .u8 (f.S i).a) := (vw_Sx f hi (by simp) (vw_Sa (f.S i))).get (j := 0) rfl
theorem sp_Sb (f : Fr) {i k : Nat} (hi : i < 64) (hk : k < 8) (c : Int) : Sp (cF f) (36 + i * 12 + 3 + k * 1) [.int .u8 c] (cF (f.setS i ((f.S i).setB k c))) := by
  have := sp_Sx f hi _ (by simp; omega) (sp_Sb1 (f.S i) hk c)
  rw [← Nat.add_assoc] at this
  exact this
theorem sp_Sa (f : Fr) {i : Nat} (hi : i < 64) (c : Int) : Sp (cF f) (36 + i * 12 + 11) [.int .u8 c] (cF (f.setS i ((f.S i).setA c))) := sp_Sx f hi _ (by simp) (sp_Sa1 (f.S i) c)
def zF : List Value := [.int .i64 0, .int .i64 0, .int .i64 0, .int .i64 0, .int .u64 0, .int .i64 0, .int .i64 0, .int .u64 0, .int .i64 0, .int .i64 0, .int .u64 0, .int .i64 0, .int .i64 0, .int .u64 0, .int .i64 0, .int .i64 0, .int .u64 0, .int .i64 0, .int .i64 0, .int .u64 0, .int .i64 0, .int .i64 0, .int .u64 0, .int .i64 0, .int .i64 0, .int .u64 0, .int .i64 0, .int .i64 0, .int .u64 0, .int .i64 0, .int .i64 0, .int .u64 0, .int .i64 0, .int .i64 0, .int .u64 0, .int .i64 0, .int .i64 0, .int .u64 0, .int .i64 0, .int .u8 0, .int .u8 0, .int .u8 0, .int .u8 0, .int .u8 0, .int .u8 0, .int .u8 0, .int .u8 0, .int .u8 0, .int .i64 0, .int .u64 0, .int .i64 0, .int .u8 0, .int .u8 0, .int .u8 0, .int .u8 0, .int .u8 0, .int .u8 0, .int .u8 0, .int .u8 0, .int .u8 0, .int .i64 0, .int .u64 0, .int .i64 0, .int .u8 0, .int .u8 0, .int .u8 0, .int .u8 0, .int .u8 0, .int .u8 0, .int .u8 0, .int .u8 0, .int .u8 0, .int .i64 0, .int .u64 0, .int .i64 0, .int .u8 0, .int .u8 0, .int .u8 0, .int .u8 0, .int .u8 0, .int .u8 0, .int .u8 0, .int .u8 0, .int .u8 0, .int .i64 0, .int .u64 0, .int .i64 0, .int .u8 0, .int .u8 0, .int .u8 0, .int .u8 0, .int .u8 0, .int .u8 0, .int .u8 0, .int .u8 0, .int .u8 0, .int .i64 0, .int .u64 0, .int .i64 0, .int .u8 0, .int .u8 0, .int .u8 0, .int .u8 0, .int .u8 0, .int .u8 0, .int .u8 0, .int .u8 0, .int .u8 0, .int .i64 0, .int .u64 0, .int .i64 0, .int .u8 0, .int .u8 0, .int .u8 0, .int .u8 0, .int .u8 0, .int .u8 0, .int .u8 0, .int .u8 0, .int .u8 0, .int .i64 0, .int .u64 0, .int .i64 0, .int .u8 0, .int .u8 0, .int .u8 0, .int .u8 0, .int .u8 0, .int .u8 0, .int .u8 0, .int .u8 0, .int .u8 0, .int .i64 0, .int .u64 0, .int .i64 0, .int .u8 0, .int .u8 0, .int .u8 0, .int .u8 0, .int .u8 0, .int .u8 0, .int .u8 0, .int .u8 0, .int .u8 0, .int .i64 0, .int .u64 0, .int .i64 0, .int .u8 0, .int .u8 0, .int .u8 0, .int .u8 0, .int .u8 0, .int .u8 0, .int .u8 0, .int .u8 0, .int .u8 0, .int .i64 0, .int .u64 0, .int .i64 0, .int .u8 0, .int .u8 0, .int .u8 0, .int .u8 0, .int .u8 0, .int .u8 0, .int .u8 0, .int .u8 0, .int .u8 0, .int .i64 0, .int .u64 0, .int .i64 0, .int .u8 0, .int .u8 0, .int .u8 0, .int .u8 0, .int .u8 0, .int .u8 0, .int .u8 0, .int .u8 0, .int .u8 0, .int .i64 0, .int .u64 0, .int .i64 0, .int .u8 0, .int .u8 0, .int .u8 0, .int .u8 0, .int .u8 0, .int .u8 0, .int .u8 0, .int .u8 0, .int .u8 0, .int .i64 0, .int .u64 0, .int .i64 0, .int .u8 0, .int .u8 0, .int .u8 0, .int .u8 0, .int .u8 0, .int .u8 0, .int .u8 0, .int .u8 0, .int .u8 0, .int .i64 0, .int .u64 0, .int .i64 0, .int .u8 0, .int .u8 0, .int .u8 0, .int .u8 0, .int .u8 0, .int .u8 0, .int .u8 0, .int .u8 0, .int .u8 0, .int .i64 0, .int .u64 0, .int .i64 0, .int .u8 0, .int .u8 0, .int .u8 0, .int .u8 0, .int .u8 0, .int .u8 0, .int .u8 0, .int .u8 0, .int .u8 0, .int .i64 0, .int .u64 0, .int .i64 0, .int .u8 0, .int .u8 0, .int .u8 0, .int .u8 0, .int .u8 0, .int .u8 0, .int .u8 0, .int .u8 0, .int .u8 0, .int .i64 0, .int .u64 0, .int .i64 0, .int .u8 0, .int .u8 0, .int .u8 0, .int .u8 0, .int .u8 0, .int .u8 0, .int .u8 0, .int .u8 0, .int .u8 0, .int .i64 0, .int .u64 0, .int .i64 0, .int .u8 0, .int .u8 0, .int .u8 0, .int .u8 0, .int .u8 0, .int .u8 0, .int .u8 0, .int .u8 0, .int .u8 0, .int .i64 0, .int .u64 0, .int .i64 0, .int .u8 0, .int .u8 0, .int .u8 0, .int .u8 0, .int .u8 0, .int .u8 0, .int .u8 0, .int .u8 0, .int .u8 0, .int .i64 0, .int .u64 0, .int .i64 0, .int .u8 0, .int .u8 0, .int .u8 0, .int .u8 0, .int .u8 0, .int .u8 0, .int .u8 0, .int .u8 0, .int .u8 0, .int .i64 0, .int .u64 0, .int .i64 0, .int .u8 0, .int .u8 0, .int .u8 0, .int .u8 0, .int .u8 0, .int .u8 0, .int .u8 0, .int .u8 0, .int .u8 0, .int .i64 0, .int .u64 0, .int .i64 0, .int .u8 0, .int .u8 0, .int .u8 0, .int .u8 0, .int .u8 0, .int .u8 0, .int .u8 0, .int .u8 0, .int .u8 0, .int .i64 0, .int .u64 0, .int .i64 0, .int .u8 0, .int .u8 0, .int .u8 0, .int .u8 0, .int .u8 0, .int .u8 0, .int .u8 0, .int .u8 0, .int .u8 0, .int .i64 0, .int .u64 0, .int .i64 0, .int .u8 0, .int .u8 0, .int .u8 0, .int .u8 0, .int .u8 0, .int .u8 0, .int .u8 0, .int .u8 0, .int .u8 0, .int .i64 0, .int .u64 0, .int .i64 0, .int .u8 0, .int .u8 0, .int .u8 0, .int .u8 0, .int .u8 0, .int .u8 0, .int .u8 0, .int .u8 0, .int .u8 0, .int .i64 0, .int .u64 0, .int .i64 0, .int .u8 0, .int .u8 0, .int .u8 0, .int .u8 0, .int .u8 0, .int .u8 0, .int .u8 0, .int .u8 0, .int .u8 0, .int .i64 0, .int .u64 0, .int .i64 0, .int .u8 0, .int .u8 0, .int .u8 0, .int .u8 0, .int .u8 0, .int .u8 0, .int .u8 0, .int .u8 0, .int .u8 0, .int .i64 0, .int .u64 0, .int .i64 0, .int .u8 0, .int .u8 0, .int .u8 0, .int .u8 0, .int .u8 0, .int .u8 0, .int .u8 0, .int .u8 0, .int .u8 0, .int .i64 0, .int .u64 0, .int .i64 0, .int .u8 0, .int .u8 0, .int .u8 0, .int .u8 0, .int .u8 0, .int .u8 0, .int .u8 0, .int .u8 0, .int .u8 0, .int .i64 0, .int .u64 0, .int .i64 0, .int .u8 0, .int .u8 0, .int .u8 0, .int .u8 0, .int .u8 0, .int .u8 0, .int .u8 0, .int .u8 0, .int .u8 0, .int .i64 0, .int .u64 0, .int .i64 0, .int .u8 0, .int .u8 0, .int .u8 0, .int .u8 0, .int .u8 0, .int .u8 0, .int .u8 0, .int .u8 0, .int .u8 0, .int .i64 0, .int .u64 0, .int .i64 0, .int .u8 0, .int .u8 0, .int .u8 0, .int .u8 0, .int .u8 0, .int .u8 0, .int .u8 0, .int .u8 0, .int .u8 0, .int .i64 0, .int .u64 0, .int .i64 0, .int .u8 0, .int .u8 0, .int .u8 0, .int .u8 0, .int .u8 0, .int .u8 0, .int .u8 0, .int .u8 0, .int .u8 0, .int .i64 0, .int .u64 0, .int .i64 0, .int .u8 0, .int .u8 0, .int .u8 0, .int .u8 0, .int .u8 0, .int .u8 0, .int .u8 0, .int .u8 0, .int .u8 0, .int .i64 0, .int .u64 0, .int .i64 0, .int .u8 0, .int .u8 0, .int .u8 0, .int .u8 0, .int .u8 0, .int .u8 0, .int .u8 0, .int .u8 0, .int .u8 0, .int .i64 0, .int .u64 0, .int .i64 0, .int .u8 0, .int .u8 0, .int .u8 0, .int .u8 0, .int .u8 0, .int .u8 0, .int .u8 0, .int .u8 0, .int .u8 0, .int .i64 0, .int .u64 0, .int .i64 0, .int .u8 0, .int .u8 0, .int .u8 0, .int .u8 0, .int .u8 0, .int .u8 0, .int .u8 0, .int .u8 0, .int .u8 0, .int .i64 0, .int .u64 0, .int .i64 0, .int .u8 0, .int .u8 0, .int .u8 0, .int .u8 0, .int .u8 0, .int .u8 0, .int .u8 0, .int .u8 0, .int .u8 0, .int .i64 0, .int .u64 0, .int .i64 0, .int .u8 0, .int .u8 0, .int .u8 0, .int .u8 0, .int .u8 0, .int .u8 0, .int .u8 0, .int .u8 0, .int .u8 0, .int .i64 0, .int .u64 0, .int .i64 0, .int .u8 0, .int .u8 0, .int .u8 0, .int .u8 0, .int .u8 0, .int .u8 0, .int .u8 0, .int .u8 0, .int .u8 0, .int .i64 0, .int .u64 0, .int .i64 0, .int .u8 0, .int .u8 0, .int .u8 0, .int .u8 0, .int .u8 0, .int .u8 0, .int .u8 0, .int .u8 0, .int .u8 0, .int .i64 0, .int .u64 0, .int .i64 0, .int .u8 0, .int .u8 0, .int .u8 0, .int .u8 0, .int .u8 0, .int .u8 0, .int .u8 0, .int .u8 0, .int .u8 0, .int .i64 0, .int .u64 0, .int .i64 0, .int .u8 0, .int .u8 0, .int .u8 0, .int .u8 0, .int .u8 0, .int .u8 0, .int .u8 0, .int .u8 0, .int .u8 0, .int .i64 0, .int .u64 0, .int .i64 0, .int .u8 0, .int .u8 0, .int .u8 0, .int .u8 0, .int .u8 0, .int .u8 0, .int .u8 0, .int .u8 0, .int .u8 0, .int .i64 0, .int .u64 0, .int .i64 0, .int .u8 0, .int .u8 0, .int .u8 0, .int .u8 0, .int .u8 0, .int .u8 0, .int .u8 0, .int .u8 0, .int .u8 0, .int .i64 0, .int .u64 0, .int .i64 0, .int .u8 0, .int .u8 0, .int .u8 0, .int .u8 0, .int .u8 0, .int .u8 0, .int .u8 0, .int .u8 0, .int .u8 0, .int .i64 0, .int .u64 0, .int .i64 0, .int .u8 0, .int .u8 0, .int .u8 0, .int .u8 0, .int .u8 0, .int .u8 0, .int .u8 0, .int .u8 0, .int .u8 0, .int .i64 0, .int .u64 0, .int .i64 0, .int .u8 0, .int .u8 0, .int .u8 0, .int .u8 0, .int .u8 0, .int .u8 0, .int .u8 0, .int .u8 0, .int .u8 0, .int .i64 0, .int .u64 0, .int .i64 0, .int .u8 0, .int .u8 0, .int .u8 0, .int .u8 0, .int .u8 0, .int .u8 0, .int .u8 0, .int .u8 0, .int .u8 0, .int .i64 0, .int .u64 0, .int .i64 0, .int .u8 0, .int .u8 0, .int .u8 0, .int .u8 0, .int .u8 0, .int .u8 0, .int .u8 0, .int .u8 0, .int .u8 0, .int .i64 0, .int .u64 0, .int .i64 0, .int .u8 0, .int .u8 0, .int .u8 0, .int .u8 0, .int .u8 0, .int .u8 0, .int .u8 0, .int .u8 0, .int .u8 0, .int .i64 0, .int .u64 0, .int .i64 0, .int .u8 0, .int .u8 0, .int .u8 0, .int .u8 0, .int .u8 0, .int .u8 0, .int .u8 0, .int .u8 0, .int .u8 0, .int .i64 0, .int .u64 0, .int .i64 0, .int .u8 0, .int .u8 0, .int .u8 0, .int .u8 0, .int .u8 0, .int .u8 0, .int .u8 0, .int .u8 0, .int .u8 0, .int .i64 0, .int .u64 0, .int .i64 0, .int .u8 0, .int .u8 0, .int .u8 0, .int .u8 0, .int .u8 0, .int .u8 0, .int .u8 0, .int .u8 0, .int .u8 0, .int .i64 0, .int .u64 0, .int .i64 0, .int .u8 0, .int .u8 0, .int .u8 0, .int .u8 0, .int .u8 0, .int .u8 0, .int .u8 0, .int .u8 0, .int .u8 0, .int .i64 0, .int .u64 0, .int .i64 0, .int .u8 0, .int .u8 0, .int .u8 0, .int .u8 0, .int .u8 0, .int .u8 0, .int .u8 0, .int .u8 0, .int .u8 0, .int .i64 0, .int .u64 0, .int .i64 0, .int .u8 0, .int .u8 0, .int .u8 0, .int .u8 0, .int .u8 0, .int .u8 0, .int .u8 0, .int .u8 0, .int .u8 0, .int .i64 0, .int .u64 0, .int .i64 0, .int .u8 0, .int .u8 0, .int .u8 0, .int .u8 0, .int .u8 0, .int .u8 0, .int .u8 0, .int .u8 0, .int .u8 0, .int .i64 0, .int .u64 0, .int .i64 0, .int .u8 0, .int .u8 0, .int .u8 0, .int .u8 0, .int .u8 0, .int .u8 0, .int .u8 0, .int .u8 0, .int .u8 0, .int .i64 0, .int .u64 0, .int .i64 0, .int .u8 0, .int .u8 0, .int .u8 0, .int .u8 0, .int .u8 0, .int .u8 0, .int .u8 0, .int .u8 0, .int .u8 0, .int .i64 0, .int .u64 0, .int .i64 0, .int .u8 0, .int .u8 0, .int .u8 0, .int .u8 0, .int .u8 0, .int .u8 0, .int .u8 0, .int .u8 0, .int .u8 0, .int .i64 0, .int .u64 0, .int .i64 0, .int .u8 0, .int .u8 0, .int .u8 0, .int .u8 0, .int .u8 0, .int .u8 0, .int .u8 0, .int .u8 0, .int .u8 0, .int .i64 0, .int .u64 0, .int .i64 0, .int .u8 0, .int .u8 0, .int .u8 0, .int .u8 0, .int .u8 0, .int .u8 0, .int .u8 0, .int .u8 0, .int .u8 0]
attribute [irreducible] cV cB cS cRs cSs cF
end Go.Proofs.Ytdimcafdmaidpaa
