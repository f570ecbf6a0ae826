/-
  No cell of these rows narrows 'for every input' (looked for: loops, veiled, ifaces, maps, wideKeys, modest, calm, conditions, laid).
  DERIVED. THE GIVEN ROWS OF THIS SEAT. 12 by the template 'for every input the law returns true; each argument reads behind the call as it read before'; 0 by the template 'total and deterministic' (their statements: YtfekmflnfhjebaaTotals.lean).
  GIVEN WITH THE SEED: the statements are not yours to turn. If you find one false, say at which input.
  Laid BY PROGRAM, IN A SANDBOX (cutbox-rows.mjs): the forced cells as the released guide's own fill.sh prints them over the translation 1417ac7c06943c0e… (all of the seat's roots in one cut). By AI agents, Wed Nov 11 2026. No macro, syntax, notation, axiom, sorry.
-/
import Derived.Test.YtfekmflnfhjebaaChecked
import GoSem.Claim
import GoSem.ClaimJoined
import GoSem.ClaimMapViews
import Derived.JoinedTies
import Derived.KernelRfl
namespace Go.Proofs.Ytfekmflnfhjebaa
/- THE CELL 'sum', in the pinned program and in every row, IS THE sha256 OF THE DUMP (.gsa) THAT YtfekmflnfhjebaaProg.lean LOADS. Nothing in Lean hashes anything: it is a label: what it is worth is what the hold of that sum in a sandbox is worth. -/
noncomputable def Try.pinned : Pinned := { name := "ytfekmflnfhjebaa", sum := "1417ac7c06943c0edb06ac4e4a9a9d83584accde753ca0d16e16cbdcea057afd", checked := Try.checked }
namespace Rows
def none {H : Type} : Left H := { results := [], args := [] }

/-- 'lockgatelaw07.PhaseKnown': WHATEVER THE INPUT: true; the input reads as it did. -/
def phaseKnownSpec : ChangeSpec := { name := "phaseKnown", fn := fun _ => fun
  | [] => { results := [.lit (.bool true)], args := [] }
  | _ => none }
def phaseKnownRow : OpenClaim := { program := "ytfekmflnfhjebaa", sum := "1417ac7c06943c0edb06ac4e4a9a9d83584accde753ca0d16e16cbdcea057afd", func := "lockgate/lockgatelaw07.PhaseKnown", spec := "phaseKnown", apart := false }
def PhaseKnownSaid : Prop := phaseKnownRow.holds Try.pinned (OpenSpec.ofChange phaseKnownSpec)

/-- ITS FALSE NEIGHBOUR: 'it returns false'. Refute it at one input. -/
def phaseKnownWrong : ChangeSpec := { name := "phaseKnown", fn := fun _ => fun
  | [] => { results := [.lit (.bool false)], args := [] }
  | _ => none }
def PhaseKnownWrongFalsely : Prop := phaseKnownRow.holds Try.pinned (OpenSpec.ofChange phaseKnownWrong)

/-- 'lockgatelaw07.PhaseBeats': WHATEVER THE INPUT: true; the input reads as it did. -/
def phaseBeatsSpec : ChangeSpec := { name := "phaseBeats", fn := fun _ => fun
  | [d1, d2] => { results := [.lit (.bool true)], args := [d1, d2] }
  | _ => none }
def phaseBeatsRow : OpenClaim := { program := "ytfekmflnfhjebaa", sum := "1417ac7c06943c0edb06ac4e4a9a9d83584accde753ca0d16e16cbdcea057afd", func := "lockgate/lockgatelaw07.PhaseBeats", spec := "phaseBeats", apart := false }
def PhaseBeatsSaid : Prop := phaseBeatsRow.holds Try.pinned (OpenSpec.ofChange phaseBeatsSpec)

/-- ITS FALSE NEIGHBOUR: 'it returns false'. Refute it at one input. -/
def phaseBeatsWrong : ChangeSpec := { name := "phaseBeats", fn := fun _ => fun
  | [d1, d2] => { results := [.lit (.bool false)], args := [d1, d2] }
  | _ => none }
def PhaseBeatsWrongFalsely : Prop := phaseBeatsRow.holds Try.pinned (OpenSpec.ofChange phaseBeatsWrong)

/-- 'lockgatelaw07.PhaseSways': WHATEVER THE INPUT: true; the input reads as it did. -/
def phaseSwaysSpec : ChangeSpec := { name := "phaseSways", fn := fun _ => fun
  | [d1, d2, d3] => { results := [.lit (.bool true)], args := [d1, d2, d3] }
  | _ => none }
def phaseSwaysRow : OpenClaim := { program := "ytfekmflnfhjebaa", sum := "1417ac7c06943c0edb06ac4e4a9a9d83584accde753ca0d16e16cbdcea057afd", func := "lockgate/lockgatelaw07.PhaseSways", spec := "phaseSways", apart := false }
def PhaseSwaysSaid : Prop := phaseSwaysRow.holds Try.pinned (OpenSpec.ofChange phaseSwaysSpec)

/-- ITS FALSE NEIGHBOUR: 'it returns false'. Refute it at one input. -/
def phaseSwaysWrong : ChangeSpec := { name := "phaseSways", fn := fun _ => fun
  | [d1, d2, d3] => { results := [.lit (.bool false)], args := [d1, d2, d3] }
  | _ => none }
def PhaseSwaysWrongFalsely : Prop := phaseSwaysRow.holds Try.pinned (OpenSpec.ofChange phaseSwaysWrong)

/-- 'lockgatelaw07.PhaseStays': WHATEVER THE INPUT: true; the input reads as it did. -/
def phaseStaysSpec : ChangeSpec := { name := "phaseStays", fn := fun _ => fun
  | [d1, d2, d3, d4, d5] => { results := [.lit (.bool true)], args := [d1, d2, d3, d4, d5] }
  | _ => none }
def phaseStaysRow : OpenClaim := { program := "ytfekmflnfhjebaa", sum := "1417ac7c06943c0edb06ac4e4a9a9d83584accde753ca0d16e16cbdcea057afd", func := "lockgate/lockgatelaw07.PhaseStays", spec := "phaseStays", apart := false }
def PhaseStaysSaid : Prop := phaseStaysRow.holds Try.pinned (OpenSpec.ofChange phaseStaysSpec)

/-- ITS FALSE NEIGHBOUR: 'it returns false'. Refute it at one input. -/
def phaseStaysWrong : ChangeSpec := { name := "phaseStays", fn := fun _ => fun
  | [d1, d2, d3, d4, d5] => { results := [.lit (.bool false)], args := [d1, d2, d3, d4, d5] }
  | _ => none }
def PhaseStaysWrongFalsely : Prop := phaseStaysRow.holds Try.pinned (OpenSpec.ofChange phaseStaysWrong)

/-- 'lockgatelaw09.ArrayMakes': WHATEVER THE INPUT: true; the input reads as it did. -/
def arrayMakesSpec : ChangeSpec := { name := "arrayMakes", fn := fun _ => fun
  | [d1, d2] => { results := [.lit (.bool true)], args := [d1, d2] }
  | _ => none }
def arrayMakesRow : OpenClaim := { program := "ytfekmflnfhjebaa", sum := "1417ac7c06943c0edb06ac4e4a9a9d83584accde753ca0d16e16cbdcea057afd", func := "lockgate/lockgatelaw09.ArrayMakes", spec := "arrayMakes", apart := false }
def ArrayMakesSaid : Prop := arrayMakesRow.holds Try.pinned (OpenSpec.ofChange arrayMakesSpec)

/-- ITS FALSE NEIGHBOUR: 'it returns false'. Refute it at one input. -/
def arrayMakesWrong : ChangeSpec := { name := "arrayMakes", fn := fun _ => fun
  | [d1, d2] => { results := [.lit (.bool false)], args := [d1, d2] }
  | _ => none }
def ArrayMakesWrongFalsely : Prop := arrayMakesRow.holds Try.pinned (OpenSpec.ofChange arrayMakesWrong)

/-- 'lockgatelaw09.ArrayKnown': WHATEVER THE INPUT: true; the input reads as it did. -/
def arrayKnownSpec : ChangeSpec := { name := "arrayKnown", fn := fun _ => fun
  | [] => { results := [.lit (.bool true)], args := [] }
  | _ => none }
def arrayKnownRow : OpenClaim := { program := "ytfekmflnfhjebaa", sum := "1417ac7c06943c0edb06ac4e4a9a9d83584accde753ca0d16e16cbdcea057afd", func := "lockgate/lockgatelaw09.ArrayKnown", spec := "arrayKnown", apart := false }
def ArrayKnownSaid : Prop := arrayKnownRow.holds Try.pinned (OpenSpec.ofChange arrayKnownSpec)

/-- ITS FALSE NEIGHBOUR: 'it returns false'. Refute it at one input. -/
def arrayKnownWrong : ChangeSpec := { name := "arrayKnown", fn := fun _ => fun
  | [] => { results := [.lit (.bool false)], args := [] }
  | _ => none }
def ArrayKnownWrongFalsely : Prop := arrayKnownRow.holds Try.pinned (OpenSpec.ofChange arrayKnownWrong)

/-- 'lockgatelaw09.ArrayApart': WHATEVER THE INPUT: true; the input reads as it did. -/
def arrayApartSpec : ChangeSpec := { name := "arrayApart", fn := fun _ => fun
  | [d1, d2, d3, d4] => { results := [.lit (.bool true)], args := [d1, d2, d3, d4] }
  | _ => none }
def arrayApartRow : OpenClaim := { program := "ytfekmflnfhjebaa", sum := "1417ac7c06943c0edb06ac4e4a9a9d83584accde753ca0d16e16cbdcea057afd", func := "lockgate/lockgatelaw09.ArrayApart", spec := "arrayApart", apart := false }
def ArrayApartSaid : Prop := arrayApartRow.holds Try.pinned (OpenSpec.ofChange arrayApartSpec)

/-- ITS FALSE NEIGHBOUR: 'it returns false'. Refute it at one input. -/
def arrayApartWrong : ChangeSpec := { name := "arrayApart", fn := fun _ => fun
  | [d1, d2, d3, d4] => { results := [.lit (.bool false)], args := [d1, d2, d3, d4] }
  | _ => none }
def ArrayApartWrongFalsely : Prop := arrayApartRow.holds Try.pinned (OpenSpec.ofChange arrayApartWrong)

/-- 'lockgatelaw08.CellsBack': WHATEVER THE INPUT: true; the input reads as it did. -/
def cellsBackSpec : ChangeSpec := { name := "cellsBack", fn := fun _ => fun
  | [d1, d2, d3, d4] => { results := [.lit (.bool true)], args := [d1, d2, d3, d4] }
  | _ => none }
def cellsBackRow : OpenClaim := { program := "ytfekmflnfhjebaa", sum := "1417ac7c06943c0edb06ac4e4a9a9d83584accde753ca0d16e16cbdcea057afd", func := "lockgate/lockgatelaw08.CellsBack", spec := "cellsBack", apart := false }
def CellsBackSaid : Prop := cellsBackRow.holds Try.pinned (OpenSpec.ofChange cellsBackSpec)

/-- ITS FALSE NEIGHBOUR: 'it returns false'. Refute it at one input. -/
def cellsBackWrong : ChangeSpec := { name := "cellsBack", fn := fun _ => fun
  | [d1, d2, d3, d4] => { results := [.lit (.bool false)], args := [d1, d2, d3, d4] }
  | _ => none }
def CellsBackWrongFalsely : Prop := cellsBackRow.holds Try.pinned (OpenSpec.ofChange cellsBackWrong)

/-- 'lockgatelaw08.CellsNumbers': WHATEVER THE INPUT: true; the input reads as it did. -/
def cellsNumbersSpec : ChangeSpec := { name := "cellsNumbers", fn := fun _ => fun
  | [d] => { results := [.lit (.bool true)], args := [d] }
  | _ => none }
def cellsNumbersRow : OpenClaim := { program := "ytfekmflnfhjebaa", sum := "1417ac7c06943c0edb06ac4e4a9a9d83584accde753ca0d16e16cbdcea057afd", func := "lockgate/lockgatelaw08.CellsNumbers", spec := "cellsNumbers", apart := false }
def CellsNumbersSaid : Prop := cellsNumbersRow.holds Try.pinned (OpenSpec.ofChange cellsNumbersSpec)

/-- ITS FALSE NEIGHBOUR: 'it returns false'. Refute it at one input. -/
def cellsNumbersWrong : ChangeSpec := { name := "cellsNumbers", fn := fun _ => fun
  | [d] => { results := [.lit (.bool false)], args := [d] }
  | _ => none }
def CellsNumbersWrongFalsely : Prop := cellsNumbersRow.holds Try.pinned (OpenSpec.ofChange cellsNumbersWrong)

/-- 'lockgatelaw08.CellsApart': WHATEVER THE INPUT: true; the input reads as it did. -/
def cellsApartSpec : ChangeSpec := { name := "cellsApart", fn := fun _ => fun
  | [d1, d2] => { results := [.lit (.bool true)], args := [d1, d2] }
  | _ => none }
def cellsApartRow : OpenClaim := { program := "ytfekmflnfhjebaa", sum := "1417ac7c06943c0edb06ac4e4a9a9d83584accde753ca0d16e16cbdcea057afd", func := "lockgate/lockgatelaw08.CellsApart", spec := "cellsApart", apart := false }
def CellsApartSaid : Prop := cellsApartRow.holds Try.pinned (OpenSpec.ofChange cellsApartSpec)

/-- ITS FALSE NEIGHBOUR: 'it returns false'. Refute it at one input. -/
def cellsApartWrong : ChangeSpec := { name := "cellsApart", fn := fun _ => fun
  | [d1, d2] => { results := [.lit (.bool false)], args := [d1, d2] }
  | _ => none }
def CellsApartWrongFalsely : Prop := cellsApartRow.holds Try.pinned (OpenSpec.ofChange cellsApartWrong)

/-- 'lockgatelaw08.CellsRuns': WHATEVER THE INPUT: true; the input reads as it did. -/
def cellsRunsSpec : ChangeSpec := { name := "cellsRuns", fn := fun _ => fun
  | [d] => { results := [.lit (.bool true)], args := [d] }
  | _ => none }
def cellsRunsRow : OpenClaim := { program := "ytfekmflnfhjebaa", sum := "1417ac7c06943c0edb06ac4e4a9a9d83584accde753ca0d16e16cbdcea057afd", func := "lockgate/lockgatelaw08.CellsRuns", spec := "cellsRuns", apart := false }
def CellsRunsSaid : Prop := cellsRunsRow.holds Try.pinned (OpenSpec.ofChange cellsRunsSpec)

/-- ITS FALSE NEIGHBOUR: 'it returns false'. Refute it at one input. -/
def cellsRunsWrong : ChangeSpec := { name := "cellsRuns", fn := fun _ => fun
  | [d] => { results := [.lit (.bool false)], args := [d] }
  | _ => none }
def CellsRunsWrongFalsely : Prop := cellsRunsRow.holds Try.pinned (OpenSpec.ofChange cellsRunsWrong)

/-- 'lockgatelaw08.CellsKnown': WHATEVER THE INPUT: true; the input reads as it did. -/
def cellsKnownSpec : ChangeSpec := { name := "cellsKnown", fn := fun _ => fun
  | [] => { results := [.lit (.bool true)], args := [] }
  | _ => none }
def cellsKnownRow : OpenClaim := { program := "ytfekmflnfhjebaa", sum := "1417ac7c06943c0edb06ac4e4a9a9d83584accde753ca0d16e16cbdcea057afd", func := "lockgate/lockgatelaw08.CellsKnown", spec := "cellsKnown", apart := false }
def CellsKnownSaid : Prop := cellsKnownRow.holds Try.pinned (OpenSpec.ofChange cellsKnownSpec)

/-- ITS FALSE NEIGHBOUR: 'it returns false'. Refute it at one input. -/
def cellsKnownWrong : ChangeSpec := { name := "cellsKnown", fn := fun _ => fun
  | [] => { results := [.lit (.bool false)], args := [] }
  | _ => none }
def CellsKnownWrongFalsely : Prop := cellsKnownRow.holds Try.pinned (OpenSpec.ofChange cellsKnownWrong)

/- THE SECOND FORM. 'bulk': how many values and letters a reading holds, each counted each time it is reached (what is shared counts as often as it is met; a slice's spare places count too). A statement '..UptoSaid' is the law's where the arguments, and the package variables that the reading takes, are together of bulk at most 1048576: NARROWER than '..Said'. Prove '..Said' where nothing that the law and all that it calls make is longer than what came in: it says more and counts as full. Else prove '..UptoSaid'. A law counts once. -/
mutual
def uptoBulk {H : Type} : DataW H → Nat
  | .lit (.string bytes) => bytes.length + 1
  | .lit _ => 1
  | .nil => 1
  | .ptr d => uptoBulk d + 1
  | .slice elems spare => uptoBulkAll elems + uptoBulkAll spare + 1
  | .agg parts => uptoBulkAll parts + 1
  | .iface _ d => uptoBulk d + 1
  | .map entries => uptoBulkEntries entries + 1
  | .held _ => 1
def uptoBulkAll {H : Type} : List (DataW H) → Nat
  | [] => 0
  | d :: r => uptoBulk d + uptoBulkAll r
def uptoBulkEntries {H : Type} : List (Lit × DataW H) → Nat
  | [] => 0
  | x :: r => uptoBulkEntry x + uptoBulkEntries r
def uptoBulkEntry {H : Type} : Lit × DataW H → Nat
  | (.string bytes, d) => bytes.length + uptoBulk d + 1
  | (_, d) => uptoBulk d + 1
 end
def uptoSmall : (H : Type) → List (DataW H) → Bool := fun _ ds => decide (uptoBulkAll ds ≤ 1048576)
def OpenSpec.upto (s : _root_.Go.ChangeSpec) : _root_.Go.OpenSpec := { _root_.Go.OpenSpec.ofChange s with cond := some uptoSmall }

/-- 'lockgatelaw07.PhaseKnown', WHERE WHAT IT READS IS OF BULK AT MOST 1048576: true; the input reads as it did. -/
def phaseKnownUptoRow : OpenClaim := { program := "ytfekmflnfhjebaa", sum := "1417ac7c06943c0edb06ac4e4a9a9d83584accde753ca0d16e16cbdcea057afd", func := "lockgate/lockgatelaw07.PhaseKnown", spec := "phaseKnown", apart := false, narrowed := true }
def PhaseKnownUptoSaid : Prop := phaseKnownUptoRow.holds Try.pinned (OpenSpec.upto phaseKnownSpec)

/-- 'lockgatelaw07.PhaseBeats', WHERE WHAT IT READS IS OF BULK AT MOST 1048576: true; the input reads as it did. -/
def phaseBeatsUptoRow : OpenClaim := { program := "ytfekmflnfhjebaa", sum := "1417ac7c06943c0edb06ac4e4a9a9d83584accde753ca0d16e16cbdcea057afd", func := "lockgate/lockgatelaw07.PhaseBeats", spec := "phaseBeats", apart := false, narrowed := true }
def PhaseBeatsUptoSaid : Prop := phaseBeatsUptoRow.holds Try.pinned (OpenSpec.upto phaseBeatsSpec)

/-- 'lockgatelaw07.PhaseSways', WHERE WHAT IT READS IS OF BULK AT MOST 1048576: true; the input reads as it did. -/
def phaseSwaysUptoRow : OpenClaim := { program := "ytfekmflnfhjebaa", sum := "1417ac7c06943c0edb06ac4e4a9a9d83584accde753ca0d16e16cbdcea057afd", func := "lockgate/lockgatelaw07.PhaseSways", spec := "phaseSways", apart := false, narrowed := true }
def PhaseSwaysUptoSaid : Prop := phaseSwaysUptoRow.holds Try.pinned (OpenSpec.upto phaseSwaysSpec)

/-- 'lockgatelaw07.PhaseStays', WHERE WHAT IT READS IS OF BULK AT MOST 1048576: true; the input reads as it did. -/
def phaseStaysUptoRow : OpenClaim := { program := "ytfekmflnfhjebaa", sum := "1417ac7c06943c0edb06ac4e4a9a9d83584accde753ca0d16e16cbdcea057afd", func := "lockgate/lockgatelaw07.PhaseStays", spec := "phaseStays", apart := false, narrowed := true }
def PhaseStaysUptoSaid : Prop := phaseStaysUptoRow.holds Try.pinned (OpenSpec.upto phaseStaysSpec)

/-- 'lockgatelaw09.ArrayMakes', WHERE WHAT IT READS IS OF BULK AT MOST 1048576: true; the input reads as it did. -/
def arrayMakesUptoRow : OpenClaim := { program := "ytfekmflnfhjebaa", sum := "1417ac7c06943c0edb06ac4e4a9a9d83584accde753ca0d16e16cbdcea057afd", func := "lockgate/lockgatelaw09.ArrayMakes", spec := "arrayMakes", apart := false, narrowed := true }
def ArrayMakesUptoSaid : Prop := arrayMakesUptoRow.holds Try.pinned (OpenSpec.upto arrayMakesSpec)

/-- 'lockgatelaw09.ArrayKnown', WHERE WHAT IT READS IS OF BULK AT MOST 1048576: true; the input reads as it did. -/
def arrayKnownUptoRow : OpenClaim := { program := "ytfekmflnfhjebaa", sum := "1417ac7c06943c0edb06ac4e4a9a9d83584accde753ca0d16e16cbdcea057afd", func := "lockgate/lockgatelaw09.ArrayKnown", spec := "arrayKnown", apart := false, narrowed := true }
def ArrayKnownUptoSaid : Prop := arrayKnownUptoRow.holds Try.pinned (OpenSpec.upto arrayKnownSpec)

/-- 'lockgatelaw09.ArrayApart', WHERE WHAT IT READS IS OF BULK AT MOST 1048576: true; the input reads as it did. -/
def arrayApartUptoRow : OpenClaim := { program := "ytfekmflnfhjebaa", sum := "1417ac7c06943c0edb06ac4e4a9a9d83584accde753ca0d16e16cbdcea057afd", func := "lockgate/lockgatelaw09.ArrayApart", spec := "arrayApart", apart := false, narrowed := true }
def ArrayApartUptoSaid : Prop := arrayApartUptoRow.holds Try.pinned (OpenSpec.upto arrayApartSpec)

/-- 'lockgatelaw08.CellsBack', WHERE WHAT IT READS IS OF BULK AT MOST 1048576: true; the input reads as it did. -/
def cellsBackUptoRow : OpenClaim := { program := "ytfekmflnfhjebaa", sum := "1417ac7c06943c0edb06ac4e4a9a9d83584accde753ca0d16e16cbdcea057afd", func := "lockgate/lockgatelaw08.CellsBack", spec := "cellsBack", apart := false, narrowed := true }
def CellsBackUptoSaid : Prop := cellsBackUptoRow.holds Try.pinned (OpenSpec.upto cellsBackSpec)

/-- 'lockgatelaw08.CellsNumbers', WHERE WHAT IT READS IS OF BULK AT MOST 1048576: true; the input reads as it did. -/
def cellsNumbersUptoRow : OpenClaim := { program := "ytfekmflnfhjebaa", sum := "1417ac7c06943c0edb06ac4e4a9a9d83584accde753ca0d16e16cbdcea057afd", func := "lockgate/lockgatelaw08.CellsNumbers", spec := "cellsNumbers", apart := false, narrowed := true }
def CellsNumbersUptoSaid : Prop := cellsNumbersUptoRow.holds Try.pinned (OpenSpec.upto cellsNumbersSpec)

/-- 'lockgatelaw08.CellsApart', WHERE WHAT IT READS IS OF BULK AT MOST 1048576: true; the input reads as it did. -/
def cellsApartUptoRow : OpenClaim := { program := "ytfekmflnfhjebaa", sum := "1417ac7c06943c0edb06ac4e4a9a9d83584accde753ca0d16e16cbdcea057afd", func := "lockgate/lockgatelaw08.CellsApart", spec := "cellsApart", apart := false, narrowed := true }
def CellsApartUptoSaid : Prop := cellsApartUptoRow.holds Try.pinned (OpenSpec.upto cellsApartSpec)

/-- 'lockgatelaw08.CellsRuns', WHERE WHAT IT READS IS OF BULK AT MOST 1048576: true; the input reads as it did. -/
def cellsRunsUptoRow : OpenClaim := { program := "ytfekmflnfhjebaa", sum := "1417ac7c06943c0edb06ac4e4a9a9d83584accde753ca0d16e16cbdcea057afd", func := "lockgate/lockgatelaw08.CellsRuns", spec := "cellsRuns", apart := false, narrowed := true }
def CellsRunsUptoSaid : Prop := cellsRunsUptoRow.holds Try.pinned (OpenSpec.upto cellsRunsSpec)

/-- 'lockgatelaw08.CellsKnown', WHERE WHAT IT READS IS OF BULK AT MOST 1048576: true; the input reads as it did. -/
def cellsKnownUptoRow : OpenClaim := { program := "ytfekmflnfhjebaa", sum := "1417ac7c06943c0edb06ac4e4a9a9d83584accde753ca0d16e16cbdcea057afd", func := "lockgate/lockgatelaw08.CellsKnown", spec := "cellsKnown", apart := false, narrowed := true }
def CellsKnownUptoSaid : Prop := cellsKnownUptoRow.holds Try.pinned (OpenSpec.upto cellsKnownSpec)

end Rows
end Go.Proofs.Ytfekmflnfhjebaa
