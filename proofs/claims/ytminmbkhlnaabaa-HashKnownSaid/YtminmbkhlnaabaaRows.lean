/-
  No cell of these rows narrows 'for every input' (looked for: loops, veiled, ifaces, maps, wideKeys, modest, calm, conditions, laid).
  DERIVED. THE GIVEN ROWS OF THIS SEAT. 9 by the template 'for every input the law returns true; each argument reads behind the call as it read before'; 0 by the template 'total and deterministic' (their statements: YtminmbkhlnaabaaTotals.lean).
  GIVEN WITH THE SEED: the statements are not yours to turn. If you find one false, say at which input.
  Laid BY PROGRAM, IN A SANDBOX (cutbox-rows.mjs): the forced cells as the released guide's own fill.sh prints them over the translation 4561d73136d66913… (all of the seat's roots in one cut). By AI agents, Wed Nov 11 2026. No macro, syntax, notation, axiom, sorry.
-/
import Derived.Test.YtminmbkhlnaabaaChecked
import GoSem.Claim
import GoSem.ClaimJoined
import GoSem.ClaimMapViews
import Derived.JoinedTies
import Derived.KernelRfl
namespace Go.Proofs.Ytminmbkhlnaabaa
/- THE CELL 'sum', in the pinned program and in every row, IS THE sha256 OF THE DUMP (.gsa) THAT YtminmbkhlnaabaaProg.lean LOADS. Nothing in Lean hashes anything: it is a label: what it is worth is what the hold of that sum in a sandbox is worth. -/
noncomputable def Try.pinned : Pinned := { name := "ytminmbkhlnaabaa", sum := "4561d73136d6691391790d2dc8b12c4a5681c769180c3cbd67b1683b753056ec", checked := Try.checked }
namespace Rows
def none {H : Type} : Left H := { results := [], args := [] }

/-- 'lockgatelaw11.LruGoes': WHATEVER THE INPUT: true; the input reads as it did. -/
def lruGoesSpec : ChangeSpec := { name := "lruGoes", fn := fun _ => fun
  | [d1, d2, d3] => { results := [.lit (.bool true)], args := [d1, d2, d3] }
  | _ => none }
def lruGoesRow : OpenClaim := { program := "ytminmbkhlnaabaa", sum := "4561d73136d6691391790d2dc8b12c4a5681c769180c3cbd67b1683b753056ec", func := "lockgate/lockgatelaw11.LruGoes", spec := "lruGoes", unfollowed := true, recurses := true, apart := false }
def LruGoesSaid : Prop := lruGoesRow.holds Try.pinned (OpenSpec.ofChange lruGoesSpec)

/-- ITS FALSE NEIGHBOUR: 'it returns false'. Refute it at one input. -/
def lruGoesWrong : ChangeSpec := { name := "lruGoes", fn := fun _ => fun
  | [d1, d2, d3] => { results := [.lit (.bool false)], args := [d1, d2, d3] }
  | _ => none }
def LruGoesWrongFalsely : Prop := lruGoesRow.holds Try.pinned (OpenSpec.ofChange lruGoesWrong)

/-- 'lockgatelaw11.LruKnown': WHATEVER THE INPUT: true; the input reads as it did. -/
def lruKnownSpec : ChangeSpec := { name := "lruKnown", fn := fun _ => fun
  | [] => { results := [.lit (.bool true)], args := [] }
  | _ => none }
def lruKnownRow : OpenClaim := { program := "ytminmbkhlnaabaa", sum := "4561d73136d6691391790d2dc8b12c4a5681c769180c3cbd67b1683b753056ec", func := "lockgate/lockgatelaw11.LruKnown", spec := "lruKnown", unfollowed := true, recurses := true, apart := false }
def LruKnownSaid : Prop := lruKnownRow.holds Try.pinned (OpenSpec.ofChange lruKnownSpec)

/-- ITS FALSE NEIGHBOUR: 'it returns false'. Refute it at one input. -/
def lruKnownWrong : ChangeSpec := { name := "lruKnown", fn := fun _ => fun
  | [] => { results := [.lit (.bool false)], args := [] }
  | _ => none }
def LruKnownWrongFalsely : Prop := lruKnownRow.holds Try.pinned (OpenSpec.ofChange lruKnownWrong)

/-- 'lockgatelaw11.LruPlays': WHATEVER THE INPUT: true; the input reads as it did. -/
def lruPlaysSpec : ChangeSpec := { name := "lruPlays", fn := fun _ => fun
  | [d1, d2, d3] => { results := [.lit (.bool true)], args := [d1, d2, d3] }
  | _ => none }
def lruPlaysRow : OpenClaim := { program := "ytminmbkhlnaabaa", sum := "4561d73136d6691391790d2dc8b12c4a5681c769180c3cbd67b1683b753056ec", func := "lockgate/lockgatelaw11.LruPlays", spec := "lruPlays", unfollowed := true, recurses := true, apart := false }
def LruPlaysSaid : Prop := lruPlaysRow.holds Try.pinned (OpenSpec.ofChange lruPlaysSpec)

/-- ITS FALSE NEIGHBOUR: 'it returns false'. Refute it at one input. -/
def lruPlaysWrong : ChangeSpec := { name := "lruPlays", fn := fun _ => fun
  | [d1, d2, d3] => { results := [.lit (.bool false)], args := [d1, d2, d3] }
  | _ => none }
def LruPlaysWrongFalsely : Prop := lruPlaysRow.holds Try.pinned (OpenSpec.ofChange lruPlaysWrong)

/-- 'lockgatelaw11.LruLooks': WHATEVER THE INPUT: true; the input reads as it did. -/
def lruLooksSpec : ChangeSpec := { name := "lruLooks", fn := fun _ => fun
  | [d] => { results := [.lit (.bool true)], args := [d] }
  | _ => none }
def lruLooksRow : OpenClaim := { program := "ytminmbkhlnaabaa", sum := "4561d73136d6691391790d2dc8b12c4a5681c769180c3cbd67b1683b753056ec", func := "lockgate/lockgatelaw11.LruLooks", spec := "lruLooks", unfollowed := true, recurses := true, apart := false }
def LruLooksSaid : Prop := lruLooksRow.holds Try.pinned (OpenSpec.ofChange lruLooksSpec)

/-- ITS FALSE NEIGHBOUR: 'it returns false'. Refute it at one input. -/
def lruLooksWrong : ChangeSpec := { name := "lruLooks", fn := fun _ => fun
  | [d] => { results := [.lit (.bool false)], args := [d] }
  | _ => none }
def LruLooksWrongFalsely : Prop := lruLooksRow.holds Try.pinned (OpenSpec.ofChange lruLooksWrong)

/-- 'lockgatelaw10.HashSums': WHATEVER THE INPUT: true; the input reads as it did. -/
def hashSumsSpec : ChangeSpec := { name := "hashSums", fn := fun _ => fun
  | [d] => { results := [.lit (.bool true)], args := [d] }
  | _ => none }
def hashSumsRow : OpenClaim := { program := "ytminmbkhlnaabaa", sum := "4561d73136d6691391790d2dc8b12c4a5681c769180c3cbd67b1683b753056ec", func := "lockgate/lockgatelaw10.HashSums", spec := "hashSums", unfollowed := true, recurses := true, apart := false }
def HashSumsSaid : Prop := hashSumsRow.holds Try.pinned (OpenSpec.ofChange hashSumsSpec)

/-- ITS FALSE NEIGHBOUR: 'it returns false'. Refute it at one input. -/
def hashSumsWrong : ChangeSpec := { name := "hashSums", fn := fun _ => fun
  | [d] => { results := [.lit (.bool false)], args := [d] }
  | _ => none }
def HashSumsWrongFalsely : Prop := hashSumsRow.holds Try.pinned (OpenSpec.ofChange hashSumsWrong)

/-- 'lockgatelaw10.HashWears': WHATEVER THE INPUT: true; the input reads as it did. -/
def hashWearsSpec : ChangeSpec := { name := "hashWears", fn := fun _ => fun
  | [d1, d2] => { results := [.lit (.bool true)], args := [d1, d2] }
  | _ => none }
def hashWearsRow : OpenClaim := { program := "ytminmbkhlnaabaa", sum := "4561d73136d6691391790d2dc8b12c4a5681c769180c3cbd67b1683b753056ec", func := "lockgate/lockgatelaw10.HashWears", spec := "hashWears", unfollowed := true, recurses := true, apart := false }
def HashWearsSaid : Prop := hashWearsRow.holds Try.pinned (OpenSpec.ofChange hashWearsSpec)

/-- ITS FALSE NEIGHBOUR: 'it returns false'. Refute it at one input. -/
def hashWearsWrong : ChangeSpec := { name := "hashWears", fn := fun _ => fun
  | [d1, d2] => { results := [.lit (.bool false)], args := [d1, d2] }
  | _ => none }
def HashWearsWrongFalsely : Prop := hashWearsRow.holds Try.pinned (OpenSpec.ofChange hashWearsWrong)

/-- 'lockgatelaw10.HashRuns': WHATEVER THE INPUT: true; the input reads as it did. -/
def hashRunsSpec : ChangeSpec := { name := "hashRuns", fn := fun _ => fun
  | [d1, d2, d3] => { results := [.lit (.bool true)], args := [d1, d2, d3] }
  | _ => none }
def hashRunsRow : OpenClaim := { program := "ytminmbkhlnaabaa", sum := "4561d73136d6691391790d2dc8b12c4a5681c769180c3cbd67b1683b753056ec", func := "lockgate/lockgatelaw10.HashRuns", spec := "hashRuns", unfollowed := true, recurses := true, apart := false }
def HashRunsSaid : Prop := hashRunsRow.holds Try.pinned (OpenSpec.ofChange hashRunsSpec)

/-- ITS FALSE NEIGHBOUR: 'it returns false'. Refute it at one input. -/
def hashRunsWrong : ChangeSpec := { name := "hashRuns", fn := fun _ => fun
  | [d1, d2, d3] => { results := [.lit (.bool false)], args := [d1, d2, d3] }
  | _ => none }
def HashRunsWrongFalsely : Prop := hashRunsRow.holds Try.pinned (OpenSpec.ofChange hashRunsWrong)

/-- 'lockgatelaw10.HashHolds': WHATEVER THE INPUT: true; the input reads as it did. -/
def hashHoldsSpec : ChangeSpec := { name := "hashHolds", fn := fun _ => fun
  | [d1, d2, d3] => { results := [.lit (.bool true)], args := [d1, d2, d3] }
  | _ => none }
def hashHoldsRow : OpenClaim := { program := "ytminmbkhlnaabaa", sum := "4561d73136d6691391790d2dc8b12c4a5681c769180c3cbd67b1683b753056ec", func := "lockgate/lockgatelaw10.HashHolds", spec := "hashHolds", unfollowed := true, recurses := true, apart := false }
def HashHoldsSaid : Prop := hashHoldsRow.holds Try.pinned (OpenSpec.ofChange hashHoldsSpec)

/-- ITS FALSE NEIGHBOUR: 'it returns false'. Refute it at one input. -/
def hashHoldsWrong : ChangeSpec := { name := "hashHolds", fn := fun _ => fun
  | [d1, d2, d3] => { results := [.lit (.bool false)], args := [d1, d2, d3] }
  | _ => none }
def HashHoldsWrongFalsely : Prop := hashHoldsRow.holds Try.pinned (OpenSpec.ofChange hashHoldsWrong)

/-- 'lockgatelaw10.HashKnown': WHATEVER THE INPUT: true; the input reads as it did. -/
def hashKnownSpec : ChangeSpec := { name := "hashKnown", fn := fun _ => fun
  | [] => { results := [.lit (.bool true)], args := [] }
  | _ => none }
def hashKnownRow : OpenClaim := { program := "ytminmbkhlnaabaa", sum := "4561d73136d6691391790d2dc8b12c4a5681c769180c3cbd67b1683b753056ec", func := "lockgate/lockgatelaw10.HashKnown", spec := "hashKnown", unfollowed := true, recurses := true, apart := false }
def HashKnownSaid : Prop := hashKnownRow.holds Try.pinned (OpenSpec.ofChange hashKnownSpec)

/-- ITS FALSE NEIGHBOUR: 'it returns false'. Refute it at one input. -/
def hashKnownWrong : ChangeSpec := { name := "hashKnown", fn := fun _ => fun
  | [] => { results := [.lit (.bool false)], args := [] }
  | _ => none }
def HashKnownWrongFalsely : Prop := hashKnownRow.holds Try.pinned (OpenSpec.ofChange hashKnownWrong)

/- THE SECOND FORM. 'bulk': how many values and letters a reading holds, each counted each time it is reached (what is shared counts as often as it is met; a slice's spare places count too). A statement '..UptoSaid' is the law's where the arguments, and the package variables that the reading takes, are together of bulk at most 1048576: NARROWER than '..Said'. Prove '..Said' where nothing that the law and all that it calls make is longer than what came in: it says more and counts as full. Else prove '..UptoSaid'. A law counts once. -/
mutual
def uptoBulk {H : Type} : DataW H → Nat
  | .lit (.string bytes) => bytes.length + 1
  | .lit _ => 1
  | .nil => 1
  | .ptr d => uptoBulk d + 1
  | .slice elems spare => uptoBulkAll elems + uptoBulkAll spare + 1
  | .agg parts => uptoBulkAll parts + 1
  | .iface _ d => uptoBulk d + 1
  | .map entries => uptoBulkEntries entries + 1
  | .held _ => 1
def uptoBulkAll {H : Type} : List (DataW H) → Nat
  | [] => 0
  | d :: r => uptoBulk d + uptoBulkAll r
def uptoBulkEntries {H : Type} : List (Lit × DataW H) → Nat
  | [] => 0
  | x :: r => uptoBulkEntry x + uptoBulkEntries r
def uptoBulkEntry {H : Type} : Lit × DataW H → Nat
  | (.string bytes, d) => bytes.length + uptoBulk d + 1
  | (_, d) => uptoBulk d + 1
 end
def uptoSmall : (H : Type) → List (DataW H) → Bool := fun _ ds => decide (uptoBulkAll ds ≤ 1048576)
def OpenSpec.upto (s : _root_.Go.ChangeSpec) : _root_.Go.OpenSpec := { _root_.Go.OpenSpec.ofChange s with cond := some uptoSmall }

/-- 'lockgatelaw11.LruGoes', WHERE WHAT IT READS IS OF BULK AT MOST 1048576: true; the input reads as it did. -/
def lruGoesUptoRow : OpenClaim := { program := "ytminmbkhlnaabaa", sum := "4561d73136d6691391790d2dc8b12c4a5681c769180c3cbd67b1683b753056ec", func := "lockgate/lockgatelaw11.LruGoes", spec := "lruGoes", unfollowed := true, recurses := true, apart := false, narrowed := true }
def LruGoesUptoSaid : Prop := lruGoesUptoRow.holds Try.pinned (OpenSpec.upto lruGoesSpec)

/-- 'lockgatelaw11.LruKnown', WHERE WHAT IT READS IS OF BULK AT MOST 1048576: true; the input reads as it did. -/
def lruKnownUptoRow : OpenClaim := { program := "ytminmbkhlnaabaa", sum := "4561d73136d6691391790d2dc8b12c4a5681c769180c3cbd67b1683b753056ec", func := "lockgate/lockgatelaw11.LruKnown", spec := "lruKnown", unfollowed := true, recurses := true, apart := false, narrowed := true }
def LruKnownUptoSaid : Prop := lruKnownUptoRow.holds Try.pinned (OpenSpec.upto lruKnownSpec)

/-- 'lockgatelaw11.LruPlays', WHERE WHAT IT READS IS OF BULK AT MOST 1048576: true; the input reads as it did. -/
def lruPlaysUptoRow : OpenClaim := { program := "ytminmbkhlnaabaa", sum := "4561d73136d6691391790d2dc8b12c4a5681c769180c3cbd67b1683b753056ec", func := "lockgate/lockgatelaw11.LruPlays", spec := "lruPlays", unfollowed := true, recurses := true, apart := false, narrowed := true }
def LruPlaysUptoSaid : Prop := lruPlaysUptoRow.holds Try.pinned (OpenSpec.upto lruPlaysSpec)

/-- 'lockgatelaw11.LruLooks', WHERE WHAT IT READS IS OF BULK AT MOST 1048576: true; the input reads as it did. -/
def lruLooksUptoRow : OpenClaim := { program := "ytminmbkhlnaabaa", sum := "4561d73136d6691391790d2dc8b12c4a5681c769180c3cbd67b1683b753056ec", func := "lockgate/lockgatelaw11.LruLooks", spec := "lruLooks", unfollowed := true, recurses := true, apart := false, narrowed := true }
def LruLooksUptoSaid : Prop := lruLooksUptoRow.holds Try.pinned (OpenSpec.upto lruLooksSpec)

/-- 'lockgatelaw10.HashSums', WHERE WHAT IT READS IS OF BULK AT MOST 1048576: true; the input reads as it did. -/
def hashSumsUptoRow : OpenClaim := { program := "ytminmbkhlnaabaa", sum := "4561d73136d6691391790d2dc8b12c4a5681c769180c3cbd67b1683b753056ec", func := "lockgate/lockgatelaw10.HashSums", spec := "hashSums", unfollowed := true, recurses := true, apart := false, narrowed := true }
def HashSumsUptoSaid : Prop := hashSumsUptoRow.holds Try.pinned (OpenSpec.upto hashSumsSpec)

/-- 'lockgatelaw10.HashWears', WHERE WHAT IT READS IS OF BULK AT MOST 1048576: true; the input reads as it did. -/
def hashWearsUptoRow : OpenClaim := { program := "ytminmbkhlnaabaa", sum := "4561d73136d6691391790d2dc8b12c4a5681c769180c3cbd67b1683b753056ec", func := "lockgate/lockgatelaw10.HashWears", spec := "hashWears", unfollowed := true, recurses := true, apart := false, narrowed := true }
def HashWearsUptoSaid : Prop := hashWearsUptoRow.holds Try.pinned (OpenSpec.upto hashWearsSpec)

/-- 'lockgatelaw10.HashRuns', WHERE WHAT IT READS IS OF BULK AT MOST 1048576: true; the input reads as it did. -/
def hashRunsUptoRow : OpenClaim := { program := "ytminmbkhlnaabaa", sum := "4561d73136d6691391790d2dc8b12c4a5681c769180c3cbd67b1683b753056ec", func := "lockgate/lockgatelaw10.HashRuns", spec := "hashRuns", unfollowed := true, recurses := true, apart := false, narrowed := true }
def HashRunsUptoSaid : Prop := hashRunsUptoRow.holds Try.pinned (OpenSpec.upto hashRunsSpec)

/-- 'lockgatelaw10.HashHolds', WHERE WHAT IT READS IS OF BULK AT MOST 1048576: true; the input reads as it did. -/
def hashHoldsUptoRow : OpenClaim := { program := "ytminmbkhlnaabaa", sum := "4561d73136d6691391790d2dc8b12c4a5681c769180c3cbd67b1683b753056ec", func := "lockgate/lockgatelaw10.HashHolds", spec := "hashHolds", unfollowed := true, recurses := true, apart := false, narrowed := true }
def HashHoldsUptoSaid : Prop := hashHoldsUptoRow.holds Try.pinned (OpenSpec.upto hashHoldsSpec)

/-- 'lockgatelaw10.HashKnown', WHERE WHAT IT READS IS OF BULK AT MOST 1048576: true; the input reads as it did. -/
def hashKnownUptoRow : OpenClaim := { program := "ytminmbkhlnaabaa", sum := "4561d73136d6691391790d2dc8b12c4a5681c769180c3cbd67b1683b753056ec", func := "lockgate/lockgatelaw10.HashKnown", spec := "hashKnown", unfollowed := true, recurses := true, apart := false, narrowed := true }
def HashKnownUptoSaid : Prop := hashKnownUptoRow.holds Try.pinned (OpenSpec.upto hashKnownSpec)

end Rows
end Go.Proofs.Ytminmbkhlnaabaa
