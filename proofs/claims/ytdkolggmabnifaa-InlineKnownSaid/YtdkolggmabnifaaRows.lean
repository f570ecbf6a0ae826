/-
  No cell of these rows narrows 'for every input' (looked for: loops, veiled, ifaces, maps, wideKeys, modest, calm, conditions, laid).
  DERIVED. THE GIVEN ROWS OF THIS SEAT. 4 by the template 'for every input the law returns true; each argument reads behind the call as it read before'; 0 by the template 'total and deterministic' (their statements: YtdkolggmabnifaaTotals.lean).
  GIVEN WITH THE SEED: the statements are not yours to turn. If you find one false, say at which input.
  Laid BY PROGRAM, IN A SANDBOX (cutbox-rows.mjs): the forced cells as the released guide's own fill.sh prints them over the translation 540436b5f004509b… (all of the seat's roots in one cut). By AI agents, Wed Nov 11 2026. No macro, syntax, notation, axiom, sorry.
-/
import Derived.Test.YtdkolggmabnifaaChecked
import GoSem.Claim
import GoSem.ClaimJoined
import GoSem.ClaimMapViews
import Derived.JoinedTies
import Derived.KernelRfl
namespace Go.Proofs.Ytdkolggmabnifaa
/- THE CELL 'sum', in the pinned program and in every row, IS THE sha256 OF THE DUMP (.gsa) THAT YtdkolggmabnifaaProg.lean LOADS. Nothing in Lean hashes anything: it is a label: what it is worth is what the hold of that sum in a sandbox is worth. -/
noncomputable def Try.pinned : Pinned := { name := "ytdkolggmabnifaa", sum := "540436b5f004509ba7e5b939d3eef6033d1d1f949d452c986cd708c5a05f7876", checked := Try.checked }
namespace Rows
def none {H : Type} : Left H := { results := [], args := [] }

/-- 'lockgatelaw26.InlineLeads': WHATEVER THE INPUT: true; the input reads as it did. -/
def inlineLeadsSpec : ChangeSpec := { name := "inlineLeads", fn := fun _ => fun
  | [d1, d2] => { results := [.lit (.bool true)], args := [d1, d2] }
  | _ => none }
def inlineLeadsRow : OpenClaim := { program := "ytdkolggmabnifaa", sum := "540436b5f004509ba7e5b939d3eef6033d1d1f949d452c986cd708c5a05f7876", func := "lockgate/lockgatelaw26.InlineLeads", spec := "inlineLeads", unfollowed := true, recurses := true, apart := false }
def InlineLeadsSaid : Prop := inlineLeadsRow.holds Try.pinned (OpenSpec.ofChange inlineLeadsSpec)

/-- ITS FALSE NEIGHBOUR: 'it returns false'. Refute it at one input. -/
def inlineLeadsWrong : ChangeSpec := { name := "inlineLeads", fn := fun _ => fun
  | [d1, d2] => { results := [.lit (.bool false)], args := [d1, d2] }
  | _ => none }
def InlineLeadsWrongFalsely : Prop := inlineLeadsRow.holds Try.pinned (OpenSpec.ofChange inlineLeadsWrong)

/-- 'lockgatelaw26.InlineSame': WHATEVER THE INPUT: true; the input reads as it did. -/
def inlineSameSpec : ChangeSpec := { name := "inlineSame", fn := fun _ => fun
  | [d1, d2] => { results := [.lit (.bool true)], args := [d1, d2] }
  | _ => none }
def inlineSameRow : OpenClaim := { program := "ytdkolggmabnifaa", sum := "540436b5f004509ba7e5b939d3eef6033d1d1f949d452c986cd708c5a05f7876", func := "lockgate/lockgatelaw26.InlineSame", spec := "inlineSame", unfollowed := true, recurses := true, apart := false }
def InlineSameSaid : Prop := inlineSameRow.holds Try.pinned (OpenSpec.ofChange inlineSameSpec)

/-- ITS FALSE NEIGHBOUR: 'it returns false'. Refute it at one input. -/
def inlineSameWrong : ChangeSpec := { name := "inlineSame", fn := fun _ => fun
  | [d1, d2] => { results := [.lit (.bool false)], args := [d1, d2] }
  | _ => none }
def InlineSameWrongFalsely : Prop := inlineSameRow.holds Try.pinned (OpenSpec.ofChange inlineSameWrong)

/-- 'lockgatelaw26.InlineAlone': WHATEVER THE INPUT: true; the input reads as it did. -/
def inlineAloneSpec : ChangeSpec := { name := "inlineAlone", fn := fun _ => fun
  | [d] => { results := [.lit (.bool true)], args := [d] }
  | _ => none }
def inlineAloneRow : OpenClaim := { program := "ytdkolggmabnifaa", sum := "540436b5f004509ba7e5b939d3eef6033d1d1f949d452c986cd708c5a05f7876", func := "lockgate/lockgatelaw26.InlineAlone", spec := "inlineAlone", unfollowed := true, recurses := true, apart := false }
def InlineAloneSaid : Prop := inlineAloneRow.holds Try.pinned (OpenSpec.ofChange inlineAloneSpec)

/-- ITS FALSE NEIGHBOUR: 'it returns false'. Refute it at one input. -/
def inlineAloneWrong : ChangeSpec := { name := "inlineAlone", fn := fun _ => fun
  | [d] => { results := [.lit (.bool false)], args := [d] }
  | _ => none }
def InlineAloneWrongFalsely : Prop := inlineAloneRow.holds Try.pinned (OpenSpec.ofChange inlineAloneWrong)

/-- 'lockgatelaw26.InlineKnown': WHATEVER THE INPUT: true; the input reads as it did. -/
def inlineKnownSpec : ChangeSpec := { name := "inlineKnown", fn := fun _ => fun
  | [] => { results := [.lit (.bool true)], args := [] }
  | _ => none }
def inlineKnownRow : OpenClaim := { program := "ytdkolggmabnifaa", sum := "540436b5f004509ba7e5b939d3eef6033d1d1f949d452c986cd708c5a05f7876", func := "lockgate/lockgatelaw26.InlineKnown", spec := "inlineKnown", unfollowed := true, recurses := true, apart := false }
def InlineKnownSaid : Prop := inlineKnownRow.holds Try.pinned (OpenSpec.ofChange inlineKnownSpec)

/-- ITS FALSE NEIGHBOUR: 'it returns false'. Refute it at one input. -/
def inlineKnownWrong : ChangeSpec := { name := "inlineKnown", fn := fun _ => fun
  | [] => { results := [.lit (.bool false)], args := [] }
  | _ => none }
def InlineKnownWrongFalsely : Prop := inlineKnownRow.holds Try.pinned (OpenSpec.ofChange inlineKnownWrong)

/- THE SECOND FORM. 'bulk': how many values and letters a reading holds, each counted each time it is reached (what is shared counts as often as it is met; a slice's spare places count too). A statement '..UptoSaid' is the law's where the arguments, and the package variables that the reading takes, are together of bulk at most 1048576: NARROWER than '..Said'. Prove '..Said' where nothing that the law and all that it calls make is longer than what came in: it says more and counts as full. Else prove '..UptoSaid'. A law counts once. -/
mutual
def uptoBulk {H : Type} : DataW H → Nat
  | .lit (.string bytes) => bytes.length + 1
  | .lit _ => 1
  | .nil => 1
  | .ptr d => uptoBulk d + 1
  | .slice elems spare => uptoBulkAll elems + uptoBulkAll spare + 1
  | .agg parts => uptoBulkAll parts + 1
  | .iface _ d => uptoBulk d + 1
  | .map entries => uptoBulkEntries entries + 1
  | .held _ => 1
def uptoBulkAll {H : Type} : List (DataW H) → Nat
  | [] => 0
  | d :: r => uptoBulk d + uptoBulkAll r
def uptoBulkEntries {H : Type} : List (Lit × DataW H) → Nat
  | [] => 0
  | x :: r => uptoBulkEntry x + uptoBulkEntries r
def uptoBulkEntry {H : Type} : Lit × DataW H → Nat
  | (.string bytes, d) => bytes.length + uptoBulk d + 1
  | (_, d) => uptoBulk d + 1
 end
def uptoSmall : (H : Type) → List (DataW H) → Bool := fun _ ds => decide (uptoBulkAll ds ≤ 1048576)
def OpenSpec.upto (s : _root_.Go.ChangeSpec) : _root_.Go.OpenSpec := { _root_.Go.OpenSpec.ofChange s with cond := some uptoSmall }

/-- 'lockgatelaw26.InlineLeads', WHERE WHAT IT READS IS OF BULK AT MOST 1048576: true; the input reads as it did. -/
def inlineLeadsUptoRow : OpenClaim := { program := "ytdkolggmabnifaa", sum := "540436b5f004509ba7e5b939d3eef6033d1d1f949d452c986cd708c5a05f7876", func := "lockgate/lockgatelaw26.InlineLeads", spec := "inlineLeads", unfollowed := true, recurses := true, apart := false, narrowed := true }
def InlineLeadsUptoSaid : Prop := inlineLeadsUptoRow.holds Try.pinned (OpenSpec.upto inlineLeadsSpec)

/-- 'lockgatelaw26.InlineSame', WHERE WHAT IT READS IS OF BULK AT MOST 1048576: true; the input reads as it did. -/
def inlineSameUptoRow : OpenClaim := { program := "ytdkolggmabnifaa", sum := "540436b5f004509ba7e5b939d3eef6033d1d1f949d452c986cd708c5a05f7876", func := "lockgate/lockgatelaw26.InlineSame", spec := "inlineSame", unfollowed := true, recurses := true, apart := false, narrowed := true }
def InlineSameUptoSaid : Prop := inlineSameUptoRow.holds Try.pinned (OpenSpec.upto inlineSameSpec)

/-- 'lockgatelaw26.InlineAlone', WHERE WHAT IT READS IS OF BULK AT MOST 1048576: true; the input reads as it did. -/
def inlineAloneUptoRow : OpenClaim := { program := "ytdkolggmabnifaa", sum := "540436b5f004509ba7e5b939d3eef6033d1d1f949d452c986cd708c5a05f7876", func := "lockgate/lockgatelaw26.InlineAlone", spec := "inlineAlone", unfollowed := true, recurses := true, apart := false, narrowed := true }
def InlineAloneUptoSaid : Prop := inlineAloneUptoRow.holds Try.pinned (OpenSpec.upto inlineAloneSpec)

/-- 'lockgatelaw26.InlineKnown', WHERE WHAT IT READS IS OF BULK AT MOST 1048576: true; the input reads as it did. -/
def inlineKnownUptoRow : OpenClaim := { program := "ytdkolggmabnifaa", sum := "540436b5f004509ba7e5b939d3eef6033d1d1f949d452c986cd708c5a05f7876", func := "lockgate/lockgatelaw26.InlineKnown", spec := "inlineKnown", unfollowed := true, recurses := true, apart := false, narrowed := true }
def InlineKnownUptoSaid : Prop := inlineKnownUptoRow.holds Try.pinned (OpenSpec.upto inlineKnownSpec)

end Rows
end Go.Proofs.Ytdkolggmabnifaa
