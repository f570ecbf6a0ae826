/-
  No cell of these rows narrows 'for every input' (looked for: loops, veiled, ifaces, maps, wideKeys, modest, calm, conditions, laid).
  DERIVED. THE GIVEN ROWS OF THIS SEAT. 11 by the template 'for every input the law returns true; each argument reads behind the call as it read before'; 0 by the template 'total and deterministic' (their statements: YtdimcafdmaidpaaTotals.lean).
  GIVEN WITH THE SEED: the statements are not yours to turn. If you find one false, say at which input.
  Laid BY PROGRAM, IN A SANDBOX (cutbox-rows.mjs): the forced cells as the released guide's own fill.sh prints them over the translation cb964a213b364f7f… (all of the seat's roots in one cut). By AI agents, Wed Nov 11 2026. No macro, syntax, notation, axiom, sorry.
-/
import Derived.Test.YtdimcafdmaidpaaChecked
import GoSem.Claim
import GoSem.ClaimJoined
import GoSem.ClaimMapViews
import Derived.JoinedTies
import Derived.KernelRfl
namespace Go.Proofs.Ytdimcafdmaidpaa
/- THE CELL 'sum', in the pinned program and in every row, IS THE sha256 OF THE DUMP (.gsa) THAT YtdimcafdmaidpaaProg.lean LOADS. Nothing in Lean hashes anything: it is a label: what it is worth is what the hold of that sum in a sandbox is worth. -/
noncomputable def Try.pinned : Pinned := { name := "ytdimcafdmaidpaa", sum := "cb964a213b364f7fd02641fd4e8a72fce49893f897749444d38f8e65e5757b81", checked := Try.checked }
namespace Rows
def none {H : Type} : Left H := { results := [], args := [] }

/-- 'lockgatelaw15.FrameSame': WHATEVER THE INPUT: true; the input reads as it did. -/
def frameSameSpec : ChangeSpec := { name := "frameSame", fn := fun _ => fun
  | [d1, d2, d3, d4] => { results := [.lit (.bool true)], args := [d1, d2, d3, d4] }
  | _ => none }
def frameSameRow : OpenClaim := { program := "ytdimcafdmaidpaa", sum := "cb964a213b364f7fd02641fd4e8a72fce49893f897749444d38f8e65e5757b81", func := "lockgate/lockgatelaw15.FrameSame", spec := "frameSame", apart := false }
def FrameSameSaid : Prop := frameSameRow.holds Try.pinned (OpenSpec.ofChange frameSameSpec)

/-- ITS FALSE NEIGHBOUR: 'it returns false'. Refute it at one input. -/
def frameSameWrong : ChangeSpec := { name := "frameSame", fn := fun _ => fun
  | [d1, d2, d3, d4] => { results := [.lit (.bool false)], args := [d1, d2, d3, d4] }
  | _ => none }
def FrameSameWrongFalsely : Prop := frameSameRow.holds Try.pinned (OpenSpec.ofChange frameSameWrong)

/-- 'lockgatelaw15.FrameFills': WHATEVER THE INPUT: true; the input reads as it did. -/
def frameFillsSpec : ChangeSpec := { name := "frameFills", fn := fun _ => fun
  | [d1, d2] => { results := [.lit (.bool true)], args := [d1, d2] }
  | _ => none }
def frameFillsRow : OpenClaim := { program := "ytdimcafdmaidpaa", sum := "cb964a213b364f7fd02641fd4e8a72fce49893f897749444d38f8e65e5757b81", func := "lockgate/lockgatelaw15.FrameFills", spec := "frameFills", apart := false }
def FrameFillsSaid : Prop := frameFillsRow.holds Try.pinned (OpenSpec.ofChange frameFillsSpec)

/-- ITS FALSE NEIGHBOUR: 'it returns false'. Refute it at one input. -/
def frameFillsWrong : ChangeSpec := { name := "frameFills", fn := fun _ => fun
  | [d1, d2] => { results := [.lit (.bool false)], args := [d1, d2] }
  | _ => none }
def FrameFillsWrongFalsely : Prop := frameFillsRow.holds Try.pinned (OpenSpec.ofChange frameFillsWrong)

/-- 'lockgatelaw15.FrameOnce': WHATEVER THE INPUT: true; the input reads as it did. -/
def frameOnceSpec : ChangeSpec := { name := "frameOnce", fn := fun _ => fun
  | [d] => { results := [.lit (.bool true)], args := [d] }
  | _ => none }
def frameOnceRow : OpenClaim := { program := "ytdimcafdmaidpaa", sum := "cb964a213b364f7fd02641fd4e8a72fce49893f897749444d38f8e65e5757b81", func := "lockgate/lockgatelaw15.FrameOnce", spec := "frameOnce", apart := false }
def FrameOnceSaid : Prop := frameOnceRow.holds Try.pinned (OpenSpec.ofChange frameOnceSpec)

/-- ITS FALSE NEIGHBOUR: 'it returns false'. Refute it at one input. -/
def frameOnceWrong : ChangeSpec := { name := "frameOnce", fn := fun _ => fun
  | [d] => { results := [.lit (.bool false)], args := [d] }
  | _ => none }
def FrameOnceWrongFalsely : Prop := frameOnceRow.holds Try.pinned (OpenSpec.ofChange frameOnceWrong)

/-- 'lockgatelaw15.FrameTurns': WHATEVER THE INPUT: true; the input reads as it did. -/
def frameTurnsSpec : ChangeSpec := { name := "frameTurns", fn := fun _ => fun
  | [d1, d2, d3, d4, d5] => { results := [.lit (.bool true)], args := [d1, d2, d3, d4, d5] }
  | _ => none }
def frameTurnsRow : OpenClaim := { program := "ytdimcafdmaidpaa", sum := "cb964a213b364f7fd02641fd4e8a72fce49893f897749444d38f8e65e5757b81", func := "lockgate/lockgatelaw15.FrameTurns", spec := "frameTurns", apart := false }
def FrameTurnsSaid : Prop := frameTurnsRow.holds Try.pinned (OpenSpec.ofChange frameTurnsSpec)

/-- ITS FALSE NEIGHBOUR: 'it returns false'. Refute it at one input. -/
def frameTurnsWrong : ChangeSpec := { name := "frameTurns", fn := fun _ => fun
  | [d1, d2, d3, d4, d5] => { results := [.lit (.bool false)], args := [d1, d2, d3, d4, d5] }
  | _ => none }
def FrameTurnsWrongFalsely : Prop := frameTurnsRow.holds Try.pinned (OpenSpec.ofChange frameTurnsWrong)

/-- 'lockgatelaw15.FrameKnown': WHATEVER THE INPUT: true; the input reads as it did. -/
def frameKnownSpec : ChangeSpec := { name := "frameKnown", fn := fun _ => fun
  | [] => { results := [.lit (.bool true)], args := [] }
  | _ => none }
def frameKnownRow : OpenClaim := { program := "ytdimcafdmaidpaa", sum := "cb964a213b364f7fd02641fd4e8a72fce49893f897749444d38f8e65e5757b81", func := "lockgate/lockgatelaw15.FrameKnown", spec := "frameKnown", apart := false }
def FrameKnownSaid : Prop := frameKnownRow.holds Try.pinned (OpenSpec.ofChange frameKnownSpec)

/-- ITS FALSE NEIGHBOUR: 'it returns false'. Refute it at one input. -/
def frameKnownWrong : ChangeSpec := { name := "frameKnown", fn := fun _ => fun
  | [] => { results := [.lit (.bool false)], args := [] }
  | _ => none }
def FrameKnownWrongFalsely : Prop := frameKnownRow.holds Try.pinned (OpenSpec.ofChange frameKnownWrong)

/-- 'lockgatelaw13.MemStack': WHATEVER THE INPUT: true; the input reads as it did. -/
def memStackSpec : ChangeSpec := { name := "memStack", fn := fun _ => fun
  | [d1, d2, d3, d4] => { results := [.lit (.bool true)], args := [d1, d2, d3, d4] }
  | _ => none }
def memStackRow : OpenClaim := { program := "ytdimcafdmaidpaa", sum := "cb964a213b364f7fd02641fd4e8a72fce49893f897749444d38f8e65e5757b81", func := "lockgate/lockgatelaw13.MemStack", spec := "memStack", apart := false }
def MemStackSaid : Prop := memStackRow.holds Try.pinned (OpenSpec.ofChange memStackSpec)

/-- ITS FALSE NEIGHBOUR: 'it returns false'. Refute it at one input. -/
def memStackWrong : ChangeSpec := { name := "memStack", fn := fun _ => fun
  | [d1, d2, d3, d4] => { results := [.lit (.bool false)], args := [d1, d2, d3, d4] }
  | _ => none }
def MemStackWrongFalsely : Prop := memStackRow.holds Try.pinned (OpenSpec.ofChange memStackWrong)

/-- 'lockgatelaw13.MemStacks': WHATEVER THE INPUT: true; the input reads as it did. -/
def memStacksSpec : ChangeSpec := { name := "memStacks", fn := fun _ => fun
  | [d1, d2] => { results := [.lit (.bool true)], args := [d1, d2] }
  | _ => none }
def memStacksRow : OpenClaim := { program := "ytdimcafdmaidpaa", sum := "cb964a213b364f7fd02641fd4e8a72fce49893f897749444d38f8e65e5757b81", func := "lockgate/lockgatelaw13.MemStacks", spec := "memStacks", apart := false }
def MemStacksSaid : Prop := memStacksRow.holds Try.pinned (OpenSpec.ofChange memStacksSpec)

/-- ITS FALSE NEIGHBOUR: 'it returns false'. Refute it at one input. -/
def memStacksWrong : ChangeSpec := { name := "memStacks", fn := fun _ => fun
  | [d1, d2] => { results := [.lit (.bool false)], args := [d1, d2] }
  | _ => none }
def MemStacksWrongFalsely : Prop := memStacksRow.holds Try.pinned (OpenSpec.ofChange memStacksWrong)

/-- 'lockgatelaw13.MemFills': WHATEVER THE INPUT: true; the input reads as it did. -/
def memFillsSpec : ChangeSpec := { name := "memFills", fn := fun _ => fun
  | [d1, d2, d3] => { results := [.lit (.bool true)], args := [d1, d2, d3] }
  | _ => none }
def memFillsRow : OpenClaim := { program := "ytdimcafdmaidpaa", sum := "cb964a213b364f7fd02641fd4e8a72fce49893f897749444d38f8e65e5757b81", func := "lockgate/lockgatelaw13.MemFills", spec := "memFills", apart := false }
def MemFillsSaid : Prop := memFillsRow.holds Try.pinned (OpenSpec.ofChange memFillsSpec)

/-- ITS FALSE NEIGHBOUR: 'it returns false'. Refute it at one input. -/
def memFillsWrong : ChangeSpec := { name := "memFills", fn := fun _ => fun
  | [d1, d2, d3] => { results := [.lit (.bool false)], args := [d1, d2, d3] }
  | _ => none }
def MemFillsWrongFalsely : Prop := memFillsRow.holds Try.pinned (OpenSpec.ofChange memFillsWrong)

/-- 'lockgatelaw13.MemPackets': WHATEVER THE INPUT: true; the input reads as it did. -/
def memPacketsSpec : ChangeSpec := { name := "memPackets", fn := fun _ => fun
  | [d1, d2] => { results := [.lit (.bool true)], args := [d1, d2] }
  | _ => none }
def memPacketsRow : OpenClaim := { program := "ytdimcafdmaidpaa", sum := "cb964a213b364f7fd02641fd4e8a72fce49893f897749444d38f8e65e5757b81", func := "lockgate/lockgatelaw13.MemPackets", spec := "memPackets", apart := false }
def MemPacketsSaid : Prop := memPacketsRow.holds Try.pinned (OpenSpec.ofChange memPacketsSpec)

/-- ITS FALSE NEIGHBOUR: 'it returns false'. Refute it at one input. -/
def memPacketsWrong : ChangeSpec := { name := "memPackets", fn := fun _ => fun
  | [d1, d2] => { results := [.lit (.bool false)], args := [d1, d2] }
  | _ => none }
def MemPacketsWrongFalsely : Prop := memPacketsRow.holds Try.pinned (OpenSpec.ofChange memPacketsWrong)

/-- 'lockgatelaw13.MemBack': WHATEVER THE INPUT: true; the input reads as it did. -/
def memBackSpec : ChangeSpec := { name := "memBack", fn := fun _ => fun
  | [d1, d2, d3, d4, d5] => { results := [.lit (.bool true)], args := [d1, d2, d3, d4, d5] }
  | _ => none }
def memBackRow : OpenClaim := { program := "ytdimcafdmaidpaa", sum := "cb964a213b364f7fd02641fd4e8a72fce49893f897749444d38f8e65e5757b81", func := "lockgate/lockgatelaw13.MemBack", spec := "memBack", apart := false }
def MemBackSaid : Prop := memBackRow.holds Try.pinned (OpenSpec.ofChange memBackSpec)

/-- ITS FALSE NEIGHBOUR: 'it returns false'. Refute it at one input. -/
def memBackWrong : ChangeSpec := { name := "memBack", fn := fun _ => fun
  | [d1, d2, d3, d4, d5] => { results := [.lit (.bool false)], args := [d1, d2, d3, d4, d5] }
  | _ => none }
def MemBackWrongFalsely : Prop := memBackRow.holds Try.pinned (OpenSpec.ofChange memBackWrong)

/-- 'lockgatelaw13.MemKnown': WHATEVER THE INPUT: true; the input reads as it did. -/
def memKnownSpec : ChangeSpec := { name := "memKnown", fn := fun _ => fun
  | [] => { results := [.lit (.bool true)], args := [] }
  | _ => none }
def memKnownRow : OpenClaim := { program := "ytdimcafdmaidpaa", sum := "cb964a213b364f7fd02641fd4e8a72fce49893f897749444d38f8e65e5757b81", func := "lockgate/lockgatelaw13.MemKnown", spec := "memKnown", apart := false }
def MemKnownSaid : Prop := memKnownRow.holds Try.pinned (OpenSpec.ofChange memKnownSpec)

/-- ITS FALSE NEIGHBOUR: 'it returns false'. Refute it at one input. -/
def memKnownWrong : ChangeSpec := { name := "memKnown", fn := fun _ => fun
  | [] => { results := [.lit (.bool false)], args := [] }
  | _ => none }
def MemKnownWrongFalsely : Prop := memKnownRow.holds Try.pinned (OpenSpec.ofChange memKnownWrong)

/- THE SECOND FORM. 'bulk': how many values and letters a reading holds, each counted each time it is reached (what is shared counts as often as it is met; a slice's spare places count too). A statement '..UptoSaid' is the law's where the arguments, and the package variables that the reading takes, are together of bulk at most 1048576: NARROWER than '..Said'. Prove '..Said' where nothing that the law and all that it calls make is longer than what came in: it says more and counts as full. Else prove '..UptoSaid'. A law counts once. -/
mutual
def uptoBulk {H : Type} : DataW H → Nat
  | .lit (.string bytes) => bytes.length + 1
  | .lit _ => 1
  | .nil => 1
  | .ptr d => uptoBulk d + 1
  | .slice elems spare => uptoBulkAll elems + uptoBulkAll spare + 1
  | .agg parts => uptoBulkAll parts + 1
  | .iface _ d => uptoBulk d + 1
  | .map entries => uptoBulkEntries entries + 1
  | .held _ => 1
def uptoBulkAll {H : Type} : List (DataW H) → Nat
  | [] => 0
  | d :: r => uptoBulk d + uptoBulkAll r
def uptoBulkEntries {H : Type} : List (Lit × DataW H) → Nat
  | [] => 0
  | x :: r => uptoBulkEntry x + uptoBulkEntries r
def uptoBulkEntry {H : Type} : Lit × DataW H → Nat
  | (.string bytes, d) => bytes.length + uptoBulk d + 1
  | (_, d) => uptoBulk d + 1
 end
def uptoSmall : (H : Type) → List (DataW H) → Bool := fun _ ds => decide (uptoBulkAll ds ≤ 1048576)
def OpenSpec.upto (s : _root_.Go.ChangeSpec) : _root_.Go.OpenSpec := { _root_.Go.OpenSpec.ofChange s with cond := some uptoSmall }

/-- 'lockgatelaw15.FrameSame', WHERE WHAT IT READS IS OF BULK AT MOST 1048576: true; the input reads as it did. -/
def frameSameUptoRow : OpenClaim := { program := "ytdimcafdmaidpaa", sum := "cb964a213b364f7fd02641fd4e8a72fce49893f897749444d38f8e65e5757b81", func := "lockgate/lockgatelaw15.FrameSame", spec := "frameSame", apart := false, narrowed := true }
def FrameSameUptoSaid : Prop := frameSameUptoRow.holds Try.pinned (OpenSpec.upto frameSameSpec)

/-- 'lockgatelaw15.FrameFills', WHERE WHAT IT READS IS OF BULK AT MOST 1048576: true; the input reads as it did. -/
def frameFillsUptoRow : OpenClaim := { program := "ytdimcafdmaidpaa", sum := "cb964a213b364f7fd02641fd4e8a72fce49893f897749444d38f8e65e5757b81", func := "lockgate/lockgatelaw15.FrameFills", spec := "frameFills", apart := false, narrowed := true }
def FrameFillsUptoSaid : Prop := frameFillsUptoRow.holds Try.pinned (OpenSpec.upto frameFillsSpec)

/-- 'lockgatelaw15.FrameOnce', WHERE WHAT IT READS IS OF BULK AT MOST 1048576: true; the input reads as it did. -/
def frameOnceUptoRow : OpenClaim := { program := "ytdimcafdmaidpaa", sum := "cb964a213b364f7fd02641fd4e8a72fce49893f897749444d38f8e65e5757b81", func := "lockgate/lockgatelaw15.FrameOnce", spec := "frameOnce", apart := false, narrowed := true }
def FrameOnceUptoSaid : Prop := frameOnceUptoRow.holds Try.pinned (OpenSpec.upto frameOnceSpec)

/-- 'lockgatelaw15.FrameTurns', WHERE WHAT IT READS IS OF BULK AT MOST 1048576: true; the input reads as it did. -/
def frameTurnsUptoRow : OpenClaim := { program := "ytdimcafdmaidpaa", sum := "cb964a213b364f7fd02641fd4e8a72fce49893f897749444d38f8e65e5757b81", func := "lockgate/lockgatelaw15.FrameTurns", spec := "frameTurns", apart := false, narrowed := true }
def FrameTurnsUptoSaid : Prop := frameTurnsUptoRow.holds Try.pinned (OpenSpec.upto frameTurnsSpec)

/-- 'lockgatelaw15.FrameKnown', WHERE WHAT IT READS IS OF BULK AT MOST 1048576: true; the input reads as it did. -/
def frameKnownUptoRow : OpenClaim := { program := "ytdimcafdmaidpaa", sum := "cb964a213b364f7fd02641fd4e8a72fce49893f897749444d38f8e65e5757b81", func := "lockgate/lockgatelaw15.FrameKnown", spec := "frameKnown", apart := false, narrowed := true }
def FrameKnownUptoSaid : Prop := frameKnownUptoRow.holds Try.pinned (OpenSpec.upto frameKnownSpec)

/-- 'lockgatelaw13.MemStack', WHERE WHAT IT READS IS OF BULK AT MOST 1048576: true; the input reads as it did. -/
def memStackUptoRow : OpenClaim := { program := "ytdimcafdmaidpaa", sum := "cb964a213b364f7fd02641fd4e8a72fce49893f897749444d38f8e65e5757b81", func := "lockgate/lockgatelaw13.MemStack", spec := "memStack", apart := false, narrowed := true }
def MemStackUptoSaid : Prop := memStackUptoRow.holds Try.pinned (OpenSpec.upto memStackSpec)

/-- 'lockgatelaw13.MemStacks', WHERE WHAT IT READS IS OF BULK AT MOST 1048576: true; the input reads as it did. -/
def memStacksUptoRow : OpenClaim := { program := "ytdimcafdmaidpaa", sum := "cb964a213b364f7fd02641fd4e8a72fce49893f897749444d38f8e65e5757b81", func := "lockgate/lockgatelaw13.MemStacks", spec := "memStacks", apart := false, narrowed := true }
def MemStacksUptoSaid : Prop := memStacksUptoRow.holds Try.pinned (OpenSpec.upto memStacksSpec)

/-- 'lockgatelaw13.MemFills', WHERE WHAT IT READS IS OF BULK AT MOST 1048576: true; the input reads as it did. -/
def memFillsUptoRow : OpenClaim := { program := "ytdimcafdmaidpaa", sum := "cb964a213b364f7fd02641fd4e8a72fce49893f897749444d38f8e65e5757b81", func := "lockgate/lockgatelaw13.MemFills", spec := "memFills", apart := false, narrowed := true }
def MemFillsUptoSaid : Prop := memFillsUptoRow.holds Try.pinned (OpenSpec.upto memFillsSpec)

/-- 'lockgatelaw13.MemPackets', WHERE WHAT IT READS IS OF BULK AT MOST 1048576: true; the input reads as it did. -/
def memPacketsUptoRow : OpenClaim := { program := "ytdimcafdmaidpaa", sum := "cb964a213b364f7fd02641fd4e8a72fce49893f897749444d38f8e65e5757b81", func := "lockgate/lockgatelaw13.MemPackets", spec := "memPackets", apart := false, narrowed := true }
def MemPacketsUptoSaid : Prop := memPacketsUptoRow.holds Try.pinned (OpenSpec.upto memPacketsSpec)

/-- 'lockgatelaw13.MemBack', WHERE WHAT IT READS IS OF BULK AT MOST 1048576: true; the input reads as it did. -/
def memBackUptoRow : OpenClaim := { program := "ytdimcafdmaidpaa", sum := "cb964a213b364f7fd02641fd4e8a72fce49893f897749444d38f8e65e5757b81", func := "lockgate/lockgatelaw13.MemBack", spec := "memBack", apart := false, narrowed := true }
def MemBackUptoSaid : Prop := memBackUptoRow.holds Try.pinned (OpenSpec.upto memBackSpec)

/-- 'lockgatelaw13.MemKnown', WHERE WHAT IT READS IS OF BULK AT MOST 1048576: true; the input reads as it did. -/
def memKnownUptoRow : OpenClaim := { program := "ytdimcafdmaidpaa", sum := "cb964a213b364f7fd02641fd4e8a72fce49893f897749444d38f8e65e5757b81", func := "lockgate/lockgatelaw13.MemKnown", spec := "memKnown", apart := false, narrowed := true }
def MemKnownUptoSaid : Prop := memKnownUptoRow.holds Try.pinned (OpenSpec.upto memKnownSpec)

end Rows
end Go.Proofs.Ytdimcafdmaidpaa
