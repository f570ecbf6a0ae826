/-
  No cell of these rows narrows 'for every input' (looked for: loops, veiled, ifaces, maps, wideKeys, modest, calm, conditions, laid).
  DERIVED. THE GIVEN ROWS OF THIS SEAT. 8 by the template 'for every input the law returns true; each argument reads behind the call as it read before'; 0 by the template 'total and deterministic' (their statements: YtikdbgheefjpkaaTotals.lean).
  GIVEN WITH THE SEED: the statements are not yours to turn. If you find one false, say at which input.
  Laid BY PROGRAM, IN A SANDBOX (cutbox-rows.mjs): the forced cells as the released guide's own fill.sh prints them over the translation b57aea27a1bfb556… (all of the seat's roots in one cut). By AI agents, Wed Nov 11 2026. No macro, syntax, notation, axiom, sorry.
-/
import Derived.Test.YtikdbgheefjpkaaChecked
import GoSem.Claim
import GoSem.ClaimJoined
import GoSem.ClaimMapViews
import Derived.JoinedTies
import Derived.KernelRfl
namespace Go.Proofs.Ytikdbgheefjpkaa
/- THE CELL 'sum', in the pinned program and in every row, IS THE sha256 OF THE DUMP (.gsa) THAT YtikdbgheefjpkaaProg.lean LOADS. Nothing in Lean hashes anything: it is a label: what it is worth is what the hold of that sum in a sandbox is worth. -/
noncomputable def Try.pinned : Pinned := { name := "ytikdbgheefjpkaa", sum := "b57aea27a1bfb5560980b409d3221ee167ab264cceae800255275af9d51e1c14", checked := Try.checked }
namespace Rows
def none {H : Type} : Left H := { results := [], args := [] }

/-- 'lockgatelaw28.WatchRuns': WHATEVER THE INPUT: true; the input reads as it did. -/
def watchRunsSpec : ChangeSpec := { name := "watchRuns", fn := fun _ => fun
  | [d] => { results := [.lit (.bool true)], args := [d] }
  | _ => none }
def watchRunsRow : OpenClaim := { program := "ytikdbgheefjpkaa", sum := "b57aea27a1bfb5560980b409d3221ee167ab264cceae800255275af9d51e1c14", func := "lockgate/lockgatelaw28.WatchRuns", spec := "watchRuns", unfollowed := true, recurses := true, apart := false }
def WatchRunsSaid : Prop := watchRunsRow.holds Try.pinned (OpenSpec.ofChange watchRunsSpec)

/-- ITS FALSE NEIGHBOUR: 'it returns false'. Refute it at one input. -/
def watchRunsWrong : ChangeSpec := { name := "watchRuns", fn := fun _ => fun
  | [d] => { results := [.lit (.bool false)], args := [d] }
  | _ => none }
def WatchRunsWrongFalsely : Prop := watchRunsRow.holds Try.pinned (OpenSpec.ofChange watchRunsWrong)

/-- 'lockgatelaw28.WatchHits': WHATEVER THE INPUT: true; the input reads as it did. -/
def watchHitsSpec : ChangeSpec := { name := "watchHits", fn := fun _ => fun
  | [d1, d2] => { results := [.lit (.bool true)], args := [d1, d2] }
  | _ => none }
def watchHitsRow : OpenClaim := { program := "ytikdbgheefjpkaa", sum := "b57aea27a1bfb5560980b409d3221ee167ab264cceae800255275af9d51e1c14", func := "lockgate/lockgatelaw28.WatchHits", spec := "watchHits", unfollowed := true, recurses := true, apart := false }
def WatchHitsSaid : Prop := watchHitsRow.holds Try.pinned (OpenSpec.ofChange watchHitsSpec)

/-- ITS FALSE NEIGHBOUR: 'it returns false'. Refute it at one input. -/
def watchHitsWrong : ChangeSpec := { name := "watchHits", fn := fun _ => fun
  | [d1, d2] => { results := [.lit (.bool false)], args := [d1, d2] }
  | _ => none }
def WatchHitsWrongFalsely : Prop := watchHitsRow.holds Try.pinned (OpenSpec.ofChange watchHitsWrong)

/-- 'lockgatelaw28.WatchPieces': WHATEVER THE INPUT: true; the input reads as it did. -/
def watchPiecesSpec : ChangeSpec := { name := "watchPieces", fn := fun _ => fun
  | [d1, d2, d3] => { results := [.lit (.bool true)], args := [d1, d2, d3] }
  | _ => none }
def watchPiecesRow : OpenClaim := { program := "ytikdbgheefjpkaa", sum := "b57aea27a1bfb5560980b409d3221ee167ab264cceae800255275af9d51e1c14", func := "lockgate/lockgatelaw28.WatchPieces", spec := "watchPieces", unfollowed := true, recurses := true, apart := false }
def WatchPiecesSaid : Prop := watchPiecesRow.holds Try.pinned (OpenSpec.ofChange watchPiecesSpec)

/-- ITS FALSE NEIGHBOUR: 'it returns false'. Refute it at one input. -/
def watchPiecesWrong : ChangeSpec := { name := "watchPieces", fn := fun _ => fun
  | [d1, d2, d3] => { results := [.lit (.bool false)], args := [d1, d2, d3] }
  | _ => none }
def WatchPiecesWrongFalsely : Prop := watchPiecesRow.holds Try.pinned (OpenSpec.ofChange watchPiecesWrong)

/-- 'lockgatelaw28.WatchKnown': WHATEVER THE INPUT: true; the input reads as it did. -/
def watchKnownSpec : ChangeSpec := { name := "watchKnown", fn := fun _ => fun
  | [] => { results := [.lit (.bool true)], args := [] }
  | _ => none }
def watchKnownRow : OpenClaim := { program := "ytikdbgheefjpkaa", sum := "b57aea27a1bfb5560980b409d3221ee167ab264cceae800255275af9d51e1c14", func := "lockgate/lockgatelaw28.WatchKnown", spec := "watchKnown", unfollowed := true, recurses := true, apart := false }
def WatchKnownSaid : Prop := watchKnownRow.holds Try.pinned (OpenSpec.ofChange watchKnownSpec)

/-- ITS FALSE NEIGHBOUR: 'it returns false'. Refute it at one input. -/
def watchKnownWrong : ChangeSpec := { name := "watchKnown", fn := fun _ => fun
  | [] => { results := [.lit (.bool false)], args := [] }
  | _ => none }
def WatchKnownWrongFalsely : Prop := watchKnownRow.holds Try.pinned (OpenSpec.ofChange watchKnownWrong)

/-- 'lockgatelaw29.CacheLeast': WHATEVER THE INPUT: true; the input reads as it did. -/
def cacheLeastSpec : ChangeSpec := { name := "cacheLeast", fn := fun _ => fun
  | [d1, d2, d3] => { results := [.lit (.bool true)], args := [d1, d2, d3] }
  | _ => none }
def cacheLeastRow : OpenClaim := { program := "ytikdbgheefjpkaa", sum := "b57aea27a1bfb5560980b409d3221ee167ab264cceae800255275af9d51e1c14", func := "lockgate/lockgatelaw29.CacheLeast", spec := "cacheLeast", unfollowed := true, recurses := true, apart := false }
def CacheLeastSaid : Prop := cacheLeastRow.holds Try.pinned (OpenSpec.ofChange cacheLeastSpec)

/-- ITS FALSE NEIGHBOUR: 'it returns false'. Refute it at one input. -/
def cacheLeastWrong : ChangeSpec := { name := "cacheLeast", fn := fun _ => fun
  | [d1, d2, d3] => { results := [.lit (.bool false)], args := [d1, d2, d3] }
  | _ => none }
def CacheLeastWrongFalsely : Prop := cacheLeastRow.holds Try.pinned (OpenSpec.ofChange cacheLeastWrong)

/-- 'lockgatelaw29.CacheKnown': WHATEVER THE INPUT: true; the input reads as it did. -/
def cacheKnownSpec : ChangeSpec := { name := "cacheKnown", fn := fun _ => fun
  | [] => { results := [.lit (.bool true)], args := [] }
  | _ => none }
def cacheKnownRow : OpenClaim := { program := "ytikdbgheefjpkaa", sum := "b57aea27a1bfb5560980b409d3221ee167ab264cceae800255275af9d51e1c14", func := "lockgate/lockgatelaw29.CacheKnown", spec := "cacheKnown", unfollowed := true, recurses := true, apart := false }
def CacheKnownSaid : Prop := cacheKnownRow.holds Try.pinned (OpenSpec.ofChange cacheKnownSpec)

/-- ITS FALSE NEIGHBOUR: 'it returns false'. Refute it at one input. -/
def cacheKnownWrong : ChangeSpec := { name := "cacheKnown", fn := fun _ => fun
  | [] => { results := [.lit (.bool false)], args := [] }
  | _ => none }
def CacheKnownWrongFalsely : Prop := cacheKnownRow.holds Try.pinned (OpenSpec.ofChange cacheKnownWrong)

/-- 'lockgatelaw29.CachePlays': WHATEVER THE INPUT: true; the input reads as it did. -/
def cachePlaysSpec : ChangeSpec := { name := "cachePlays", fn := fun _ => fun
  | [d1, d2] => { results := [.lit (.bool true)], args := [d1, d2] }
  | _ => none }
def cachePlaysRow : OpenClaim := { program := "ytikdbgheefjpkaa", sum := "b57aea27a1bfb5560980b409d3221ee167ab264cceae800255275af9d51e1c14", func := "lockgate/lockgatelaw29.CachePlays", spec := "cachePlays", unfollowed := true, recurses := true, apart := false }
def CachePlaysSaid : Prop := cachePlaysRow.holds Try.pinned (OpenSpec.ofChange cachePlaysSpec)

/-- ITS FALSE NEIGHBOUR: 'it returns false'. Refute it at one input. -/
def cachePlaysWrong : ChangeSpec := { name := "cachePlays", fn := fun _ => fun
  | [d1, d2] => { results := [.lit (.bool false)], args := [d1, d2] }
  | _ => none }
def CachePlaysWrongFalsely : Prop := cachePlaysRow.holds Try.pinned (OpenSpec.ofChange cachePlaysWrong)

/-- 'lockgatelaw29.CacheKeeps': WHATEVER THE INPUT: true; the input reads as it did. -/
def cacheKeepsSpec : ChangeSpec := { name := "cacheKeeps", fn := fun _ => fun
  | [d1, d2, d3] => { results := [.lit (.bool true)], args := [d1, d2, d3] }
  | _ => none }
def cacheKeepsRow : OpenClaim := { program := "ytikdbgheefjpkaa", sum := "b57aea27a1bfb5560980b409d3221ee167ab264cceae800255275af9d51e1c14", func := "lockgate/lockgatelaw29.CacheKeeps", spec := "cacheKeeps", unfollowed := true, recurses := true, apart := false }
def CacheKeepsSaid : Prop := cacheKeepsRow.holds Try.pinned (OpenSpec.ofChange cacheKeepsSpec)

/-- ITS FALSE NEIGHBOUR: 'it returns false'. Refute it at one input. -/
def cacheKeepsWrong : ChangeSpec := { name := "cacheKeeps", fn := fun _ => fun
  | [d1, d2, d3] => { results := [.lit (.bool false)], args := [d1, d2, d3] }
  | _ => none }
def CacheKeepsWrongFalsely : Prop := cacheKeepsRow.holds Try.pinned (OpenSpec.ofChange cacheKeepsWrong)

/- THE SECOND FORM. 'bulk': how many values and letters a reading holds, each counted each time it is reached (what is shared counts as often as it is met; a slice's spare places count too). A statement '..UptoSaid' is the law's where the arguments, and the package variables that the reading takes, are together of bulk at most 1048576: NARROWER than '..Said'. Prove '..Said' where nothing that the law and all that it calls make is longer than what came in: it says more and counts as full. Else prove '..UptoSaid'. A law counts once. -/
mutual
def uptoBulk {H : Type} : DataW H → Nat
  | .lit (.string bytes) => bytes.length + 1
  | .lit _ => 1
  | .nil => 1
  | .ptr d => uptoBulk d + 1
  | .slice elems spare => uptoBulkAll elems + uptoBulkAll spare + 1
  | .agg parts => uptoBulkAll parts + 1
  | .iface _ d => uptoBulk d + 1
  | .map entries => uptoBulkEntries entries + 1
  | .held _ => 1
def uptoBulkAll {H : Type} : List (DataW H) → Nat
  | [] => 0
  | d :: r => uptoBulk d + uptoBulkAll r
def uptoBulkEntries {H : Type} : List (Lit × DataW H) → Nat
  | [] => 0
  | x :: r => uptoBulkEntry x + uptoBulkEntries r
def uptoBulkEntry {H : Type} : Lit × DataW H → Nat
  | (.string bytes, d) => bytes.length + uptoBulk d + 1
  | (_, d) => uptoBulk d + 1
 end
def uptoSmall : (H : Type) → List (DataW H) → Bool := fun _ ds => decide (uptoBulkAll ds ≤ 1048576)
def OpenSpec.upto (s : _root_.Go.ChangeSpec) : _root_.Go.OpenSpec := { _root_.Go.OpenSpec.ofChange s with cond := some uptoSmall }

/-- 'lockgatelaw28.WatchRuns', WHERE WHAT IT READS IS OF BULK AT MOST 1048576: true; the input reads as it did. -/
def watchRunsUptoRow : OpenClaim := { program := "ytikdbgheefjpkaa", sum := "b57aea27a1bfb5560980b409d3221ee167ab264cceae800255275af9d51e1c14", func := "lockgate/lockgatelaw28.WatchRuns", spec := "watchRuns", unfollowed := true, recurses := true, apart := false, narrowed := true }
def WatchRunsUptoSaid : Prop := watchRunsUptoRow.holds Try.pinned (OpenSpec.upto watchRunsSpec)

/-- 'lockgatelaw28.WatchHits', WHERE WHAT IT READS IS OF BULK AT MOST 1048576: true; the input reads as it did. -/
def watchHitsUptoRow : OpenClaim := { program := "ytikdbgheefjpkaa", sum := "b57aea27a1bfb5560980b409d3221ee167ab264cceae800255275af9d51e1c14", func := "lockgate/lockgatelaw28.WatchHits", spec := "watchHits", unfollowed := true, recurses := true, apart := false, narrowed := true }
def WatchHitsUptoSaid : Prop := watchHitsUptoRow.holds Try.pinned (OpenSpec.upto watchHitsSpec)

/-- 'lockgatelaw28.WatchPieces', WHERE WHAT IT READS IS OF BULK AT MOST 1048576: true; the input reads as it did. -/
def watchPiecesUptoRow : OpenClaim := { program := "ytikdbgheefjpkaa", sum := "b57aea27a1bfb5560980b409d3221ee167ab264cceae800255275af9d51e1c14", func := "lockgate/lockgatelaw28.WatchPieces", spec := "watchPieces", unfollowed := true, recurses := true, apart := false, narrowed := true }
def WatchPiecesUptoSaid : Prop := watchPiecesUptoRow.holds Try.pinned (OpenSpec.upto watchPiecesSpec)

/-- 'lockgatelaw28.WatchKnown', WHERE WHAT IT READS IS OF BULK AT MOST 1048576: true; the input reads as it did. -/
def watchKnownUptoRow : OpenClaim := { program := "ytikdbgheefjpkaa", sum := "b57aea27a1bfb5560980b409d3221ee167ab264cceae800255275af9d51e1c14", func := "lockgate/lockgatelaw28.WatchKnown", spec := "watchKnown", unfollowed := true, recurses := true, apart := false, narrowed := true }
def WatchKnownUptoSaid : Prop := watchKnownUptoRow.holds Try.pinned (OpenSpec.upto watchKnownSpec)

/-- 'lockgatelaw29.CacheLeast', WHERE WHAT IT READS IS OF BULK AT MOST 1048576: true; the input reads as it did. -/
def cacheLeastUptoRow : OpenClaim := { program := "ytikdbgheefjpkaa", sum := "b57aea27a1bfb5560980b409d3221ee167ab264cceae800255275af9d51e1c14", func := "lockgate/lockgatelaw29.CacheLeast", spec := "cacheLeast", unfollowed := true, recurses := true, apart := false, narrowed := true }
def CacheLeastUptoSaid : Prop := cacheLeastUptoRow.holds Try.pinned (OpenSpec.upto cacheLeastSpec)

/-- 'lockgatelaw29.CacheKnown', WHERE WHAT IT READS IS OF BULK AT MOST 1048576: true; the input reads as it did. -/
def cacheKnownUptoRow : OpenClaim := { program := "ytikdbgheefjpkaa", sum := "b57aea27a1bfb5560980b409d3221ee167ab264cceae800255275af9d51e1c14", func := "lockgate/lockgatelaw29.CacheKnown", spec := "cacheKnown", unfollowed := true, recurses := true, apart := false, narrowed := true }
def CacheKnownUptoSaid : Prop := cacheKnownUptoRow.holds Try.pinned (OpenSpec.upto cacheKnownSpec)

/-- 'lockgatelaw29.CachePlays', WHERE WHAT IT READS IS OF BULK AT MOST 1048576: true; the input reads as it did. -/
def cachePlaysUptoRow : OpenClaim := { program := "ytikdbgheefjpkaa", sum := "b57aea27a1bfb5560980b409d3221ee167ab264cceae800255275af9d51e1c14", func := "lockgate/lockgatelaw29.CachePlays", spec := "cachePlays", unfollowed := true, recurses := true, apart := false, narrowed := true }
def CachePlaysUptoSaid : Prop := cachePlaysUptoRow.holds Try.pinned (OpenSpec.upto cachePlaysSpec)

/-- 'lockgatelaw29.CacheKeeps', WHERE WHAT IT READS IS OF BULK AT MOST 1048576: true; the input reads as it did. -/
def cacheKeepsUptoRow : OpenClaim := { program := "ytikdbgheefjpkaa", sum := "b57aea27a1bfb5560980b409d3221ee167ab264cceae800255275af9d51e1c14", func := "lockgate/lockgatelaw29.CacheKeeps", spec := "cacheKeeps", unfollowed := true, recurses := true, apart := false, narrowed := true }
def CacheKeepsUptoSaid : Prop := cacheKeepsUptoRow.holds Try.pinned (OpenSpec.upto cacheKeepsSpec)

end Rows
end Go.Proofs.Ytikdbgheefjpkaa
