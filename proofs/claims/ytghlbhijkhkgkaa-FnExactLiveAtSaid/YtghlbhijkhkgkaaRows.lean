/-
  No cell of these rows narrows 'for every input' (looked for: loops, veiled, ifaces, maps, wideKeys, modest, calm, conditions, laid).
  DERIVED. THE GIVEN ROWS OF THIS SEAT. 13 by the template 'for every input the law returns true; each argument reads behind the call as it read before'; 0 by the template 'total and deterministic' (their statements: YtghlbhijkhkgkaaTotals.lean).
  GIVEN WITH THE SEED: the statements are not yours to turn. If you find one false, say at which input.
  Laid BY PROGRAM, IN A SANDBOX (cutbox-rows.mjs): the forced cells as the released guide's own fill.sh prints them over the translation b1aa9865667464af… (all of the seat's roots in one cut). By AI agents, Wed Nov 11 2026. No macro, syntax, notation, axiom, sorry.
-/
import Derived.Test.YtghlbhijkhkgkaaChecked
import GoSem.Claim
import GoSem.ClaimJoined
import GoSem.ClaimMapViews
import Derived.JoinedTies
import Derived.KernelRfl
namespace Go.Proofs.Ytghlbhijkhkgkaa
/- THE CELL 'sum', in the pinned program and in every row, IS THE sha256 OF THE DUMP (.gsa) THAT YtghlbhijkhkgkaaProg.lean LOADS. Nothing in Lean hashes anything: it is a label: what it is worth is what the hold of that sum in a sandbox is worth. -/
noncomputable def Try.pinned : Pinned := { name := "ytghlbhijkhkgkaa", sum := "b1aa9865667464af58e9b787909abaa26ac5824233d0656f601ad63187162a8e", checked := Try.checked }
namespace Rows
def none {H : Type} : Left H := { results := [], args := [] }

/-- 'laws.FnExactBlockOf': WHATEVER THE INPUT: true; the input reads as it did. -/
def fnExactBlockOfSpec : ChangeSpec := { name := "fnExactBlockOf", fn := fun _ => fun
  | [d1, d2] => { results := [.lit (.bool true)], args := [d1, d2] }
  | _ => none }
def fnExactBlockOfRow : OpenClaim := { program := "ytghlbhijkhkgkaa", sum := "b1aa9865667464af58e9b787909abaa26ac5824233d0656f601ad63187162a8e", func := "loop.example/g00694/laws.FnExactBlockOf", spec := "fnExactBlockOf", unfollowed := true, recurses := true, apart := false }
def FnExactBlockOfSaid : Prop := fnExactBlockOfRow.holds Try.pinned (OpenSpec.ofChange fnExactBlockOfSpec)

/-- ITS FALSE NEIGHBOUR: 'it returns false'. Refute it at one input. -/
def fnExactBlockOfWrong : ChangeSpec := { name := "fnExactBlockOf", fn := fun _ => fun
  | [d1, d2] => { results := [.lit (.bool false)], args := [d1, d2] }
  | _ => none }
def FnExactBlockOfWrongFalsely : Prop := fnExactBlockOfRow.holds Try.pinned (OpenSpec.ofChange fnExactBlockOfWrong)

/-- 'laws.FnExactUsesOf': WHATEVER THE INPUT: true; the input reads as it did. -/
def fnExactUsesOfSpec : ChangeSpec := { name := "fnExactUsesOf", fn := fun _ => fun
  | [d1, d2] => { results := [.lit (.bool true)], args := [d1, d2] }
  | _ => none }
def fnExactUsesOfRow : OpenClaim := { program := "ytghlbhijkhkgkaa", sum := "b1aa9865667464af58e9b787909abaa26ac5824233d0656f601ad63187162a8e", func := "loop.example/g00694/laws.FnExactUsesOf", spec := "fnExactUsesOf", unfollowed := true, recurses := true, apart := false }
def FnExactUsesOfSaid : Prop := fnExactUsesOfRow.holds Try.pinned (OpenSpec.ofChange fnExactUsesOfSpec)

/-- ITS FALSE NEIGHBOUR: 'it returns false'. Refute it at one input. -/
def fnExactUsesOfWrong : ChangeSpec := { name := "fnExactUsesOf", fn := fun _ => fun
  | [d1, d2] => { results := [.lit (.bool false)], args := [d1, d2] }
  | _ => none }
def FnExactUsesOfWrongFalsely : Prop := fnExactUsesOfRow.holds Try.pinned (OpenSpec.ofChange fnExactUsesOfWrong)

/-- 'laws.FnExactNextBlocks': WHATEVER THE INPUT: true; the input reads as it did. -/
def fnExactNextBlocksSpec : ChangeSpec := { name := "fnExactNextBlocks", fn := fun _ => fun
  | [d1, d2] => { results := [.lit (.bool true)], args := [d1, d2] }
  | _ => none }
def fnExactNextBlocksRow : OpenClaim := { program := "ytghlbhijkhkgkaa", sum := "b1aa9865667464af58e9b787909abaa26ac5824233d0656f601ad63187162a8e", func := "loop.example/g00694/laws.FnExactNextBlocks", spec := "fnExactNextBlocks", unfollowed := true, recurses := true, apart := false }
def FnExactNextBlocksSaid : Prop := fnExactNextBlocksRow.holds Try.pinned (OpenSpec.ofChange fnExactNextBlocksSpec)

/-- ITS FALSE NEIGHBOUR: 'it returns false'. Refute it at one input. -/
def fnExactNextBlocksWrong : ChangeSpec := { name := "fnExactNextBlocks", fn := fun _ => fun
  | [d1, d2] => { results := [.lit (.bool false)], args := [d1, d2] }
  | _ => none }
def FnExactNextBlocksWrongFalsely : Prop := fnExactNextBlocksRow.holds Try.pinned (OpenSpec.ofChange fnExactNextBlocksWrong)

/-- 'laws.FnExactAheadOf': WHATEVER THE INPUT: true; the input reads as it did. -/
def fnExactAheadOfSpec : ChangeSpec := { name := "fnExactAheadOf", fn := fun _ => fun
  | [d1, d2] => { results := [.lit (.bool true)], args := [d1, d2] }
  | _ => none }
def fnExactAheadOfRow : OpenClaim := { program := "ytghlbhijkhkgkaa", sum := "b1aa9865667464af58e9b787909abaa26ac5824233d0656f601ad63187162a8e", func := "loop.example/g00694/laws.FnExactAheadOf", spec := "fnExactAheadOf", unfollowed := true, recurses := true, apart := false }
def FnExactAheadOfSaid : Prop := fnExactAheadOfRow.holds Try.pinned (OpenSpec.ofChange fnExactAheadOfSpec)

/-- ITS FALSE NEIGHBOUR: 'it returns false'. Refute it at one input. -/
def fnExactAheadOfWrong : ChangeSpec := { name := "fnExactAheadOf", fn := fun _ => fun
  | [d1, d2] => { results := [.lit (.bool false)], args := [d1, d2] }
  | _ => none }
def FnExactAheadOfWrongFalsely : Prop := fnExactAheadOfRow.holds Try.pinned (OpenSpec.ofChange fnExactAheadOfWrong)

/-- 'laws.FnExactReachedBlocks': WHATEVER THE INPUT: true; the input reads as it did. -/
def fnExactReachedBlocksSpec : ChangeSpec := { name := "fnExactReachedBlocks", fn := fun _ => fun
  | [d] => { results := [.lit (.bool true)], args := [d] }
  | _ => none }
def fnExactReachedBlocksRow : OpenClaim := { program := "ytghlbhijkhkgkaa", sum := "b1aa9865667464af58e9b787909abaa26ac5824233d0656f601ad63187162a8e", func := "loop.example/g00694/laws.FnExactReachedBlocks", spec := "fnExactReachedBlocks", unfollowed := true, recurses := true, apart := false }
def FnExactReachedBlocksSaid : Prop := fnExactReachedBlocksRow.holds Try.pinned (OpenSpec.ofChange fnExactReachedBlocksSpec)

/-- ITS FALSE NEIGHBOUR: 'it returns false'. Refute it at one input. -/
def fnExactReachedBlocksWrong : ChangeSpec := { name := "fnExactReachedBlocks", fn := fun _ => fun
  | [d] => { results := [.lit (.bool false)], args := [d] }
  | _ => none }
def FnExactReachedBlocksWrongFalsely : Prop := fnExactReachedBlocksRow.holds Try.pinned (OpenSpec.ofChange fnExactReachedBlocksWrong)

/-- 'laws.FnExactBackOrder': WHATEVER THE INPUT: true; the input reads as it did. -/
def fnExactBackOrderSpec : ChangeSpec := { name := "fnExactBackOrder", fn := fun _ => fun
  | [d] => { results := [.lit (.bool true)], args := [d] }
  | _ => none }
def fnExactBackOrderRow : OpenClaim := { program := "ytghlbhijkhkgkaa", sum := "b1aa9865667464af58e9b787909abaa26ac5824233d0656f601ad63187162a8e", func := "loop.example/g00694/laws.FnExactBackOrder", spec := "fnExactBackOrder", unfollowed := true, recurses := true, apart := false }
def FnExactBackOrderSaid : Prop := fnExactBackOrderRow.holds Try.pinned (OpenSpec.ofChange fnExactBackOrderSpec)

/-- ITS FALSE NEIGHBOUR: 'it returns false'. Refute it at one input. -/
def fnExactBackOrderWrong : ChangeSpec := { name := "fnExactBackOrder", fn := fun _ => fun
  | [d] => { results := [.lit (.bool false)], args := [d] }
  | _ => none }
def FnExactBackOrderWrongFalsely : Prop := fnExactBackOrderRow.holds Try.pinned (OpenSpec.ofChange fnExactBackOrderWrong)

/-- 'laws.FnExactDominators': WHATEVER THE INPUT: true; the input reads as it did. -/
def fnExactDominatorsSpec : ChangeSpec := { name := "fnExactDominators", fn := fun _ => fun
  | [d] => { results := [.lit (.bool true)], args := [d] }
  | _ => none }
def fnExactDominatorsRow : OpenClaim := { program := "ytghlbhijkhkgkaa", sum := "b1aa9865667464af58e9b787909abaa26ac5824233d0656f601ad63187162a8e", func := "loop.example/g00694/laws.FnExactDominators", spec := "fnExactDominators", unfollowed := true, recurses := true, apart := false }
def FnExactDominatorsSaid : Prop := fnExactDominatorsRow.holds Try.pinned (OpenSpec.ofChange fnExactDominatorsSpec)

/-- ITS FALSE NEIGHBOUR: 'it returns false'. Refute it at one input. -/
def fnExactDominatorsWrong : ChangeSpec := { name := "fnExactDominators", fn := fun _ => fun
  | [d] => { results := [.lit (.bool false)], args := [d] }
  | _ => none }
def FnExactDominatorsWrongFalsely : Prop := fnExactDominatorsRow.holds Try.pinned (OpenSpec.ofChange fnExactDominatorsWrong)

/-- 'laws.FnExactImmediateOf': WHATEVER THE INPUT: true; the input reads as it did. -/
def fnExactImmediateOfSpec : ChangeSpec := { name := "fnExactImmediateOf", fn := fun _ => fun
  | [d1, d2] => { results := [.lit (.bool true)], args := [d1, d2] }
  | _ => none }
def fnExactImmediateOfRow : OpenClaim := { program := "ytghlbhijkhkgkaa", sum := "b1aa9865667464af58e9b787909abaa26ac5824233d0656f601ad63187162a8e", func := "loop.example/g00694/laws.FnExactImmediateOf", spec := "fnExactImmediateOf", unfollowed := true, recurses := true, apart := false }
def FnExactImmediateOfSaid : Prop := fnExactImmediateOfRow.holds Try.pinned (OpenSpec.ofChange fnExactImmediateOfSpec)

/-- ITS FALSE NEIGHBOUR: 'it returns false'. Refute it at one input. -/
def fnExactImmediateOfWrong : ChangeSpec := { name := "fnExactImmediateOf", fn := fun _ => fun
  | [d1, d2] => { results := [.lit (.bool false)], args := [d1, d2] }
  | _ => none }
def FnExactImmediateOfWrongFalsely : Prop := fnExactImmediateOfRow.holds Try.pinned (OpenSpec.ofChange fnExactImmediateOfWrong)

/-- 'laws.FnExactBackEdges': WHATEVER THE INPUT: true; the input reads as it did. -/
def fnExactBackEdgesSpec : ChangeSpec := { name := "fnExactBackEdges", fn := fun _ => fun
  | [d] => { results := [.lit (.bool true)], args := [d] }
  | _ => none }
def fnExactBackEdgesRow : OpenClaim := { program := "ytghlbhijkhkgkaa", sum := "b1aa9865667464af58e9b787909abaa26ac5824233d0656f601ad63187162a8e", func := "loop.example/g00694/laws.FnExactBackEdges", spec := "fnExactBackEdges", unfollowed := true, recurses := true, apart := false }
def FnExactBackEdgesSaid : Prop := fnExactBackEdgesRow.holds Try.pinned (OpenSpec.ofChange fnExactBackEdgesSpec)

/-- ITS FALSE NEIGHBOUR: 'it returns false'. Refute it at one input. -/
def fnExactBackEdgesWrong : ChangeSpec := { name := "fnExactBackEdges", fn := fun _ => fun
  | [d] => { results := [.lit (.bool false)], args := [d] }
  | _ => none }
def FnExactBackEdgesWrongFalsely : Prop := fnExactBackEdgesRow.holds Try.pinned (OpenSpec.ofChange fnExactBackEdgesWrong)

/-- 'laws.FnExactLoopOf': WHATEVER THE INPUT: true; the input reads as it did. -/
def fnExactLoopOfSpec : ChangeSpec := { name := "fnExactLoopOf", fn := fun _ => fun
  | [d1, d2] => { results := [.lit (.bool true)], args := [d1, d2] }
  | _ => none }
def fnExactLoopOfRow : OpenClaim := { program := "ytghlbhijkhkgkaa", sum := "b1aa9865667464af58e9b787909abaa26ac5824233d0656f601ad63187162a8e", func := "loop.example/g00694/laws.FnExactLoopOf", spec := "fnExactLoopOf", unfollowed := true, recurses := true, apart := false }
def FnExactLoopOfSaid : Prop := fnExactLoopOfRow.holds Try.pinned (OpenSpec.ofChange fnExactLoopOfSpec)

/-- ITS FALSE NEIGHBOUR: 'it returns false'. Refute it at one input. -/
def fnExactLoopOfWrong : ChangeSpec := { name := "fnExactLoopOf", fn := fun _ => fun
  | [d1, d2] => { results := [.lit (.bool false)], args := [d1, d2] }
  | _ => none }
def FnExactLoopOfWrongFalsely : Prop := fnExactLoopOfRow.holds Try.pinned (OpenSpec.ofChange fnExactLoopOfWrong)

/-- 'laws.FnExactIsReducible': WHATEVER THE INPUT: true; the input reads as it did. -/
def fnExactIsReducibleSpec : ChangeSpec := { name := "fnExactIsReducible", fn := fun _ => fun
  | [d] => { results := [.lit (.bool true)], args := [d] }
  | _ => none }
def fnExactIsReducibleRow : OpenClaim := { program := "ytghlbhijkhkgkaa", sum := "b1aa9865667464af58e9b787909abaa26ac5824233d0656f601ad63187162a8e", func := "loop.example/g00694/laws.FnExactIsReducible", spec := "fnExactIsReducible", unfollowed := true, recurses := true, apart := false }
def FnExactIsReducibleSaid : Prop := fnExactIsReducibleRow.holds Try.pinned (OpenSpec.ofChange fnExactIsReducibleSpec)

/-- ITS FALSE NEIGHBOUR: 'it returns false'. Refute it at one input. -/
def fnExactIsReducibleWrong : ChangeSpec := { name := "fnExactIsReducible", fn := fun _ => fun
  | [d] => { results := [.lit (.bool false)], args := [d] }
  | _ => none }
def FnExactIsReducibleWrongFalsely : Prop := fnExactIsReducibleRow.holds Try.pinned (OpenSpec.ofChange fnExactIsReducibleWrong)

/-- 'laws.FnExactDepthOf': WHATEVER THE INPUT: true; the input reads as it did. -/
def fnExactDepthOfSpec : ChangeSpec := { name := "fnExactDepthOf", fn := fun _ => fun
  | [d1, d2] => { results := [.lit (.bool true)], args := [d1, d2] }
  | _ => none }
def fnExactDepthOfRow : OpenClaim := { program := "ytghlbhijkhkgkaa", sum := "b1aa9865667464af58e9b787909abaa26ac5824233d0656f601ad63187162a8e", func := "loop.example/g00694/laws.FnExactDepthOf", spec := "fnExactDepthOf", unfollowed := true, recurses := true, apart := false }
def FnExactDepthOfSaid : Prop := fnExactDepthOfRow.holds Try.pinned (OpenSpec.ofChange fnExactDepthOfSpec)

/-- ITS FALSE NEIGHBOUR: 'it returns false'. Refute it at one input. -/
def fnExactDepthOfWrong : ChangeSpec := { name := "fnExactDepthOf", fn := fun _ => fun
  | [d1, d2] => { results := [.lit (.bool false)], args := [d1, d2] }
  | _ => none }
def FnExactDepthOfWrongFalsely : Prop := fnExactDepthOfRow.holds Try.pinned (OpenSpec.ofChange fnExactDepthOfWrong)

/-- 'laws.FnExactLiveAt': WHATEVER THE INPUT: true; the input reads as it did. -/
def fnExactLiveAtSpec : ChangeSpec := { name := "fnExactLiveAt", fn := fun _ => fun
  | [d1, d2] => { results := [.lit (.bool true)], args := [d1, d2] }
  | _ => none }
def fnExactLiveAtRow : OpenClaim := { program := "ytghlbhijkhkgkaa", sum := "b1aa9865667464af58e9b787909abaa26ac5824233d0656f601ad63187162a8e", func := "loop.example/g00694/laws.FnExactLiveAt", spec := "fnExactLiveAt", unfollowed := true, recurses := true, apart := false }
def FnExactLiveAtSaid : Prop := fnExactLiveAtRow.holds Try.pinned (OpenSpec.ofChange fnExactLiveAtSpec)

/-- ITS FALSE NEIGHBOUR: 'it returns false'. Refute it at one input. -/
def fnExactLiveAtWrong : ChangeSpec := { name := "fnExactLiveAt", fn := fun _ => fun
  | [d1, d2] => { results := [.lit (.bool false)], args := [d1, d2] }
  | _ => none }
def FnExactLiveAtWrongFalsely : Prop := fnExactLiveAtRow.holds Try.pinned (OpenSpec.ofChange fnExactLiveAtWrong)

/- THE SECOND FORM. 'bulk': how many values and letters a reading holds, each counted each time it is reached (what is shared counts as often as it is met; a slice's spare places count too). A statement '..UptoSaid' is the law's where the arguments, and the package variables that the reading takes, are together of bulk at most 1048576: NARROWER than '..Said'. Prove '..Said' where nothing that the law and all that it calls make is longer than what came in: it says more and counts as full. Else prove '..UptoSaid'. A law counts once. -/
mutual
def uptoBulk {H : Type} : DataW H → Nat
  | .lit (.string bytes) => bytes.length + 1
  | .lit _ => 1
  | .nil => 1
  | .ptr d => uptoBulk d + 1
  | .slice elems spare => uptoBulkAll elems + uptoBulkAll spare + 1
  | .agg parts => uptoBulkAll parts + 1
  | .iface _ d => uptoBulk d + 1
  | .map entries => uptoBulkEntries entries + 1
  | .held _ => 1
def uptoBulkAll {H : Type} : List (DataW H) → Nat
  | [] => 0
  | d :: r => uptoBulk d + uptoBulkAll r
def uptoBulkEntries {H : Type} : List (Lit × DataW H) → Nat
  | [] => 0
  | x :: r => uptoBulkEntry x + uptoBulkEntries r
def uptoBulkEntry {H : Type} : Lit × DataW H → Nat
  | (.string bytes, d) => bytes.length + uptoBulk d + 1
  | (_, d) => uptoBulk d + 1
 end
def uptoSmall : (H : Type) → List (DataW H) → Bool := fun _ ds => decide (uptoBulkAll ds ≤ 1048576)
def OpenSpec.upto (s : _root_.Go.ChangeSpec) : _root_.Go.OpenSpec := { _root_.Go.OpenSpec.ofChange s with cond := some uptoSmall }

/-- 'laws.FnExactBlockOf', WHERE WHAT IT READS IS OF BULK AT MOST 1048576: true; the input reads as it did. -/
def fnExactBlockOfUptoRow : OpenClaim := { program := "ytghlbhijkhkgkaa", sum := "b1aa9865667464af58e9b787909abaa26ac5824233d0656f601ad63187162a8e", func := "loop.example/g00694/laws.FnExactBlockOf", spec := "fnExactBlockOf", unfollowed := true, recurses := true, apart := false, narrowed := true }
def FnExactBlockOfUptoSaid : Prop := fnExactBlockOfUptoRow.holds Try.pinned (OpenSpec.upto fnExactBlockOfSpec)

/-- 'laws.FnExactUsesOf', WHERE WHAT IT READS IS OF BULK AT MOST 1048576: true; the input reads as it did. -/
def fnExactUsesOfUptoRow : OpenClaim := { program := "ytghlbhijkhkgkaa", sum := "b1aa9865667464af58e9b787909abaa26ac5824233d0656f601ad63187162a8e", func := "loop.example/g00694/laws.FnExactUsesOf", spec := "fnExactUsesOf", unfollowed := true, recurses := true, apart := false, narrowed := true }
def FnExactUsesOfUptoSaid : Prop := fnExactUsesOfUptoRow.holds Try.pinned (OpenSpec.upto fnExactUsesOfSpec)

/-- 'laws.FnExactNextBlocks', WHERE WHAT IT READS IS OF BULK AT MOST 1048576: true; the input reads as it did. -/
def fnExactNextBlocksUptoRow : OpenClaim := { program := "ytghlbhijkhkgkaa", sum := "b1aa9865667464af58e9b787909abaa26ac5824233d0656f601ad63187162a8e", func := "loop.example/g00694/laws.FnExactNextBlocks", spec := "fnExactNextBlocks", unfollowed := true, recurses := true, apart := false, narrowed := true }
def FnExactNextBlocksUptoSaid : Prop := fnExactNextBlocksUptoRow.holds Try.pinned (OpenSpec.upto fnExactNextBlocksSpec)

/-- 'laws.FnExactAheadOf', WHERE WHAT IT READS IS OF BULK AT MOST 1048576: true; the input reads as it did. -/
def fnExactAheadOfUptoRow : OpenClaim := { program := "ytghlbhijkhkgkaa", sum := "b1aa9865667464af58e9b787909abaa26ac5824233d0656f601ad63187162a8e", func := "loop.example/g00694/laws.FnExactAheadOf", spec := "fnExactAheadOf", unfollowed := true, recurses := true, apart := false, narrowed := true }
def FnExactAheadOfUptoSaid : Prop := fnExactAheadOfUptoRow.holds Try.pinned (OpenSpec.upto fnExactAheadOfSpec)

/-- 'laws.FnExactReachedBlocks', WHERE WHAT IT READS IS OF BULK AT MOST 1048576: true; the input reads as it did. -/
def fnExactReachedBlocksUptoRow : OpenClaim := { program := "ytghlbhijkhkgkaa", sum := "b1aa9865667464af58e9b787909abaa26ac5824233d0656f601ad63187162a8e", func := "loop.example/g00694/laws.FnExactReachedBlocks", spec := "fnExactReachedBlocks", unfollowed := true, recurses := true, apart := false, narrowed := true }
def FnExactReachedBlocksUptoSaid : Prop := fnExactReachedBlocksUptoRow.holds Try.pinned (OpenSpec.upto fnExactReachedBlocksSpec)

/-- 'laws.FnExactBackOrder', WHERE WHAT IT READS IS OF BULK AT MOST 1048576: true; the input reads as it did. -/
def fnExactBackOrderUptoRow : OpenClaim := { program := "ytghlbhijkhkgkaa", sum := "b1aa9865667464af58e9b787909abaa26ac5824233d0656f601ad63187162a8e", func := "loop.example/g00694/laws.FnExactBackOrder", spec := "fnExactBackOrder", unfollowed := true, recurses := true, apart := false, narrowed := true }
def FnExactBackOrderUptoSaid : Prop := fnExactBackOrderUptoRow.holds Try.pinned (OpenSpec.upto fnExactBackOrderSpec)

/-- 'laws.FnExactDominators', WHERE WHAT IT READS IS OF BULK AT MOST 1048576: true; the input reads as it did. -/
def fnExactDominatorsUptoRow : OpenClaim := { program := "ytghlbhijkhkgkaa", sum := "b1aa9865667464af58e9b787909abaa26ac5824233d0656f601ad63187162a8e", func := "loop.example/g00694/laws.FnExactDominators", spec := "fnExactDominators", unfollowed := true, recurses := true, apart := false, narrowed := true }
def FnExactDominatorsUptoSaid : Prop := fnExactDominatorsUptoRow.holds Try.pinned (OpenSpec.upto fnExactDominatorsSpec)

/-- 'laws.FnExactImmediateOf', WHERE WHAT IT READS IS OF BULK AT MOST 1048576: true; the input reads as it did. -/
def fnExactImmediateOfUptoRow : OpenClaim := { program := "ytghlbhijkhkgkaa", sum := "b1aa9865667464af58e9b787909abaa26ac5824233d0656f601ad63187162a8e", func := "loop.example/g00694/laws.FnExactImmediateOf", spec := "fnExactImmediateOf", unfollowed := true, recurses := true, apart := false, narrowed := true }
def FnExactImmediateOfUptoSaid : Prop := fnExactImmediateOfUptoRow.holds Try.pinned (OpenSpec.upto fnExactImmediateOfSpec)

/-- 'laws.FnExactBackEdges', WHERE WHAT IT READS IS OF BULK AT MOST 1048576: true; the input reads as it did. -/
def fnExactBackEdgesUptoRow : OpenClaim := { program := "ytghlbhijkhkgkaa", sum := "b1aa9865667464af58e9b787909abaa26ac5824233d0656f601ad63187162a8e", func := "loop.example/g00694/laws.FnExactBackEdges", spec := "fnExactBackEdges", unfollowed := true, recurses := true, apart := false, narrowed := true }
def FnExactBackEdgesUptoSaid : Prop := fnExactBackEdgesUptoRow.holds Try.pinned (OpenSpec.upto fnExactBackEdgesSpec)

/-- 'laws.FnExactLoopOf', WHERE WHAT IT READS IS OF BULK AT MOST 1048576: true; the input reads as it did. -/
def fnExactLoopOfUptoRow : OpenClaim := { program := "ytghlbhijkhkgkaa", sum := "b1aa9865667464af58e9b787909abaa26ac5824233d0656f601ad63187162a8e", func := "loop.example/g00694/laws.FnExactLoopOf", spec := "fnExactLoopOf", unfollowed := true, recurses := true, apart := false, narrowed := true }
def FnExactLoopOfUptoSaid : Prop := fnExactLoopOfUptoRow.holds Try.pinned (OpenSpec.upto fnExactLoopOfSpec)

/-- 'laws.FnExactIsReducible', WHERE WHAT IT READS IS OF BULK AT MOST 1048576: true; the input reads as it did. -/
def fnExactIsReducibleUptoRow : OpenClaim := { program := "ytghlbhijkhkgkaa", sum := "b1aa9865667464af58e9b787909abaa26ac5824233d0656f601ad63187162a8e", func := "loop.example/g00694/laws.FnExactIsReducible", spec := "fnExactIsReducible", unfollowed := true, recurses := true, apart := false, narrowed := true }
def FnExactIsReducibleUptoSaid : Prop := fnExactIsReducibleUptoRow.holds Try.pinned (OpenSpec.upto fnExactIsReducibleSpec)

/-- 'laws.FnExactDepthOf', WHERE WHAT IT READS IS OF BULK AT MOST 1048576: true; the input reads as it did. -/
def fnExactDepthOfUptoRow : OpenClaim := { program := "ytghlbhijkhkgkaa", sum := "b1aa9865667464af58e9b787909abaa26ac5824233d0656f601ad63187162a8e", func := "loop.example/g00694/laws.FnExactDepthOf", spec := "fnExactDepthOf", unfollowed := true, recurses := true, apart := false, narrowed := true }
def FnExactDepthOfUptoSaid : Prop := fnExactDepthOfUptoRow.holds Try.pinned (OpenSpec.upto fnExactDepthOfSpec)

/-- 'laws.FnExactLiveAt', WHERE WHAT IT READS IS OF BULK AT MOST 1048576: true; the input reads as it did. -/
def fnExactLiveAtUptoRow : OpenClaim := { program := "ytghlbhijkhkgkaa", sum := "b1aa9865667464af58e9b787909abaa26ac5824233d0656f601ad63187162a8e", func := "loop.example/g00694/laws.FnExactLiveAt", spec := "fnExactLiveAt", unfollowed := true, recurses := true, apart := false, narrowed := true }
def FnExactLiveAtUptoSaid : Prop := fnExactLiveAtUptoRow.holds Try.pinned (OpenSpec.upto fnExactLiveAtSpec)

end Rows
end Go.Proofs.Ytghlbhijkhkgkaa
