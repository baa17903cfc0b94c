/-
  No cell of these rows narrows 'for every input' (looked for: loops, veiled, ifaces, maps, wideKeys, modest, calm, conditions, laid).
  DERIVED. THE GIVEN ROWS OF THIS SEAT. 7 by the template 'for every input the law returns true; each argument reads behind the call as it read before'; 0 by the template 'total and deterministic' (their statements: YtlnejmlphkpaaaaTotals.lean).
  GIVEN WITH THE SEED: the statements are not yours to turn. If you find one false, say at which input.
  Laid BY PROGRAM, IN A SANDBOX (cutbox-rows.mjs): the forced cells as the released guide's own fill.sh prints them over the translation 13eaf56e00e7cea7… (all of the seat's roots in one cut). By AI agents, Wed Nov 11 2026. No macro, syntax, notation, axiom, sorry.
-/
import Derived.Test.YtlnejmlphkpaaaaChecked
import GoSem.Claim
import GoSem.ClaimJoined
import GoSem.ClaimMapViews
import Derived.JoinedTies
import Derived.KernelRfl
namespace Go.Proofs.Ytlnejmlphkpaaaa
/- THE CELL 'sum', in the pinned program and in every row, IS THE sha256 OF THE DUMP (.gsa) THAT YtlnejmlphkpaaaaProg.lean LOADS. Nothing in Lean hashes anything: it is a label: what it is worth is what the hold of that sum in a sandbox is worth. -/
noncomputable def Try.pinned : Pinned := { name := "ytlnejmlphkpaaaa", sum := "13eaf56e00e7cea73c3810555ab7fafc74d5fc963914c52f27b6e783c4f43a00", checked := Try.checked }
namespace Rows
def none {H : Type} : Left H := { results := [], args := [] }

/-- 'laws.FnExactAddNode': WHATEVER THE INPUT: true; the input reads as it did. -/
def fnExactAddNodeSpec : ChangeSpec := { name := "fnExactAddNode", fn := fun _ => fun
  | [d1, d2] => { results := [.lit (.bool true)], args := [d1, d2] }
  | _ => none }
def fnExactAddNodeRow : OpenClaim := { program := "ytlnejmlphkpaaaa", sum := "13eaf56e00e7cea73c3810555ab7fafc74d5fc963914c52f27b6e783c4f43a00", func := "loop.example/g00694/laws.FnExactAddNode", spec := "fnExactAddNode", unfollowed := true, recurses := true, apart := false }
def FnExactAddNodeSaid : Prop := fnExactAddNodeRow.holds Try.pinned (OpenSpec.ofChange fnExactAddNodeSpec)

/-- ITS FALSE NEIGHBOUR: 'it returns false'. Refute it at one input. -/
def fnExactAddNodeWrong : ChangeSpec := { name := "fnExactAddNode", fn := fun _ => fun
  | [d1, d2] => { results := [.lit (.bool false)], args := [d1, d2] }
  | _ => none }
def FnExactAddNodeWrongFalsely : Prop := fnExactAddNodeRow.holds Try.pinned (OpenSpec.ofChange fnExactAddNodeWrong)

/-- 'laws.FnClosed': WHATEVER THE INPUT: true; the input reads as it did. -/
def fnClosedSpec : ChangeSpec := { name := "fnClosed", fn := fun _ => fun
  | [d1, d2] => { results := [.lit (.bool true)], args := [d1, d2] }
  | _ => none }
def fnClosedRow : OpenClaim := { program := "ytlnejmlphkpaaaa", sum := "13eaf56e00e7cea73c3810555ab7fafc74d5fc963914c52f27b6e783c4f43a00", func := "loop.example/g00694/laws.FnClosed", spec := "fnClosed", unfollowed := true, recurses := true, apart := false }
def FnClosedSaid : Prop := fnClosedRow.holds Try.pinned (OpenSpec.ofChange fnClosedSpec)

/-- ITS FALSE NEIGHBOUR: 'it returns false'. Refute it at one input. -/
def fnClosedWrong : ChangeSpec := { name := "fnClosed", fn := fun _ => fun
  | [d1, d2] => { results := [.lit (.bool false)], args := [d1, d2] }
  | _ => none }
def FnClosedWrongFalsely : Prop := fnClosedRow.holds Try.pinned (OpenSpec.ofChange fnClosedWrong)

/-- 'laws.FnMerged': WHATEVER THE INPUT: true; the input reads as it did. -/
def fnMergedSpec : ChangeSpec := { name := "fnMerged", fn := fun _ => fun
  | [d1, d2] => { results := [.lit (.bool true)], args := [d1, d2] }
  | _ => none }
def fnMergedRow : OpenClaim := { program := "ytlnejmlphkpaaaa", sum := "13eaf56e00e7cea73c3810555ab7fafc74d5fc963914c52f27b6e783c4f43a00", func := "loop.example/g00694/laws.FnMerged", spec := "fnMerged", unfollowed := true, recurses := true, apart := false }
def FnMergedSaid : Prop := fnMergedRow.holds Try.pinned (OpenSpec.ofChange fnMergedSpec)

/-- ITS FALSE NEIGHBOUR: 'it returns false'. Refute it at one input. -/
def fnMergedWrong : ChangeSpec := { name := "fnMerged", fn := fun _ => fun
  | [d1, d2] => { results := [.lit (.bool false)], args := [d1, d2] }
  | _ => none }
def FnMergedWrongFalsely : Prop := fnMergedRow.holds Try.pinned (OpenSpec.ofChange fnMergedWrong)

/-- 'laws.FnAdded': WHATEVER THE INPUT: true; the input reads as it did. -/
def fnAddedSpec : ChangeSpec := { name := "fnAdded", fn := fun _ => fun
  | [d1, d2] => { results := [.lit (.bool true)], args := [d1, d2] }
  | _ => none }
def fnAddedRow : OpenClaim := { program := "ytlnejmlphkpaaaa", sum := "13eaf56e00e7cea73c3810555ab7fafc74d5fc963914c52f27b6e783c4f43a00", func := "loop.example/g00694/laws.FnAdded", spec := "fnAdded", unfollowed := true, recurses := true, apart := false }
def FnAddedSaid : Prop := fnAddedRow.holds Try.pinned (OpenSpec.ofChange fnAddedSpec)

/-- ITS FALSE NEIGHBOUR: 'it returns false'. Refute it at one input. -/
def fnAddedWrong : ChangeSpec := { name := "fnAdded", fn := fun _ => fun
  | [d1, d2] => { results := [.lit (.bool false)], args := [d1, d2] }
  | _ => none }
def FnAddedWrongFalsely : Prop := fnAddedRow.holds Try.pinned (OpenSpec.ofChange fnAddedWrong)

/-- 'laws.FnExactAddTerm': WHATEVER THE INPUT: true; the input reads as it did. -/
def fnExactAddTermSpec : ChangeSpec := { name := "fnExactAddTerm", fn := fun _ => fun
  | [d1, d2] => { results := [.lit (.bool true)], args := [d1, d2] }
  | _ => none }
def fnExactAddTermRow : OpenClaim := { program := "ytlnejmlphkpaaaa", sum := "13eaf56e00e7cea73c3810555ab7fafc74d5fc963914c52f27b6e783c4f43a00", func := "loop.example/g00694/laws.FnExactAddTerm", spec := "fnExactAddTerm", unfollowed := true, recurses := true, apart := false }
def FnExactAddTermSaid : Prop := fnExactAddTermRow.holds Try.pinned (OpenSpec.ofChange fnExactAddTermSpec)

/-- ITS FALSE NEIGHBOUR: 'it returns false'. Refute it at one input. -/
def fnExactAddTermWrong : ChangeSpec := { name := "fnExactAddTerm", fn := fun _ => fun
  | [d1, d2] => { results := [.lit (.bool false)], args := [d1, d2] }
  | _ => none }
def FnExactAddTermWrongFalsely : Prop := fnExactAddTermRow.holds Try.pinned (OpenSpec.ofChange fnExactAddTermWrong)

/-- 'laws.FnExactInstOf': WHATEVER THE INPUT: true; the input reads as it did. -/
def fnExactInstOfSpec : ChangeSpec := { name := "fnExactInstOf", fn := fun _ => fun
  | [d1, d2, d3] => { results := [.lit (.bool true)], args := [d1, d2, d3] }
  | _ => none }
def fnExactInstOfRow : OpenClaim := { program := "ytlnejmlphkpaaaa", sum := "13eaf56e00e7cea73c3810555ab7fafc74d5fc963914c52f27b6e783c4f43a00", func := "loop.example/g00694/laws.FnExactInstOf", spec := "fnExactInstOf", unfollowed := true, recurses := true, apart := false }
def FnExactInstOfSaid : Prop := fnExactInstOfRow.holds Try.pinned (OpenSpec.ofChange fnExactInstOfSpec)

/-- ITS FALSE NEIGHBOUR: 'it returns false'. Refute it at one input. -/
def fnExactInstOfWrong : ChangeSpec := { name := "fnExactInstOf", fn := fun _ => fun
  | [d1, d2, d3] => { results := [.lit (.bool false)], args := [d1, d2, d3] }
  | _ => none }
def FnExactInstOfWrongFalsely : Prop := fnExactInstOfRow.holds Try.pinned (OpenSpec.ofChange fnExactInstOfWrong)

/-- 'laws.FnInst': WHATEVER THE INPUT: true; the input reads as it did. -/
def fnInstSpec : ChangeSpec := { name := "fnInst", fn := fun _ => fun
  | [d1, d2] => { results := [.lit (.bool true)], args := [d1, d2] }
  | _ => none }
def fnInstRow : OpenClaim := { program := "ytlnejmlphkpaaaa", sum := "13eaf56e00e7cea73c3810555ab7fafc74d5fc963914c52f27b6e783c4f43a00", func := "loop.example/g00694/laws.FnInst", spec := "fnInst", unfollowed := true, recurses := true, apart := false }
def FnInstSaid : Prop := fnInstRow.holds Try.pinned (OpenSpec.ofChange fnInstSpec)

/-- ITS FALSE NEIGHBOUR: 'it returns false'. Refute it at one input. -/
def fnInstWrong : ChangeSpec := { name := "fnInst", fn := fun _ => fun
  | [d1, d2] => { results := [.lit (.bool false)], args := [d1, d2] }
  | _ => none }
def FnInstWrongFalsely : Prop := fnInstRow.holds Try.pinned (OpenSpec.ofChange fnInstWrong)

/- THE SECOND FORM. 'bulk': how many values and letters a reading holds, each counted each time it is reached (what is shared counts as often as it is met; a slice's spare places count too). A statement '..UptoSaid' is the law's where the arguments, and the package variables that the reading takes, are together of bulk at most 1048576: NARROWER than '..Said'. Prove '..Said' where nothing that the law and all that it calls make is longer than what came in: it says more and counts as full. Else prove '..UptoSaid'. A law counts once. -/
mutual
def uptoBulk {H : Type} : DataW H → Nat
  | .lit (.string bytes) => bytes.length + 1
  | .lit _ => 1
  | .nil => 1
  | .ptr d => uptoBulk d + 1
  | .slice elems spare => uptoBulkAll elems + uptoBulkAll spare + 1
  | .agg parts => uptoBulkAll parts + 1
  | .iface _ d => uptoBulk d + 1
  | .map entries => uptoBulkEntries entries + 1
  | .held _ => 1
def uptoBulkAll {H : Type} : List (DataW H) → Nat
  | [] => 0
  | d :: r => uptoBulk d + uptoBulkAll r
def uptoBulkEntries {H : Type} : List (Lit × DataW H) → Nat
  | [] => 0
  | x :: r => uptoBulkEntry x + uptoBulkEntries r
def uptoBulkEntry {H : Type} : Lit × DataW H → Nat
  | (.string bytes, d) => bytes.length + uptoBulk d + 1
  | (_, d) => uptoBulk d + 1
 end
def uptoSmall : (H : Type) → List (DataW H) → Bool := fun _ ds => decide (uptoBulkAll ds ≤ 1048576)
def OpenSpec.upto (s : _root_.Go.ChangeSpec) : _root_.Go.OpenSpec := { _root_.Go.OpenSpec.ofChange s with cond := some uptoSmall }

/-- 'laws.FnExactAddNode', WHERE WHAT IT READS IS OF BULK AT MOST 1048576: true; the input reads as it did. -/
def fnExactAddNodeUptoRow : OpenClaim := { program := "ytlnejmlphkpaaaa", sum := "13eaf56e00e7cea73c3810555ab7fafc74d5fc963914c52f27b6e783c4f43a00", func := "loop.example/g00694/laws.FnExactAddNode", spec := "fnExactAddNode", unfollowed := true, recurses := true, apart := false, narrowed := true }
def FnExactAddNodeUptoSaid : Prop := fnExactAddNodeUptoRow.holds Try.pinned (OpenSpec.upto fnExactAddNodeSpec)

/-- 'laws.FnClosed', WHERE WHAT IT READS IS OF BULK AT MOST 1048576: true; the input reads as it did. -/
def fnClosedUptoRow : OpenClaim := { program := "ytlnejmlphkpaaaa", sum := "13eaf56e00e7cea73c3810555ab7fafc74d5fc963914c52f27b6e783c4f43a00", func := "loop.example/g00694/laws.FnClosed", spec := "fnClosed", unfollowed := true, recurses := true, apart := false, narrowed := true }
def FnClosedUptoSaid : Prop := fnClosedUptoRow.holds Try.pinned (OpenSpec.upto fnClosedSpec)

/-- 'laws.FnMerged', WHERE WHAT IT READS IS OF BULK AT MOST 1048576: true; the input reads as it did. -/
def fnMergedUptoRow : OpenClaim := { program := "ytlnejmlphkpaaaa", sum := "13eaf56e00e7cea73c3810555ab7fafc74d5fc963914c52f27b6e783c4f43a00", func := "loop.example/g00694/laws.FnMerged", spec := "fnMerged", unfollowed := true, recurses := true, apart := false, narrowed := true }
def FnMergedUptoSaid : Prop := fnMergedUptoRow.holds Try.pinned (OpenSpec.upto fnMergedSpec)

/-- 'laws.FnAdded', WHERE WHAT IT READS IS OF BULK AT MOST 1048576: true; the input reads as it did. -/
def fnAddedUptoRow : OpenClaim := { program := "ytlnejmlphkpaaaa", sum := "13eaf56e00e7cea73c3810555ab7fafc74d5fc963914c52f27b6e783c4f43a00", func := "loop.example/g00694/laws.FnAdded", spec := "fnAdded", unfollowed := true, recurses := true, apart := false, narrowed := true }
def FnAddedUptoSaid : Prop := fnAddedUptoRow.holds Try.pinned (OpenSpec.upto fnAddedSpec)

/-- 'laws.FnExactAddTerm', WHERE WHAT IT READS IS OF BULK AT MOST 1048576: true; the input reads as it did. -/
def fnExactAddTermUptoRow : OpenClaim := { program := "ytlnejmlphkpaaaa", sum := "13eaf56e00e7cea73c3810555ab7fafc74d5fc963914c52f27b6e783c4f43a00", func := "loop.example/g00694/laws.FnExactAddTerm", spec := "fnExactAddTerm", unfollowed := true, recurses := true, apart := false, narrowed := true }
def FnExactAddTermUptoSaid : Prop := fnExactAddTermUptoRow.holds Try.pinned (OpenSpec.upto fnExactAddTermSpec)

/-- 'laws.FnExactInstOf', WHERE WHAT IT READS IS OF BULK AT MOST 1048576: true; the input reads as it did. -/
def fnExactInstOfUptoRow : OpenClaim := { program := "ytlnejmlphkpaaaa", sum := "13eaf56e00e7cea73c3810555ab7fafc74d5fc963914c52f27b6e783c4f43a00", func := "loop.example/g00694/laws.FnExactInstOf", spec := "fnExactInstOf", unfollowed := true, recurses := true, apart := false, narrowed := true }
def FnExactInstOfUptoSaid : Prop := fnExactInstOfUptoRow.holds Try.pinned (OpenSpec.upto fnExactInstOfSpec)

/-- 'laws.FnInst', WHERE WHAT IT READS IS OF BULK AT MOST 1048576: true; the input reads as it did. -/
def fnInstUptoRow : OpenClaim := { program := "ytlnejmlphkpaaaa", sum := "13eaf56e00e7cea73c3810555ab7fafc74d5fc963914c52f27b6e783c4f43a00", func := "loop.example/g00694/laws.FnInst", spec := "fnInst", unfollowed := true, recurses := true, apart := false, narrowed := true }
def FnInstUptoSaid : Prop := fnInstUptoRow.holds Try.pinned (OpenSpec.upto fnInstSpec)

end Rows
end Go.Proofs.Ytlnejmlphkpaaaa
