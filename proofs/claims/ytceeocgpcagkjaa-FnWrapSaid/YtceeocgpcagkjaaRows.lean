/-
  No cell of these rows narrows 'for every input' (looked for: loops, veiled, ifaces, maps, wideKeys, modest, calm, conditions, laid).
  DERIVED. THE GIVEN ROWS OF THIS SEAT. 5 by the template 'for every input the law returns true; each argument reads behind the call as it read before'; 0 by the template 'total and deterministic' (their statements: YtceeocgpcagkjaaTotals.lean).
  GIVEN WITH THE SEED: the statements are not yours to turn. If you find one false, say at which input.
  Laid BY PROGRAM, IN A SANDBOX (cutbox-rows.mjs): the forced cells as the released guide's own fill.sh prints them over the translation 9770371a3becacb3… (all of the seat's roots in one cut). By AI agents, Wed Nov 11 2026. No macro, syntax, notation, axiom, sorry.
-/
import Derived.Test.YtceeocgpcagkjaaChecked
import GoSem.Claim
import GoSem.ClaimJoined
import GoSem.ClaimMapViews
import Derived.JoinedTies
import Derived.KernelRfl
namespace Go.Proofs.Ytceeocgpcagkjaa
/- THE CELL 'sum', in the pinned program and in every row, IS THE sha256 OF THE DUMP (.gsa) THAT YtceeocgpcagkjaaProg.lean LOADS. Nothing in Lean hashes anything: it is a label: what it is worth is what the hold of that sum in a sandbox is worth. -/
noncomputable def Try.pinned : Pinned := { name := "ytceeocgpcagkjaa", sum := "9770371a3becacb34b24256dc6bb7bc2ac481537db24bb69c72781a1b62b3a2c", checked := Try.checked }
namespace Rows
def none {H : Type} : Left H := { results := [], args := [] }

/-- 'laws.FnWrap': WHATEVER THE INPUT: true; the input reads as it did. -/
def fnWrapSpec : ChangeSpec := { name := "fnWrap", fn := fun _ => fun
  | [d1, d2] => { results := [.lit (.bool true)], args := [d1, d2] }
  | _ => none }
def fnWrapRow : OpenClaim := { program := "ytceeocgpcagkjaa", sum := "9770371a3becacb34b24256dc6bb7bc2ac481537db24bb69c72781a1b62b3a2c", func := "loop.example/g00694/laws.FnWrap", spec := "fnWrap", apart := false }
def FnWrapSaid : Prop := fnWrapRow.holds Try.pinned (OpenSpec.ofChange fnWrapSpec)

/-- ITS FALSE NEIGHBOUR: 'it returns false'. Refute it at one input. -/
def fnWrapWrong : ChangeSpec := { name := "fnWrap", fn := fun _ => fun
  | [d1, d2] => { results := [.lit (.bool false)], args := [d1, d2] }
  | _ => none }
def FnWrapWrongFalsely : Prop := fnWrapRow.holds Try.pinned (OpenSpec.ofChange fnWrapWrong)

/-- 'laws.FnUnion': WHATEVER THE INPUT: true; the input reads as it did. -/
def fnUnionSpec : ChangeSpec := { name := "fnUnion", fn := fun _ => fun
  | [d1, d2] => { results := [.lit (.bool true)], args := [d1, d2] }
  | _ => none }
def fnUnionRow : OpenClaim := { program := "ytceeocgpcagkjaa", sum := "9770371a3becacb34b24256dc6bb7bc2ac481537db24bb69c72781a1b62b3a2c", func := "loop.example/g00694/laws.FnUnion", spec := "fnUnion", unfollowed := true, recurses := true, apart := false }
def FnUnionSaid : Prop := fnUnionRow.holds Try.pinned (OpenSpec.ofChange fnUnionSpec)

/-- ITS FALSE NEIGHBOUR: 'it returns false'. Refute it at one input. -/
def fnUnionWrong : ChangeSpec := { name := "fnUnion", fn := fun _ => fun
  | [d1, d2] => { results := [.lit (.bool false)], args := [d1, d2] }
  | _ => none }
def FnUnionWrongFalsely : Prop := fnUnionRow.holds Try.pinned (OpenSpec.ofChange fnUnionWrong)

/-- 'laws.FnParts': WHATEVER THE INPUT: true; the input reads as it did. -/
def fnPartsSpec : ChangeSpec := { name := "fnParts", fn := fun _ => fun
  | [d1, d2] => { results := [.lit (.bool true)], args := [d1, d2] }
  | _ => none }
def fnPartsRow : OpenClaim := { program := "ytceeocgpcagkjaa", sum := "9770371a3becacb34b24256dc6bb7bc2ac481537db24bb69c72781a1b62b3a2c", func := "loop.example/g00694/laws.FnParts", spec := "fnParts", unfollowed := true, recurses := true, apart := false }
def FnPartsSaid : Prop := fnPartsRow.holds Try.pinned (OpenSpec.ofChange fnPartsSpec)

/-- ITS FALSE NEIGHBOUR: 'it returns false'. Refute it at one input. -/
def fnPartsWrong : ChangeSpec := { name := "fnParts", fn := fun _ => fun
  | [d1, d2] => { results := [.lit (.bool false)], args := [d1, d2] }
  | _ => none }
def FnPartsWrongFalsely : Prop := fnPartsRow.holds Try.pinned (OpenSpec.ofChange fnPartsWrong)

/-- 'laws.FnReplaced': WHATEVER THE INPUT: true; the input reads as it did. -/
def fnReplacedSpec : ChangeSpec := { name := "fnReplaced", fn := fun _ => fun
  | [d1, d2] => { results := [.lit (.bool true)], args := [d1, d2] }
  | _ => none }
def fnReplacedRow : OpenClaim := { program := "ytceeocgpcagkjaa", sum := "9770371a3becacb34b24256dc6bb7bc2ac481537db24bb69c72781a1b62b3a2c", func := "loop.example/g00694/laws.FnReplaced", spec := "fnReplaced", unfollowed := true, recurses := true, apart := false }
def FnReplacedSaid : Prop := fnReplacedRow.holds Try.pinned (OpenSpec.ofChange fnReplacedSpec)

/-- ITS FALSE NEIGHBOUR: 'it returns false'. Refute it at one input. -/
def fnReplacedWrong : ChangeSpec := { name := "fnReplaced", fn := fun _ => fun
  | [d1, d2] => { results := [.lit (.bool false)], args := [d1, d2] }
  | _ => none }
def FnReplacedWrongFalsely : Prop := fnReplacedRow.holds Try.pinned (OpenSpec.ofChange fnReplacedWrong)

/-- 'laws.FnPutFor': WHATEVER THE INPUT: true; the input reads as it did. -/
def fnPutForSpec : ChangeSpec := { name := "fnPutFor", fn := fun _ => fun
  | [d1, d2] => { results := [.lit (.bool true)], args := [d1, d2] }
  | _ => none }
def fnPutForRow : OpenClaim := { program := "ytceeocgpcagkjaa", sum := "9770371a3becacb34b24256dc6bb7bc2ac481537db24bb69c72781a1b62b3a2c", func := "loop.example/g00694/laws.FnPutFor", spec := "fnPutFor", unfollowed := true, recurses := true, apart := false }
def FnPutForSaid : Prop := fnPutForRow.holds Try.pinned (OpenSpec.ofChange fnPutForSpec)

/-- ITS FALSE NEIGHBOUR: 'it returns false'. Refute it at one input. -/
def fnPutForWrong : ChangeSpec := { name := "fnPutFor", fn := fun _ => fun
  | [d1, d2] => { results := [.lit (.bool false)], args := [d1, d2] }
  | _ => none }
def FnPutForWrongFalsely : Prop := fnPutForRow.holds Try.pinned (OpenSpec.ofChange fnPutForWrong)

/- THE SECOND FORM. 'bulk': how many values and letters a reading holds, each counted each time it is reached (what is shared counts as often as it is met; a slice's spare places count too). A statement '..UptoSaid' is the law's where the arguments, and the package variables that the reading takes, are together of bulk at most 1048576: NARROWER than '..Said'. Prove '..Said' where nothing that the law and all that it calls make is longer than what came in: it says more and counts as full. Else prove '..UptoSaid'. A law counts once. -/
mutual
def uptoBulk {H : Type} : DataW H → Nat
  | .lit (.string bytes) => bytes.length + 1
  | .lit _ => 1
  | .nil => 1
  | .ptr d => uptoBulk d + 1
  | .slice elems spare => uptoBulkAll elems + uptoBulkAll spare + 1
  | .agg parts => uptoBulkAll parts + 1
  | .iface _ d => uptoBulk d + 1
  | .map entries => uptoBulkEntries entries + 1
  | .held _ => 1
def uptoBulkAll {H : Type} : List (DataW H) → Nat
  | [] => 0
  | d :: r => uptoBulk d + uptoBulkAll r
def uptoBulkEntries {H : Type} : List (Lit × DataW H) → Nat
  | [] => 0
  | x :: r => uptoBulkEntry x + uptoBulkEntries r
def uptoBulkEntry {H : Type} : Lit × DataW H → Nat
  | (.string bytes, d) => bytes.length + uptoBulk d + 1
  | (_, d) => uptoBulk d + 1
 end
def uptoSmall : (H : Type) → List (DataW H) → Bool := fun _ ds => decide (uptoBulkAll ds ≤ 1048576)
def OpenSpec.upto (s : _root_.Go.ChangeSpec) : _root_.Go.OpenSpec := { _root_.Go.OpenSpec.ofChange s with cond := some uptoSmall }

/-- 'laws.FnWrap', WHERE WHAT IT READS IS OF BULK AT MOST 1048576: true; the input reads as it did. -/
def fnWrapUptoRow : OpenClaim := { program := "ytceeocgpcagkjaa", sum := "9770371a3becacb34b24256dc6bb7bc2ac481537db24bb69c72781a1b62b3a2c", func := "loop.example/g00694/laws.FnWrap", spec := "fnWrap", apart := false, narrowed := true }
def FnWrapUptoSaid : Prop := fnWrapUptoRow.holds Try.pinned (OpenSpec.upto fnWrapSpec)

/-- 'laws.FnUnion', WHERE WHAT IT READS IS OF BULK AT MOST 1048576: true; the input reads as it did. -/
def fnUnionUptoRow : OpenClaim := { program := "ytceeocgpcagkjaa", sum := "9770371a3becacb34b24256dc6bb7bc2ac481537db24bb69c72781a1b62b3a2c", func := "loop.example/g00694/laws.FnUnion", spec := "fnUnion", unfollowed := true, recurses := true, apart := false, narrowed := true }
def FnUnionUptoSaid : Prop := fnUnionUptoRow.holds Try.pinned (OpenSpec.upto fnUnionSpec)

/-- 'laws.FnParts', WHERE WHAT IT READS IS OF BULK AT MOST 1048576: true; the input reads as it did. -/
def fnPartsUptoRow : OpenClaim := { program := "ytceeocgpcagkjaa", sum := "9770371a3becacb34b24256dc6bb7bc2ac481537db24bb69c72781a1b62b3a2c", func := "loop.example/g00694/laws.FnParts", spec := "fnParts", unfollowed := true, recurses := true, apart := false, narrowed := true }
def FnPartsUptoSaid : Prop := fnPartsUptoRow.holds Try.pinned (OpenSpec.upto fnPartsSpec)

/-- 'laws.FnReplaced', WHERE WHAT IT READS IS OF BULK AT MOST 1048576: true; the input reads as it did. -/
def fnReplacedUptoRow : OpenClaim := { program := "ytceeocgpcagkjaa", sum := "9770371a3becacb34b24256dc6bb7bc2ac481537db24bb69c72781a1b62b3a2c", func := "loop.example/g00694/laws.FnReplaced", spec := "fnReplaced", unfollowed := true, recurses := true, apart := false, narrowed := true }
def FnReplacedUptoSaid : Prop := fnReplacedUptoRow.holds Try.pinned (OpenSpec.upto fnReplacedSpec)

/-- 'laws.FnPutFor', WHERE WHAT IT READS IS OF BULK AT MOST 1048576: true; the input reads as it did. -/
def fnPutForUptoRow : OpenClaim := { program := "ytceeocgpcagkjaa", sum := "9770371a3becacb34b24256dc6bb7bc2ac481537db24bb69c72781a1b62b3a2c", func := "loop.example/g00694/laws.FnPutFor", spec := "fnPutFor", unfollowed := true, recurses := true, apart := false, narrowed := true }
def FnPutForUptoSaid : Prop := fnPutForUptoRow.holds Try.pinned (OpenSpec.upto fnPutForSpec)

end Rows
end Go.Proofs.Ytceeocgpcagkjaa
