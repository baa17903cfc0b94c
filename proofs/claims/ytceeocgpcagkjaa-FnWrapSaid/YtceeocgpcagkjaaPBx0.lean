/- Printed by the kit's print over surrogate texts, turned by this session -/
import Derived.Test.YtceeocgpcagkjaaProg
import Derived.Below
import Derived.Deep.Draws
import Derived.Deep.AppendLies
import Derived.Maps.AppendAt
import Derived.OwnWalk
import Derived.Laws.BytesArg
import Derived.Laws.MakeOwn
import Derived.Laws.OwnMore
import Derived.Deep.OwnRows
import Derived.Tactics
import Derived.Lib.ConvBytes
import Derived.Laws.Slices
import Derived.WalkKit
import Derived.KernelRfl
import Derived.RowKit3
import Derived.Deep.LoopGhost
import Derived.Deep.QuietTactic
import Derived.BigQuiet
import Derived.WideLaws
import Derived.Deep.DeepCutAuto
import Derived.Deep.CutBlock
import Derived.Deep.RegionHeld3
import Derived.Laws.Rows
import Derived.Lib.AppendStr
import Derived.ArgAppend
import Derived.Laws.IdiomCopy
import Derived.OrdersHeld
import Derived.Laws.BitsLemmas
import Derived.RowKit
import Derived.Lib.SliceRun
import Derived.Shelf.Abstract
import Derived.Test.YtceeocgpcagkjaaWWords
import Derived.Test.YtceeocgpcagkjaaWLast
import Derived.Test.YtceeocgpcagkjaaWQPut
import Derived.Test.YtceeocgpcagkjaaWApart
import Derived.Test.YtceeocgpcagkjaaWArr
import Derived.Test.YtceeocgpcagkjaaWZeros
import Derived.Test.YtceeocgpcagkjaaWFoot
import Derived.Test.YtceeocgpcagkjaaWKept
import Derived.Test.YtceeocgpcagkjaaWShare
import Derived.Test.YtceeocgpcagkjaaWN
import Derived.Test.YtceeocgpcagkjaaWFootNe
import Derived.Test.YtceeocgpcagkjaaWAt
import Derived.Test.YtceeocgpcagkjaaWRepsOne
import Derived.Test.YtceeocgpcagkjaaWGuard
import Derived.Test.YtceeocgpcagkjaaWNEv
import Derived.Test.YtceeocgpcagkjaaWMore
namespace Go.Proofs.Ytceeocgpcagkjaa.PB
open Go.RowKit Go.Proofs.YtceeocgpcagkjaaW.PrintWords Go.Proofs.YtceeocgpcagkjaaW.PrintLast Go.Proofs.YtceeocgpcagkjaaW.PrintMore
attribute [local go_sem] max2_int min2_int max_two min_two max_three min_three max_four min_four   -- for this text's walks alone
set_option linter.unusedVariables false
set_option linter.unusedSimpArgs false



def errW : Option Int → Value
  | none => .nilIface
  | some c => .iface 0 (.int .i64 c)
theorem errW_none : errW none = .nilIface := rfl
theorem errW_some (c : Int) : errW (some c) = .iface 0 (.int .i64 c) := rfl

theorem info2 : (Try.prog.info? 2).map (fun i => (i.zero, i.size, i.bytes)) = some (some (.int .i64 0), 1, 8) := by kernel_rfl
-- the values' own types

end Go.Proofs.Ytceeocgpcagkjaa.PB
