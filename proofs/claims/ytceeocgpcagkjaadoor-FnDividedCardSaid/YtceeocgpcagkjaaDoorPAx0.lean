/- Printed by the kit's print over surrogate texts, turned by this session -/
import Derived.Test.YtceeocgpcagkjaaDoorProg
import Derived.Below
import Derived.Deep.Draws
import Derived.Deep.AppendLies
import Derived.Maps.AppendAt
import Derived.OwnWalk
import Derived.Laws.BytesArg
import Derived.Laws.MakeOwn
import Derived.Laws.OwnMore
import Derived.Deep.OwnRows
import Derived.Tactics
import Derived.Lib.ConvBytes
import Derived.Laws.Slices
import Derived.WalkKit
import Derived.KernelRfl
import Derived.RowKit3
import Derived.Deep.LoopGhost
import Derived.Deep.QuietTactic
import Derived.BigQuiet
import Derived.WideLaws
import Derived.Deep.DeepCutAuto
import Derived.Deep.CutBlock
import Derived.Deep.RegionHeld3
import Derived.Laws.Rows
import Derived.Lib.AppendStr
import Derived.ArgAppend
import Derived.Laws.IdiomCopy
import Derived.OrdersHeld
import Derived.Laws.BitsLemmas
import Derived.RowKit
import Derived.Lib.SliceRun
import Derived.Shelf.Abstract
import Derived.Shelf.Spec.TrailingZeros
import Derived.Test.YtceeocgpcagkjaaDoorWWords
import Derived.Test.YtceeocgpcagkjaaDoorWLast
import Derived.Test.YtceeocgpcagkjaaDoorWTab
import Derived.Test.YtceeocgpcagkjaaDoorWFour
import Derived.Test.YtceeocgpcagkjaaDoorWQPut
import Derived.Test.YtceeocgpcagkjaaDoorWApart
import Derived.Test.YtceeocgpcagkjaaDoorWArr
import Derived.Test.YtceeocgpcagkjaaDoorWZeros
import Derived.Test.YtceeocgpcagkjaaDoorWFoot
import Derived.Test.YtceeocgpcagkjaaDoorWKept
import Derived.Test.YtceeocgpcagkjaaDoorWShare
import Derived.Test.YtceeocgpcagkjaaDoorWN
import Derived.Test.YtceeocgpcagkjaaDoorWFootNe
import Derived.Test.YtceeocgpcagkjaaDoorWAt
import Derived.Test.YtceeocgpcagkjaaDoorWEqStruct
import Derived.Test.YtceeocgpcagkjaaDoorWRepsOne
import Derived.Test.YtceeocgpcagkjaaDoorWInv
import Derived.Test.YtceeocgpcagkjaaDoorWInvWords
import Derived.Test.YtceeocgpcagkjaaDoorWGuard
import Derived.Test.YtceeocgpcagkjaaDoorWNEv
import Derived.Test.YtceeocgpcagkjaaDoorWMore
namespace Go.Proofs.YtceeocgpcagkjaaDoor.PA
open Go.RowKit Go.Proofs.YtceeocgpcagkjaaDoorW.PrintWords Go.Proofs.YtceeocgpcagkjaaDoorW.PrintLast Go.Proofs.YtceeocgpcagkjaaDoorW.PrintMore
attribute [local go_sem] max2_int min2_int max_two min_two max_three min_three max_four min_four   -- for this text's walks alone
set_option linter.unusedVariables false
set_option linter.unusedSimpArgs false



def errW : Option Int → Value
  | none => .nilIface
  | some c => .iface 0 (.int .i64 c)
theorem errW_none : errW none = .nilIface := rfl
theorem errW_some (c : Int) : errW (some c) = .iface 0 (.int .i64 c) := rfl

theorem info2 : (Tryd.prog.info? 2).map (fun i => (i.zero, i.size, i.bytes)) = some (some (.int .i64 0), 1, 8) := by kernel_rfl
theorem info3 : (Tryd.prog.info? 3).map (fun i => (i.zero, i.size, i.bytes)) = some (some (.int .i64 0), 1, 8) := by kernel_rfl
-- the values' own types

end Go.Proofs.YtceeocgpcagkjaaDoor.PA
