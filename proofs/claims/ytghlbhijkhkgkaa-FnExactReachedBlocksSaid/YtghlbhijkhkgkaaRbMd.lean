/- The flow seat: hasBlock, slices.Contains and the rows of next, by hand. -/
import Derived.Test.YtghlbhijkhkgkaaRbMc
namespace Go.Proofs.Ytghlbhijkhkgkaa.PA
open Go.RowKit Go.Proofs.YtghlbhijkhkgkaaW.PrintWords Go.Proofs.YtghlbhijkhkgkaaW.PrintLast Go.Proofs.YtghlbhijkhkgkaaW.PrintMore
set_option linter.unusedVariables false
theorem nextL_at (bs : List S87) (j : Nat) (hj : j < bs.length) : (nextL bs).getD j [] = toL (rd_T87 bs (j : Int)) := by
  rw [rd_nat bs j hj, nextL, List.getD_eq_getElem?_getD, List.getElem?_map, List.getElem?_eq_getElem hj]
  rfl
end Go.Proofs.Ytghlbhijkhkgkaa.PA
