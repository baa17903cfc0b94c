/- The flow seat: impl.Dominators by hand. -/
import Derived.Test.YtghlbhijkhkgkaaIbOc
namespace Go.Proofs.Ytghlbhijkhkgkaa.PA
open Go.RowKit Go.Proofs.YtghlbhijkhkgkaaW.PrintWords Go.Proofs.YtghlbhijkhkgkaaW.PrintLast Go.Proofs.YtghlbhijkhkgkaaW.PrintMore
set_option linter.unusedVariables false
section
variable {next : List (List Int)} {i : Nat}
theorem listOf_dom (next : List (List Int)) (b : Nat) : numsL (rowF next.length (domB next) (b : Int)).length (rdOf false (rowF next.length (domB next) (b : Int))) = domsRow next (b : Int) := by
  rw [rowF_len]
  refine rises_ext _ _ (rises_numsL _ _) (rises_numsL _ _) fun y => ?_
  rw [mem_numsL, domsRow, mem_numsL]
  refine and_congr_right fun h => ?_
  obtain ⟨k, rfl⟩ := Int.eq_ofNat_of_zero_le h.1
  have : k < next.length := by omega
  simp [rdOf, rowF, List.getD_eq_getElem?_getD, this]
end
end Go.Proofs.Ytghlbhijkhkgkaa.PA
