/- Printed by the kit's print over surrogate texts, turned by this session -/
import Derived.Test.YtghlbhijkhkgkaaNbPAx0
import Derived.Test.YtghlbhijkhkgkaaNbPAx1
import Derived.Test.YtghlbhijkhkgkaaNbPAz1
namespace Go.Proofs.Ytghlbhijkhkgkaa.PA
open Go.RowKit Go.Proofs.YtghlbhijkhkgkaaW.PrintWords Go.Proofs.YtghlbhijkhkgkaaW.PrintLast Go.Proofs.YtghlbhijkhkgkaaW.PrintMore
attribute [local go_sem] max2_int min2_int max_two min_two max_three min_three max_four min_four   -- for this text's walks alone
set_option linter.unusedVariables false
set_option linter.unusedSimpArgs false

/-! ### spec_l13Ahead: function 68 -/
def spec_l13Ahead.l0 : Nat → Int → List Int → Int → Int → Int → List (S87) → Option (List Int)
  | 0, _, _, _, _, _, _ => none
  | k + 1, x1, x5, x9, x10, x504000, x504001 => if x10 < x9 then ((spec_l13Next.f k x504000 x504001 x10).bind fun t504 => ((spec_l1Has.f k t504 x1).bind fun t507 => (if t507 = true then (if x5.length < 17592186044416 then (spec_l13Ahead.l0 k x1 (x5 ++ [x10]) x9 (wrap64 (x10 + 1)) x504000 x504001) else (none)) else (spec_l13Ahead.l0 k x1 x5 x9 (wrap64 (x10 + 1)) x504000 x504001)))) else (some x5)
/-! ### spec_AheadOf: function 29 -/
/-! ### slices_Index_int_int: function 110 -/
def slices_Index_int_int.l0 : Nat → List Int → Int → Int → Int → Option (Int)
  | 0, _, _, _, _ => none
  | k + 1, x0, x1, x7, x8 => if x8 < x7 then (if 0 ≤ x8 then (if x8 < (x0.length : Int) then (if x1 = (rd x0 x8) then (some x8) else (slices_Index_int_int.l0 k x0 x1 x7 (wrap64 (x8 + 1)))) else (none)) else (none)) else (some (-1))
/-! ### slices_Contains_int_int: function 69 -/


end Go.Proofs.Ytghlbhijkhkgkaa.PA
