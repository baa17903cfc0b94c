/- Printed by the kit's print over surrogate texts, turned by this session -/
import Derived.Test.YtghlbhijkhkgkaaNbPAx0
namespace Go.Proofs.Ytghlbhijkhkgkaa.PA
open Go.RowKit Go.Proofs.YtghlbhijkhkgkaaW.PrintWords Go.Proofs.YtghlbhijkhkgkaaW.PrintLast Go.Proofs.YtghlbhijkhkgkaaW.PrintMore
attribute [local go_sem] max2_int min2_int max_two min_two max_three min_three max_four min_four   -- for this text's walks alone
set_option linter.unusedVariables false
set_option linter.unusedSimpArgs false

/-! ### impl_reach: function 73 -/
mutual
def impl_reach.l0 : Nat → List (List Int) → Int → List Bool → List Int → Option (List Bool)
  | 0, _, _, _, _ => none
  | k + 1, x0, x2, x7, x8 => if (x8.length : Int) > 0 then (if 0 < (x8.length : Int) then (if 0 ≤ (rd x8 0) then (if (rd x8 0) < (x0.length : Int) then (impl_reach.l1 k x0 x2 x7 x8 (rd_L1 x0 (rd x8 0)) ((rd_L1 x0 (rd x8 0)).length : Int) 0) else (none)) else (none)) else (none)) else (some x7)
def impl_reach.l1 : Nat → List (List Int) → Int → List Bool → List Int → List Int → Int → Int → Option (List Bool)
  | 0, _, _, _, _, _, _, _ => none
  | k + 1, x0, x2, x7, x8, x33, x34, x35 => if x35 < x34 then (if 0 ≤ x35 then (if x35 < (x33.length : Int) then (if 0 ≤ (rd x33 x35) then (if (rd x33 x35) < (x7.length : Int) then (if (rdOf false x7 (rd x33 x35) = true) then (impl_reach.l1 k x0 x2 x7 x8 x33 x34 (wrap64 (x35 + 1))) else (if (rd x33 x35) = x2 then (impl_reach.l1 k x0 x2 x7 x8 x33 x34 (wrap64 (x35 + 1))) else (if x8.length < 17592186044416 then (impl_reach.l1 k x0 x2 (x7.set ((rd x33 x35) : Int).toNat true) (x8 ++ [rd x33 x35]) x33 x34 (wrap64 (x35 + 1))) else (none)))) else (none)) else (none)) else (none)) else (none)) else (if 1 ≤ (x8.length : Int) then (impl_reach.l0 k x0 x2 x7 (x8.drop (1 : Int).toNat)) else (none))
end


/-! ### impl_listOf: function 72 -/
def impl_listOf.l0 : Nat → List Int → List Bool → Int → Int → Option (List Int)
  | 0, _, _, _, _ => none
  | k + 1, x3, x7, x8, x9 => if x9 < x8 then (if 0 ≤ x9 then (if x9 < (x7.length : Int) then (if rdOf false x7 x9 = true then (if x3.length < 17592186044416 then (impl_listOf.l0 k (x3 ++ [x9]) x7 x8 (wrap64 (x9 + 1))) else (none)) else (impl_listOf.l0 k x3 x7 x8 (wrap64 (x9 + 1)))) else (none)) else (none)) else (some x3)
end Go.Proofs.Ytghlbhijkhkgkaa.PA
