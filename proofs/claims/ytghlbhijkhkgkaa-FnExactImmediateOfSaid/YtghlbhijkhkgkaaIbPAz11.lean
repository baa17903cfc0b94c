/- Parts of the walk. -/
import Derived.Test.YtghlbhijkhkgkaaIbOb
import Derived.Test.YtghlbhijkhkgkaaIbOc
import Derived.Test.YtghlbhijkhkgkaaIbPAz2
import Derived.Test.YtghlbhijkhkgkaaIbOd
section
/- Printed by the kit's print over surrogate texts, turned by this session -/
namespace Go.Proofs.Ytghlbhijkhkgkaa.PA
open Go.RowKit Go.Proofs.YtghlbhijkhkgkaaW.PrintWords Go.Proofs.YtghlbhijkhkgkaaW.PrintLast Go.Proofs.YtghlbhijkhkgkaaW.PrintMore
attribute [local go_sem] max2_int min2_int max_two min_two max_three min_three max_four min_four   -- for this text's walks alone
set_option linter.unusedVariables false
set_option linter.unusedSimpArgs false

noncomputable section
/-! ### spec_l13Backs: function 79 -/
mutual
def spec_l13Backs.l0 : Nat → List (List Int) → List (List Int) → Int → Int → Int → List (S87) → Option ((List (List Int)))
  | 0, _, _, _, _, _, _ => none
  | k + 1, x3, x4, x12, x13, x746000, x746001 => if x13 < x12 then ((spec_l13Next.f k x746000 x746001 x13).bind fun t749 => (spec_l13Backs.l1 k x3 x4 x13 x12 x13 t749 (t749.length : Int) 0 x746000 x746001)) else (some x4)
def spec_l13Backs.l1 : Nat → List (List Int) → List (List Int) → Int → Int → Int → List Int → Int → Int → Int → List (S87) → Option ((List (List Int)))
  | 0, _, _, _, _, _, _, _, _, _, _ => none
  | k + 1, x3, x4, x5, x12, x13, x18, x19, x20, x746000, x746001 => if x20 < x19 then (if 0 ≤ x20 then (if x20 < (x18.length : Int) then (if 0 ≤ x5 then (if x5 < (x3.length : Int) then ((spec_l1Has.f k (rd_L1 x3 x5) (rd x18 x20)).bind fun t754 => (if t754 = true then (if x4.length < 5864062014805 then (spec_l13Backs.l1 k x3 (x4 ++ [(([x5, rd x18 x20] : List Int))]) x5 x12 x13 x18 x19 (wrap64 (x20 + 1)) x746000 x746001) else (none)) else (spec_l13Backs.l1 k x3 x4 x5 x12 x13 x18 x19 (wrap64 (x20 + 1)) x746000 x746001))) else (none)) else (none)) else (none)) else (none)) else (spec_l13Backs.l0 k x3 x4 x12 (wrap64 (x13 + 1)) x746000 x746001)
end
/-! ### spec_BackEdges: function 42 -/
end
end Go.Proofs.Ytghlbhijkhkgkaa.PA
end
section
/- Printed by the kit's print over surrogate texts, turned by this session -/
namespace Go.Proofs.Ytghlbhijkhkgkaa.PA
open Go.RowKit Go.Proofs.YtghlbhijkhkgkaaW.PrintWords Go.Proofs.YtghlbhijkhkgkaaW.PrintLast Go.Proofs.YtghlbhijkhkgkaaW.PrintMore
attribute [local go_sem] max2_int min2_int max_two min_two max_three min_three max_four min_four   -- for this text's walks alone
set_option linter.unusedVariables false
set_option linter.unusedSimpArgs false

noncomputable section
/-! ### impl_backEdges: function 80 -/
mutual
def impl_backEdges.l0 : Nat → List (List Int) → List (List Int) → List (List Bool) → Int → Int → Option ((List (List Int)))
  | 0, _, _, _, _, _ => none
  | k + 1, x0, x3, x10, x11, x12 => if x12 < x11 then (if 0 ≤ x12 then (if x12 < (x10.length : Int) then ((impl_listOf.f k (rd_L13 x10 x12)).bind fun t773 => (impl_backEdges.l1 k x0 x3 x12 x10 x11 x12 t773 (t773.length : Int) 0)) else (none)) else (none)) else (some x3)
def impl_backEdges.l1 : Nat → List (List Int) → List (List Int) → Int → List (List Bool) → Int → Int → List Int → Int → Int → Option ((List (List Int)))
  | 0, _, _, _, _, _, _, _, _, _ => none
  | k + 1, x0, x3, x4, x10, x11, x12, x18, x19, x20 => if x20 < x19 then (if 0 ≤ x20 then (if x20 < (x18.length : Int) then (if 0 ≤ x4 then (if x4 < (x0.length : Int) then ((slices_Contains_int_int.f k (rd_L1 x0 x4) (rd x18 x20)).bind fun t778 => (if t778 = true then (if x3.length < 5864062014805 then (impl_backEdges.l1 k x0 (x3 ++ [(([x4, rd x18 x20] : List Int))]) x4 x10 x11 x12 x18 x19 (wrap64 (x20 + 1))) else (none)) else (impl_backEdges.l1 k x0 x3 x4 x10 x11 x12 x18 x19 (wrap64 (x20 + 1))))) else (none)) else (none)) else (none)) else (none)) else (impl_backEdges.l0 k x0 x3 x10 x11 (wrap64 (x12 + 1)))
end


end
end Go.Proofs.Ytghlbhijkhkgkaa.PA
end
section
/- The flow seat: the back edges, in plain words. -/
namespace Go.Proofs.Ytghlbhijkhkgkaa.PA
open Go.RowKit Go.Proofs.YtghlbhijkhkgkaaW.PrintWords Go.Proofs.YtghlbhijkhkgkaaW.PrintLast Go.Proofs.YtghlbhijkhkgkaaW.PrintMore
set_option linter.unusedVariables false
section
variable {next : List (List Int)} {i : Nat}
theorem allDoms_rd (h : i < next.length) : rd_L1 (allDoms next) (i : Int) = domsRow next (i : Int) := by simp [rd_L1, allDoms, List.getD_eq_getElem?_getD, h]
theorem allDoms_len (next : List (List Int)) : (allDoms next).length = next.length := by simp [allDoms]
end
theorem domGrid_rd (next : List (List Int)) (i : Nat) (h : i < next.length) : rd_L13 (domGrid next) (i : Int) = rowF next.length (domB next) (i : Int) := by
  have := grid_get (n := next.length) (f := domB next) h
  rw [rd_L13, Int.toNat_natCast, domGrid]
  exact this
end Go.Proofs.Ytghlbhijkhkgkaa.PA
end
