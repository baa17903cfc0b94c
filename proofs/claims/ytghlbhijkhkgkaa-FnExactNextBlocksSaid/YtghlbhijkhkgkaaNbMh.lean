/- The flow seat: what impl.reach finds: the blocks to which a way leads. -/
import Derived.Test.YtghlbhijkhkgkaaNbVp
import Derived.Test.YtghlbhijkhkgkaaNbPAz3
namespace Go.Proofs.Ytghlbhijkhkgkaa.PA
open Go.RowKit Go.Proofs.YtghlbhijkhkgkaaW.PrintWords Go.Proofs.YtghlbhijkhkgkaaW.PrintLast Go.Proofs.YtghlbhijkhkgkaaW.PrintMore
set_option linter.unusedVariables false
/-- A way from a that comes to no block but. -/
inductive Way (next : List (List Int)) (but a : Int) : Int → Prop
  | here : Way next but a a
  | on {b c : Int} : Way next but a b → c ∈ rd_L1 next b → c ≠ but → Way next but a c
/-- The walk under way; h: the block whose row is walked, up to i of it. -/
structure RI (next : List (List Int)) (but a : Int) (out : List Bool) (todo : List Int) (h : Int) (i : Nat) : Prop where
  len : out.length = next.length
  at_a : rdOf false out a = true
  way : ∀ y : Int, 0 ≤ y → rdOf false out y = true → Way next but a y
  todo_in : ∀ y ∈ todo, 0 ≤ y ∧ y < (next.length : Int) ∧ rdOf false out y = true
  closed : ∀ y : Int, 0 ≤ y → rdOf false out y = true → y ∉ todo → ∀ c ∈ rd_L1 next y, c ≠ but → rdOf false out c = true
  part : ∀ c ∈ (rd_L1 next h).take i, c ≠ but → rdOf false out c = true
end Go.Proofs.Ytghlbhijkhkgkaa.PA
