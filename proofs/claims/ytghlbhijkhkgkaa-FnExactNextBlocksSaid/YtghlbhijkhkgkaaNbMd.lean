/- The flow seat: hasBlock, slices.Contains and the rows of next, by hand. -/
import Derived.Test.YtghlbhijkhkgkaaNbMc
namespace Go.Proofs.Ytghlbhijkhkgkaa.PA
open Go.RowKit Go.Proofs.YtghlbhijkhkgkaaW.PrintWords Go.Proofs.YtghlbhijkhkgkaaW.PrintLast Go.Proofs.YtghlbhijkhkgkaaW.PrintMore
set_option linter.unusedVariables false
theorem hasBlock_any {w : World} {g : Nat} {p : Int} {A : Option Addr} {bs : List S87} {c : Nat} {fs bl : List Int} {tot : Int} (v : Int) (hv : View w g p A bs c fs bl tot) (hn : bs.length ≤ 8) :
    Calls Try.prog 63 #[.pointer (some ⟨g, 0, none⟩), .int .i64 v] w fun e w' => e = .returned (.bool (within v 0 ((bs.length : Int) - 1))) ∧ w' = w := by
  have y1 := hv.cell1
  have hw1 : IntKind.i64.wrap ((bs.length : Int) - 1) = (bs.length : Int) - 1 := IntWalk.i64_in _ (by omega)
  clear hv
  go_enter Try.func63, Try.ntmps63
  go_wp2_with (go_at_call 100; refine (within_any _ _ _ _).mono ?_; rintro e w' ⟨rfl, rfl⟩)
  go_ret
  exact ⟨rfl, rfl⟩
theorem nextL_at (bs : List S87) (j : Nat) (hj : j < bs.length) : (nextL bs).getD j [] = toL (rd_T87 bs (j : Int)) := by
  rw [rd_nat bs j hj, nextL, List.getD_eq_getElem?_getD, List.getElem?_map, List.getElem?_eq_getElem hj]
  rfl
end Go.Proofs.Ytghlbhijkhkgkaa.PA
