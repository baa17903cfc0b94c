/- The flow seat: impl.AheadOf by hand. -/
import Derived.Test.YtghlbhijkhkgkaaNbMd
namespace Go.Proofs.Ytghlbhijkhkgkaa.PA
open Go.RowKit Go.Proofs.YtghlbhijkhkgkaaW.PrintWords Go.Proofs.YtghlbhijkhkgkaaW.PrintLast Go.Proofs.YtghlbhijkhkgkaaW.PrintMore
set_option linter.unusedVariables false
/-- The rows of next, which lie in the blocks from B to H. -/
structure RW (W : World) (g B H : Nat) (rows : List (List Int)) : Prop where
  hB : B ≤ g
  hH : g < H
  hW : H ≤ W.heap.size
  blk : ∃ arr : List Value, W.heap[g]? = some (.cells arr.toArray 34 (0, 0)) ∧ ∀ j, j < rows.length → ∃ u, arr[j]? = some u ∧ (Kd.int .i64).R 3 W B (fun k => B ≤ k ∧ k < H) u (rows.getD j [])
section
variable {w0 W W1 w1 : World} {g n B H : Nat} {rows : List (List Int)} {v : Value} {xs : List Int} {row : Option Nat}
theorem RW.of_NX (h : NX w0 W g n H rows v xs) : RW W g w0.heap.size H rows := by
  obtain ⟨h1, h2, h3, h4, h5, arr, h6, h7, h8, h9⟩ := h
  exact ⟨h2, h3, h4, arr, h6, fun j hj => by obtain ⟨u, hu, hR⟩ := h9 j hj; exact ⟨u, hu, Kd.R_mono (Kd.R_bound hR) (fun k hk => ⟨hk.2.1, hk.1⟩)⟩⟩
theorem RW.at_row (h : RW W g B H rows) {j : Nat} (hj : j < rows.length) : ∃ A c, W.cell? ⟨g, j, none⟩ = some (.slice A (rows.getD j []).length c) ∧ (Kd.int .i64).R 3 W B (fun k => B ≤ k ∧ k < H) (.slice A (rows.getD j []).length c) (rows.getD j []) := by
  obtain ⟨arr, h6, h9⟩ := h.blk
  obtain ⟨u, hu, hR⟩ := h9 j hj
  obtain ⟨A, c, rfl⟩ := Kd.R_slice hR
  exact ⟨A, c, by rw [blk_cell h6 j]; simpa using hu, hR⟩
end
end Go.Proofs.Ytghlbhijkhkgkaa.PA
