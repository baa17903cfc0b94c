/- Parts of the walk. -/
import Derived.Test.YtghlbhijkhkgkaaKbPAz2
import Derived.Test.YtghlbhijkhkgkaaKbMi
section
/- The flow seat: impl.AheadOf by hand. -/
namespace Go.Proofs.Ytghlbhijkhkgkaa.PA
open Go.RowKit Go.Proofs.YtghlbhijkhkgkaaW.PrintWords Go.Proofs.YtghlbhijkhkgkaaW.PrintLast Go.Proofs.YtghlbhijkhkgkaaW.PrintMore
set_option linter.unusedVariables false
/-- The rows of next, which lie in the blocks from B to H. -/
structure RW (W : World) (g B H : Nat) (rows : List (List Int)) : Prop where
  hB : B ≤ g
  hH : g < H
  hW : H ≤ W.heap.size
  blk : ∃ arr : List Value, W.heap[g]? = some (.cells arr.toArray 34 (0, 0)) ∧ ∀ j, j < rows.length → ∃ u, arr[j]? = some u ∧ (Kd.int .i64).R 3 W B (fun k => B ≤ k ∧ k < H) u (rows.getD j [])
section
variable {w0 W W1 w1 : World} {g n B H : Nat} {rows : List (List Int)} {v : Value} {xs : List Int} {row : Option Nat}
theorem RW.of_NX (h : NX w0 W g n H rows v xs) : RW W g w0.heap.size H rows := by
  obtain ⟨h1, h2, h3, h4, h5, arr, h6, h7, h8, h9⟩ := h
  exact ⟨h2, h3, h4, arr, h6, fun j hj => by obtain ⟨u, hu, hR⟩ := h9 j hj; exact ⟨u, hu, Kd.R_mono (Kd.R_bound hR) (fun k hk => ⟨hk.2.1, hk.1⟩)⟩⟩
theorem RW.at_row (h : RW W g B H rows) {j : Nat} (hj : j < rows.length) : ∃ A c, W.cell? ⟨g, j, none⟩ = some (.slice A (rows.getD j []).length c) ∧ (Kd.int .i64).R 3 W B (fun k => B ≤ k ∧ k < H) (.slice A (rows.getD j []).length c) (rows.getD j []) := by
  obtain ⟨arr, h6, h9⟩ := h.blk
  obtain ⟨u, hu, hR⟩ := h9 j hj
  obtain ⟨A, c, rfl⟩ := Kd.R_slice hR
  exact ⟨A, c, by rw [blk_cell h6 j]; simpa using hu, hR⟩
end
end Go.Proofs.Ytghlbhijkhkgkaa.PA
end
section
/- The flow seat: impl.reach and impl.listOf over the rows of next; impl.ReachedBlocks by hand. -/
namespace Go.Proofs.Ytghlbhijkhkgkaa.PA
open Go.RowKit Go.Proofs.YtghlbhijkhkgkaaW.PrintWords Go.Proofs.YtghlbhijkhkgkaaW.PrintLast Go.Proofs.YtghlbhijkhkgkaaW.PrintMore
set_option linter.unusedVariables false
theorem RW.C {W : World} {g B H : Nat} {rows : List (List Int)} (h : RW W g B H rows) (hn : rows.length ≤ 1000) : Kd.C (Kd.slice 3 (Kd.int .i64)) W (some ⟨g, 0, none⟩) rows.length rows := by
  refine ⟨rfl, by omega, fun _ => ⟨_, rfl, fun j p hj => ?_⟩⟩
  obtain ⟨hl, e⟩ := List.getElem?_eq_some_iff.1 hj
  obtain ⟨A, c, hz, hR⟩ := h.at_row hl
  have e2 : rows.getD j [] = p := by rw [List.getD_eq_getElem?_getD, hj]; rfl
  rw [e2] at hz hR
  refine ⟨[.slice A p.length c], rfl, ⟨A, c, rfl, (Kd.R_reads' hR).2.1, (Kd.R_reads' hR).2.2⟩, fun i u hu => ?_⟩
  cases i with
  | succ i => simp at hu
  | zero =>
    simp only [List.getElem?_cons_zero, Option.some.injEq] at hu
    subst hu
    rw [← hz]
    show W.cell? (Addr.add ⟨g, 0, none⟩ (j * 1 + 0)) = W.cell? ⟨g, j, none⟩
    rw [Nat.mul_one, Nat.add_zero, add_plain]
theorem listOf_any {w : World} {A : Option Addr} {c : Nat} (l : List Bool) (hl : l.length ≤ 1000) (hr : Kd.bool.C w A l.length l) (hc : l.length ≤ c) :
    Calls Try.prog 72 #[.slice A l.length c] w fun e w' => ∃ v : Value, e = .returned v ∧ (Kd.int .i64).R 3 w' w.heap.size (fun _ => True) v (numsL l.length (rdOf false l)) ∧ Below w.heap.size w w' := by
  obtain ⟨k, hk⟩ := Ev.rounds (listOf_is l hl)
  exact impl_listOf.calls k A c l _ w hr hc hk
end Go.Proofs.Ytghlbhijkhkgkaa.PA
end
