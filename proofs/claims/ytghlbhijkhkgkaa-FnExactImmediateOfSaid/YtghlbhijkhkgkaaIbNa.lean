/- Parts of the walk. -/
import Derived.Test.YtghlbhijkhkgkaaIbPAx0
import Derived.Test.YtghlbhijkhkgkaaIbPAz2
import Derived.Test.YtghlbhijkhkgkaaIbMi
section
/- The flow seat: rows of rows of one's own: an element lent, grown, put back. -/
namespace Go.Proofs.Ytghlbhijkhkgkaa.PA
open Go.RowKit Go.Proofs.YtghlbhijkhkgkaaW.PrintWords Go.Proofs.YtghlbhijkhkgkaaW.PrintLast Go.Proofs.YtghlbhijkhkgkaaW.PrintMore
set_option linter.unusedVariables false
/-- Rows of numbers. -/
abbrev kR : Kd (List Int) := Kd.slice 3 (Kd.int .i64)
/-- Rows of bools. -/
abbrev kB : Kd (List Bool) := Kd.slice 4 Kd.bool
section
variable {α : Type} {d : Kd α} {ei eo : Nat} {W w1 : World} {base g n cap i : Nat} {ok oki : Nat → Prop} {rows : List (List α)} {v v1 : Value} {ys : List α}
theorem rows_lend (h : Kd.S (Kd.slice ei d) eo W base ok (.slice (some ⟨g, 0, none⟩) n cap) rows) (hi : i < n) :
    ∃ (oki : Nat → Prop) (v : Value), W.cell? ⟨g, i, none⟩ = some v ∧ W.frozen? ⟨g, i, none⟩ = false ∧ d.R ei W base oki v (rows.getD i []) ∧ (∀ k, oki k → ok k ∧ k ≠ g) ∧ Kd.H (Kd.slice ei d) eo W base ok (.slice (some ⟨g, 0, none⟩) n cap) rows (i : Int) oki [v] := by
  obtain ⟨oki, c, hcl, hM, hcc, hfr, hoki, hH⟩ := Kd.S_elem h [] (i : Int) (by omega) (by omega)
  obtain ⟨v, rfl, hR⟩ := hM
  have h1 : W.cell? ⟨g, (i : Int).toNat * 1 + 0, none⟩ = some v := hcc 0 v rfl
  have h2 : W.frozen? ⟨g, (i : Int).toNat * 1 + 0, none⟩ = false := hfr 0
  rw [Int.toNat_natCast, Nat.mul_one, Nat.add_zero] at h1 h2
  rw [Int.toNat_natCast] at hR
  exact ⟨oki, v, h1, h2, hR, hoki, hH⟩
theorem rows_back (hH : Kd.H (Kd.slice ei d) eo w1 base ok (.slice (some ⟨g, 0, none⟩) n cap) rows (i : Int) (fun k => oki k ∨ ok k ∧ W.heap.size ≤ k) [v]) (hi : i < n) (hR : d.R ei w1 base (fun k => oki k ∨ W.heap.size ≤ k) v1 ys) (hok : ∀ k, W.heap.size ≤ k → ok k) :
    Kd.S (Kd.slice ei d) eo (w1.setCell ⟨g, i, none⟩ v1) base ok (.slice (some ⟨g, 0, none⟩) n cap) (rows.set i ys) ∧ w1.grownBy (w1.setCell ⟨g, i, none⟩ v1) (some g) := by
  have h3 : Kd.H (Kd.slice ei d) eo w1 base (fun k => ok k ∧ ¬ False) (.slice (some ⟨g, 0, none⟩) n cap) rows (i : Int) (fun k => oki k ∨ ok k ∧ W.heap.size ≤ k) [v] := Kd.H_mono hH (fun k hk => ⟨hk, fun h => h⟩)
  have h4 := Kd.S_seg (okg := fun _ => False) (seg := [v1]) (j := 0) (x' := ys) (okp := fun k => oki k ∨ W.heap.size ≤ k) h3 (by omega) (by omega) (Nat.le_refl 1) ⟨v1, rfl, hR⟩ (fun k hk => .inl (hk.elim .inl (fun h => .inr ⟨hok k h, h⟩))) (fun k hk => hk.elim)
  have e : (i : Int).toNat * (Kd.slice ei d).sz + 0 = i := by show (i : Int).toNat * 1 + 0 = i; rw [Int.toNat_natCast, Nat.mul_one, Nat.add_zero]
  rw [e, Int.toNat_natCast] at h4
  exact h4
/-- The element has been appended to. -/
theorem rows_put (hH : Kd.H (Kd.slice ei d) eo W base ok (.slice (some ⟨g, 0, none⟩) n cap) rows (i : Int) oki [v]) (hi : i < n) (hR : d.R ei w1 base (fun k => oki k ∨ W.heap.size ≤ k) v1 ys) (hg : W.grownBy w1 v.ownBlock) (hrow : ∀ k, v.ownBlock = some k → oki k) (hok : ∀ k, W.heap.size ≤ k → ok k) :
    Kd.S (Kd.slice ei d) eo (w1.setCell ⟨g, i, none⟩ v1) base ok (.slice (some ⟨g, 0, none⟩) n cap) (rows.set i ys) ∧ w1.grownBy (w1.setCell ⟨g, i, none⟩ v1) (some g) :=
  rows_back (Kd.H_grown (Kd.H_widen hH) hg (fun k hk => .inl (hrow k hk))) hi hR hok
/-- The element is a new row. -/
theorem rows_new (hH : Kd.H (Kd.slice ei d) eo W base ok (.slice (some ⟨g, 0, none⟩) n cap) rows (i : Int) oki [v]) (hi : i < n) (hR : d.R ei w1 base (fun k => W.heap.size ≤ k) v1 ys) (hb : Below W.heap.size W w1) (hok : ∀ k, W.heap.size ≤ k → ok k) :
    Kd.S (Kd.slice ei d) eo (w1.setCell ⟨g, i, none⟩ v1) base ok (.slice (some ⟨g, 0, none⟩) n cap) (rows.set i ys) ∧ w1.grownBy (w1.setCell ⟨g, i, none⟩ v1) (some g) :=
  rows_back (Kd.H_below (Kd.H_widen hH) hb) hi (Kd.R_mono hR (fun k h => .inr h)) hok
theorem rows_at (h : Kd.S (Kd.slice ei d) eo W base ok (.slice (some ⟨g, 0, none⟩) n cap) rows) (hp : 0 < n) : ∃ cells, W.heap[g]? = some (.cells cells eo (0, 0)) := by
  have hn := (Kd.S_reads' h).1
  obtain ⟨g', cap', e, _, _, hc⟩ := Kd.S_form h (by omega)
  simp only [Value.slice.injEq, Option.some.injEq, Addr.mk.injEq] at e
  obtain ⟨⟨rfl, _⟩, _⟩ := e
  exact hc
end
end Go.Proofs.Ytghlbhijkhkgkaa.PA
end
section
/- The flow seat: impl.AheadOf by hand. -/
namespace Go.Proofs.Ytghlbhijkhkgkaa.PA
open Go.RowKit Go.Proofs.YtghlbhijkhkgkaaW.PrintWords Go.Proofs.YtghlbhijkhkgkaaW.PrintLast Go.Proofs.YtghlbhijkhkgkaaW.PrintMore
set_option linter.unusedVariables false
/-- The rows of next, which lie in the blocks from B to H. -/
structure RW (W : World) (g B H : Nat) (rows : List (List Int)) : Prop where
  hB : B ≤ g
  hH : g < H
  hW : H ≤ W.heap.size
  blk : ∃ arr : List Value, W.heap[g]? = some (.cells arr.toArray 34 (0, 0)) ∧ ∀ j, j < rows.length → ∃ u, arr[j]? = some u ∧ (Kd.int .i64).R 3 W B (fun k => B ≤ k ∧ k < H) u (rows.getD j [])
section
variable {w0 W W1 w1 : World} {g n B H : Nat} {rows : List (List Int)} {v : Value} {xs : List Int} {row : Option Nat}
theorem RW.of_NX (h : NX w0 W g n H rows v xs) : RW W g w0.heap.size H rows := by
  obtain ⟨h1, h2, h3, h4, h5, arr, h6, h7, h8, h9⟩ := h
  exact ⟨h2, h3, h4, arr, h6, fun j hj => by obtain ⟨u, hu, hR⟩ := h9 j hj; exact ⟨u, hu, Kd.R_mono (Kd.R_bound hR) (fun k hk => ⟨hk.2.1, hk.1⟩)⟩⟩
theorem RW.at_row (h : RW W g B H rows) {j : Nat} (hj : j < rows.length) : ∃ A c, W.cell? ⟨g, j, none⟩ = some (.slice A (rows.getD j []).length c) ∧ (Kd.int .i64).R 3 W B (fun k => B ≤ k ∧ k < H) (.slice A (rows.getD j []).length c) (rows.getD j []) := by
  obtain ⟨arr, h6, h9⟩ := h.blk
  obtain ⟨u, hu, hR⟩ := h9 j hj
  obtain ⟨A, c, rfl⟩ := Kd.R_slice hR
  exact ⟨A, c, by rw [blk_cell h6 j]; simpa using hu, hR⟩
end
end Go.Proofs.Ytghlbhijkhkgkaa.PA
end
section
/- The flow seat: impl.reach and impl.listOf over the rows of next; impl.ReachedBlocks by hand. -/
namespace Go.Proofs.Ytghlbhijkhkgkaa.PA
open Go.RowKit Go.Proofs.YtghlbhijkhkgkaaW.PrintWords Go.Proofs.YtghlbhijkhkgkaaW.PrintLast Go.Proofs.YtghlbhijkhkgkaaW.PrintMore
set_option linter.unusedVariables false
theorem RW.C {W : World} {g B H : Nat} {rows : List (List Int)} (h : RW W g B H rows) (hn : rows.length ≤ 1000) : Kd.C (Kd.slice 3 (Kd.int .i64)) W (some ⟨g, 0, none⟩) rows.length rows := by
  refine ⟨rfl, by omega, fun _ => ⟨_, rfl, fun j p hj => ?_⟩⟩
  obtain ⟨hl, e⟩ := List.getElem?_eq_some_iff.1 hj
  obtain ⟨A, c, hz, hR⟩ := h.at_row hl
  have e2 : rows.getD j [] = p := by rw [List.getD_eq_getElem?_getD, hj]; rfl
  rw [e2] at hz hR
  refine ⟨[.slice A p.length c], rfl, ⟨A, c, rfl, (Kd.R_reads' hR).2.1, (Kd.R_reads' hR).2.2⟩, fun i u hu => ?_⟩
  cases i with
  | succ i => simp at hu
  | zero =>
    simp only [List.getElem?_cons_zero, Option.some.injEq] at hu
    subst hu
    rw [← hz]
    show W.cell? (Addr.add ⟨g, 0, none⟩ (j * 1 + 0)) = W.cell? ⟨g, j, none⟩
    rw [Nat.mul_one, Nat.add_zero, add_plain]
theorem listOf_any {w : World} {A : Option Addr} {c : Nat} (l : List Bool) (hl : l.length ≤ 1000) (hr : Kd.bool.C w A l.length l) (hc : l.length ≤ c) :
    Calls Try.prog 72 #[.slice A l.length c] w fun e w' => ∃ v : Value, e = .returned v ∧ (Kd.int .i64).R 3 w' w.heap.size (fun _ => True) v (numsL l.length (rdOf false l)) ∧ Below w.heap.size w w' := by
  obtain ⟨k, hk⟩ := Ev.rounds (listOf_is l hl)
  exact impl_listOf.calls k A c l _ w hr hc hk
end Go.Proofs.Ytghlbhijkhkgkaa.PA
end
