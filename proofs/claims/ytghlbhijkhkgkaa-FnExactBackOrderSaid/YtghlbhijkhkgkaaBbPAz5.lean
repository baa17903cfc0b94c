/- Parts of the walk. -/
import Derived.Test.YtghlbhijkhkgkaaBbPAz2
import Derived.Test.YtghlbhijkhkgkaaBbPAx0
import Derived.Test.YtghlbhijkhkgkaaBbVc
import Derived.Test.YtghlbhijkhkgkaaBbPAz17
section
/- Printed by the kit's print over surrogate texts, turned by this session -/
namespace Go.Proofs.Ytghlbhijkhkgkaa.PA
open Go.RowKit Go.Proofs.YtghlbhijkhkgkaaW.PrintWords Go.Proofs.YtghlbhijkhkgkaaW.PrintLast Go.Proofs.YtghlbhijkhkgkaaW.PrintMore
attribute [local go_sem] max2_int min2_int max_two min_two max_three min_three max_four min_four   -- for this text's walks alone
set_option linter.unusedVariables false
set_option linter.unusedSimpArgs false

noncomputable section
/-! ### spec_l13Doms: function 115 -/
def spec_l13Doms.l0 : Nat → Int → List Int → Int → Int → Int → List (S87) → Option (List Int)
  | 0, _, _, _, _, _, _ => none
  | k + 1, x1, x5, x9, x10, x641000, x641001 => if x10 < x9 then (if x10 = x1 then (if x5.length < 17592186044416 then (spec_l13Doms.l0 k x1 (x5 ++ [x10]) x9 (wrap64 (x10 + 1)) x641000 x641001) else (none)) else ((spec_l13From.f x641000 x641001 0 x10).bind fun t644 => ((spec_l1Has.f k t644 x1).bind fun t647 => (if t647 = true then (spec_l13Doms.l0 k x1 x5 x9 (wrap64 (x10 + 1)) x641000 x641001) else (if x5.length < 17592186044416 then (spec_l13Doms.l0 k x1 (x5 ++ [x10]) x9 (wrap64 (x10 + 1)) x641000 x641001) else (none)))))) else (some x5)
def spec_l13Doms.f (k : Nat) (a0_0 : Int) (l0_1 : List (S87)) (a1 : Int) : Option (List Int) := spec_l13Doms.l0 k a1 ([] : List Int) (l0_1.length : Int) 0 a0_0 l0_1
theorem spec_l13Doms.mono_l : ∀ k, (∀ y0 y1 y2 y3 y4 y5, LeO (spec_l13Doms.l0 k y0 y1 y2 y3 y4 y5) (spec_l13Doms.l0 (k + 1) y0 y1 y2 y3 y4 y5))
  | 0 => fun _ _ _ _ _ _ r h => by simp [spec_l13Doms.l0] at h
  | k + 1 => by
    have ih0 := spec_l13Doms.mono_l k
    · intro y0 y1 y2 y3 y4 y5
      unfold spec_l13Doms.l0
      repeat' first
      | (with_reducible exact ih0 _ _ _ _ _ _)
      | (with_reducible exact spec_l1Has.mono _ _ _)
      | (with_reducible exact LeO.refl _)
      | (with_reducible exact LeO.none _)
      | (with_reducible refine LeO.ite ?_ ?_)
      | (with_reducible refine LeO.bind ?_ (fun _ => ?_))
      | exact ih0 _ _ _ _ _ _
      | exact spec_l1Has.mono _ _ _
      | exact LeO.none _
      | refine LeO.ite ?_ ?_
      | refine LeO.bind ?_ (fun _ => ?_)
theorem spec_l13Doms.mono : ∀ a0 a1 a2 k, LeO (spec_l13Doms.f k a0 a1 a2) (spec_l13Doms.f (k + 1) a0 a1 a2) := by
  intro a0 a1 a2 k
  have ih0 := spec_l13Doms.mono_l k
  unfold spec_l13Doms.f
  repeat' first
      | (with_reducible exact ih0 _ _ _ _ _ _)
      | (with_reducible exact spec_l1Has.mono _ _ _)
      | (with_reducible exact LeO.refl _)
      | (with_reducible exact LeO.none _)
      | (with_reducible refine LeO.ite ?_ ?_)
      | (with_reducible refine LeO.bind ?_ (fun _ => ?_))
      | exact ih0 _ _ _ _ _ _
      | exact spec_l1Has.mono _ _ _
      | exact LeO.none _
      | refine LeO.ite ?_ ?_
      | refine LeO.bind ?_ (fun _ => ?_)
end
end Go.Proofs.Ytghlbhijkhkgkaa.PA
end
section
/- The flow seat: dominators, in plain words. -/
namespace Go.Proofs.Ytghlbhijkhkgkaa.PA
open Go.RowKit Go.Proofs.YtghlbhijkhkgkaaW.PrintWords Go.Proofs.YtghlbhijkhkgkaaW.PrintLast Go.Proofs.YtghlbhijkhkgkaaW.PrintMore
set_option linter.unusedVariables false
/-- The blocks that are reached. -/
noncomputable def reached (next : List (List Int)) : List Int := fromL next 0 (-1)
/-- d dominates b: both are reached, and no way to b leaves d out. -/
noncomputable def domB (next : List (List Int)) (b d : Int) : Bool := decide (d ∈ reached next) && (decide (b ∈ reached next) && !decide (b ∈ fromL next 0 d))
/-- The dominators of a block. -/
noncomputable def domsRow (next : List (List Int)) (b : Int) : List Int := numsL next.length (domB next b)
noncomputable def allDoms (next : List (List Int)) : List (List Int) := (List.range next.length).map fun (b : Nat) => domsRow next (b : Int)
section
variable {next : List (List Int)} {a b d : Int}
theorem numsL_filter (n : Nat) (q r : Int → Bool) : (numsL n q).filter r = numsL n fun y => r y && q y := by
  rw [numsL, List.filter_filter, numsL]
end
end Go.Proofs.Ytghlbhijkhkgkaa.PA
end
section
/- The flow seat: spec.l13AllDoms by hand. -/
namespace Go.Proofs.Ytghlbhijkhkgkaa.PA
open Go.RowKit Go.Proofs.YtghlbhijkhkgkaaW.PrintWords Go.Proofs.YtghlbhijkhkgkaaW.PrintLast Go.Proofs.YtghlbhijkhkgkaaW.PrintMore
set_option linter.unusedVariables false
section
variable {next : List (List Int)} {i bn : Nat}
end
/-- l13AllDoms as a function of its arguments; none where it is not spoken of. -/
noncomputable def spec_l13AllDoms.f (k : Nat) (a0_0 : Int) (l0_1 : List S87) : Option (List (List Int)) := @ite _ (GoodRows l0_1) (Classical.propDecidable _) (some (allDoms (nextL l0_1))) none
theorem spec_l13AllDoms.mono : ∀ a0 a1 k, LeO (spec_l13AllDoms.f k a0 a1) (spec_l13AllDoms.f (k + 1) a0 a1) := fun _ _ _ => LeO.refl _
theorem spec_l13AllDoms.is {bs : List S87} (hg : GoodRows bs) (k : Nat) (p : Int) : spec_l13AllDoms.f k p bs = some (allDoms (nextL bs)) := if_pos hg
end Go.Proofs.Ytghlbhijkhkgkaa.PA
end
section
/- Printed by the kit's print over surrogate texts, turned by this session -/
namespace Go.Proofs.Ytghlbhijkhkgkaa.PA
open Go.RowKit Go.Proofs.YtghlbhijkhkgkaaW.PrintWords Go.Proofs.YtghlbhijkhkgkaaW.PrintLast Go.Proofs.YtghlbhijkhkgkaaW.PrintMore
attribute [local go_sem] max2_int min2_int max_two min_two max_three min_three max_four min_four   -- for this text's walks alone
set_option linter.unusedVariables false
set_option linter.unusedSimpArgs false

noncomputable section
/-! ### spec_l13Backs: function 79 -/
mutual
def spec_l13Backs.l0 : Nat → List (List Int) → List (List Int) → Int → Int → Int → List (S87) → Option ((List (List Int)))
  | 0, _, _, _, _, _, _ => none
  | k + 1, x3, x4, x12, x13, x746000, x746001 => if x13 < x12 then ((spec_l13Next.f k x746000 x746001 x13).bind fun t749 => (spec_l13Backs.l1 k x3 x4 x13 x12 x13 t749 (t749.length : Int) 0 x746000 x746001)) else (some x4)
def spec_l13Backs.l1 : Nat → List (List Int) → List (List Int) → Int → Int → Int → List Int → Int → Int → Int → List (S87) → Option ((List (List Int)))
  | 0, _, _, _, _, _, _, _, _, _, _ => none
  | k + 1, x3, x4, x5, x12, x13, x18, x19, x20, x746000, x746001 => if x20 < x19 then (if 0 ≤ x20 then (if x20 < (x18.length : Int) then (if 0 ≤ x5 then (if x5 < (x3.length : Int) then ((spec_l1Has.f k (rd_L1 x3 x5) (rd x18 x20)).bind fun t754 => (if t754 = true then (if x4.length < 5864062014805 then (spec_l13Backs.l1 k x3 (x4 ++ [(([x5, rd x18 x20] : List Int))]) x5 x12 x13 x18 x19 (wrap64 (x20 + 1)) x746000 x746001) else (none)) else (spec_l13Backs.l1 k x3 x4 x5 x12 x13 x18 x19 (wrap64 (x20 + 1)) x746000 x746001))) else (none)) else (none)) else (none)) else (none)) else (spec_l13Backs.l0 k x3 x4 x12 (wrap64 (x13 + 1)) x746000 x746001)
end
def spec_l13Backs.f (k : Nat) (a0_0 : Int) (l0_1 : List (S87)) : Option ((List (List Int))) := (spec_l13AllDoms.f k a0_0 l0_1).bind fun t746 => (spec_l13Backs.l0 k t746 ([] : List (List Int)) (l0_1.length : Int) 0 a0_0 l0_1)
theorem spec_l13Backs.mono_l : ∀ k, (∀ y0 y1 y2 y3 y4 y5, LeO (spec_l13Backs.l0 k y0 y1 y2 y3 y4 y5) (spec_l13Backs.l0 (k + 1) y0 y1 y2 y3 y4 y5)) ∧ (∀ y0 y1 y2 y3 y4 y5 y6 y7 y8 y9, LeO (spec_l13Backs.l1 k y0 y1 y2 y3 y4 y5 y6 y7 y8 y9) (spec_l13Backs.l1 (k + 1) y0 y1 y2 y3 y4 y5 y6 y7 y8 y9))
  | 0 => ⟨fun _ _ _ _ _ _ r h => by simp [spec_l13Backs.l0] at h, fun _ _ _ _ _ _ _ _ _ _ r h => by simp [spec_l13Backs.l1] at h⟩
  | k + 1 => by
    obtain ⟨ih0, ih1⟩ := spec_l13Backs.mono_l k
    refine ⟨?_, ?_⟩
    · intro y0 y1 y2 y3 y4 y5
      unfold spec_l13Backs.l0
      repeat' first
      | (with_reducible exact ih0 _ _ _ _ _ _)
      | (with_reducible exact ih1 _ _ _ _ _ _ _ _ _ _)
      | (with_reducible exact spec_l13AllDoms.mono _ _ _)
      | (with_reducible exact spec_l13Next.mono _ _ _ _)
      | (with_reducible exact spec_l1Has.mono _ _ _)
      | (with_reducible exact LeO.refl _)
      | (with_reducible exact LeO.none _)
      | (with_reducible refine LeO.ite ?_ ?_)
      | (with_reducible refine LeO.bind ?_ (fun _ => ?_))
      | exact ih0 _ _ _ _ _ _
      | exact ih1 _ _ _ _ _ _ _ _ _ _
      | exact spec_l13AllDoms.mono _ _ _
      | exact spec_l13Next.mono _ _ _ _
      | exact spec_l1Has.mono _ _ _
      | exact LeO.none _
      | refine LeO.ite ?_ ?_
      | refine LeO.bind ?_ (fun _ => ?_)
    · intro y0 y1 y2 y3 y4 y5 y6 y7 y8 y9
      unfold spec_l13Backs.l1
      repeat' first
      | (with_reducible exact ih0 _ _ _ _ _ _)
      | (with_reducible exact ih1 _ _ _ _ _ _ _ _ _ _)
      | (with_reducible exact spec_l13AllDoms.mono _ _ _)
      | (with_reducible exact spec_l13Next.mono _ _ _ _)
      | (with_reducible exact spec_l1Has.mono _ _ _)
      | (with_reducible exact LeO.refl _)
      | (with_reducible exact LeO.none _)
      | (with_reducible refine LeO.ite ?_ ?_)
      | (with_reducible refine LeO.bind ?_ (fun _ => ?_))
      | exact ih0 _ _ _ _ _ _
      | exact ih1 _ _ _ _ _ _ _ _ _ _
      | exact spec_l13AllDoms.mono _ _ _
      | exact spec_l13Next.mono _ _ _ _
      | exact spec_l1Has.mono _ _ _
      | exact LeO.none _
      | refine LeO.ite ?_ ?_
      | refine LeO.bind ?_ (fun _ => ?_)
theorem spec_l13Backs.mono : ∀ a0 a1 k, LeO (spec_l13Backs.f k a0 a1) (spec_l13Backs.f (k + 1) a0 a1) := by
  intro a0 a1 k
  obtain ⟨ih0, ih1⟩ := spec_l13Backs.mono_l k
  unfold spec_l13Backs.f
  repeat' first
      | (with_reducible exact ih0 _ _ _ _ _ _)
      | (with_reducible exact ih1 _ _ _ _ _ _ _ _ _ _)
      | (with_reducible exact spec_l13AllDoms.mono _ _ _)
      | (with_reducible exact spec_l13Next.mono _ _ _ _)
      | (with_reducible exact spec_l1Has.mono _ _ _)
      | (with_reducible exact LeO.refl _)
      | (with_reducible exact LeO.none _)
      | (with_reducible refine LeO.ite ?_ ?_)
      | (with_reducible refine LeO.bind ?_ (fun _ => ?_))
      | exact ih0 _ _ _ _ _ _
      | exact ih1 _ _ _ _ _ _ _ _ _ _
      | exact spec_l13AllDoms.mono _ _ _
      | exact spec_l13Next.mono _ _ _ _
      | exact spec_l1Has.mono _ _ _
      | exact LeO.none _
      | refine LeO.ite ?_ ?_
      | refine LeO.bind ?_ (fun _ => ?_)
/-! ### spec_BackEdges: function 42 -/
def spec_BackEdges.f (k : Nat) (a0_0 : Int) (l0_1 : List (S87)) : Option ((List (List Int)) × Bool) := (spec_GoodFunc.f a0_0 l0_1).bind fun t762 => (if t762 = true then ((spec_l13Backs.f k a0_0 l0_1).bind fun t763 => (some (t763, true))) else (some (([] : List (List Int)), false)))
theorem spec_BackEdges.mono : ∀ a0 a1 k, LeO (spec_BackEdges.f k a0 a1) (spec_BackEdges.f (k + 1) a0 a1) := by
  intro a0 a1 k
  unfold spec_BackEdges.f
  repeat' first
      | (with_reducible exact spec_l13Backs.mono _ _ _)
      | (with_reducible exact LeO.refl _)
      | (with_reducible exact LeO.none _)
      | (with_reducible refine LeO.ite ?_ ?_)
      | (with_reducible refine LeO.bind ?_ (fun _ => ?_))
      | exact spec_l13Backs.mono _ _ _
      | exact LeO.none _
      | refine LeO.ite ?_ ?_
      | refine LeO.bind ?_ (fun _ => ?_)
end
end Go.Proofs.Ytghlbhijkhkgkaa.PA
end
section
/- The flow seat: impl.AheadOf by hand. -/
namespace Go.Proofs.Ytghlbhijkhkgkaa.PA
open Go.RowKit Go.Proofs.YtghlbhijkhkgkaaW.PrintWords Go.Proofs.YtghlbhijkhkgkaaW.PrintLast Go.Proofs.YtghlbhijkhkgkaaW.PrintMore
set_option linter.unusedVariables false
/-- The rows of next, which lie in the blocks from B to H. -/
structure RW (W : World) (g B H : Nat) (rows : List (List Int)) : Prop where
  hB : B ≤ g
  hH : g < H
  hW : H ≤ W.heap.size
  blk : ∃ arr : List Value, W.heap[g]? = some (.cells arr.toArray 34 (0, 0)) ∧ ∀ j, j < rows.length → ∃ u, arr[j]? = some u ∧ (Kd.int .i64).R 3 W B (fun k => B ≤ k ∧ k < H) u (rows.getD j [])
section
variable {w0 W W1 w1 : World} {g n B H : Nat} {rows : List (List Int)} {v : Value} {xs : List Int} {row : Option Nat}
theorem RW.of_NX (h : NX w0 W g n H rows v xs) : RW W g w0.heap.size H rows := by
  obtain ⟨h1, h2, h3, h4, h5, arr, h6, h7, h8, h9⟩ := h
  exact ⟨h2, h3, h4, arr, h6, fun j hj => by obtain ⟨u, hu, hR⟩ := h9 j hj; exact ⟨u, hu, Kd.R_mono (Kd.R_bound hR) (fun k hk => ⟨hk.2.1, hk.1⟩)⟩⟩
theorem RW.later (h : RW W g B H rows) (hb : Below W.heap.size W W1) : RW W1 g B H rows := by
  obtain ⟨h2, h3, h4, arr, h6, h9⟩ := h
  exact ⟨h2, h3, Nat.le_trans h4 hb.size, arr, blk_below h6 hb, fun j hj => by obtain ⟨u, hu, hR⟩ := h9 j hj; exact ⟨u, hu, Kd.R_below hR hb⟩⟩
theorem RW.at_row (h : RW W g B H rows) {j : Nat} (hj : j < rows.length) : ∃ A c, W.cell? ⟨g, j, none⟩ = some (.slice A (rows.getD j []).length c) ∧ (Kd.int .i64).R 3 W B (fun k => B ≤ k ∧ k < H) (.slice A (rows.getD j []).length c) (rows.getD j []) := by
  obtain ⟨arr, h6, h9⟩ := h.blk
  obtain ⟨u, hu, hR⟩ := h9 j hj
  obtain ⟨A, c, rfl⟩ := Kd.R_slice hR
  exact ⟨A, c, by rw [blk_cell h6 j]; simpa using hu, hR⟩
end
end Go.Proofs.Ytghlbhijkhkgkaa.PA
end
section
/- The flow seat: impl.dominators by hand. -/
namespace Go.Proofs.Ytghlbhijkhkgkaa.PA
open Go.RowKit Go.Proofs.YtghlbhijkhkgkaaW.PrintWords Go.Proofs.YtghlbhijkhkgkaaW.PrintLast Go.Proofs.YtghlbhijkhkgkaaW.PrintMore
set_option linter.unusedVariables false
/-- n rows of n bools. -/
def rowF (n : Nat) (f : Int → Int → Bool) (b : Int) : List Bool := (List.range n).map fun (d : Nat) => f b (d : Int)
def grid (n : Nat) (f : Int → Int → Bool) : List (List Bool) := (List.range n).map fun (b : Nat) => rowF n f (b : Int)
section
variable {n b d : Nat} {f f' : Int → Int → Bool} {v : Bool}
theorem rowF_len (n : Nat) (f : Int → Int → Bool) (b : Int) : (rowF n f b).length = n := by simp [rowF]
end
/-- The dominators of all blocks, as bools. -/
noncomputable def domGrid (next : List (List Int)) : List (List Bool) := grid next.length (domB next)
section
variable {next : List (List Int)} {n i j xn : Nat} {x : Int}
end
/-- dominators as a function of its argument; none where it is not spoken of. -/
noncomputable def impl_dominators.f (k : Nat) (l0 : List (List Int)) : Option (List (List Bool)) := @ite _ (RowsOk l0 ∧ 0 < l0.length ∧ l0.length ≤ 8) (Classical.propDecidable _) (some (domGrid l0)) none
theorem impl_dominators.mono : ∀ a0 k, LeO (impl_dominators.f k a0) (impl_dominators.f (k + 1) a0) := fun _ _ => LeO.refl _
theorem impl_dominators.is {l0 : List (List Int)} (h0 : RowsOk l0) (h1 : 0 < l0.length) (h8 : l0.length ≤ 8) (k : Nat) : impl_dominators.f k l0 = some (domGrid l0) := if_pos ⟨h0, h1, h8⟩
end Go.Proofs.Ytghlbhijkhkgkaa.PA
end
section
/- Printed by the kit's print over surrogate texts, turned by this session -/
namespace Go.Proofs.Ytghlbhijkhkgkaa.PA
open Go.RowKit Go.Proofs.YtghlbhijkhkgkaaW.PrintWords Go.Proofs.YtghlbhijkhkgkaaW.PrintLast Go.Proofs.YtghlbhijkhkgkaaW.PrintMore
attribute [local go_sem] max2_int min2_int max_two min_two max_three min_three max_four min_four   -- for this text's walks alone
set_option linter.unusedVariables false
set_option linter.unusedSimpArgs false

noncomputable section
/-! ### impl_backEdges: function 80 -/
mutual
def impl_backEdges.l0 : Nat → List (List Int) → List (List Int) → List (List Bool) → Int → Int → Option ((List (List Int)))
  | 0, _, _, _, _, _ => none
  | k + 1, x0, x3, x10, x11, x12 => if x12 < x11 then (if 0 ≤ x12 then (if x12 < (x10.length : Int) then ((impl_listOf.f k (rd_L13 x10 x12)).bind fun t773 => (impl_backEdges.l1 k x0 x3 x12 x10 x11 x12 t773 (t773.length : Int) 0)) else (none)) else (none)) else (some x3)
def impl_backEdges.l1 : Nat → List (List Int) → List (List Int) → Int → List (List Bool) → Int → Int → List Int → Int → Int → Option ((List (List Int)))
  | 0, _, _, _, _, _, _, _, _, _ => none
  | k + 1, x0, x3, x4, x10, x11, x12, x18, x19, x20 => if x20 < x19 then (if 0 ≤ x20 then (if x20 < (x18.length : Int) then (if 0 ≤ x4 then (if x4 < (x0.length : Int) then ((slices_Contains_int_int.f k (rd_L1 x0 x4) (rd x18 x20)).bind fun t778 => (if t778 = true then (if x3.length < 5864062014805 then (impl_backEdges.l1 k x0 (x3 ++ [(([x4, rd x18 x20] : List Int))]) x4 x10 x11 x12 x18 x19 (wrap64 (x20 + 1))) else (none)) else (impl_backEdges.l1 k x0 x3 x4 x10 x11 x12 x18 x19 (wrap64 (x20 + 1))))) else (none)) else (none)) else (none)) else (none)) else (impl_backEdges.l0 k x0 x3 x10 x11 (wrap64 (x12 + 1)))
end
def impl_backEdges.f (k : Nat) (l0 : List (List Int)) : Option ((List (List Int))) := (impl_dominators.f k l0).bind fun t769 => (impl_backEdges.l0 k l0 (([] : List (List Int))) t769 (t769.length : Int) 0)
theorem impl_backEdges.mono_l : ∀ k, (∀ y0 y1 y2 y3 y4, LeO (impl_backEdges.l0 k y0 y1 y2 y3 y4) (impl_backEdges.l0 (k + 1) y0 y1 y2 y3 y4)) ∧ (∀ y0 y1 y2 y3 y4 y5 y6 y7 y8, LeO (impl_backEdges.l1 k y0 y1 y2 y3 y4 y5 y6 y7 y8) (impl_backEdges.l1 (k + 1) y0 y1 y2 y3 y4 y5 y6 y7 y8))
  | 0 => ⟨fun _ _ _ _ _ r h => by simp [impl_backEdges.l0] at h, fun _ _ _ _ _ _ _ _ _ r h => by simp [impl_backEdges.l1] at h⟩
  | k + 1 => by
    obtain ⟨ih0, ih1⟩ := impl_backEdges.mono_l k
    refine ⟨?_, ?_⟩
    · intro y0 y1 y2 y3 y4
      unfold impl_backEdges.l0
      repeat' first
      | (with_reducible exact ih0 _ _ _ _ _)
      | (with_reducible exact ih1 _ _ _ _ _ _ _ _ _)
      | (with_reducible exact impl_dominators.mono _ _)
      | (with_reducible exact impl_listOf.mono _ _)
      | (with_reducible exact slices_Contains_int_int.mono _ _ _)
      | (with_reducible exact LeO.refl _)
      | (with_reducible exact LeO.none _)
      | (with_reducible refine LeO.ite ?_ ?_)
      | (with_reducible refine LeO.bind ?_ (fun _ => ?_))
      | exact ih0 _ _ _ _ _
      | exact ih1 _ _ _ _ _ _ _ _ _
      | exact impl_dominators.mono _ _
      | exact impl_listOf.mono _ _
      | exact slices_Contains_int_int.mono _ _ _
      | exact LeO.none _
      | refine LeO.ite ?_ ?_
      | refine LeO.bind ?_ (fun _ => ?_)
    · intro y0 y1 y2 y3 y4 y5 y6 y7 y8
      unfold impl_backEdges.l1
      repeat' first
      | (with_reducible exact ih0 _ _ _ _ _)
      | (with_reducible exact ih1 _ _ _ _ _ _ _ _ _)
      | (with_reducible exact impl_dominators.mono _ _)
      | (with_reducible exact impl_listOf.mono _ _)
      | (with_reducible exact slices_Contains_int_int.mono _ _ _)
      | (with_reducible exact LeO.refl _)
      | (with_reducible exact LeO.none _)
      | (with_reducible refine LeO.ite ?_ ?_)
      | (with_reducible refine LeO.bind ?_ (fun _ => ?_))
      | exact ih0 _ _ _ _ _
      | exact ih1 _ _ _ _ _ _ _ _ _
      | exact impl_dominators.mono _ _
      | exact impl_listOf.mono _ _
      | exact slices_Contains_int_int.mono _ _ _
      | exact LeO.none _
      | refine LeO.ite ?_ ?_
      | refine LeO.bind ?_ (fun _ => ?_)
theorem impl_backEdges.mono : ∀ a0 k, LeO (impl_backEdges.f k a0) (impl_backEdges.f (k + 1) a0) := by
  intro a0 k
  obtain ⟨ih0, ih1⟩ := impl_backEdges.mono_l k
  unfold impl_backEdges.f
  repeat' first
      | (with_reducible exact ih0 _ _ _ _ _)
      | (with_reducible exact ih1 _ _ _ _ _ _ _ _ _)
      | (with_reducible exact impl_dominators.mono _ _)
      | (with_reducible exact impl_listOf.mono _ _)
      | (with_reducible exact slices_Contains_int_int.mono _ _ _)
      | (with_reducible exact LeO.refl _)
      | (with_reducible exact LeO.none _)
      | (with_reducible refine LeO.ite ?_ ?_)
      | (with_reducible refine LeO.bind ?_ (fun _ => ?_))
      | exact ih0 _ _ _ _ _
      | exact ih1 _ _ _ _ _ _ _ _ _
      | exact impl_dominators.mono _ _
      | exact impl_listOf.mono _ _
      | exact slices_Contains_int_int.mono _ _ _
      | exact LeO.none _
      | refine LeO.ite ?_ ?_
      | refine LeO.bind ?_ (fun _ => ?_)


end
end Go.Proofs.Ytghlbhijkhkgkaa.PA
end
section
/- The flow seat: forward edges and their cycles, in plain words. -/
namespace Go.Proofs.Ytghlbhijkhkgkaa.PA
open Go.RowKit Go.Proofs.YtghlbhijkhkgkaaW.PrintWords Go.Proofs.YtghlbhijkhkgkaaW.PrintLast Go.Proofs.YtghlbhijkhkgkaaW.PrintMore
set_option linter.unusedVariables false
section
variable {next : List (List Int)} {a b t k x y z : Int} {l : List Int}
/-- Leaving one out makes a list shorter. -/
theorem drop_len (h : b ∈ l) : (l.filter fun y => decide (y ≠ b)).length < l.length := by
  refine Nat.lt_of_le_of_ne (List.length_filter_le _ _) fun e => ?_
  have h3 : (l.filter fun y => decide (y ≠ b)) = l := List.Sublist.eq_of_length List.filter_sublist e
  have h4 : b ∈ l.filter fun y => decide (y ≠ b) := by rw [h3]; exact h
  have := (List.mem_filter.1 h4).2
  simp at this
end
end Go.Proofs.Ytghlbhijkhkgkaa.PA
end
section
/- The flow seat: the walk in depth, in plain words. -/
namespace Go.Proofs.Ytghlbhijkhkgkaa.PA
open Go.RowKit Go.Proofs.YtghlbhijkhkgkaaW.PrintWords Go.Proofs.YtghlbhijkhkgkaaW.PrintLast Go.Proofs.YtghlbhijkhkgkaaW.PrintMore
set_option linter.unusedVariables false
/-- A walk in depth from a: what is seen, and the blocks that are ended, the last one first. -/
def dfs (next : List (List Int)) : Nat → Int → List Int × List Int → List Int × List Int
  | 0, a, st => (st.1 ++ [a], a :: st.2)
  | d + 1, a, st => (((rd_L1 next a).foldl (fun st t => if t ∈ st.1 then st else dfs next d t st) (st.1 ++ [a], st.2)).1, a :: ((rd_L1 next a).foldl (fun st t => if t ∈ st.1 then st else dfs next d t st) (st.1 ++ [a], st.2)).2)
/-- How many blocks are not seen. -/
def unseen (n : Nat) (s : List Int) : Nat := (numsL n fun y => !decide (y ∈ s)).length
section
variable {next : List (List Int)} {a : Int} {s o : List Int} {n : Nat}
theorem unseen_snoc (ha : 0 ≤ a ∧ a < (n : Int)) (h : a ∉ s) : unseen n (s ++ [a]) + 1 ≤ unseen n s := by
  have e : (numsL n fun y => !decide (y ∈ s ++ [a])) = (numsL n fun y => !decide (y ∈ s)).filter fun y => decide (y ≠ a) := by
    rw [numsL_filter]
    congr 1
    funext y
    by_cases h1 : y ∈ s <;> by_cases h2 : y = a <;> simp [h1, h2]
  have hm : a ∈ numsL n fun y => !decide (y ∈ s) := mem_numsL.2 ⟨ha, by simpa using h⟩
  have := drop_len hm
  unfold unseen
  rw [e]
  omega
/-- A walk under way: how much is seen and ended. -/
structure DfsOk (n : Nat) (st : List Int × List Int) : Prop where
  size : st.1.length + unseen n st.1 ≤ n
  order : st.2.length ≤ st.1.length
theorem DfsOk.snoc (h : DfsOk n (s, o)) (ha : 0 ≤ a ∧ a < (n : Int)) (hn : a ∉ s) : (s ++ [a]).length + unseen n (s ++ [a]) ≤ n ∧ o.length + 1 ≤ (s ++ [a]).length ∧ unseen n (s ++ [a]) + 1 ≤ unseen n s := by
  have h1 := h.size
  have h2 := h.order
  have h3 := unseen_snoc ha hn
  simp only [List.length_append, List.length_singleton] at *
  omega
theorem dfs_ok (hok : RowsOk next) : ∀ (d : Nat) (a : Int) (st : List Int × List Int), (0 ≤ a ∧ a < (next.length : Int)) → a ∉ st.1 → DfsOk next.length st → unseen next.length st.1 ≤ d →
    DfsOk next.length (dfs next d a st) ∧ unseen next.length (dfs next d a st).1 + 1 ≤ unseen next.length st.1 ∧ ((dfs next d a st).2.length + st.1.length ≤ st.2.length + (dfs next d a st).1.length)
  | 0, a, (s, o), ha, hn, h, hu => by have := unseen_snoc ha hn; omega
  | d + 1, a, (s, o), ha, hn, h, hu => by
    have hs := h.snoc ha hn
    have key : ∀ (l : List Int) (st : List Int × List Int), (∀ t ∈ l, 0 ≤ t ∧ t < (next.length : Int)) → DfsOk next.length st → unseen next.length st.1 ≤ d →
        DfsOk next.length (l.foldl (fun st t => if t ∈ st.1 then st else dfs next d t st) st) ∧ unseen next.length (l.foldl (fun st t => if t ∈ st.1 then st else dfs next d t st) st).1 ≤ unseen next.length st.1 ∧ (l.foldl (fun st t => if t ∈ st.1 then st else dfs next d t st) st).2.length + st.1.length ≤ st.2.length + (l.foldl (fun st t => if t ∈ st.1 then st else dfs next d t st) st).1.length := by
      intro l
      induction l with
      | nil => intro st _ h _; exact ⟨h, Nat.le_refl _, Nat.le_refl _⟩
      | cons t l ih =>
        intro st hl h hu
        rw [List.foldl_cons]
        by_cases q : t ∈ st.1
        · rw [if_pos q]
          exact ih st (fun x hx => hl x (List.mem_cons_of_mem _ hx)) h hu
        · rw [if_neg q]
          obtain ⟨h1, h2, h3⟩ := dfs_ok hok d t st (hl t List.mem_cons_self) q h hu
          obtain ⟨h4, h5, h6⟩ := ih (dfs next d t st) (fun x hx => hl x (List.mem_cons_of_mem _ hx)) h1 (by omega)
          exact ⟨h4, by omega, by omega⟩
    have hr := hok.2 a ha.1 ha.2
    simp only at hu
    obtain ⟨h1, h2, h3⟩ := key (rd_L1 next a) (s ++ [a], o) hr.2 ⟨hs.1, by have := hs.2.1; simp only at *; omega⟩ (by simp only; omega)
    have h4 := hs.2.1
    simp only [dfs]
    refine ⟨⟨h1.size, ?_⟩, ?_, ?_⟩
    · simp only [List.length_cons] at *
      omega
    · simp only at h2
      omega
    · simp only [List.length_cons, List.length_append] at *
      omega
/-- The rows of jumps, and the lists that the two walks go along. -/
theorem walk_l0 (p : Int) (bs : List S87) (hg : GoodRows bs) (d : Nat) (a : Int) (xs : List S109)
    (hx : xs.length ≤ 2) (hb : ∀ x ∈ xs, 0 ≤ x.f0 ∧ x.f0 < (bs.length : Int))
    (ih : ∀ (t : Int) (s o : List Int), (0 ≤ t ∧ t < (bs.length : Int)) → t ∉ s → DfsOk bs.length (s, o) → unseen bs.length s ≤ d → Ev (fun k => spec_l13Walk.f k p bs t s o) (dfs (nextL bs) d t (s, o))) :
    ∀ (m i : Nat) (s o : List Int), xs.length - i = m → i ≤ xs.length → DfsOk bs.length (s, o) → unseen bs.length s ≤ d →
    Ev (fun k => spec_l13Walk.l0 k a s o xs (xs.length : Int) (i : Int) p bs) ((((xs.drop i).map (·.f0)).foldl (fun st t => if t ∈ st.1 then st else dfs (nextL bs) d t st) (s, o)).1, a :: (((xs.drop i).map (·.f0)).foldl (fun st t => if t ∈ st.1 then st else dfs (nextL bs) d t st) (s, o)).2)
  | 0, i, s, o, hm, hi, h, hu => by
    rw [List.drop_of_length_le (by omega), List.map_nil, List.foldl_nil]
    have h1 := h.size
    have h2 := h.order
    have h8 := hg.len
    simp only at h1 h2
    refine Ev.step (f := fun _ => some (s, a :: o)) (fun k => ?_) (Ev.now _)
    simp only [spec_l13Walk.l0]
    rw [if_neg (by omega), Option.bind_some, if_pos (by simp only [List.length_singleton]; omega)]
    rfl
  | m + 1, i, s, o, hm, hi, h, hu => by
    have hl : i < xs.length := by omega
    have h8 := hg.len
    have h1 := h.size
    simp only at h1
    have hrd : rd_T109 xs (i : Int) = xs[i] := by simp [rd_T109, List.getD_eq_getElem?_getD, hl]
    rw [List.drop_eq_getElem_cons hl, List.map_cons, List.foldl_cons]
    have hh := has_l0 xs[i].f0 s (by omega) _ 0 rfl
    rw [List.drop_zero] at hh
    refine Ev.step (f := fun k => (spec_l1Has.f k s xs[i].f0).bind fun t605 => if t605 = true then spec_l13Walk.l0 k a s o xs (xs.length : Int) ((i + 1 : Nat) : Int) p bs else (spec_l13Walk.f k p bs xs[i].f0 s o).bind fun bt => spec_l13Walk.l0 k a bt.1 bt.2 xs (xs.length : Int) ((i + 1 : Nat) : Int) p bs) (fun k => ?_) (Ev.bind (Ev.congr (fun k => rfl) hh) ?_)
    · simp only [spec_l13Walk.l0]
      rw [if_pos (by omega), if_pos (by omega), if_pos (by omega), hrd, wnext i xs.length hl (by unfold Max; omega)]
    · by_cases q : xs[i].f0 ∈ s
      · have := walk_l0 p bs hg d a xs hx hb ih m (i + 1) s o (by omega) (by omega) h hu
        rw [if_pos q]
        exact Ev.congr (fun k => if_pos (by simpa using q)) this
      · have hbx := hb _ (List.getElem_mem hl)
        obtain ⟨g1, g2, g3⟩ := dfs_ok (rows_ok hg) d xs[i].f0 (s, o) (by rw [nextL_len]; exact hbx) q (by rw [nextL_len]; exact h) (by rw [nextL_len]; exact hu)
        rw [nextL_len] at g1 g2
        have := walk_l0 p bs hg d a xs hx hb ih m (i + 1) (dfs (nextL bs) d xs[i].f0 (s, o)).1 (dfs (nextL bs) d xs[i].f0 (s, o)).2 (by omega) (by omega) g1 (by simp only at g2; omega)
        rw [if_neg q]
        exact Ev.congr (fun k => if_neg (by simpa using q)) (Ev.bind (ih _ s o hbx q h hu) this)
theorem walk_f (p : Int) (bs : List S87) (hg : GoodRows bs) : ∀ (d : Nat) (a : Int) (s o : List Int), (0 ≤ a ∧ a < (bs.length : Int)) → a ∉ s → DfsOk bs.length (s, o) → unseen bs.length s ≤ d → Ev (fun k => spec_l13Walk.f k p bs a s o) (dfs (nextL bs) d a (s, o))
  | 0, a, s, o, ha, hn, h, hu => by have := unseen_snoc ha hn; omega
  | d + 1, a, s, o, ha, hn, h, hu => by
    obtain ⟨an, rfl⟩ := Int.eq_ofNat_of_zero_le ha.1
    have han : an < bs.length := by omega
    have hs := h.snoc ha hn
    have h1 := h.size
    have h8 := hg.len
    simp only at h1
    have hl := walk_l0 p bs hg d (an : Int) (rd_T87 bs (an : Int)).f4 (hg.two an han) (fun x hx => hg.stay an han _ (List.mem_map.2 ⟨x, hx, rfl⟩)) (walk_f p bs hg d) _ 0 (s ++ [(an : Int)]) o rfl (Nat.zero_le _) ⟨hs.1, by have := hs.2.1; simp only; omega⟩ (by omega)
    rw [List.drop_zero] at hl
    simp only [dfs]
    rw [nextL_rd bs an han]
    refine Ev.step (fun k => ?_) hl
    simp only [spec_l13Walk.f, spec_l1Own.f, Option.bind_some, List.nil_append]
    rw [if_pos (by simp only [List.length_nil]; omega), Option.bind_some, if_pos (by omega), if_pos (by omega), if_pos (by omega)]
    rfl
end
end Go.Proofs.Ytghlbhijkhkgkaa.PA
end
section
/- The flow seat: the reference's BackOrder in plain words. -/
namespace Go.Proofs.Ytghlbhijkhkgkaa.PA
open Go.RowKit Go.Proofs.YtghlbhijkhkgkaaW.PrintWords Go.Proofs.YtghlbhijkhkgkaaW.PrintLast Go.Proofs.YtghlbhijkhkgkaaW.PrintMore
set_option linter.unusedVariables false
/-- What BackOrder answers. -/
def ansBackOrder (p : Int) (bs : List S87) : List Int × Bool := if goodB p bs = true then ((dfs (nextL bs) bs.length 0 ([], [])).2, true) else ([], false)
theorem dfs_start (n : Nat) : DfsOk n ([], []) ∧ unseen n [] ≤ n := by
  have h : unseen n [] ≤ n := numsL_len _ _
  exact ⟨⟨by simpa using h, Nat.le_refl _⟩, h⟩
theorem specBackOrder_f (p : Int) (bs : List S87) : Ev (fun k => spec_BackOrder.f k p bs) (ansBackOrder p bs) := by
  unfold ansBackOrder
  cases hg : goodB p bs with
  | false => exact Ev.congr (fun k => by unfold spec_BackOrder.f spec_GoodFunc.f; rw [hg]; rfl) (Ev.now _)
  | true =>
    have hgr := rows_of_good hg
    have hs := dfs_start bs.length
    have hw := walk_f p bs hgr bs.length 0 [] [] ⟨Int.le_refl _, by have := hgr.one; omega⟩ (by simp) hs.1 hs.2
    rw [if_pos rfl]
    exact Ev.congr (f := fun k => (spec_l13Walk.f k p bs 0 [] []).bind fun bt => some (bt.2, true)) (fun k => by unfold spec_BackOrder.f spec_GoodFunc.f; rw [hg]; rfl) (Ev.bind hw (Ev.now _))
theorem specBackOrder_any {A : Option Addr} {c : Nat} (p : Int) (bs : List S87) (w : World) (hr : Kd.C k87 w A bs.length bs) (hc : bs.length ≤ c) :
    Calls Try.prog 33 #[.agg #[.int .i64 p, .slice A bs.length c]] w fun e w' => ∃ v0 : Value, e = .returned (.tuple #[v0, .bool (ansBackOrder p bs).2]) ∧ (Kd.int .i64).R 3 w' w.heap.size (fun _ => True) v0 (ansBackOrder p bs).1 ∧ Below w.heap.size w w' := by
  obtain ⟨k, hk⟩ := Ev.rounds (specBackOrder_f p bs)
  exact spec_BackOrder.calls k p A c bs _ _ w hr hc hk
theorem ansBackOrder_len (p : Int) (bs : List S87) : (ansBackOrder p bs).1.length ≤ 1000 := by
  unfold ansBackOrder
  split
  · rename_i hg
    have hgr := rows_of_good hg
    have hs := dfs_start bs.length
    have h := dfs_ok (rows_ok hgr) bs.length 0 ([], []) (by rw [nextL_len]; exact ⟨Int.le_refl _, by have := hgr.one; omega⟩) (by simp) (by rw [nextL_len]; exact hs.1) (by rw [nextL_len]; exact hs.2)
    have h1 := h.1.size
    have h2 := h.1.order
    have h8 := hgr.len
    rw [nextL_len] at h1
    show (dfs (nextL bs) bs.length 0 ([], [])).2.length ≤ 1000
    omega
  · simp
end Go.Proofs.Ytghlbhijkhkgkaa.PA
end
