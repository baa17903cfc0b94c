/- Printed by the kit's print over surrogate texts, turned by this session -/
import Derived.Test.YtlnejmlphkpaaaaIqPAx0
import Derived.Test.YtlnejmlphkpaaaaIqPAx2
namespace Go.Proofs.Ytlnejmlphkpaaaa.PA
open Go.RowKit Go.Proofs.YtlnejmlphkpaaaaW.PrintWords Go.Proofs.YtlnejmlphkpaaaaW.PrintLast Go.Proofs.YtlnejmlphkpaaaaW.PrintMore
attribute [local go_sem] max2_int min2_int max_two min_two max_three min_three max_four min_four   -- for this text's walks alone
set_option linter.unusedVariables false
set_option linter.unusedSimpArgs false

mutual
def spec_GoodGraph.j0 : Nat → Bool → List (S36) → List Int → Option (Bool)
 | 0, _, _, _ => none
 | k + 1, x26, x126000, x126001 => if x26 = true then (some false) else (spec_GoodGraph.l0 k x126000 (x126000.length : Int) 0 x126000 x126001)
def spec_GoodGraph.l0 : Nat → List (S36) → Int → Int → List (S36) → List Int → Option (Bool)
 | 0, _, _, _, _, _ => none
 | k + 1, x28, x29, x30, x126000, x126001 => if x30 < x29 then (if 0 ≤ x30 then (if x30 < (x28.length : Int) then (spec_GoodGraph.l1 k x30 x28 x29 x30 ((rd_T36 x28 x30).f2) (((rd_T36 x28 x30).f2).length : Int) 0 x126000 x126001 ((rd_T36 x28 x30).f0) ((rd_T36 x28 x30).f1) ((rd_T36 x28 x30).f2)) else (none)) else (none)) else (some true)
def spec_GoodGraph.l1 : Nat → Int → List (S36) → Int → Int → List Int → Int → Int → List (S36) → List Int → Int → Int → List Int → Option (Bool)
 | 0, _, _, _, _, _, _, _, _, _, _, _, _ => none
 | k + 1, x3, x28, x29, x30, x36, x37, x38, x126000, x126001, x130000, x130001, x130002 => if x38 < x37 then (if 0 ≤ x38 then (if x38 < (x36.length : Int) then (if 0 ≤ (rd x36 x38) then (if (rd x36 x38) < (x126001.length : Int) then (if (rd x126001 (rd x36 x38)) = (rd x36 x38) then (spec_GoodGraph.l1 k x3 x28 x29 x30 x36 x37 (wrap64 (x38 + 1)) x126000 x126001 x130000 x130001 x130002) else (some false)) else (none)) else (none)) else (none)) else (none)) else (spec_GoodGraph.l2 k x3 0 x28 x29 x30 x126000 x126001 x130000 x130001 x130002)
def spec_GoodGraph.l2 : Nat → Int → Int → List (S36) → Int → Int → List (S36) → List Int → Int → Int → List Int → Option (Bool)
 | 0, _, _, _, _, _, _, _, _, _, _ => none
 | k + 1, x3, x7, x28, x29, x30, x126000, x126001, x130000, x130001, x130002 => if x7 < x3 then (if 0 ≤ x7 then (if x7 < (x126000.length : Int) then ((spec_l6Alike.f k x130000 x130001 x130002 ((rd_T36 x126000 x7).f0) ((rd_T36 x126000 x7).f1) ((rd_T36 x126000 x7).f2)).bind fun t133 => (if t133 = true then (if x7 < (x126001.length : Int) then (if 0 ≤ x3 then (if x3 < (x126001.length : Int) then (if (rd x126001 x7) = (rd x126001 x3) then (spec_GoodGraph.l2 k x3 (wrap64 (x7 + 1)) x28 x29 x30 x126000 x126001 x130000 x130001 x130002) else (some false)) else (none)) else (none)) else (none)) else (spec_GoodGraph.l2 k x3 (wrap64 (x7 + 1)) x28 x29 x30 x126000 x126001 x130000 x130001 x130002))) else (none)) else (none)) else (spec_GoodGraph.l0 k x28 x29 (wrap64 (x30 + 1)) x126000 x126001)
end
def spec_GoodGraph.f (k : Nat) (l0_0 : List (S36)) (l0_1 : List Int) : Option (Bool) := (spec_l6Nodes.f k l0_0).bind fun t126 => (if t126 = true then (if (l0_1.length : Int) = (l0_0.length : Int) then ((spec_GoodParts.f k l0_1).bind fun t127 => (spec_GoodGraph.j0 k (!t127) l0_0 l0_1)) else (spec_GoodGraph.j0 k true l0_0 l0_1)) else (spec_GoodGraph.j0 k true l0_0 l0_1))
theorem spec_GoodGraph.mono_l : ∀ k, (∀ y0 y1 y2, LeO (spec_GoodGraph.j0 k y0 y1 y2) (spec_GoodGraph.j0 (k + 1) y0 y1 y2)) ∧ (∀ y0 y1 y2 y3 y4, LeO (spec_GoodGraph.l0 k y0 y1 y2 y3 y4) (spec_GoodGraph.l0 (k + 1) y0 y1 y2 y3 y4)) ∧ (∀ y0 y1 y2 y3 y4 y5 y6 y7 y8 y9 y10 y11, LeO (spec_GoodGraph.l1 k y0 y1 y2 y3 y4 y5 y6 y7 y8 y9 y10 y11) (spec_GoodGraph.l1 (k + 1) y0 y1 y2 y3 y4 y5 y6 y7 y8 y9 y10 y11)) ∧ (∀ y0 y1 y2 y3 y4 y5 y6 y7 y8 y9, LeO (spec_GoodGraph.l2 k y0 y1 y2 y3 y4 y5 y6 y7 y8 y9) (spec_GoodGraph.l2 (k + 1) y0 y1 y2 y3 y4 y5 y6 y7 y8 y9))
 | 0 => ⟨fun _ _ _ r h => by simp [spec_GoodGraph.j0] at h, fun _ _ _ _ _ r h => by simp [spec_GoodGraph.l0] at h, fun _ _ _ _ _ _ _ _ _ _ _ _ r h => by simp [spec_GoodGraph.l1] at h, fun _ _ _ _ _ _ _ _ _ _ r h => by simp [spec_GoodGraph.l2] at h⟩
 | k + 1 => by
  obtain ⟨ih0, ih1, ih2, ih3⟩ := spec_GoodGraph.mono_l k
  refine ⟨?_, ?_, ?_, ?_⟩
  ·intro y0 y1 y2
   unfold spec_GoodGraph.j0
   repeat' first
   | (with_reducible exact ih0 _ _ _)
   | (with_reducible exact ih1 _ _ _ _ _)
   | (with_reducible exact ih2 _ _ _ _ _ _ _ _ _ _ _ _)
   | (with_reducible exact ih3 _ _ _ _ _ _ _ _ _ _)
   | (with_reducible exact spec_GoodParts.mono _ _)
   | (with_reducible exact spec_l6Alike.mono _ _ _ _ _ _ _)
   | (with_reducible exact spec_l6Nodes.mono _ _)
   | (with_reducible exact LeO.refl _)
   | (with_reducible exact LeO.none _)
   | (with_reducible refine LeO.ite ?_ ?_)
   | (with_reducible refine LeO.bind ?_ (fun _ => ?_))
   | exact ih0 _ _ _
   | exact ih1 _ _ _ _ _
   | exact ih2 _ _ _ _ _ _ _ _ _ _ _ _
   | exact ih3 _ _ _ _ _ _ _ _ _ _
   | exact spec_GoodParts.mono _ _
   | exact spec_l6Alike.mono _ _ _ _ _ _ _
   | exact spec_l6Nodes.mono _ _
   | exact LeO.none _
   | refine LeO.ite ?_ ?_
   | refine LeO.bind ?_ (fun _ => ?_)
  ·intro y0 y1 y2 y3 y4
   unfold spec_GoodGraph.l0
   repeat' first
   | (with_reducible exact ih0 _ _ _)
   | (with_reducible exact ih1 _ _ _ _ _)
   | (with_reducible exact ih2 _ _ _ _ _ _ _ _ _ _ _ _)
   | (with_reducible exact ih3 _ _ _ _ _ _ _ _ _ _)
   | (with_reducible exact spec_GoodParts.mono _ _)
   | (with_reducible exact spec_l6Alike.mono _ _ _ _ _ _ _)
   | (with_reducible exact spec_l6Nodes.mono _ _)
   | (with_reducible exact LeO.refl _)
   | (with_reducible exact LeO.none _)
   | (with_reducible refine LeO.ite ?_ ?_)
   | (with_reducible refine LeO.bind ?_ (fun _ => ?_))
   | exact ih0 _ _ _
   | exact ih1 _ _ _ _ _
   | exact ih2 _ _ _ _ _ _ _ _ _ _ _ _
   | exact ih3 _ _ _ _ _ _ _ _ _ _
   | exact spec_GoodParts.mono _ _
   | exact spec_l6Alike.mono _ _ _ _ _ _ _
   | exact spec_l6Nodes.mono _ _
   | exact LeO.none _
   | refine LeO.ite ?_ ?_
   | refine LeO.bind ?_ (fun _ => ?_)
  ·intro y0 y1 y2 y3 y4 y5 y6 y7 y8 y9 y10 y11
   unfold spec_GoodGraph.l1
   repeat' first
   | (with_reducible exact ih0 _ _ _)
   | (with_reducible exact ih1 _ _ _ _ _)
   | (with_reducible exact ih2 _ _ _ _ _ _ _ _ _ _ _ _)
   | (with_reducible exact ih3 _ _ _ _ _ _ _ _ _ _)
   | (with_reducible exact spec_GoodParts.mono _ _)
   | (with_reducible exact spec_l6Alike.mono _ _ _ _ _ _ _)
   | (with_reducible exact spec_l6Nodes.mono _ _)
   | (with_reducible exact LeO.refl _)
   | (with_reducible exact LeO.none _)
   | (with_reducible refine LeO.ite ?_ ?_)
   | (with_reducible refine LeO.bind ?_ (fun _ => ?_))
   | exact ih0 _ _ _
   | exact ih1 _ _ _ _ _
   | exact ih2 _ _ _ _ _ _ _ _ _ _ _ _
   | exact ih3 _ _ _ _ _ _ _ _ _ _
   | exact spec_GoodParts.mono _ _
   | exact spec_l6Alike.mono _ _ _ _ _ _ _
   | exact spec_l6Nodes.mono _ _
   | exact LeO.none _
   | refine LeO.ite ?_ ?_
   | refine LeO.bind ?_ (fun _ => ?_)
  ·intro y0 y1 y2 y3 y4 y5 y6 y7 y8 y9
   unfold spec_GoodGraph.l2
   repeat' first
   | (with_reducible exact ih0 _ _ _)
   | (with_reducible exact ih1 _ _ _ _ _)
   | (with_reducible exact ih2 _ _ _ _ _ _ _ _ _ _ _ _)
   | (with_reducible exact ih3 _ _ _ _ _ _ _ _ _ _)
   | (with_reducible exact spec_GoodParts.mono _ _)
   | (with_reducible exact spec_l6Alike.mono _ _ _ _ _ _ _)
   | (with_reducible exact spec_l6Nodes.mono _ _)
   | (with_reducible exact LeO.refl _)
   | (with_reducible exact LeO.none _)
   | (with_reducible refine LeO.ite ?_ ?_)
   | (with_reducible refine LeO.bind ?_ (fun _ => ?_))
   | exact ih0 _ _ _
   | exact ih1 _ _ _ _ _
   | exact ih2 _ _ _ _ _ _ _ _ _ _ _ _
   | exact ih3 _ _ _ _ _ _ _ _ _ _
   | exact spec_GoodParts.mono _ _
   | exact spec_l6Alike.mono _ _ _ _ _ _ _
   | exact spec_l6Nodes.mono _ _
   | exact LeO.none _
   | refine LeO.ite ?_ ?_
   | refine LeO.bind ?_ (fun _ => ?_)
theorem spec_GoodGraph.mono : ∀ a0 a1 k, LeO (spec_GoodGraph.f k a0 a1) (spec_GoodGraph.f (k + 1) a0 a1) := by
 intro a0 a1 k
 obtain ⟨ih0, ih1, ih2, ih3⟩ := spec_GoodGraph.mono_l k
 unfold spec_GoodGraph.f
 repeat' first
   | (with_reducible exact ih0 _ _ _)
   | (with_reducible exact ih1 _ _ _ _ _)
   | (with_reducible exact ih2 _ _ _ _ _ _ _ _ _ _ _ _)
   | (with_reducible exact ih3 _ _ _ _ _ _ _ _ _ _)
   | (with_reducible exact spec_GoodParts.mono _ _)
   | (with_reducible exact spec_l6Alike.mono _ _ _ _ _ _ _)
   | (with_reducible exact spec_l6Nodes.mono _ _)
   | (with_reducible exact LeO.refl _)
   | (with_reducible exact LeO.none _)
   | (with_reducible refine LeO.ite ?_ ?_)
   | (with_reducible refine LeO.bind ?_ (fun _ => ?_))
   | exact ih0 _ _ _
   | exact ih1 _ _ _ _ _
   | exact ih2 _ _ _ _ _ _ _ _ _ _ _ _
   | exact ih3 _ _ _ _ _ _ _ _ _ _
   | exact spec_GoodParts.mono _ _
   | exact spec_l6Alike.mono _ _ _ _ _ _ _
   | exact spec_l6Nodes.mono _ _
   | exact LeO.none _
   | refine LeO.ite ?_ ?_
   | refine LeO.bind ?_ (fun _ => ?_)
end Go.Proofs.Ytlnejmlphkpaaaa.PA
