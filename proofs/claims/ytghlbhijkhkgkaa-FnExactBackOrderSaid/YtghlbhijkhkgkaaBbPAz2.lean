/- Parts of the walk. -/
import Derived.Test.YtghlbhijkhkgkaaBbPAx0
import Derived.Test.YtghlbhijkhkgkaaBbPAx1
import Derived.Test.YtghlbhijkhkgkaaBbPAz1
import Derived.Test.YtghlbhijkhkgkaaBbMb
import Derived.Test.YtghlbhijkhkgkaaBbVp
section
/- Printed by the kit's print over surrogate texts, turned by this session -/
namespace Go.Proofs.Ytghlbhijkhkgkaa.PA
open Go.RowKit Go.Proofs.YtghlbhijkhkgkaaW.PrintWords Go.Proofs.YtghlbhijkhkgkaaW.PrintLast Go.Proofs.YtghlbhijkhkgkaaW.PrintMore
attribute [local go_sem] max2_int min2_int max_two min_two max_three min_three max_four min_four   -- for this text's walks alone
set_option linter.unusedVariables false
set_option linter.unusedSimpArgs false

/-! ### spec_l13Ahead: function 68 -/
def spec_l13Ahead.l0 : Nat → Int → List Int → Int → Int → Int → List (S87) → Option (List Int)
  | 0, _, _, _, _, _, _ => none
  | k + 1, x1, x5, x9, x10, x504000, x504001 => if x10 < x9 then ((spec_l13Next.f k x504000 x504001 x10).bind fun t504 => ((spec_l1Has.f k t504 x1).bind fun t507 => (if t507 = true then (if x5.length < 17592186044416 then (spec_l13Ahead.l0 k x1 (x5 ++ [x10]) x9 (wrap64 (x10 + 1)) x504000 x504001) else (none)) else (spec_l13Ahead.l0 k x1 x5 x9 (wrap64 (x10 + 1)) x504000 x504001)))) else (some x5)
def spec_l13Ahead.f (k : Nat) (a0_0 : Int) (l0_1 : List (S87)) (a1 : Int) : Option (List Int) := spec_l13Ahead.l0 k a1 ([] : List Int) (l0_1.length : Int) 0 a0_0 l0_1
theorem spec_l13Ahead.mono_l : ∀ k, (∀ y0 y1 y2 y3 y4 y5, LeO (spec_l13Ahead.l0 k y0 y1 y2 y3 y4 y5) (spec_l13Ahead.l0 (k + 1) y0 y1 y2 y3 y4 y5))
  | 0 => fun _ _ _ _ _ _ r h => by simp [spec_l13Ahead.l0] at h
  | k + 1 => by
    have ih0 := spec_l13Ahead.mono_l k
    · intro y0 y1 y2 y3 y4 y5
      unfold spec_l13Ahead.l0
      repeat' first
      | (with_reducible exact ih0 _ _ _ _ _ _)
      | (with_reducible exact spec_l13Next.mono _ _ _ _)
      | (with_reducible exact spec_l1Has.mono _ _ _)
      | (with_reducible exact LeO.refl _)
      | (with_reducible exact LeO.none _)
      | (with_reducible refine LeO.ite ?_ ?_)
      | (with_reducible refine LeO.bind ?_ (fun _ => ?_))
      | exact ih0 _ _ _ _ _ _
      | exact spec_l13Next.mono _ _ _ _
      | exact spec_l1Has.mono _ _ _
      | exact LeO.none _
      | refine LeO.ite ?_ ?_
      | refine LeO.bind ?_ (fun _ => ?_)
theorem spec_l13Ahead.mono : ∀ a0 a1 a2 k, LeO (spec_l13Ahead.f k a0 a1 a2) (spec_l13Ahead.f (k + 1) a0 a1 a2) := by
  intro a0 a1 a2 k
  have ih0 := spec_l13Ahead.mono_l k
  unfold spec_l13Ahead.f
  repeat' first
      | (with_reducible exact ih0 _ _ _ _ _ _)
      | (with_reducible exact spec_l13Next.mono _ _ _ _)
      | (with_reducible exact spec_l1Has.mono _ _ _)
      | (with_reducible exact LeO.refl _)
      | (with_reducible exact LeO.none _)
      | (with_reducible refine LeO.ite ?_ ?_)
      | (with_reducible refine LeO.bind ?_ (fun _ => ?_))
      | exact ih0 _ _ _ _ _ _
      | exact spec_l13Next.mono _ _ _ _
      | exact spec_l1Has.mono _ _ _
      | exact LeO.none _
      | refine LeO.ite ?_ ?_
      | refine LeO.bind ?_ (fun _ => ?_)
/-! ### spec_AheadOf: function 29 -/
def spec_AheadOf.f (k : Nat) (a0_0 : Int) (l0_1 : List (S87)) (a1 : Int) : Option (List Int × Bool) := (spec_l13Is.f a0_0 l0_1 a1).bind fun t512 => (if t512 = true then ((spec_l13Ahead.f k a0_0 l0_1 a1).bind fun t513 => (some (t513, true))) else (some (([] : List Int), false)))
theorem spec_AheadOf.mono : ∀ a0 a1 a2 k, LeO (spec_AheadOf.f k a0 a1 a2) (spec_AheadOf.f (k + 1) a0 a1 a2) := by
  intro a0 a1 a2 k
  unfold spec_AheadOf.f
  repeat' first
      | (with_reducible exact spec_l13Ahead.mono _ _ _ _)
      | (with_reducible exact LeO.refl _)
      | (with_reducible exact LeO.none _)
      | (with_reducible refine LeO.ite ?_ ?_)
      | (with_reducible refine LeO.bind ?_ (fun _ => ?_))
      | exact spec_l13Ahead.mono _ _ _ _
      | exact LeO.none _
      | refine LeO.ite ?_ ?_
      | refine LeO.bind ?_ (fun _ => ?_)
/-! ### slices_Index_int_int: function 110 -/
def slices_Index_int_int.l0 : Nat → List Int → Int → Int → Int → Option (Int)
  | 0, _, _, _, _ => none
  | k + 1, x0, x1, x7, x8 => if x8 < x7 then (if 0 ≤ x8 then (if x8 < (x0.length : Int) then (if x1 = (rd x0 x8) then (some x8) else (slices_Index_int_int.l0 k x0 x1 x7 (wrap64 (x8 + 1)))) else (none)) else (none)) else (some (-1))
def slices_Index_int_int.f (k : Nat) (l0 : List Int) (a1 : Int) : Option (Int) := slices_Index_int_int.l0 k l0 a1 (l0.length : Int) 0
theorem slices_Index_int_int.mono_l : ∀ k, (∀ y0 y1 y2 y3, LeO (slices_Index_int_int.l0 k y0 y1 y2 y3) (slices_Index_int_int.l0 (k + 1) y0 y1 y2 y3))
  | 0 => fun _ _ _ _ r h => by simp [slices_Index_int_int.l0] at h
  | k + 1 => by
    have ih0 := slices_Index_int_int.mono_l k
    · intro y0 y1 y2 y3
      unfold slices_Index_int_int.l0
      repeat' first
      | (with_reducible exact ih0 _ _ _ _)
      | (with_reducible exact LeO.refl _)
      | (with_reducible exact LeO.none _)
      | (with_reducible refine LeO.ite ?_ ?_)
      | (with_reducible refine LeO.bind ?_ (fun _ => ?_))
      | exact ih0 _ _ _ _
      | exact LeO.none _
      | refine LeO.ite ?_ ?_
      | refine LeO.bind ?_ (fun _ => ?_)
theorem slices_Index_int_int.mono : ∀ a0 a1 k, LeO (slices_Index_int_int.f k a0 a1) (slices_Index_int_int.f (k + 1) a0 a1) := by
  intro a0 a1 k
  have ih0 := slices_Index_int_int.mono_l k
  unfold slices_Index_int_int.f
  repeat' first
      | (with_reducible exact ih0 _ _ _ _)
      | (with_reducible exact LeO.refl _)
      | (with_reducible exact LeO.none _)
      | (with_reducible refine LeO.ite ?_ ?_)
      | (with_reducible refine LeO.bind ?_ (fun _ => ?_))
      | exact ih0 _ _ _ _
      | exact LeO.none _
      | refine LeO.ite ?_ ?_
      | refine LeO.bind ?_ (fun _ => ?_)
/-! ### slices_Contains_int_int: function 69 -/
def slices_Contains_int_int.f (k : Nat) (l0 : List Int) (a1 : Int) : Option (Bool) := (slices_Index_int_int.f k l0 a1).bind fun t517 => (some (decide (t517 ≥ 0)))
theorem slices_Contains_int_int.mono : ∀ a0 a1 k, LeO (slices_Contains_int_int.f k a0 a1) (slices_Contains_int_int.f (k + 1) a0 a1) := by
  intro a0 a1 k
  unfold slices_Contains_int_int.f
  repeat' first
      | (with_reducible exact slices_Index_int_int.mono _ _ _)
      | (with_reducible exact LeO.refl _)
      | (with_reducible exact LeO.none _)
      | (with_reducible refine LeO.ite ?_ ?_)
      | (with_reducible refine LeO.bind ?_ (fun _ => ?_))
      | exact slices_Index_int_int.mono _ _ _
      | exact LeO.none _
      | refine LeO.ite ?_ ?_
      | refine LeO.bind ?_ (fun _ => ?_)


end Go.Proofs.Ytghlbhijkhkgkaa.PA
end
section
/- The flow seat: the reference's AheadOf in plain words. -/
namespace Go.Proofs.Ytghlbhijkhkgkaa.PA
open Go.RowKit Go.Proofs.YtghlbhijkhkgkaaW.PrintWords Go.Proofs.YtghlbhijkhkgkaaW.PrintLast Go.Proofs.YtghlbhijkhkgkaaW.PrintMore
set_option linter.unusedVariables false
theorem rd_at (l : List Int) (i : Nat) (h : i < l.length) : rd l (i : Int) = l[i] := by simp [rd, List.getD_eq_getElem?_getD, List.getElem?_eq_getElem h]
theorem put_in (l : List Int) (x : Int) (i : Nat) : (∀ y, y ∈ ([] ++ l.take i ++ [x]) ++ l.drop i ↔ y ∈ l ∨ y = x) := by
  intro y
  conv => rhs; rw [← List.take_append_drop i l]
  simp only [List.mem_append, List.nil_append, List.mem_singleton]
  constructor
  · rintro ((h | h) | h)
    · exact .inl (.inl h)
    · exact .inr h
    · exact .inl (.inr h)
  · rintro ((h | h) | h)
    · exact .inl (.inl h)
    · exact .inr h
    · exact .inl (.inr h)
theorem put_l0 (l : List Int) (x : Int) (hl : l.length ≤ 1000) : ∀ (d i : Nat), l.length - i = d → i ≤ l.length →
    ∃ r, Ev (fun k => spec_l1Put.l0 k l x (i : Int)) r ∧ (∀ y, y ∈ r ↔ y ∈ l ∨ y = x) ∧ r.length ≤ l.length + 1
  | 0, i, hd, hi => by
    refine ⟨([] ++ l.take i ++ [x]) ++ l.drop i, Ev.step (f := fun _ => some (([] ++ l.take i ++ [x]) ++ l.drop i)) (fun k => ?_) (Ev.now _), put_in l x i, by simp; omega⟩
    simp only [spec_l1Put.l0, Option.bind_some, Int.toNat_natCast]
    rw [if_neg (by omega), if_pos (by omega), if_pos (by omega), if_pos (by simp; omega), if_pos (by simp; omega), if_pos (by simp; omega)]
  | d + 1, i, hd, hi => by
    have h : i < l.length := by omega
    by_cases h1 : l[i] < x
    · obtain ⟨r, e, h2, h3⟩ := put_l0 l x hl d (i + 1) (by omega) (by omega)
      refine ⟨r, Ev.step (fun k => ?_) e, h2, h3⟩
      simp only [spec_l1Put.l0]
      rw [if_pos (by omega), if_pos (by omega), rd_at l i h, if_pos h1, wnext i l.length h (by unfold Max; omega)]
    · by_cases h2 : l[i] = x
      · refine ⟨l, Ev.step (f := fun _ => some l) (fun k => ?_) (Ev.now _), fun y => ⟨fun hy => .inl hy, fun hy => ?_⟩, by omega⟩
        · simp only [spec_l1Put.l0]
          rw [if_pos (by omega), if_pos (by omega), rd_at l i h, if_neg h1, if_pos h2]
        · rcases hy with hy | rfl
          · exact hy
          · rw [← h2]; exact List.getElem_mem h
      · refine ⟨([] ++ l.take i ++ [x]) ++ l.drop i, Ev.step (f := fun _ => some (([] ++ l.take i ++ [x]) ++ l.drop i)) (fun k => ?_) (Ev.now _), put_in l x i, by simp; omega⟩
        simp only [spec_l1Put.l0, Option.bind_some, Int.toNat_natCast]
        rw [if_pos (by omega), if_pos (by omega), rd_at l i h, if_neg h1, if_neg h2, if_pos (by omega), if_pos (by simp; omega), if_pos (by simp; omega), if_pos (by simp; omega)]
theorem has_l0 (v : Int) (l : List Int) (hl : l.length ≤ 1000) : ∀ (d i : Nat), l.length - i = d → Ev (fun k => spec_l1Has.l0 k v l (l.length : Int) (i : Int)) (decide (v ∈ l.drop i))
  | 0, i, hd => Ev.step (f := fun _ => some (decide (v ∈ l.drop i))) (fun k => by simp only [spec_l1Has.l0]; rw [if_neg (by omega), List.drop_of_length_le (by omega)]; simp) (Ev.now _)
  | d + 1, i, hd => by
    have h : i < l.length := by omega
    have hr := rd_at l i h
    rw [List.drop_eq_getElem_cons h]
    by_cases e : l[i] = v
    · refine Ev.step (f := fun _ => some (decide (v ∈ l[i] :: l.drop (i + 1)))) (fun k => ?_) (Ev.now _)
      simp only [spec_l1Has.l0]
      rw [if_pos (by omega), if_pos (by omega), if_pos (by omega), hr, if_pos e]
      simp [e]
    · have e2 : decide (v ∈ l[i] :: l.drop (i + 1)) = decide (v ∈ l.drop (i + 1)) := by
        rw [decide_eq_decide, List.mem_cons]
        exact ⟨fun h => h.resolve_left (fun h => e h.symm), .inr⟩
      rw [e2]
      refine Ev.step (fun k => ?_) (has_l0 v l hl d (i + 1) (by omega))
      simp only [spec_l1Has.l0]
      rw [if_pos (by omega), if_pos (by omega), if_pos (by omega), hr, if_neg e, wnext i l.length h (by unfold Max; omega)]
end Go.Proofs.Ytghlbhijkhkgkaa.PA
end
section
/- The flow seat: hasBlock, slices.Contains and the rows of next, by hand. -/
namespace Go.Proofs.Ytghlbhijkhkgkaa.PA
open Go.RowKit Go.Proofs.YtghlbhijkhkgkaaW.PrintWords Go.Proofs.YtghlbhijkhkgkaaW.PrintLast Go.Proofs.YtghlbhijkhkgkaaW.PrintMore
set_option linter.unusedVariables false
theorem nextL_at (bs : List S87) (j : Nat) (hj : j < bs.length) : (nextL bs).getD j [] = toL (rd_T87 bs (j : Int)) := by
  rw [rd_nat bs j hj, nextL, List.getD_eq_getElem?_getD, List.getElem?_map, List.getElem?_eq_getElem hj]
  rfl
end Go.Proofs.Ytghlbhijkhkgkaa.PA
end
section
/- The flow seat: rising lists: what l1Put keeps, and when two of them are one. -/
namespace Go.Proofs.Ytghlbhijkhkgkaa.PA
open Go.RowKit Go.Proofs.YtghlbhijkhkgkaaW.PrintWords Go.Proofs.YtghlbhijkhkgkaaW.PrintLast Go.Proofs.YtghlbhijkhkgkaaW.PrintMore
set_option linter.unusedVariables false
/-- A list that rises. -/
def Rises (l : List Int) : Prop := l.Pairwise (· < ·)
theorem rises_ext : ∀ (l1 l2 : List Int), Rises l1 → Rises l2 → (∀ y, y ∈ l1 ↔ y ∈ l2) → l1 = l2
  | [], [], _, _, _ => rfl
  | [], b :: l2, _, _, h => absurd ((h b).2 List.mem_cons_self) (by simp)
  | a :: l1, [], _, _, h => absurd ((h a).1 List.mem_cons_self) (by simp)
  | a :: l1, b :: l2, h1, h2, h => by
    obtain ⟨a1, a2⟩ := List.pairwise_cons.1 h1
    obtain ⟨b1, b2⟩ := List.pairwise_cons.1 h2
    have e : a = b := by
      rcases List.mem_cons.1 ((h a).1 List.mem_cons_self) with e | e
      · exact e
      · rcases List.mem_cons.1 ((h b).2 List.mem_cons_self) with e2 | e2
        · exact e2.symm
        · have := b1 a e; have := a1 b e2; omega
    subst e
    rw [rises_ext l1 l2 a2 b2 fun y => ⟨fun hy => ?_, fun hy => ?_⟩]
    · rcases List.mem_cons.1 ((h y).1 (List.mem_cons_of_mem _ hy)) with e | e
      · have := a1 y hy; omega
      · exact e
    · rcases List.mem_cons.1 ((h y).2 (List.mem_cons_of_mem _ hy)) with e | e
      · have := b1 y hy; omega
      · exact e
end Go.Proofs.Ytghlbhijkhkgkaa.PA
end
section
/- Printed by the kit's print over surrogate texts, turned by this session -/
namespace Go.Proofs.Ytghlbhijkhkgkaa.PA
open Go.RowKit Go.Proofs.YtghlbhijkhkgkaaW.PrintWords Go.Proofs.YtghlbhijkhkgkaaW.PrintLast Go.Proofs.YtghlbhijkhkgkaaW.PrintMore
attribute [local go_sem] max2_int min2_int max_two min_two max_three min_three max_four min_four   -- for this text's walks alone
set_option linter.unusedVariables false
set_option linter.unusedSimpArgs false

/-! ### impl_reach: function 73 -/
mutual
def impl_reach.l0 : Nat → List (List Int) → Int → List Bool → List Int → Option (List Bool)
  | 0, _, _, _, _ => none
  | k + 1, x0, x2, x7, x8 => if (x8.length : Int) > 0 then (if 0 < (x8.length : Int) then (if 0 ≤ (rd x8 0) then (if (rd x8 0) < (x0.length : Int) then (impl_reach.l1 k x0 x2 x7 x8 (rd_L1 x0 (rd x8 0)) ((rd_L1 x0 (rd x8 0)).length : Int) 0) else (none)) else (none)) else (none)) else (some x7)
def impl_reach.l1 : Nat → List (List Int) → Int → List Bool → List Int → List Int → Int → Int → Option (List Bool)
  | 0, _, _, _, _, _, _, _ => none
  | k + 1, x0, x2, x7, x8, x33, x34, x35 => if x35 < x34 then (if 0 ≤ x35 then (if x35 < (x33.length : Int) then (if 0 ≤ (rd x33 x35) then (if (rd x33 x35) < (x7.length : Int) then (if (rdOf false x7 (rd x33 x35) = true) then (impl_reach.l1 k x0 x2 x7 x8 x33 x34 (wrap64 (x35 + 1))) else (if (rd x33 x35) = x2 then (impl_reach.l1 k x0 x2 x7 x8 x33 x34 (wrap64 (x35 + 1))) else (if x8.length < 17592186044416 then (impl_reach.l1 k x0 x2 (x7.set ((rd x33 x35) : Int).toNat true) (x8 ++ [rd x33 x35]) x33 x34 (wrap64 (x35 + 1))) else (none)))) else (none)) else (none)) else (none)) else (none)) else (if 1 ≤ (x8.length : Int) then (impl_reach.l0 k x0 x2 x7 (x8.drop (1 : Int).toNat)) else (none))
end
def impl_reach.f (k : Nat) (l0 : List (List Int)) (a1 : Int) (a2 : Int) : Option (List Bool) := if 0 ≤ (l0.length : Int) then (if ((l0.length : Int) : Int).toNat ≤ 281474976710656 then ((some (List.replicate ((l0.length : Int) : Int).toNat false : List Bool)).bind fun y549 => (if a1 = a2 then (some y549) else (if 0 ≤ a1 then (if a1 < (y549.length : Int) then (impl_reach.l0 k l0 a2 (y549.set (a1 : Int).toNat true) (([a1] : List Int))) else (none)) else (none)))) else (none)) else (none)
theorem impl_reach.mono_l : ∀ k, (∀ y0 y1 y2 y3, LeO (impl_reach.l0 k y0 y1 y2 y3) (impl_reach.l0 (k + 1) y0 y1 y2 y3)) ∧ (∀ y0 y1 y2 y3 y4 y5 y6, LeO (impl_reach.l1 k y0 y1 y2 y3 y4 y5 y6) (impl_reach.l1 (k + 1) y0 y1 y2 y3 y4 y5 y6))
  | 0 => ⟨fun _ _ _ _ r h => by simp [impl_reach.l0] at h, fun _ _ _ _ _ _ _ r h => by simp [impl_reach.l1] at h⟩
  | k + 1 => by
    obtain ⟨ih0, ih1⟩ := impl_reach.mono_l k
    refine ⟨?_, ?_⟩
    · intro y0 y1 y2 y3
      unfold impl_reach.l0
      repeat' first
      | (with_reducible exact ih0 _ _ _ _)
      | (with_reducible exact ih1 _ _ _ _ _ _ _)
      | (with_reducible exact LeO.refl _)
      | (with_reducible exact LeO.none _)
      | (with_reducible refine LeO.ite ?_ ?_)
      | (with_reducible refine LeO.bind ?_ (fun _ => ?_))
      | exact ih0 _ _ _ _
      | exact ih1 _ _ _ _ _ _ _
      | exact LeO.none _
      | refine LeO.ite ?_ ?_
      | refine LeO.bind ?_ (fun _ => ?_)
    · intro y0 y1 y2 y3 y4 y5 y6
      unfold impl_reach.l1
      repeat' first
      | (with_reducible exact ih0 _ _ _ _)
      | (with_reducible exact ih1 _ _ _ _ _ _ _)
      | (with_reducible exact LeO.refl _)
      | (with_reducible exact LeO.none _)
      | (with_reducible refine LeO.ite ?_ ?_)
      | (with_reducible refine LeO.bind ?_ (fun _ => ?_))
      | exact ih0 _ _ _ _
      | exact ih1 _ _ _ _ _ _ _
      | exact LeO.none _
      | refine LeO.ite ?_ ?_
      | refine LeO.bind ?_ (fun _ => ?_)
theorem impl_reach.mono : ∀ a0 a1 a2 k, LeO (impl_reach.f k a0 a1 a2) (impl_reach.f (k + 1) a0 a1 a2) := by
  intro a0 a1 a2 k
  obtain ⟨ih0, ih1⟩ := impl_reach.mono_l k
  unfold impl_reach.f
  repeat' first
      | (with_reducible exact ih0 _ _ _ _)
      | (with_reducible exact ih1 _ _ _ _ _ _ _)
      | (with_reducible exact LeO.refl _)
      | (with_reducible exact LeO.none _)
      | (with_reducible refine LeO.ite ?_ ?_)
      | (with_reducible refine LeO.bind ?_ (fun _ => ?_))
      | exact ih0 _ _ _ _
      | exact ih1 _ _ _ _ _ _ _
      | exact LeO.none _
      | refine LeO.ite ?_ ?_
      | refine LeO.bind ?_ (fun _ => ?_)


/-! ### impl_listOf: function 72 -/
def impl_listOf.l0 : Nat → List Int → List Bool → Int → Int → Option (List Int)
  | 0, _, _, _, _ => none
  | k + 1, x3, x7, x8, x9 => if x9 < x8 then (if 0 ≤ x9 then (if x9 < (x7.length : Int) then (if rdOf false x7 x9 = true then (if x3.length < 17592186044416 then (impl_listOf.l0 k (x3 ++ [x9]) x7 x8 (wrap64 (x9 + 1))) else (none)) else (impl_listOf.l0 k x3 x7 x8 (wrap64 (x9 + 1)))) else (none)) else (none)) else (some x3)
def impl_listOf.f (k : Nat) (l0 : List Bool) : Option (List Int) := impl_listOf.l0 k (([] : List Int)) l0 (l0.length : Int) 0
theorem impl_listOf.mono_l : ∀ k, (∀ y0 y1 y2 y3, LeO (impl_listOf.l0 k y0 y1 y2 y3) (impl_listOf.l0 (k + 1) y0 y1 y2 y3))
  | 0 => fun _ _ _ _ r h => by simp [impl_listOf.l0] at h
  | k + 1 => by
    have ih0 := impl_listOf.mono_l k
    · intro y0 y1 y2 y3
      unfold impl_listOf.l0
      repeat' first
      | (with_reducible exact ih0 _ _ _ _)
      | (with_reducible exact LeO.refl _)
      | (with_reducible exact LeO.none _)
      | (with_reducible refine LeO.ite ?_ ?_)
      | (with_reducible refine LeO.bind ?_ (fun _ => ?_))
      | exact ih0 _ _ _ _
      | exact LeO.none _
      | refine LeO.ite ?_ ?_
      | refine LeO.bind ?_ (fun _ => ?_)
theorem impl_listOf.mono : ∀ a0 k, LeO (impl_listOf.f k a0) (impl_listOf.f (k + 1) a0) := by
  intro a0 k
  have ih0 := impl_listOf.mono_l k
  unfold impl_listOf.f
  repeat' first
      | (with_reducible exact ih0 _ _ _ _)
      | (with_reducible exact LeO.refl _)
      | (with_reducible exact LeO.none _)
      | (with_reducible refine LeO.ite ?_ ?_)
      | (with_reducible refine LeO.bind ?_ (fun _ => ?_))
      | exact ih0 _ _ _ _
      | exact LeO.none _
      | refine LeO.ite ?_ ?_
      | refine LeO.bind ?_ (fun _ => ?_)
end Go.Proofs.Ytghlbhijkhkgkaa.PA
end
section
/- The flow seat: what impl.reach finds: the blocks to which a way leads. -/
namespace Go.Proofs.Ytghlbhijkhkgkaa.PA
open Go.RowKit Go.Proofs.YtghlbhijkhkgkaaW.PrintWords Go.Proofs.YtghlbhijkhkgkaaW.PrintLast Go.Proofs.YtghlbhijkhkgkaaW.PrintMore
set_option linter.unusedVariables false
/-- A way from a that comes to no block but. -/
inductive Way (next : List (List Int)) (but a : Int) : Int → Prop
  | here : Way next but a a
  | on {b c : Int} : Way next but a b → c ∈ rd_L1 next b → c ≠ but → Way next but a c
/-- Rows of blocks. -/
def RowsOk (next : List (List Int)) : Prop := next.length ≤ 1000 ∧ ∀ b : Int, 0 ≤ b → b < (next.length : Int) → (rd_L1 next b).length ≤ 1000 ∧ ∀ c ∈ rd_L1 next b, 0 ≤ c ∧ c < (next.length : Int)
/-- The walk under way; h: the block whose row is walked, up to i of it. -/
structure RI (next : List (List Int)) (but a : Int) (out : List Bool) (todo : List Int) (h : Int) (i : Nat) : Prop where
  len : out.length = next.length
  at_a : rdOf false out a = true
  way : ∀ y : Int, 0 ≤ y → rdOf false out y = true → Way next but a y
  todo_in : ∀ y ∈ todo, 0 ≤ y ∧ y < (next.length : Int) ∧ rdOf false out y = true
  closed : ∀ y : Int, 0 ≤ y → rdOf false out y = true → y ∉ todo → ∀ c ∈ rd_L1 next y, c ≠ but → rdOf false out c = true
  part : ∀ c ∈ (rd_L1 next h).take i, c ≠ but → rdOf false out c = true
theorem RI.way_in {next : List (List Int)} {but a : Int} {out : List Bool} {h : Int} {i : Nat} (hr : RI next but a out [] h i) (hn : RowsOk next) (ha : 0 ≤ a ∧ a < (next.length : Int)) : ∀ y, Way next but a y → (0 ≤ y ∧ y < (next.length : Int)) ∧ rdOf false out y = true := by
  intro y hy
  induction hy with
  | here => exact ⟨ha, hr.at_a⟩
  | on h1 h2 h3 ih =>
    exact ⟨(hn.2 _ ih.1.1 ih.1.2).2 _ h2, hr.closed _ ih.1.1 ih.2 (by simp) _ h2 h3⟩
end Go.Proofs.Ytghlbhijkhkgkaa.PA
end
section
/- The flow seat: the blocks to which ways lead, as a rising list. -/
namespace Go.Proofs.Ytghlbhijkhkgkaa.PA
open Go.RowKit Go.Proofs.YtghlbhijkhkgkaaW.PrintWords Go.Proofs.YtghlbhijkhkgkaaW.PrintLast Go.Proofs.YtghlbhijkhkgkaaW.PrintMore
set_option linter.unusedVariables false
/-- Blocks whose jumps stay among them. -/
structure GoodRows (bs : List S87) : Prop where
  one : 1 ≤ bs.length
  len : bs.length ≤ 8
  two : ∀ k, k < bs.length → (rd_T87 bs (k : Int)).f4.length ≤ 2
  stay : ∀ k, k < bs.length → ∀ c ∈ toL (rd_T87 bs (k : Int)), 0 ≤ c ∧ c < (bs.length : Int)
theorem rows_of_good {p : Int} {bs : List S87} (hg : goodB p bs = true) : GoodRows bs := by
  obtain ⟨_, hn, _⟩ := good_iff hg
  refine ⟨hn.1, hn.2, fun k hk => (good_at hg k hk).jumps, fun k hk c hc => ?_⟩
  obtain ⟨x, hx, rfl⟩ := List.mem_map.1 hc
  exact ((good_at hg k hk).jump x hx).1
theorem nextL_len (bs : List S87) : (nextL bs).length = bs.length := by simp [nextL]
theorem nextL_rd (bs : List S87) (k : Nat) (hk : k < bs.length) : rd_L1 (nextL bs) (k : Int) = toL (rd_T87 bs (k : Int)) := by
  rw [← nextL_at bs k hk]; rfl
theorem rows_ok {bs : List S87} (h : GoodRows bs) : RowsOk (nextL bs) := by
  refine ⟨by rw [nextL_len]; have := h.len; omega, fun b h0 h1 => ?_⟩
  rw [nextL_len] at h1 ⊢
  obtain ⟨k, rfl⟩ := Int.eq_ofNat_of_zero_le h0
  have hk : k < bs.length := by omega
  rw [nextL_rd bs k hk]
  exact ⟨by have := h.two k hk; simpa [toL] using Nat.le_trans this (by omega), h.stay k hk⟩
/-- The numbers below n that are so, rising. -/
def numsL (n : Nat) (q : Int → Bool) : List Int := ((List.range n).map fun (j : Nat) => (j : Int)).filter q
theorem mem_numsL {n : Nat} {q : Int → Bool} {y : Int} : y ∈ numsL n q ↔ (0 ≤ y ∧ y < (n : Int)) ∧ q y = true := by
  rw [numsL, List.mem_filter, List.mem_map]
  constructor
  · rintro ⟨⟨j, hj, rfl⟩, h⟩
    rw [List.mem_range] at hj
    exact ⟨by omega, h⟩
  · rintro ⟨h1, h⟩
    exact ⟨⟨y.toNat, List.mem_range.2 (by omega), by omega⟩, h⟩
theorem rises_numsL (n : Nat) (q : Int → Bool) : Rises (numsL n q) := by
  refine List.Pairwise.filter q ?_
  rw [List.pairwise_map]
  exact List.Pairwise.imp (fun h => by omega) List.pairwise_lt_range
theorem numsL_len (n : Nat) (q : Int → Bool) : (numsL n q).length ≤ n := Nat.le_trans (List.length_filter_le _ _) (by simp)
theorem rises_len : ∀ (l : List Int) (lo hi : Int), Rises l → (∀ y ∈ l, lo ≤ y ∧ y < hi) → l.length ≤ (hi - lo).toNat
  | [], _, _, _, _ => Nat.zero_le _
  | a :: l, lo, hi, h, hb => by
    obtain ⟨h1, h2⟩ := List.pairwise_cons.1 h
    have ha := hb a List.mem_cons_self
    have := rises_len l (a + 1) hi h2 fun y hy => ⟨by have := h1 y hy; omega, (hb y (List.mem_cons_of_mem _ hy)).2⟩
    rw [List.length_cons]
    omega
/-- The blocks to which ways lead from a, that do not come to but. -/
noncomputable def fromL (next : List (List Int)) (a but : Int) : List Int := if a = but then [] else numsL next.length fun y => @decide (Way next but a y) (Classical.propDecidable _)
section
variable {next : List (List Int)} {a but y : Int}
theorem way_in (hn : RowsOk next) (ha : 0 ≤ a ∧ a < (next.length : Int)) (h : Way next but a y) : 0 ≤ y ∧ y < (next.length : Int) := by
  induction h with
  | here => exact ha
  | on h1 h2 h3 ih => exact (hn.2 _ ih.1 ih.2).2 _ h2
theorem mem_fromL : y ∈ fromL next a but ↔ a ≠ but ∧ (0 ≤ y ∧ y < (next.length : Int)) ∧ Way next but a y := by
  unfold fromL
  split
  · rename_i h
    exact ⟨fun h => (by cases h), fun h2 => absurd h h2.1⟩
  · rename_i h
    rw [mem_numsL]
    exact ⟨fun h2 => ⟨h, h2.1, @of_decide_eq_true _ (_) h2.2⟩, fun h2 => ⟨h2.2.1, @decide_eq_true _ (_) h2.2.2⟩⟩
theorem mem_fromL' (hn : RowsOk next) (ha : 0 ≤ a ∧ a < (next.length : Int)) : y ∈ fromL next a but ↔ a ≠ but ∧ Way next but a y := by
  rw [mem_fromL]
  exact ⟨fun h => ⟨h.1, h.2.2⟩, fun h => ⟨h.1, way_in hn ha h.2, h.2⟩⟩
theorem rises_fromL (next : List (List Int)) (a but : Int) : Rises (fromL next a but) := by
  unfold fromL
  split
  · exact List.Pairwise.nil
  · exact rises_numsL _ _
end
end Go.Proofs.Ytghlbhijkhkgkaa.PA
end
section
/- The flow seat: l1Put of a number that is not there: the row that came in is only read. -/
namespace Go.Proofs.Ytghlbhijkhkgkaa.PA
open Go.RowKit Go.Proofs.YtghlbhijkhkgkaaW.PrintWords Go.Proofs.YtghlbhijkhkgkaaW.PrintLast Go.Proofs.YtghlbhijkhkgkaaW.PrintMore
set_option linter.unusedVariables false
/-! ### newPut: function 105 -/
def newPut.l0 : Nat → List Int → Int → Int → Option (List Int)
  | 0, _, _, _ => none
  | k + 1, x0, x1, x5 => if x5 < (x0.length : Int) then (if 0 ≤ x5 then (if (rd x0 x5) < x1 then (newPut.l0 k x0 x1 (wrap64 (x5 + 1))) else (if (rd x0 x5) = x1 then (some ([] : List Int)) else ((some (([] : List Int) : List Int)).bind fun y293 => (if x5 ≤ (x0.length : Int) then (if y293.length + (x0.take (x5 : Int).toNat).length < 17592186044416 then ((some (y293 ++ (x0.take (x5 : Int).toNat) : List Int)).bind fun y297 => (if y297.length < 17592186044416 then ((some (y297 ++ [x1] : List Int)).bind fun y300 => (if y300.length + (x0.drop (x5 : Int).toNat).length < 17592186044416 then (some (y300 ++ (x0.drop (x5 : Int).toNat))) else (none))) else (none))) else (none)) else (none))))) else (none)) else ((some (([] : List Int) : List Int)).bind fun y307 => (if 0 ≤ x5 then (if x5 ≤ (x0.length : Int) then (if y307.length + (x0.take (x5 : Int).toNat).length < 17592186044416 then ((some (y307 ++ (x0.take (x5 : Int).toNat) : List Int)).bind fun y311 => (if y311.length < 17592186044416 then ((some (y311 ++ [x1] : List Int)).bind fun y314 => (if y314.length + (x0.drop (x5 : Int).toNat).length < 17592186044416 then (some (y314 ++ (x0.drop (x5 : Int).toNat))) else (none))) else (none))) else (none)) else (none)) else (none)))
end Go.Proofs.Ytghlbhijkhkgkaa.PA
end
section
/- The flow seat: spec.l13From by hand. -/
namespace Go.Proofs.Ytghlbhijkhkgkaa.PA
open Go.RowKit Go.Proofs.YtghlbhijkhkgkaaW.PrintWords Go.Proofs.YtghlbhijkhkgkaaW.PrintLast Go.Proofs.YtghlbhijkhkgkaaW.PrintMore
set_option linter.unusedVariables false
/-- The walk of l13From under way. -/
structure FI (next : List (List Int)) (a but : Int) (out : List Int) : Prop where
  rises : Rises out
  at_a : a ∈ out
  way : ∀ y ∈ out, (0 ≤ y ∧ y < (next.length : Int)) ∧ Way next but a y
/-- The blocks of l go nowhere but into out. -/
def Shut (next : List (List Int)) (but : Int) (l out : List Int) : Prop := ∀ y ∈ l, ∀ c ∈ rd_L1 next y, c ≠ but → c ∈ out
section
variable {next : List (List Int)} {a but : Int} {out : List Int}
theorem FI.len (h : FI next a but out) : out.length ≤ next.length := by
  have := rises_len out 0 next.length h.rises fun y hy => (h.way y hy).1
  omega
theorem FI.done (h : FI next a but out) (hn : RowsOk next) (ha : 0 ≤ a ∧ a < (next.length : Int)) (hne : a ≠ but) (hs : Shut next but out out) : out = fromL next a but := by
  refine rises_ext _ _ h.rises (rises_fromL _ _ _) fun y => ?_
  rw [mem_fromL' hn ha]
  refine ⟨fun hy => ⟨hne, (h.way y hy).2⟩, fun hy => ?_⟩
  induction hy.2 with
  | here => exact h.at_a
  | on h1 h2 h3 ih => exact hs _ (ih ⟨hne, h1⟩) _ h2 h3
end
/-- l13From as a function of its arguments; none where it is not spoken of. -/
noncomputable def spec_l13From.f (a0_0 : Int) (l0_1 : List S87) (a1 : Int) (a2 : Int) : Option (List Int) := @ite _ (GoodRows l0_1 ∧ 0 ≤ a1 ∧ a1 < (l0_1.length : Int)) (Classical.propDecidable _) (some (fromL (nextL l0_1) a1 a2)) none
theorem spec_l13From.is {bs : List S87} (hg : GoodRows bs) (p a but : Int) (ha : 0 ≤ a ∧ a < (bs.length : Int)) : spec_l13From.f p bs a but = some (fromL (nextL bs) a but) := if_pos ⟨hg, ha⟩
end Go.Proofs.Ytghlbhijkhkgkaa.PA
end
