/- Parts of the walk. -/
import Derived.Test.YtghlbhijkhkgkaaAb2PAx0
import Derived.Test.YtghlbhijkhkgkaaAb2PAx1
import Derived.Test.YtghlbhijkhkgkaaAb2PAz1
import Derived.Test.YtghlbhijkhkgkaaAb2Mb
section
/- Printed by the kit's print over surrogate texts, turned by this session -/
namespace Go.Proofs.Ytghlbhijkhkgkaa.PA
open Go.RowKit Go.Proofs.YtghlbhijkhkgkaaW.PrintWords Go.Proofs.YtghlbhijkhkgkaaW.PrintLast Go.Proofs.YtghlbhijkhkgkaaW.PrintMore
attribute [local go_sem] max2_int min2_int max_two min_two max_three min_three max_four min_four   -- for this text's walks alone
set_option linter.unusedVariables false
set_option linter.unusedSimpArgs false

/-! ### spec_l13Ahead: function 68 -/
def spec_l13Ahead.l0 : Nat → Int → List Int → Int → Int → Int → List (S87) → Option (List Int)
  | 0, _, _, _, _, _, _ => none
  | k + 1, x1, x5, x9, x10, x504000, x504001 => if x10 < x9 then ((spec_l13Next.f k x504000 x504001 x10).bind fun t504 => ((spec_l1Has.f k t504 x1).bind fun t507 => (if t507 = true then (if x5.length < 17592186044416 then (spec_l13Ahead.l0 k x1 (x5 ++ [x10]) x9 (wrap64 (x10 + 1)) x504000 x504001) else (none)) else (spec_l13Ahead.l0 k x1 x5 x9 (wrap64 (x10 + 1)) x504000 x504001)))) else (some x5)
/-! ### spec_AheadOf: function 29 -/
/-! ### slices_Index_int_int: function 110 -/
def slices_Index_int_int.l0 : Nat → List Int → Int → Int → Int → Option (Int)
  | 0, _, _, _, _ => none
  | k + 1, x0, x1, x7, x8 => if x8 < x7 then (if 0 ≤ x8 then (if x8 < (x0.length : Int) then (if x1 = (rd x0 x8) then (some x8) else (slices_Index_int_int.l0 k x0 x1 x7 (wrap64 (x8 + 1)))) else (none)) else (none)) else (some (-1))
def slices_Index_int_int.f (k : Nat) (l0 : List Int) (a1 : Int) : Option (Int) := slices_Index_int_int.l0 k l0 a1 (l0.length : Int) 0
/-! ### slices_Contains_int_int: function 69 -/
def slices_Contains_int_int.f (k : Nat) (l0 : List Int) (a1 : Int) : Option (Bool) := (slices_Index_int_int.f k l0 a1).bind fun t517 => (some (decide (t517 ≥ 0)))


end Go.Proofs.Ytghlbhijkhkgkaa.PA
end
section
/- The flow seat: the reference's AheadOf in plain words. -/
namespace Go.Proofs.Ytghlbhijkhkgkaa.PA
open Go.RowKit Go.Proofs.YtghlbhijkhkgkaaW.PrintWords Go.Proofs.YtghlbhijkhkgkaaW.PrintLast Go.Proofs.YtghlbhijkhkgkaaW.PrintMore
set_option linter.unusedVariables false
theorem rd_at (l : List Int) (i : Nat) (h : i < l.length) : rd l (i : Int) = l[i] := by simp [rd, List.getD_eq_getElem?_getD, List.getElem?_eq_getElem h]
theorem put_in (l : List Int) (x : Int) (i : Nat) : (∀ y, y ∈ ([] ++ l.take i ++ [x]) ++ l.drop i ↔ y ∈ l ∨ y = x) := by
  intro y
  conv => rhs; rw [← List.take_append_drop i l]
  simp only [List.mem_append, List.nil_append, List.mem_singleton]
  constructor
  · rintro ((h | h) | h)
    · exact .inl (.inl h)
    · exact .inr h
    · exact .inl (.inr h)
  · rintro ((h | h) | h)
    · exact .inl (.inl h)
    · exact .inr h
    · exact .inl (.inr h)
theorem put_l0 (l : List Int) (x : Int) (hl : l.length ≤ 1000) : ∀ (d i : Nat), l.length - i = d → i ≤ l.length →
    ∃ r, Ev (fun k => spec_l1Put.l0 k l x (i : Int)) r ∧ (∀ y, y ∈ r ↔ y ∈ l ∨ y = x) ∧ r.length ≤ l.length + 1
  | 0, i, hd, hi => by
    refine ⟨([] ++ l.take i ++ [x]) ++ l.drop i, Ev.step (f := fun _ => some (([] ++ l.take i ++ [x]) ++ l.drop i)) (fun k => ?_) (Ev.now _), put_in l x i, by simp; omega⟩
    simp only [spec_l1Put.l0, Option.bind_some, Int.toNat_natCast]
    rw [if_neg (by omega), if_pos (by omega), if_pos (by omega), if_pos (by simp; omega), if_pos (by simp; omega), if_pos (by simp; omega)]
  | d + 1, i, hd, hi => by
    have h : i < l.length := by omega
    by_cases h1 : l[i] < x
    · obtain ⟨r, e, h2, h3⟩ := put_l0 l x hl d (i + 1) (by omega) (by omega)
      refine ⟨r, Ev.step (fun k => ?_) e, h2, h3⟩
      simp only [spec_l1Put.l0]
      rw [if_pos (by omega), if_pos (by omega), rd_at l i h, if_pos h1, wnext i l.length h (by unfold Max; omega)]
    · by_cases h2 : l[i] = x
      · refine ⟨l, Ev.step (f := fun _ => some l) (fun k => ?_) (Ev.now _), fun y => ⟨fun hy => .inl hy, fun hy => ?_⟩, by omega⟩
        · simp only [spec_l1Put.l0]
          rw [if_pos (by omega), if_pos (by omega), rd_at l i h, if_neg h1, if_pos h2]
        · rcases hy with hy | rfl
          · exact hy
          · rw [← h2]; exact List.getElem_mem h
      · refine ⟨([] ++ l.take i ++ [x]) ++ l.drop i, Ev.step (f := fun _ => some (([] ++ l.take i ++ [x]) ++ l.drop i)) (fun k => ?_) (Ev.now _), put_in l x i, by simp; omega⟩
        simp only [spec_l1Put.l0, Option.bind_some, Int.toNat_natCast]
        rw [if_pos (by omega), if_pos (by omega), rd_at l i h, if_neg h1, if_neg h2, if_pos (by omega), if_pos (by simp; omega), if_pos (by simp; omega), if_pos (by simp; omega)]
theorem has_l0 (v : Int) (l : List Int) (hl : l.length ≤ 1000) : ∀ (d i : Nat), l.length - i = d → Ev (fun k => spec_l1Has.l0 k v l (l.length : Int) (i : Int)) (decide (v ∈ l.drop i))
  | 0, i, hd => Ev.step (f := fun _ => some (decide (v ∈ l.drop i))) (fun k => by simp only [spec_l1Has.l0]; rw [if_neg (by omega), List.drop_of_length_le (by omega)]; simp) (Ev.now _)
  | d + 1, i, hd => by
    have h : i < l.length := by omega
    have hr := rd_at l i h
    rw [List.drop_eq_getElem_cons h]
    by_cases e : l[i] = v
    · refine Ev.step (f := fun _ => some (decide (v ∈ l[i] :: l.drop (i + 1)))) (fun k => ?_) (Ev.now _)
      simp only [spec_l1Has.l0]
      rw [if_pos (by omega), if_pos (by omega), if_pos (by omega), hr, if_pos e]
      simp [e]
    · have e2 : decide (v ∈ l[i] :: l.drop (i + 1)) = decide (v ∈ l.drop (i + 1)) := by
        rw [decide_eq_decide, List.mem_cons]
        exact ⟨fun h => h.resolve_left (fun h => e h.symm), .inr⟩
      rw [e2]
      refine Ev.step (fun k => ?_) (has_l0 v l hl d (i + 1) (by omega))
      simp only [spec_l1Has.l0]
      rw [if_pos (by omega), if_pos (by omega), if_pos (by omega), hr, if_neg e, wnext i l.length h (by unfold Max; omega)]
theorem l13Is_f (p : Int) (bs : List S87) (v : Int) : Ev (fun k : Nat => spec_l13Is.f p bs v) (goodB p bs && within v 0 ((bs.length : Int) - 1)) := by
  cases hg : goodB p bs with
  | false => exact Ev.congr (fun k => by unfold spec_l13Is.f spec_GoodFunc.f; rw [hg]; rfl) (Ev.now _)
  | true =>
    obtain ⟨hp, hn, hf, ht⟩ := good_iff hg
    refine Ev.congr (f := fun k => (spec_l1In.f v 0 (wrap64 ((bs.length : Int) - 1))).bind fun t2 => some t2) (fun k => by unfold spec_l13Is.f spec_GoodFunc.f; rw [hg]; rfl) (Ev.congr (fun k => ?_) (Ev.now _))
    rw [wrap_small _ (by omega), l1In_f]
    rfl
end Go.Proofs.Ytghlbhijkhkgkaa.PA
end
section
/- The flow seat: hasBlock, slices.Contains and the rows of next, by hand. -/
namespace Go.Proofs.Ytghlbhijkhkgkaa.PA
open Go.RowKit Go.Proofs.YtghlbhijkhkgkaaW.PrintWords Go.Proofs.YtghlbhijkhkgkaaW.PrintLast Go.Proofs.YtghlbhijkhkgkaaW.PrintMore
set_option linter.unusedVariables false
theorem hasBlock_any {w : World} {g : Nat} {p : Int} {A : Option Addr} {bs : List S87} {c : Nat} {fs bl : List Int} {tot : Int} (v : Int) (hv : View w g p A bs c fs bl tot) (hn : bs.length ≤ 8) :
    Calls Try.prog 63 #[.pointer (some ⟨g, 0, none⟩), .int .i64 v] w fun e w' => e = .returned (.bool (within v 0 ((bs.length : Int) - 1))) ∧ w' = w := by
  have y1 := hv.cell1
  have hw1 : IntKind.i64.wrap ((bs.length : Int) - 1) = (bs.length : Int) - 1 := IntWalk.i64_in _ (by omega)
  clear hv
  go_enter Try.func63, Try.ntmps63
  go_wp2_with (go_at_call 100; refine (within_any _ _ _ _).mono ?_; rintro e w' ⟨rfl, rfl⟩)
  go_ret
  exact ⟨rfl, rfl⟩
theorem nextL_at (bs : List S87) (j : Nat) (hj : j < bs.length) : (nextL bs).getD j [] = toL (rd_T87 bs (j : Int)) := by
  rw [rd_nat bs j hj, nextL, List.getD_eq_getElem?_getD, List.getElem?_map, List.getElem?_eq_getElem hj]
  rfl
end Go.Proofs.Ytghlbhijkhkgkaa.PA
end
section
/- The flow seat: rising lists: what l1Put keeps, and when two of them are one. -/
namespace Go.Proofs.Ytghlbhijkhkgkaa.PA
open Go.RowKit Go.Proofs.YtghlbhijkhkgkaaW.PrintWords Go.Proofs.YtghlbhijkhkgkaaW.PrintLast Go.Proofs.YtghlbhijkhkgkaaW.PrintMore
set_option linter.unusedVariables false
/-- A list that rises. -/
def Rises (l : List Int) : Prop := l.Pairwise (· < ·)
theorem rises_put (l : List Int) (x : Int) (i : Nat) (hs : Rises l) (h1 : ∀ y ∈ l.take i, y < x) (h2 : ∀ y ∈ l.drop i, x < y) : Rises (([] ++ l.take i ++ [x]) ++ l.drop i) := by
  have hs' : List.Pairwise (· < ·) l := hs
  rw [← List.take_append_drop i l, List.pairwise_append] at hs'
  obtain ⟨a, b, c⟩ := hs'
  unfold Rises
  rw [List.nil_append, List.append_assoc, List.pairwise_append]
  refine ⟨a, ?_, fun y hy z hz => ?_⟩
  · rw [List.singleton_append, List.pairwise_cons]; exact ⟨h2, b⟩
  · rw [List.singleton_append, List.mem_cons] at hz
    rcases hz with rfl | hz
    · exact h1 y hy
    · exact c y hy z hz
theorem rises_ext : ∀ (l1 l2 : List Int), Rises l1 → Rises l2 → (∀ y, y ∈ l1 ↔ y ∈ l2) → l1 = l2
  | [], [], _, _, _ => rfl
  | [], b :: l2, _, _, h => absurd ((h b).2 List.mem_cons_self) (by simp)
  | a :: l1, [], _, _, h => absurd ((h a).1 List.mem_cons_self) (by simp)
  | a :: l1, b :: l2, h1, h2, h => by
    obtain ⟨a1, a2⟩ := List.pairwise_cons.1 h1
    obtain ⟨b1, b2⟩ := List.pairwise_cons.1 h2
    have e : a = b := by
      rcases List.mem_cons.1 ((h a).1 List.mem_cons_self) with e | e
      · exact e
      · rcases List.mem_cons.1 ((h b).2 List.mem_cons_self) with e2 | e2
        · exact e2.symm
        · have := b1 a e; have := a1 b e2; omega
    subst e
    rw [rises_ext l1 l2 a2 b2 fun y => ⟨fun hy => ?_, fun hy => ?_⟩]
    · rcases List.mem_cons.1 ((h y).1 (List.mem_cons_of_mem _ hy)) with e | e
      · have := a1 y hy; omega
      · exact e
    · rcases List.mem_cons.1 ((h y).2 (List.mem_cons_of_mem _ hy)) with e | e
      · have := b1 y hy; omega
      · exact e
theorem put_l0s (l : List Int) (x : Int) (hl : l.length ≤ 1000) (hs : Rises l) : ∀ (d i : Nat), l.length - i = d → i ≤ l.length → (∀ y ∈ l.take i, y < x) →
    ∃ r, Ev (fun k => spec_l1Put.l0 k l x (i : Int)) r ∧ (∀ y, y ∈ r ↔ y ∈ l ∨ y = x) ∧ r.length ≤ l.length + 1 ∧ Rises r
  | 0, i, hd, hi, hb => by
    refine ⟨([] ++ l.take i ++ [x]) ++ l.drop i, Ev.step (f := fun _ => some (([] ++ l.take i ++ [x]) ++ l.drop i)) (fun k => ?_) (Ev.now _), put_in l x i, by simp; omega, rises_put l x i hs hb (fun y hy => by rw [List.drop_of_length_le (by omega)] at hy; cases hy)⟩
    simp only [spec_l1Put.l0, Option.bind_some, Int.toNat_natCast]
    rw [if_neg (by omega), if_pos (by omega), if_pos (by omega), if_pos (by simp; omega), if_pos (by simp; omega), if_pos (by simp; omega)]
  | d + 1, i, hd, hi, hb => by
    have h : i < l.length := by omega
    by_cases h1 : l[i] < x
    · obtain ⟨r, e, h2, h3, h4⟩ := put_l0s l x hl hs d (i + 1) (by omega) (by omega) (fun y hy => by
        rw [List.take_succ_eq_append_getElem h, List.mem_append, List.mem_singleton] at hy
        rcases hy with hy | rfl
        · exact hb y hy
        · exact h1)
      refine ⟨r, Ev.step (fun k => ?_) e, h2, h3, h4⟩
      simp only [spec_l1Put.l0]
      rw [if_pos (by omega), if_pos (by omega), rd_at l i h, if_pos h1, wnext i l.length h (by unfold Max; omega)]
    · by_cases h2 : l[i] = x
      · refine ⟨l, Ev.step (f := fun _ => some l) (fun k => ?_) (Ev.now _), fun y => ⟨fun hy => .inl hy, fun hy => ?_⟩, by omega, hs⟩
        · simp only [spec_l1Put.l0]
          rw [if_pos (by omega), if_pos (by omega), rd_at l i h, if_neg h1, if_pos h2]
        · rcases hy with hy | rfl
          · exact hy
          · rw [← h2]; exact List.getElem_mem h
      · refine ⟨([] ++ l.take i ++ [x]) ++ l.drop i, Ev.step (f := fun _ => some (([] ++ l.take i ++ [x]) ++ l.drop i)) (fun k => ?_) (Ev.now _), put_in l x i, by simp; omega, rises_put l x i hs hb (fun y hy => ?_)⟩
        · simp only [spec_l1Put.l0, Option.bind_some, Int.toNat_natCast]
          rw [if_pos (by omega), if_pos (by omega), rd_at l i h, if_neg h1, if_neg h2, if_pos (by omega), if_pos (by simp; omega), if_pos (by simp; omega), if_pos (by simp; omega)]
        · have hp : List.Pairwise (· < ·) (l.drop i) := List.Pairwise.drop hs
          rw [List.drop_eq_getElem_cons h] at hp hy
          obtain ⟨p1, _⟩ := List.pairwise_cons.1 hp
          rcases List.mem_cons.1 hy with rfl | hy
          · omega
          · have := p1 y hy; omega
theorem nexts_l0s (xs : List S109) (hx : xs.length ≤ 2) : ∀ (d i : Nat) (acc : List Int), xs.length - i = d → i ≤ xs.length → acc.length ≤ i → Rises acc →
    ∃ r, Ev (fun k => spec_l13Next.l0 k acc xs (xs.length : Int) (i : Int)) r ∧ (∀ y, y ∈ r ↔ y ∈ acc ∨ y ∈ (xs.drop i).map (·.f0)) ∧ r.length ≤ 2 ∧ Rises r
  | 0, i, acc, hd, hi, ha, hs => ⟨acc, Ev.step (f := fun _ => some acc) (fun k => by simp only [spec_l13Next.l0]; rw [if_neg (by omega)]) (Ev.now _), fun y => by rw [List.drop_of_length_le (by omega)]; simp, by omega, hs⟩
  | d + 1, i, acc, hd, hi, ha, hs => by
    have h : i < xs.length := by omega
    obtain ⟨r1, e1, m1, l1, s1⟩ := put_l0s acc (rd_T109 xs (i : Int)).f0 (by omega) hs acc.length 0 rfl (Nat.zero_le _) (fun y hy => by simp at hy)
    obtain ⟨r2, e2, m2, l2, s2⟩ := nexts_l0s xs hx d (i + 1) r1 (by omega) (by omega) (by omega) s1
    refine ⟨r2, Ev.step (f := fun k => (spec_l1Put.f k acc (rd_T109 xs (i : Int)).f0).bind fun t => spec_l13Next.l0 k t xs (xs.length : Int) ((i + 1 : Nat) : Int)) (fun k => ?_) (Ev.bind e1 e2), fun y => ?_, l2, s2⟩
    · simp only [spec_l13Next.l0]
      rw [if_pos (by omega), if_pos (by omega), if_pos (by omega), wnext i xs.length h (by unfold Max; omega)]
    · have e : rd_T109 xs (i : Int) = xs[i] := by simp [rd_T109, List.getD_eq_getElem?_getD, List.getElem?_eq_getElem h]
      rw [m2 y, m1 y, List.drop_eq_getElem_cons h, List.map_cons, List.mem_cons, e]
      constructor
      · rintro ((h | h) | h)
        · exact .inl h
        · exact .inr (.inl h)
        · exact .inr (.inr h)
      · rintro (h | h | h)
        · exact .inl (.inl h)
        · exact .inl (.inr h)
        · exact .inr h
theorem nexts_fs (p : Int) (bs : List S87) (i : Nat) (h : i < bs.length) (hj : (rd_T87 bs (i : Int)).f4.length ≤ 2) : ∃ r, Ev (fun k => spec_l13Next.f k p bs (i : Int)) r ∧ (∀ y, y ∈ r ↔ y ∈ toL (rd_T87 bs (i : Int))) ∧ r.length ≤ 2 ∧ Rises r := by
  obtain ⟨r, e, m, l, s⟩ := nexts_l0s (rd_T87 bs (i : Int)).f4 hj _ 0 [] rfl (Nat.zero_le _) (Nat.le_refl _) List.Pairwise.nil
  refine ⟨r, Ev.congr (fun k => ?_) e, fun y => by rw [m y]; simp [toL], l, s⟩
  unfold spec_l13Next.f
  rw [if_pos (by omega), if_pos (by omega)]
  rfl
end Go.Proofs.Ytghlbhijkhkgkaa.PA
end
