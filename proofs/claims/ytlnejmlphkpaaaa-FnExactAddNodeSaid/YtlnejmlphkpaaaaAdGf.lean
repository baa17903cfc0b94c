/- The graph seat: what the implementation asks of nodes and parts is what the reference asks. -/
import Derived.Test.YtlnejmlphkpaaaaAdGd
namespace Go.Proofs.Ytlnejmlphkpaaaa.PA
open Go.RowKit Go.Proofs.YtlnejmlphkpaaaaW.PrintWords Go.Proofs.YtlnejmlphkpaaaaW.PrintLast Go.Proofs.YtlnejmlphkpaaaaW.PrintMore
set_option linter.unusedVariables false
theorem isOp_f (a : Int) : impl_isOp.f a = some (within a 1 11) := by unfold impl_isOp.f; rw [within_f]; rfl
/-- A number of an op, as the implementation asks it. -/
def numI (op n : Int) : Bool := if op = 1 then true else if op = 2 then within n 0 3 else within op 1 11 && (n == 0)
theorem numOK_f (op n : Int) : impl_numOK.f op n = some (numI op n) := by
  unfold impl_numOK.f numI
  by_cases h1 : op = 1
  · rw [if_pos h1, if_pos h1]
  · rw [if_neg h1, if_neg h1]
    by_cases h2 : op = 2
    · rw [if_pos h2, if_pos h2]
      unfold within
      by_cases h5 : n ≥ 0
      · rw [if_pos h5, decide_eq_true (show (0 : Int) ≤ n from h5), Bool.true_and]
        congr 1
        exact decide_eq_decide.2 (by omega)
      · rw [if_neg h5, decide_eq_false (show ¬ (0 : Int) ≤ n by omega)]; rfl
    · rw [if_neg h2, if_neg h2, isOp_f, Option.bind_some]
      cases within op 1 11 with
      | true => rw [if_pos rfl, Bool.true_and]
      | false => rw [if_neg (by decide), Bool.false_and]
/-- How many kids, as the implementation counts them. -/
def arI (op : Int) : Int := if op = 1 ∨ op = 2 then 0 else if op = 3 then 1 else if op = 11 then 3 else 2
theorem arity_j (k : Nat) (op : Int) : impl_arity.f (k + 1) op = some (arI op) := by
  unfold impl_arity.f arI
  simp only [impl_arity.j0]
  by_cases h1 : op = 1
  · simp [h1]
  · by_cases h2 : op = 2
    · simp [h2]
    · have e2 : (op == 2) = false := beq_eq_false_iff_ne.mpr h2
      simp only [h1, h2, e2, if_false, or_self]
      by_cases h3 : op = 3
      · simp [h3]
      · by_cases h4 : op = 11
        · simp [h4]
        · simp [h3, h4]
/-- The same question. -/
theorem node_same (op n : Int) (l : List Int) : (numI op n && ((l.length : Int) == arI op)) = nodeB op n l := by
  unfold numI arI nodeB arE numB within
  by_cases h1 : op = 1
  · subst h1; simp
  · by_cases h2 : op = 2
    · subst h2; simp [Bool.and_comm]
    · simp only [h1, h2, if_false, or_self]
      by_cases h3 : op = 3
      · subst h3; simp [Bool.and_comm]
      · by_cases h4 : op = 11
        · subst h4; simp [Bool.and_comm]
        · simp only [h3, h4, if_false]
          by_cases h5 : 4 ≤ op ∧ op ≤ 10
          · have e1 : (decide (1 ≤ op) && decide (op ≤ 11)) = true := by simp; omega
            have e2 : (decide (4 ≤ op) && decide (op ≤ 10)) = true := by simp; omega
            rw [e1, e2, if_pos rfl]
            simp [Bool.and_comm]
          · have e1 : (decide (1 ≤ op) && decide (op ≤ 11)) = false := by
              rw [Bool.eq_false_iff]
              simp only [ne_eq, Bool.and_eq_true, decide_eq_true_eq, not_and]
              omega
            have e2 : (decide (4 ≤ op) && decide (op ≤ 10)) = false := by
              rw [Bool.eq_false_iff]
              simp only [ne_eq, Bool.and_eq_true, decide_eq_true_eq, not_and]
              omega
            rw [e1, e2, if_neg (by decide)]
            simp
theorem equal_f (a b : List Int) (hl : a.length ≤ 1000) : Ev (fun k => slices_Equal_int_int.f k a b) (decide (a = b)) := by
  by_cases h : a.length = b.length
  · rw [← same_iff h]
    refine Ev.congr (f := fun k => slices_Equal_int_int.l0 k a b (a.length : Int) ((0 : Nat) : Int)) (fun k => by unfold slices_Equal_int_int.f; rw [if_pos (by omega)]; rfl) (all_loop a.length _ (fun k i => slices_Equal_int_int.l0 k a b (a.length : Int) (i : Int)) (fun i hi => ⟨fun hp r hr => ?_, fun hp => ?_⟩) ?_ a.length 0 rfl (Nat.zero_le _))
    · refine Ev.step (fun k => ?_) hr
      simp only [slices_Equal_int_int.l0]
      rw [if_pos (by omega), if_pos (by omega), if_pos (by omega), if_pos (by omega), if_pos (eq_of_beq hp), wnext i a.length hi (by omega)]
    · refine Ev.step (f := fun _ => some false) (fun k => ?_) (Ev.now _)
      simp only [slices_Equal_int_int.l0]
      rw [if_pos (by omega), if_pos (by omega), if_pos (by omega), if_pos (by omega), if_neg (beq_eq_false_iff_ne.mp hp)]
    · refine Ev.step (f := fun _ => some true) (fun k => ?_) (Ev.now _)
      simp only [slices_Equal_int_int.l0]
      rw [if_neg (by omega)]
  · rw [decide_eq_false (fun e => h (by rw [e]))]
    exact Ev.congr (fun k => by unfold slices_Equal_int_int.f; rw [if_neg (by omega)]) (Ev.now _)
theorem ialike_f (a b : S36) (hl : a.f2.length ≤ 1000) : Ev (fun k => impl_alike.f k a.f0 a.f1 a.f2 b.f0 b.f1 b.f2) (alikeB a b) := by
  unfold alikeB
  by_cases h1 : a.f0 = b.f0
  · by_cases h2 : a.f1 = b.f1
    · rw [beq_iff_eq.mpr h1, beq_iff_eq.mpr h2, Bool.true_and, Bool.true_and]
      exact Ev.congr (fun k => by unfold impl_alike.f; rw [if_pos h1, if_pos h2]) (Ev.bind (f := fun _ t => some t) (equal_f a.f2 b.f2 hl) (Ev.now _))
    · rw [beq_eq_false_iff_ne.mpr h2, Bool.false_and, Bool.and_false]
      exact Ev.congr (fun k => by unfold impl_alike.f; rw [if_pos h1, if_neg h2]) (Ev.now _)
  · rw [beq_eq_false_iff_ne.mpr h1, Bool.false_and]
    exact Ev.congr (fun k => by unfold impl_alike.f; rw [if_neg h1]) (Ev.now _)
/-- Parents: none greater than its number. -/
def parB (l : List Int) : Bool := allFrom l.length (fun j => within (rd l (j : Int)) 0 (j : Int)) 0 && decide (l.length ≤ 200)
theorem parents_f (l : List Int) (hl : l.length ≤ 1000) : Ev (fun k => impl_parentsOK.f k l) (parB l) := by
  unfold parB
  have step : ∀ i, i < l.length → ∀ r, within (rd l (i : Int)) 0 (i : Int) = true → Ev (fun k => impl_parentsOK.l0 k l l (l.length : Int) ((i + 1 : Nat) : Int)) r → Ev (fun k => impl_parentsOK.l0 k l l (l.length : Int) (i : Int)) r := fun i hi r hp hr => by
    refine Ev.step (fun k => ?_) hr
    simp only [impl_parentsOK.l0]
    rw [if_pos (by omega), if_pos (by omega), if_pos (by omega), within_f, hp, Option.bind_some, if_pos rfl, wnext i l.length hi (by omega)]
  cases ha : allFrom l.length (fun j => within (rd l (j : Int)) 0 (j : Int)) 0 with
  | true =>
    rw [Bool.true_and]
    refine Ev.congr (f := fun k => impl_parentsOK.l0 k l l (l.length : Int) ((0 : Nat) : Int)) (fun k => rfl) (loop_true (g := fun k i => impl_parentsOK.l0 k l l (l.length : Int) (i : Int)) (fun i hi hp hr => step i hi _ hp hr) l.length 0 rfl (Nat.zero_le _) ha (Ev.step (f := fun _ => some (decide (l.length ≤ 200))) (fun k => ?_) (Ev.now _)))
    simp only [impl_parentsOK.l0]
    rw [if_neg (by omega)]
    congr 1
    exact decide_eq_decide.2 (by omega)
  | false =>
    rw [Bool.false_and]
    refine Ev.congr (f := fun k => impl_parentsOK.l0 k l l (l.length : Int) ((0 : Nat) : Int)) (fun k => rfl) (loop_false (g := fun k i => impl_parentsOK.l0 k l l (l.length : Int) (i : Int)) (fun i hi hp hr => step i hi _ hp hr) (fun i hi hp => ?_) l.length 0 rfl (Nat.zero_le _) ha)
    refine Ev.step (f := fun _ => some false) (fun k => ?_) (Ev.now _)
    simp only [impl_parentsOK.l0]
    rw [if_pos (by omega), if_pos (by omega), if_pos (by omega), within_f, hp, Option.bind_some, if_neg (by decide)]
/-- Parts, as the implementation asks it: parents, and none that isn't its own root. -/
theorem parts_same (l : List Int) : partsB l = (parB l && l.all fun p => rd l p == p) := by
  refine Bool.eq_iff_iff.2 ?_
  unfold partsB parB
  simp only [Bool.and_eq_true, decide_eq_true_eq, allFrom_iff, List.all_eq_true, beq_iff_eq]
  constructor
  · rintro ⟨h1, h2⟩
    refine ⟨⟨fun j hj => (h2 j hj).1, h1⟩, fun p hp => ?_⟩
    obtain ⟨j, hj, rfl⟩ := List.getElem_of_mem hp
    have := (h2 j hj).2
    rw [rd_at l j hj] at this
    exact this
  · rintro ⟨⟨h1, h2⟩, h3⟩
    refine ⟨h2, fun j hj => ⟨h1 j hj, ?_⟩⟩
    rw [rd_at l j hj]
    exact h3 _ (List.getElem_mem hj)
end Go.Proofs.Ytlnejmlphkpaaaa.PA
