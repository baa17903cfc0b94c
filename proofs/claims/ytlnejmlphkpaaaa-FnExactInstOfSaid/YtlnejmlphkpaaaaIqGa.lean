/- The graph seat: the reference's GoodGraph in plain words. -/
import Derived.Test.YtlnejmlphkpaaaaIqPAx5
namespace Go.Proofs.Ytlnejmlphkpaaaa.PA
open Go.RowKit Go.Proofs.YtlnejmlphkpaaaaW.PrintWords Go.Proofs.YtlnejmlphkpaaaaW.PrintLast Go.Proofs.YtlnejmlphkpaaaaW.PrintMore
set_option linter.unusedVariables false
theorem wnext (i n : Nat) (h : i < n) (hn : n ≤ 1000000) : wrap64 ((i : Int) + 1) = ((i + 1 : Nat) : Int) := by unfold wrap64; omega
theorem wrap_small (x : Int) (h : -1000000 ≤ x ∧ x ≤ 1000000) : wrap64 x = x := by unfold wrap64; omega
theorem rd_at (l : List Int) (i : Nat) (h : i < l.length) : rd l (i : Int) = l[i] := by simp [rd, List.getD_eq_getElem?_getD, List.getElem?_eq_getElem h]
theorem rdN_at (l : List S36) (i : Nat) (h : i < l.length) : rd_T36 l (i : Int) = l[i] := by simp [rd_T36, List.getD_eq_getElem?_getD, List.getElem?_eq_getElem h]
def within (n a b : Int) : Bool := decide (a ≤ n) && decide (n ≤ b)
theorem l1In_f (n a b : Int) : spec_l1In.f n a b = some (within n a b) := by
 unfold spec_l1In.f within
 by_cases h : a ≤ n
 ·rw [if_pos (by omega), decide_eq_true h]; simp
 ·rw [if_neg (by omega), decide_eq_false h]; simp
theorem within_f (n a b : Int) : impl_within.f n a b = some (within n a b) := by
 unfold impl_within.f within
 by_cases h : a ≤ n
 ·rw [if_pos (by omega), decide_eq_true h]; simp
 ·rw [if_neg (by omega), decide_eq_false h]; simp
def allFrom (n : Nat) (p : Nat → Bool) (i : Nat) : Bool := decide (∀ j, j < n → i ≤ j → p j = true)
theorem allFrom_step {n i : Nat} {p : Nat → Bool} (h : i < n) (hp : p i = true) : allFrom n p i = allFrom n p (i + 1) := by
 unfold allFrom
 refine decide_eq_decide.2 ⟨fun h1 j hj hi => h1 j hj (by omega), fun h1 j hj hi => ?_⟩
 by_cases e : j = i
 ·subst e; exact hp
 ·exact h1 j hj (by omega)
theorem allFrom_stop {n i : Nat} {p : Nat → Bool} (h : i < n) (hp : p i = false) : allFrom n p i = false := by
 unfold allFrom
 exact decide_eq_false fun h1 => by have := h1 i h (Nat.le_refl _); rw [hp] at this; cases this
theorem allFrom_end {n : Nat} {p : Nat → Bool} : allFrom n p n = true := decide_eq_true fun j h1 h2 => by omega
theorem all_loop (n : Nat) (p : Nat → Bool) (g : Nat → Nat → Option Bool) (hs : ∀ i, i < n → (p i = true → ∀ r, Ev (fun k => g k (i + 1)) r → Ev (fun k => g k i) r) ∧ (p i = false → Ev (fun k => g k i) false)) (he : Ev (fun k => g k n) true) :
  ∀ (d i : Nat), n - i = d → i ≤ n → Ev (fun k => g k i) (allFrom n p i)
 | 0, i, hd, hi => by
  obtain rfl : i = n := by omega
  rw [allFrom_end]
  exact he
 | d + 1, i, hd, hi => by
  have h : i < n := by omega
  cases hp : p i with
  | true => rw [allFrom_step h hp]; exact (hs i h).1 hp _ (all_loop n p g hs he d (i + 1) (by omega) (by omega))
  | false => rw [allFrom_stop h hp]; exact (hs i h).2 hp
def arE (op : Int) : Int := if op = 1 ∨ op = 2 then 0 else if op = 3 then 1 else if op = 11 then 3 else if within op 4 10 = true then 2 else -1
def numB (op n : Int) : Bool := if op = 1 then true else if op = 2 then within n 0 3 else n == 0
def nodeB (op n : Int) (l : List Int) : Bool := (decide (0 ≤ arE op) && ((l.length : Int) == arE op)) && numB op n
theorem arE_j (k : Nat) (op : Int) : spec_l1Arity.f (k + 1) op = some (arE op) := by
 unfold spec_l1Arity.f arE
 simp only [spec_l1Arity.j0, l1In_f, Option.bind_some]
 by_cases h1 : op = 1
 ·simp [h1]
 ·by_cases h2 : op = 2
  ·simp [h2]
  ·have e2 : (op == 2) = false := beq_eq_false_iff_ne.mpr h2
   simp only [h1, h2, e2, if_false, or_self]
   by_cases h3 : op = 3
   ·simp [h3]
   ·by_cases h4 : op = 11
    ·simp [h4]
    ·simp only [h3, h4, if_false]
     cases within op 4 10 <;> rfl
theorem node_f (op n : Int) (l : List Int) : Ev (fun k => spec_l6Node.f k op n l) (nodeB op n l) := by
 refine Ev.step (f := fun k => some (nodeB op n l)) (fun k => ?_) (Ev.now _)
 unfold spec_l6Node.f
 rw [arE_j, Option.bind_some]
 simp only [spec_l6Node.j0]
 unfold nodeB
 by_cases h : arE op < 0
 ·rw [if_pos h, decide_eq_false (show ¬ (0 ≤ arE op) by omega)]; simp
 ·rw [if_neg h, decide_eq_true (show 0 ≤ arE op by omega), Bool.true_and]
  by_cases h2 : (l.length : Int) = arE op
  ·have e : ((l.length : Int) != arE op) = false := bne_eq_false_iff_eq.mpr h2
   rw [e, if_neg (by decide), beq_iff_eq.mpr h2, Bool.true_and]
   unfold numB within
   by_cases h3 : op = 1
   ·rw [if_pos h3, if_pos h3]
   ·rw [if_neg h3, if_neg h3]
    by_cases h4 : op = 2
    ·rw [if_pos h4, if_pos h4]
     by_cases h5 : n ≥ 0
     ·rw [if_pos h5, decide_eq_true (show (0 : Int) ≤ n from h5), Bool.true_and]
      congr 1
      exact decide_eq_decide.2 (by omega)
     ·rw [if_neg h5, decide_eq_false (show ¬ (0 : Int) ≤ n by omega)]; rfl
    ·rw [if_neg h4, if_neg h4]
  ·have e : ((l.length : Int) != arE op) = true := bne_iff_ne.mpr h2
   rw [e, beq_eq_false_iff_ne.mpr h2]
   rfl
theorem arE_le (op : Int) : arE op ≤ 3 := by
  unfold arE
  repeat' split
  all_goals omega
theorem node_kids {op n : Int} {l : List Int} (h : nodeB op n l = true) : l.length ≤ 3 := by
 simp only [nodeB, Bool.and_eq_true, beq_iff_eq] at h
 have := arE_le op
 omega
def allK (l : List Int) (a b : Int) : Bool := allFrom l.length (fun j => within (rd l (j : Int)) a b) 0
theorem allK_iff {l : List Int} {a b : Int} : allK l a b = true ↔ ∀ y ∈ l, a ≤ y ∧ y ≤ b := by
 unfold allK allFrom
 rw [decide_eq_true_iff]
 constructor
 ·intro h y hy
  obtain ⟨j, hj, rfl⟩ := List.getElem_of_mem hy
  have := h j hj (Nat.zero_le _)
  dsimp only at this
  rw [rd_at l j hj] at this
  simpa [within] using this
 ·intro h j hj _
  dsimp only
  rw [rd_at l j hj]
  have := h _ (List.getElem_mem hj)
  simpa [within] using this
theorem allK_f (l : List Int) (a b : Int) (hl : l.length ≤ 1000) : Ev (fun k => spec_l1All.f k l a b) (allK l a b) := by
 refine Ev.congr (f := fun k => spec_l1All.l0 k a b l (l.length : Int) ((0 : Nat) : Int)) (fun k => rfl) (all_loop l.length (fun j => within (rd l (j : Int)) a b) (fun k i => spec_l1All.l0 k a b l (l.length : Int) (i : Int)) (fun i hi => ⟨fun hp r hr => ?_, fun hp => ?_⟩) ?_ l.length 0 rfl (Nat.zero_le _))
 ·refine Ev.step (fun k => ?_) hr
  simp only [spec_l1All.l0]
  rw [if_pos (by omega), if_pos (by omega), if_pos (by omega), l1In_f, hp, Option.bind_some, if_pos rfl, wnext i l.length hi (by omega)]
 ·refine Ev.step (f := fun _ => some false) (fun k => ?_) (Ev.now _)
  simp only [spec_l1All.l0]
  rw [if_pos (by omega), if_pos (by omega), if_pos (by omega), l1In_f, hp, Option.bind_some, if_neg (by decide)]
 ·refine Ev.step (f := fun _ => some true) (fun k => ?_) (Ev.now _)
  simp only [spec_l1All.l0]
  rw [if_neg (by omega)]
def nodesB (l : List S36) : Bool := decide (l.length ≤ 120) && allFrom l.length (fun j => nodeB (rd_T36 l (j : Int)).f0 (rd_T36 l (j : Int)).f1 (rd_T36 l (j : Int)).f2 && allK (rd_T36 l (j : Int)).f2 0 ((j : Int) - 1)) 0
theorem nodes_f (l : List S36) : Ev (fun k => spec_l6Nodes.f k l) (nodesB l) := by
 unfold nodesB
 by_cases hl : l.length ≤ 120
 ·rw [decide_eq_true hl, Bool.true_and]
  refine Ev.congr (f := fun k => spec_l6Nodes.l0 k l (l.length : Int) ((0 : Nat) : Int)) (fun k => by unfold spec_l6Nodes.f; rw [if_neg (by omega)]; rfl) (all_loop l.length _ (fun k i => spec_l6Nodes.l0 k l (l.length : Int) (i : Int)) (fun i hi => ⟨fun hp r hr => ?_, fun hp => ?_⟩) ?_ l.length 0 rfl (Nat.zero_le _))
  ·rw [Bool.and_eq_true] at hp
   refine Ev.step (f := fun k => (spec_l6Node.f k (rd_T36 l (i : Int)).f0 (rd_T36 l (i : Int)).f1 (rd_T36 l (i : Int)).f2).bind fun t => if t = true then (spec_l1All.f k (rd_T36 l (i : Int)).f2 0 ((i : Int) - 1)).bind fun t2 => (if t2 = true then spec_l6Nodes.l0 k l (l.length : Int) ((i + 1 : Nat) : Int) else some false) else some false) (fun k => ?_) (Ev.bind (node_f _ _ _) (Ev.congr (fun k => by rw [hp.1, if_pos rfl]) (Ev.bind (allK_f _ _ _ (by have := node_kids hp.1; omega)) (Ev.congr (fun k => by rw [hp.2, if_pos rfl]) hr))))
   simp only [spec_l6Nodes.l0]
   rw [if_pos (by omega), if_pos (by omega), if_pos (by omega), wnext i l.length hi (by omega), wrap_small ((i : Int) - 1) (by omega)]
  ·have key : Ev (fun k => (spec_l6Node.f k (rd_T36 l (i : Int)).f0 (rd_T36 l (i : Int)).f1 (rd_T36 l (i : Int)).f2).bind fun t => if t = true then (spec_l1All.f k (rd_T36 l (i : Int)).f2 0 ((i : Int) - 1)).bind fun t2 => (if t2 = true then spec_l6Nodes.l0 k l (l.length : Int) ((i + 1 : Nat) : Int) else some false) else some false) false := by
    refine Ev.bind (node_f _ _ _) ?_
    cases hn : nodeB (rd_T36 l (i : Int)).f0 (rd_T36 l (i : Int)).f1 (rd_T36 l (i : Int)).f2 with
    | false => exact Ev.congr (fun k => if_neg (by decide)) (Ev.now _)
    | true =>
     rw [hn, Bool.true_and] at hp
     exact Ev.congr (fun k => if_pos rfl) (Ev.bind (allK_f _ _ _ (by have := node_kids hn; omega)) (Ev.congr (fun k => by rw [hp, if_neg (by decide)]) (Ev.now _)))
   refine Ev.step (fun k => ?_) key
   simp only [spec_l6Nodes.l0]
   rw [if_pos (by omega), if_pos (by omega), if_pos (by omega), wnext i l.length hi (by omega), wrap_small ((i : Int) - 1) (by omega)]
  ·refine Ev.step (f := fun _ => some true) (fun k => ?_) (Ev.now _)
   simp only [spec_l6Nodes.l0]
   rw [if_neg (by omega)]
 ·rw [decide_eq_false hl, Bool.false_and]
  exact Ev.congr (fun k => by unfold spec_l6Nodes.f; rw [if_pos (by omega)]) (Ev.now _)
end Go.Proofs.Ytlnejmlphkpaaaa.PA
