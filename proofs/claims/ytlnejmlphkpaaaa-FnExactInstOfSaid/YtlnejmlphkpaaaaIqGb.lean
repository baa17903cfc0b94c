/- Parts of the walk. -/
import Derived.Test.YtlnejmlphkpaaaaIqGa
import Derived.Test.YtlnejmlphkpaaaaIqPAx3
import Derived.Test.YtlnejmlphkpaaaaIqPAx4
section
/- The graph seat: good graphs, nodes that are found, kids by their classes, in plain words. -/
namespace Go.Proofs.Ytlnejmlphkpaaaa.PA
open Go.RowKit Go.Proofs.YtlnejmlphkpaaaaW.PrintWords Go.Proofs.YtlnejmlphkpaaaaW.PrintLast Go.Proofs.YtlnejmlphkpaaaaW.PrintMore
set_option linter.unusedVariables false
theorem loop_true {α : Type} {n : Nat} {p : Nat → Bool} {g : Nat → Nat → Option α} {r : α} (hs : ∀ i, i < n → p i = true → Ev (fun k => g k (i + 1)) r → Ev (fun k => g k i) r) :
  ∀ (d i : Nat), n - i = d → i ≤ n → allFrom n p i = true → Ev (fun k => g k n) r → Ev (fun k => g k i) r
 | 0, i, hd, hi, ha, he => by
  obtain rfl : i = n := by omega
  exact he
 | d + 1, i, hd, hi, ha, he => by
  have h : i < n := by omega
  have hp : p i = true := (of_decide_eq_true ha) i h (Nat.le_refl _)
  exact hs i h hp (loop_true hs d (i + 1) (by omega) (by omega) (by rw [← allFrom_step h hp]; exact ha) he)
theorem loop_false {α : Type} {n : Nat} {p : Nat → Bool} {g : Nat → Nat → Option α} {r : α} (hs : ∀ i, i < n → p i = true → Ev (fun k => g k (i + 1)) r → Ev (fun k => g k i) r) (hf : ∀ i, i < n → p i = false → Ev (fun k => g k i) r) :
  ∀ (d i : Nat), n - i = d → i ≤ n → allFrom n p i = false → Ev (fun k => g k i) r
 | 0, i, hd, hi, ha => by
  obtain rfl : i = n := by omega
  rw [allFrom_end] at ha
  cases ha
 | d + 1, i, hd, hi, ha => by
  have h : i < n := by omega
  cases hp : p i with
  | true => exact hs i h hp (loop_false hs hf d (i + 1) (by omega) (by omega) (by rw [← allFrom_step h hp]; exact ha))
  | false => exact hf i h hp
def partsB (l : List Int) : Bool := decide (l.length ≤ 200) && allFrom l.length (fun j => within (rd l (j : Int)) 0 (j : Int) && (rd l (rd l (j : Int)) == rd l (j : Int))) 0
theorem parts_f (l : List Int) : Ev (fun k => spec_GoodParts.f k l) (partsB l) := by
 unfold partsB
 by_cases hl : l.length ≤ 200
 ·rw [decide_eq_true hl, Bool.true_and]
  refine Ev.congr (f := fun k => spec_GoodParts.l0 k l l (l.length : Int) ((0 : Nat) : Int)) (fun k => by unfold spec_GoodParts.f; rw [if_neg (by omega)]; rfl) (all_loop l.length _ (fun k i => spec_GoodParts.l0 k l l (l.length : Int) (i : Int)) (fun i hi => ⟨fun hp r hr => ?_, fun hp => ?_⟩) ?_ l.length 0 rfl (Nat.zero_le _))
  ·rw [Bool.and_eq_true, beq_iff_eq] at hp
   have hw := hp.1
   simp only [within, Bool.and_eq_true, decide_eq_true_eq] at hw
   refine Ev.step (fun k => ?_) hr
   simp only [spec_GoodParts.l0]
   rw [if_pos (by omega), if_pos (by omega), if_pos (by omega), l1In_f, hp.1, Option.bind_some, if_pos rfl, if_pos (by omega), if_pos (by omega), if_pos hp.2, wnext i l.length hi (by omega)]
  ·refine Ev.step (f := fun _ => some false) (fun k => ?_) (Ev.now _)
   simp only [spec_GoodParts.l0]
   rw [if_pos (by omega), if_pos (by omega), if_pos (by omega), l1In_f, Option.bind_some]
   cases hw : within (rd l (i : Int)) 0 (i : Int) with
   | false => rw [if_neg (by decide)]
   | true =>
    rw [hw, Bool.true_and] at hp
    simp only [within, Bool.and_eq_true, decide_eq_true_eq] at hw
    rw [if_pos rfl, if_pos (by omega), if_pos (by omega), if_neg (beq_eq_false_iff_ne.mp hp)]
  ·refine Ev.step (f := fun _ => some true) (fun k => ?_) (Ev.now _)
   simp only [spec_GoodParts.l0]
   rw [if_neg (by omega)]
 ·rw [decide_eq_false hl, Bool.false_and]
  exact Ev.congr (fun k => by unfold spec_GoodParts.f; rw [if_pos (by omega)]) (Ev.now _)
theorem same_iff {a b : List Int} (h : a.length = b.length) : allFrom a.length (fun j => rd a (j : Int) == rd b (j : Int)) 0 = decide (a = b) := by
 unfold allFrom
 refine decide_eq_decide.2 ⟨fun h1 => List.ext_getElem h fun j h2 h3 => ?_, fun h1 j hj _ => by subst h1; exact beq_self_eq_true _⟩
 have := h1 j h2 (Nat.zero_le _)
 dsimp only at this
 rw [rd_at a j h2, rd_at b j h3] at this
 exact eq_of_beq this
theorem same_f (a b : List Int) (hl : a.length ≤ 1000) : Ev (fun k => spec_l1Same.f k a b) (decide (a = b)) := by
 by_cases h : a.length = b.length
 ·rw [← same_iff h]
  refine Ev.congr (f := fun k => spec_l1Same.l0 k a b (a.length : Int) ((0 : Nat) : Int)) (fun k => by unfold spec_l1Same.f; rw [if_pos (by omega)]; rfl) (all_loop a.length _ (fun k i => spec_l1Same.l0 k a b (a.length : Int) (i : Int)) (fun i hi => ⟨fun hp r hr => ?_, fun hp => ?_⟩) ?_ a.length 0 rfl (Nat.zero_le _))
  ·refine Ev.step (fun k => ?_) hr
   simp only [spec_l1Same.l0]
   rw [if_pos (by omega), if_pos (by omega), if_pos (by omega), if_pos (by omega), if_pos (eq_of_beq hp), wnext i a.length hi (by omega)]
  ·refine Ev.step (f := fun _ => some false) (fun k => ?_) (Ev.now _)
   simp only [spec_l1Same.l0]
   rw [if_pos (by omega), if_pos (by omega), if_pos (by omega), if_pos (by omega), if_neg (beq_eq_false_iff_ne.mp hp)]
  ·refine Ev.step (f := fun _ => some true) (fun k => ?_) (Ev.now _)
   simp only [spec_l1Same.l0]
   rw [if_neg (by omega)]
 ·rw [decide_eq_false (fun e => h (by rw [e]))]
  exact Ev.congr (fun k => by unfold spec_l1Same.f; rw [if_neg (by omega)]) (Ev.now _)
def alikeB (a b : S36) : Bool := (a.f0 == b.f0) && ((a.f1 == b.f1) && decide (a.f2 = b.f2))
theorem alikeB_iff {a b : S36} : alikeB a b = true ↔ a = b := by
 unfold alikeB
 rw [Bool.and_eq_true, Bool.and_eq_true, beq_iff_eq, beq_iff_eq, decide_eq_true_iff]
 constructor
 ·rintro ⟨h1, h2, h3⟩
  cases a
  cases b
  simp_all
 ·rintro rfl
  exact ⟨rfl, rfl, rfl⟩
theorem alike_f (a b : S36) (hl : a.f2.length ≤ 1000) : Ev (fun k => spec_l6Alike.f k a.f0 a.f1 a.f2 b.f0 b.f1 b.f2) (alikeB a b) := by
 unfold alikeB
 by_cases h1 : a.f0 = b.f0
 ·by_cases h2 : a.f1 = b.f1
  ·rw [beq_iff_eq.mpr h1, beq_iff_eq.mpr h2, Bool.true_and, Bool.true_and]
   exact Ev.congr (fun k => by unfold spec_l6Alike.f; rw [if_pos h1, if_pos h2]) (Ev.bind (f := fun _ t => some t) (same_f a.f2 b.f2 hl) (Ev.now _))
  ·rw [beq_eq_false_iff_ne.mpr h2, Bool.false_and, Bool.and_false]
   exact Ev.congr (fun k => by unfold spec_l6Alike.f; rw [if_pos h1, if_neg h2]) (Ev.now _)
 ·rw [beq_eq_false_iff_ne.mpr h1, Bool.false_and]
  exact Ev.congr (fun k => by unfold spec_l6Alike.f; rw [if_neg h1]) (Ev.now _)
def rootsB (parts : List Int) (kids : List Int) : Bool := allFrom kids.length (fun j => rd parts (rd kids (j : Int)) == rd kids (j : Int)) 0
def likesB (nodes : List S36) (parts : List Int) (k : Nat) : Bool := allFrom k (fun i => !alikeB (rd_T36 nodes (k : Int)) (rd_T36 nodes (i : Int)) || (rd parts (i : Int) == rd parts (k : Int))) 0
def goodG (nodes : List S36) (parts : List Int) : Bool := (nodesB nodes && (((parts.length : Int) == (nodes.length : Int)) && partsB parts)) && allFrom nodes.length (fun k => rootsB parts (rd_T36 nodes (k : Int)).f2 && likesB nodes parts k) 0
section
variable {nodes : List S36} {parts : List Int}
theorem nodes_at (h : nodesB nodes = true) (k : Nat) (hk : k < nodes.length) : nodes.length ≤ 120 ∧ nodeB (rd_T36 nodes (k : Int)).f0 (rd_T36 nodes (k : Int)).f1 (rd_T36 nodes (k : Int)).f2 = true ∧ ∀ y ∈ (rd_T36 nodes (k : Int)).f2, 0 ≤ y ∧ y < (k : Int) := by
 simp only [nodesB, Bool.and_eq_true, decide_eq_true_eq] at h
 have h2 := (of_decide_eq_true h.2) k hk (Nat.zero_le _)
 dsimp only at h2
 rw [Bool.and_eq_true] at h2
 refine ⟨h.1, h2.1, fun y hy => ?_⟩
 have := allK_iff.1 h2.2 y hy
 omega
end
end Go.Proofs.Ytlnejmlphkpaaaa.PA
end
section
/- The graph seat: what AddNode answers, in plain words; the reference's parts as that. -/
namespace Go.Proofs.Ytlnejmlphkpaaaa.PA
open Go.RowKit Go.Proofs.YtlnejmlphkpaaaaW.PrintWords Go.Proofs.YtlnejmlphkpaaaaW.PrintLast Go.Proofs.YtlnejmlphkpaaaaW.PrintMore
set_option linter.unusedVariables false
section
variable {nodes : List S36} {parts : List Int}
end
def findFrom (nodes : List S36) (parts : List Int) (x : S36) : Nat → Nat → Int
 | 0, _ => -1
 | d + 1, i => if alikeB (rd_T36 nodes (i : Int)) x = true then rd parts (i : Int) else findFrom nodes parts x d (i + 1)
def findN (nodes : List S36) (parts : List Int) (x : S36) : Int := findFrom nodes parts x nodes.length 0
section
variable {nodes : List S36} {parts : List Int}
theorem find_f (hk : ∀ x ∈ nodes, x.f2.length ≤ 1000) (hl : nodes.length ≤ 1000) (hp : parts.length = nodes.length) (x : S36) : ∀ (d i : Nat), nodes.length - i = d → i ≤ nodes.length → Ev (fun k => spec_l6Find.l0 k nodes (nodes.length : Int) (i : Int) nodes parts x.f0 x.f1 x.f2) (findFrom nodes parts x d i)
 | 0, i, hd, hi => by
  refine Ev.step (f := fun _ => some (-1)) (fun k => ?_) (Ev.now _)
  simp only [spec_l6Find.l0]
  rw [if_neg (by omega)]
 | d + 1, i, hd, hi => by
  have h : i < nodes.length := by omega
  have hm : (rd_T36 nodes (i : Int)).f2.length ≤ 1000 := by rw [rdN_at nodes i h]; exact hk _ (List.getElem_mem h)
  have ih := find_f hk hl hp x d (i + 1) (by omega) (by omega)
  refine Ev.step (f := fun k => (spec_l6Alike.f k (rd_T36 nodes (i : Int)).f0 (rd_T36 nodes (i : Int)).f1 (rd_T36 nodes (i : Int)).f2 x.f0 x.f1 x.f2).bind fun t => if t = true then (if (i : Int) < (parts.length : Int) then some (rd parts (i : Int)) else none) else spec_l6Find.l0 k nodes (nodes.length : Int) ((i + 1 : Nat) : Int) nodes parts x.f0 x.f1 x.f2) (fun k => ?_) (Ev.bind (alike_f _ _ hm) ?_)
  ·simp only [spec_l6Find.l0]
   rw [if_pos (by omega), if_pos (by omega), if_pos (by omega), wnext i nodes.length h (by omega)]
  ·unfold findFrom
   cases ha : alikeB (rd_T36 nodes (i : Int)) x with
   | true => exact Ev.congr (fun k => by rw [if_pos rfl, if_pos (by omega)]; rfl) (Ev.now _)
   | false => exact Ev.congr (fun k => if_neg (by decide)) ih
theorem find_is (hk : ∀ x ∈ nodes, x.f2.length ≤ 1000) (hl : nodes.length ≤ 1000) (hp : parts.length = nodes.length) (x : S36) : Ev (fun k => spec_l6Find.f k nodes parts x.f0 x.f1 x.f2) (findN nodes parts x) :=
 Ev.congr (fun k => rfl) (find_f hk hl hp x nodes.length 0 rfl (Nat.zero_le _))
def kidsC (parts kids : List Int) : List Int := kids.map (rd parts)
end
end Go.Proofs.Ytlnejmlphkpaaaa.PA
end
section
/- The graph seat: a good graph with a node more is good. -/
namespace Go.Proofs.Ytlnejmlphkpaaaa.PA
open Go.RowKit Go.Proofs.YtlnejmlphkpaaaaW.PrintWords Go.Proofs.YtlnejmlphkpaaaaW.PrintLast Go.Proofs.YtlnejmlphkpaaaaW.PrintMore
set_option linter.unusedVariables false
theorem allFrom_iff {n : Nat} {p : Nat → Bool} : allFrom n p 0 = true ↔ ∀ j, j < n → p j = true := by
 unfold allFrom
 rw [decide_eq_true_iff]
 exact ⟨fun h j hj => h j hj (Nat.zero_le _), fun h j hj _ => h j hj⟩
theorem rd_app {l : List Int} {a y : Int} (h : 0 ≤ y ∧ y < (l.length : Int)) : rd (l ++ [a]) y = rd l y := by
 obtain ⟨k, rfl⟩ := Int.eq_ofNat_of_zero_le h.1
 have : k < l.length := by omega
 simp [rd, List.getD_eq_getElem?_getD, List.getElem?_append_left this]
theorem rd_last {l : List Int} {a : Int} : rd (l ++ [a]) (l.length : Int) = a := by
 simp [rd, List.getD_eq_getElem?_getD]
theorem rdN_app {l : List S36} {a : S36} {k : Nat} (h : k < l.length) : rd_T36 (l ++ [a]) (k : Int) = rd_T36 l (k : Int) := by
 simp [rd_T36, List.getD_eq_getElem?_getD, List.getElem?_append_left h]
theorem rdN_last {l : List S36} {a : S36} : rd_T36 (l ++ [a]) (l.length : Int) = a := by
 simp [rd_T36, List.getD_eq_getElem?_getD]
section
variable {nodes : List S36} {parts : List Int}
structure GoodGr (nodes : List S36) (parts : List Int) : Prop where
 len : parts.length = nodes.length
 most : nodes.length ≤ 120
 node : ∀ k, k < nodes.length → nodeB (rd_T36 nodes (k : Int)).f0 (rd_T36 nodes (k : Int)).f1 (rd_T36 nodes (k : Int)).f2 = true
 kids : ∀ k, k < nodes.length → ∀ y ∈ (rd_T36 nodes (k : Int)).f2, 0 ≤ y ∧ y < (k : Int)
 part : ∀ k, k < nodes.length → (0 ≤ rd parts (k : Int) ∧ rd parts (k : Int) ≤ (k : Int)) ∧ rd parts (rd parts (k : Int)) = rd parts (k : Int)
 root : ∀ k, k < nodes.length → ∀ y ∈ (rd_T36 nodes (k : Int)).f2, rd parts y = y
 like : ∀ k i, k < nodes.length → i < k → rd_T36 nodes (k : Int) = rd_T36 nodes (i : Int) → rd parts (i : Int) = rd parts (k : Int)
theorem roots_iff {kids : List Int} : rootsB parts kids = true ↔ ∀ y ∈ kids, rd parts y = y := by
 unfold rootsB
 rw [allFrom_iff]
 constructor
 ·intro h y hy
  obtain ⟨j, hj, rfl⟩ := List.getElem_of_mem hy
  have := h j hj
  rw [rd_at kids j hj] at this
  exact eq_of_beq this
 ·intro h j hj
  rw [rd_at kids j hj]
  exact beq_iff_eq.mpr (h _ (List.getElem_mem hj))
theorem likes_iff {k : Nat} : likesB nodes parts k = true ↔ ∀ i, i < k → rd_T36 nodes (k : Int) = rd_T36 nodes (i : Int) → rd parts (i : Int) = rd parts (k : Int) := by
 unfold likesB
 rw [allFrom_iff]
 refine forall_congr' fun i => forall_congr' fun hi => ?_
 rw [Bool.or_eq_true, Bool.not_eq_true', beq_iff_eq]
 constructor
 ·intro h e
  rcases h with h | h
  ·rw [alikeB_iff.2 e] at h; cases h
  ·exact h
 ·intro h
  cases ha : alikeB (rd_T36 nodes (k : Int)) (rd_T36 nodes (i : Int)) with
  | false => exact .inl rfl
  | true => exact .inr (h (alikeB_iff.1 ha))
theorem goodG_iff : goodG nodes parts = true ↔ GoodGr nodes parts := by
 unfold goodG nodesB partsB
 simp only [Bool.and_eq_true, allFrom_iff, decide_eq_true_eq, beq_iff_eq, allK_iff, roots_iff, likes_iff, within]
 constructor
 ·rintro ⟨⟨⟨h1, h2⟩, h3, h4, h5⟩, h6⟩
  have hl : parts.length = nodes.length := by omega
  exact ⟨hl, h1, fun k hk => (h2 k hk).1, fun k hk y hy => by have := (h2 k hk).2 y hy; omega, fun k hk => by have := h5 k (by omega); exact this, fun k hk => (h6 k hk).1, fun k i hk hi e => (h6 k hk).2 i hi e⟩
 ·intro h
  have hl := h.len
  have hm := h.most
  exact ⟨⟨⟨h.most, fun k hk => ⟨h.node k hk, fun y hy => by have := h.kids k hk y hy; omega⟩⟩, by omega, by omega, fun k hk => h.part k (by omega)⟩, fun k hk => ⟨h.root k hk, fun i hi e => h.like k i hk hi e⟩⟩
theorem good_add (h : GoodGr nodes parts) {x : S36} (hl : nodes.length < 120) (hx : nodeB x.f0 x.f1 x.f2 = true) (hk : ∀ y ∈ x.f2, 0 ≤ y ∧ y < (nodes.length : Int)) (hr : ∀ y ∈ x.f2, rd parts y = y) (hn : ∀ i, i < nodes.length → rd_T36 nodes (i : Int) ≠ x) : GoodGr (nodes ++ [x]) (parts ++ [(nodes.length : Int)]) := by
 have hp := h.len
 have e1 : ∀ y : Int, 0 ≤ y ∧ y < (nodes.length : Int) → rd (parts ++ [(nodes.length : Int)]) y = rd parts y := fun y hy => rd_app (by omega)
 have e2 : rd (parts ++ [(nodes.length : Int)]) (nodes.length : Int) = (nodes.length : Int) := by rw [← hp]; exact rd_last
 have hlen : (nodes ++ [x]).length = nodes.length + 1 := by simp
 refine ⟨by simp [hp], by omega, fun k hk2 => ?_, fun k hk2 y hy => ?_, fun k hk2 => ?_, fun k hk2 y hy => ?_, fun k i hk2 hi e => ?_⟩
 ·by_cases e : k < nodes.length
  ·rw [rdN_app e]; exact h.node k e
  ·obtain rfl : k = nodes.length := by omega
   rw [rdN_last]; exact hx
 ·by_cases e : k < nodes.length
  ·rw [rdN_app e] at hy; exact h.kids k e y hy
  ·obtain rfl : k = nodes.length := by omega
   rw [rdN_last] at hy; exact hk y hy
 ·by_cases e : k < nodes.length
  ·have h1 := h.part k e
   rw [e1 (k : Int) (by omega), e1 _ (by omega)]
   exact h1
  ·obtain rfl : k = nodes.length := by omega
   rw [e2, e2]
   exact ⟨by omega, rfl⟩
 ·by_cases e : k < nodes.length
  ·rw [rdN_app e] at hy
   have h1 := h.kids k e y hy
   rw [e1 y (by omega)]
   exact h.root k e y hy
  ·obtain rfl : k = nodes.length := by omega
   rw [rdN_last] at hy
   rw [e1 y (hk y hy)]
   exact hr y hy
 ·by_cases e3 : k < nodes.length
  ·rw [rdN_app e3, rdN_app (by omega)] at e
   rw [e1 (i : Int) (by omega), e1 (k : Int) (by omega)]
   exact h.like k i e3 hi e
  ·obtain rfl : k = nodes.length := by omega
   rw [rdN_last, rdN_app hi] at e
   exact absurd e.symm (hn i hi)
theorem findFrom_iff (hp : ∀ k, k < nodes.length → 0 ≤ rd parts (k : Int)) (x : S36) : ∀ (d i : Nat), nodes.length - i = d → i ≤ nodes.length →
  (0 ≤ findFrom nodes parts x d i ∨ findFrom nodes parts x d i = -1) ∧ (findFrom nodes parts x d i = -1 → ∀ j, i ≤ j → j < nodes.length → rd_T36 nodes (j : Int) ≠ x)
 | 0, i, hd, hi => ⟨.inr rfl, fun _ j h1 h2 => by omega⟩
 | d + 1, i, hd, hi => by
  have h : i < nodes.length := by omega
  have ih := findFrom_iff hp x d (i + 1) (by omega) (by omega)
  unfold findFrom
  cases ha : alikeB (rd_T36 nodes (i : Int)) x with
  | true =>
   rw [if_pos rfl]
   have := hp i h
   exact ⟨.inl this, fun e => by omega⟩
  | false =>
   rw [if_neg (by decide)]
   refine ⟨ih.1, fun e j h1 h2 hj => ?_⟩
   by_cases e2 : j = i
   ·subst e2; rw [alikeB_iff.2 hj] at ha; cases ha
   ·exact ih.2 e j (by omega) h2 hj
end
end Go.Proofs.Ytlnejmlphkpaaaa.PA
end
section
/- The graph seat: what the implementation asks of nodes and parts is what the reference asks. -/
namespace Go.Proofs.Ytlnejmlphkpaaaa.PA
open Go.RowKit Go.Proofs.YtlnejmlphkpaaaaW.PrintWords Go.Proofs.YtlnejmlphkpaaaaW.PrintLast Go.Proofs.YtlnejmlphkpaaaaW.PrintMore
set_option linter.unusedVariables false
theorem isOp_f (a : Int) : impl_isOp.f a = some (within a 1 11) := by unfold impl_isOp.f; rw [within_f]; rfl
def numI (op n : Int) : Bool := if op = 1 then true else if op = 2 then within n 0 3 else within op 1 11 && (n == 0)
theorem numOK_f (op n : Int) : impl_numOK.f op n = some (numI op n) := by
 unfold impl_numOK.f numI
 by_cases h1 : op = 1
 ·rw [if_pos h1, if_pos h1]
 ·rw [if_neg h1, if_neg h1]
  by_cases h2 : op = 2
  ·rw [if_pos h2, if_pos h2]
   unfold within
   by_cases h5 : n ≥ 0
   ·rw [if_pos h5, decide_eq_true (show (0 : Int) ≤ n from h5), Bool.true_and]
    congr 1
    exact decide_eq_decide.2 (by omega)
   ·rw [if_neg h5, decide_eq_false (show ¬ (0 : Int) ≤ n by omega)]; rfl
  ·rw [if_neg h2, if_neg h2, isOp_f, Option.bind_some]
   cases within op 1 11 with
   | true => rw [if_pos rfl, Bool.true_and]
   | false => rw [if_neg (by decide), Bool.false_and]
def arI (op : Int) : Int := if op = 1 ∨ op = 2 then 0 else if op = 3 then 1 else if op = 11 then 3 else 2
theorem arity_j (k : Nat) (op : Int) : impl_arity.f (k + 1) op = some (arI op) := by
 unfold impl_arity.f arI
 simp only [impl_arity.j0]
 by_cases h1 : op = 1
 ·simp [h1]
 ·by_cases h2 : op = 2
  ·simp [h2]
  ·have e2 : (op == 2) = false := beq_eq_false_iff_ne.mpr h2
   simp only [h1, h2, e2, if_false, or_self]
   by_cases h3 : op = 3
   ·simp [h3]
   ·by_cases h4 : op = 11
    ·simp [h4]
    ·simp [h3, h4]
theorem node_same (op n : Int) (l : List Int) : (numI op n && ((l.length : Int) == arI op)) = nodeB op n l := by
 unfold numI arI nodeB arE numB within
 by_cases h1 : op = 1
 ·subst h1; simp
 ·by_cases h2 : op = 2
  ·subst h2; simp [Bool.and_comm]
  ·simp only [h1, h2, if_false, or_self]
   by_cases h3 : op = 3
   ·subst h3; simp [Bool.and_comm]
   ·by_cases h4 : op = 11
    ·subst h4; simp [Bool.and_comm]
    ·simp only [h3, h4, if_false]
     by_cases h5 : 4 ≤ op ∧ op ≤ 10
     ·have e1 : (decide (1 ≤ op) && decide (op ≤ 11)) = true := by simp; omega
      have e2 : (decide (4 ≤ op) && decide (op ≤ 10)) = true := by simp; omega
      rw [e1, e2, if_pos rfl]
      simp [Bool.and_comm]
     ·have e1 : (decide (1 ≤ op) && decide (op ≤ 11)) = false := by
       rw [Bool.eq_false_iff]
       simp only [ne_eq, Bool.and_eq_true, decide_eq_true_eq, not_and]
       omega
      have e2 : (decide (4 ≤ op) && decide (op ≤ 10)) = false := by
       rw [Bool.eq_false_iff]
       simp only [ne_eq, Bool.and_eq_true, decide_eq_true_eq, not_and]
       omega
      rw [e1, e2, if_neg (by decide)]
      simp
theorem equal_f (a b : List Int) (hl : a.length ≤ 1000) : Ev (fun k => slices_Equal_int_int.f k a b) (decide (a = b)) := by
 by_cases h : a.length = b.length
 ·rw [← same_iff h]
  refine Ev.congr (f := fun k => slices_Equal_int_int.l0 k a b (a.length : Int) ((0 : Nat) : Int)) (fun k => by unfold slices_Equal_int_int.f; rw [if_pos (by omega)]; rfl) (all_loop a.length _ (fun k i => slices_Equal_int_int.l0 k a b (a.length : Int) (i : Int)) (fun i hi => ⟨fun hp r hr => ?_, fun hp => ?_⟩) ?_ a.length 0 rfl (Nat.zero_le _))
  ·refine Ev.step (fun k => ?_) hr
   simp only [slices_Equal_int_int.l0]
   rw [if_pos (by omega), if_pos (by omega), if_pos (by omega), if_pos (by omega), if_pos (eq_of_beq hp), wnext i a.length hi (by omega)]
  ·refine Ev.step (f := fun _ => some false) (fun k => ?_) (Ev.now _)
   simp only [slices_Equal_int_int.l0]
   rw [if_pos (by omega), if_pos (by omega), if_pos (by omega), if_pos (by omega), if_neg (beq_eq_false_iff_ne.mp hp)]
  ·refine Ev.step (f := fun _ => some true) (fun k => ?_) (Ev.now _)
   simp only [slices_Equal_int_int.l0]
   rw [if_neg (by omega)]
 ·rw [decide_eq_false (fun e => h (by rw [e]))]
  exact Ev.congr (fun k => by unfold slices_Equal_int_int.f; rw [if_neg (by omega)]) (Ev.now _)
theorem ialike_f (a b : S36) (hl : a.f2.length ≤ 1000) : Ev (fun k => impl_alike.f k a.f0 a.f1 a.f2 b.f0 b.f1 b.f2) (alikeB a b) := by
 unfold alikeB
 by_cases h1 : a.f0 = b.f0
 ·by_cases h2 : a.f1 = b.f1
  ·rw [beq_iff_eq.mpr h1, beq_iff_eq.mpr h2, Bool.true_and, Bool.true_and]
   exact Ev.congr (fun k => by unfold impl_alike.f; rw [if_pos h1, if_pos h2]) (Ev.bind (f := fun _ t => some t) (equal_f a.f2 b.f2 hl) (Ev.now _))
  ·rw [beq_eq_false_iff_ne.mpr h2, Bool.false_and, Bool.and_false]
   exact Ev.congr (fun k => by unfold impl_alike.f; rw [if_pos h1, if_neg h2]) (Ev.now _)
 ·rw [beq_eq_false_iff_ne.mpr h1, Bool.false_and]
  exact Ev.congr (fun k => by unfold impl_alike.f; rw [if_neg h1]) (Ev.now _)
def parB (l : List Int) : Bool := allFrom l.length (fun j => within (rd l (j : Int)) 0 (j : Int)) 0 && decide (l.length ≤ 200)
theorem parents_f (l : List Int) (hl : l.length ≤ 1000) : Ev (fun k => impl_parentsOK.f k l) (parB l) := by
 unfold parB
 have step : ∀ i, i < l.length → ∀ r, within (rd l (i : Int)) 0 (i : Int) = true → Ev (fun k => impl_parentsOK.l0 k l l (l.length : Int) ((i + 1 : Nat) : Int)) r → Ev (fun k => impl_parentsOK.l0 k l l (l.length : Int) (i : Int)) r := fun i hi r hp hr => by
  refine Ev.step (fun k => ?_) hr
  simp only [impl_parentsOK.l0]
  rw [if_pos (by omega), if_pos (by omega), if_pos (by omega), within_f, hp, Option.bind_some, if_pos rfl, wnext i l.length hi (by omega)]
 cases ha : allFrom l.length (fun j => within (rd l (j : Int)) 0 (j : Int)) 0 with
 | true =>
  rw [Bool.true_and]
  refine Ev.congr (f := fun k => impl_parentsOK.l0 k l l (l.length : Int) ((0 : Nat) : Int)) (fun k => rfl) (loop_true (g := fun k i => impl_parentsOK.l0 k l l (l.length : Int) (i : Int)) (fun i hi hp hr => step i hi _ hp hr) l.length 0 rfl (Nat.zero_le _) ha (Ev.step (f := fun _ => some (decide (l.length ≤ 200))) (fun k => ?_) (Ev.now _)))
  simp only [impl_parentsOK.l0]
  rw [if_neg (by omega)]
  congr 1
  exact decide_eq_decide.2 (by omega)
 | false =>
  rw [Bool.false_and]
  refine Ev.congr (f := fun k => impl_parentsOK.l0 k l l (l.length : Int) ((0 : Nat) : Int)) (fun k => rfl) (loop_false (g := fun k i => impl_parentsOK.l0 k l l (l.length : Int) (i : Int)) (fun i hi hp hr => step i hi _ hp hr) (fun i hi hp => ?_) l.length 0 rfl (Nat.zero_le _) ha)
  refine Ev.step (f := fun _ => some false) (fun k => ?_) (Ev.now _)
  simp only [impl_parentsOK.l0]
  rw [if_pos (by omega), if_pos (by omega), if_pos (by omega), within_f, hp, Option.bind_some, if_neg (by decide)]
theorem parts_same (l : List Int) : partsB l = (parB l && l.all fun p => rd l p == p) := by
 refine Bool.eq_iff_iff.2 ?_
 unfold partsB parB
 simp only [Bool.and_eq_true, decide_eq_true_eq, allFrom_iff, List.all_eq_true, beq_iff_eq]
 constructor
 ·rintro ⟨h1, h2⟩
  refine ⟨⟨fun j hj => (h2 j hj).1, h1⟩, fun p hp => ?_⟩
  obtain ⟨j, hj, rfl⟩ := List.getElem_of_mem hp
  have := (h2 j hj).2
  rw [rd_at l j hj] at this
  exact this
 ·rintro ⟨⟨h1, h2⟩, h3⟩
  refine ⟨h2, fun j hj => ⟨h1 j hj, ?_⟩⟩
  rw [rd_at l j hj]
  exact h3 _ (List.getElem_mem hj)
end Go.Proofs.Ytlnejmlphkpaaaa.PA
end
