/- The graph seat: a good graph with a node more is good. -/
import Derived.Test.YtlnejmlphkpaaaaAdGc
namespace Go.Proofs.Ytlnejmlphkpaaaa.PA
open Go.RowKit Go.Proofs.YtlnejmlphkpaaaaW.PrintWords Go.Proofs.YtlnejmlphkpaaaaW.PrintLast Go.Proofs.YtlnejmlphkpaaaaW.PrintMore
set_option linter.unusedVariables false
theorem allFrom_iff {n : Nat} {p : Nat → Bool} : allFrom n p 0 = true ↔ ∀ j, j < n → p j = true := by
  unfold allFrom
  rw [decide_eq_true_iff]
  exact ⟨fun h j hj => h j hj (Nat.zero_le _), fun h j hj _ => h j hj⟩
theorem rd_app {l : List Int} {a y : Int} (h : 0 ≤ y ∧ y < (l.length : Int)) : rd (l ++ [a]) y = rd l y := by
  obtain ⟨k, rfl⟩ := Int.eq_ofNat_of_zero_le h.1
  have : k < l.length := by omega
  simp [rd, List.getD_eq_getElem?_getD, List.getElem?_append_left this]
theorem rd_last {l : List Int} {a : Int} : rd (l ++ [a]) (l.length : Int) = a := by
  simp [rd, List.getD_eq_getElem?_getD]
theorem rdN_app {l : List S36} {a : S36} {k : Nat} (h : k < l.length) : rd_T36 (l ++ [a]) (k : Int) = rd_T36 l (k : Int) := by
  simp [rd_T36, List.getD_eq_getElem?_getD, List.getElem?_append_left h]
theorem rdN_last {l : List S36} {a : S36} : rd_T36 (l ++ [a]) (l.length : Int) = a := by
  simp [rd_T36, List.getD_eq_getElem?_getD]
section
variable {nodes : List S36} {parts : List Int}
/-- What is known of a good graph. -/
structure GoodGr (nodes : List S36) (parts : List Int) : Prop where
  len : parts.length = nodes.length
  most : nodes.length ≤ 120
  node : ∀ k, k < nodes.length → nodeB (rd_T36 nodes (k : Int)).f0 (rd_T36 nodes (k : Int)).f1 (rd_T36 nodes (k : Int)).f2 = true
  kids : ∀ k, k < nodes.length → ∀ y ∈ (rd_T36 nodes (k : Int)).f2, 0 ≤ y ∧ y < (k : Int)
  part : ∀ k, k < nodes.length → (0 ≤ rd parts (k : Int) ∧ rd parts (k : Int) ≤ (k : Int)) ∧ rd parts (rd parts (k : Int)) = rd parts (k : Int)
  root : ∀ k, k < nodes.length → ∀ y ∈ (rd_T36 nodes (k : Int)).f2, rd parts y = y
  like : ∀ k i, k < nodes.length → i < k → rd_T36 nodes (k : Int) = rd_T36 nodes (i : Int) → rd parts (i : Int) = rd parts (k : Int)
theorem roots_iff {kids : List Int} : rootsB parts kids = true ↔ ∀ y ∈ kids, rd parts y = y := by
  unfold rootsB
  rw [allFrom_iff]
  constructor
  · intro h y hy
    obtain ⟨j, hj, rfl⟩ := List.getElem_of_mem hy
    have := h j hj
    rw [rd_at kids j hj] at this
    exact eq_of_beq this
  · intro h j hj
    rw [rd_at kids j hj]
    exact beq_iff_eq.mpr (h _ (List.getElem_mem hj))
theorem likes_iff {k : Nat} : likesB nodes parts k = true ↔ ∀ i, i < k → rd_T36 nodes (k : Int) = rd_T36 nodes (i : Int) → rd parts (i : Int) = rd parts (k : Int) := by
  unfold likesB
  rw [allFrom_iff]
  refine forall_congr' fun i => forall_congr' fun hi => ?_
  rw [Bool.or_eq_true, Bool.not_eq_true', beq_iff_eq]
  constructor
  · intro h e
    rcases h with h | h
    · rw [alikeB_iff.2 e] at h; cases h
    · exact h
  · intro h
    cases ha : alikeB (rd_T36 nodes (k : Int)) (rd_T36 nodes (i : Int)) with
    | false => exact .inl rfl
    | true => exact .inr (h (alikeB_iff.1 ha))
theorem goodG_iff : goodG nodes parts = true ↔ GoodGr nodes parts := by
  unfold goodG nodesB partsB
  simp only [Bool.and_eq_true, allFrom_iff, decide_eq_true_eq, beq_iff_eq, allK_iff, roots_iff, likes_iff, within]
  constructor
  · rintro ⟨⟨⟨h1, h2⟩, h3, h4, h5⟩, h6⟩
    have hl : parts.length = nodes.length := by omega
    exact ⟨hl, h1, fun k hk => (h2 k hk).1, fun k hk y hy => by have := (h2 k hk).2 y hy; omega, fun k hk => by have := h5 k (by omega); exact this, fun k hk => (h6 k hk).1, fun k i hk hi e => (h6 k hk).2 i hi e⟩
  · intro h
    have hl := h.len
    have hm := h.most
    exact ⟨⟨⟨h.most, fun k hk => ⟨h.node k hk, fun y hy => by have := h.kids k hk y hy; omega⟩⟩, by omega, by omega, fun k hk => h.part k (by omega)⟩, fun k hk => ⟨h.root k hk, fun i hi e => h.like k i hk hi e⟩⟩
theorem good_add (h : GoodGr nodes parts) {x : S36} (hl : nodes.length < 120) (hx : nodeB x.f0 x.f1 x.f2 = true) (hk : ∀ y ∈ x.f2, 0 ≤ y ∧ y < (nodes.length : Int)) (hr : ∀ y ∈ x.f2, rd parts y = y) (hn : ∀ i, i < nodes.length → rd_T36 nodes (i : Int) ≠ x) : GoodGr (nodes ++ [x]) (parts ++ [(nodes.length : Int)]) := by
  have hp := h.len
  have e1 : ∀ y : Int, 0 ≤ y ∧ y < (nodes.length : Int) → rd (parts ++ [(nodes.length : Int)]) y = rd parts y := fun y hy => rd_app (by omega)
  have e2 : rd (parts ++ [(nodes.length : Int)]) (nodes.length : Int) = (nodes.length : Int) := by rw [← hp]; exact rd_last
  have hlen : (nodes ++ [x]).length = nodes.length + 1 := by simp
  refine ⟨by simp [hp], by omega, fun k hk2 => ?_, fun k hk2 y hy => ?_, fun k hk2 => ?_, fun k hk2 y hy => ?_, fun k i hk2 hi e => ?_⟩
  · by_cases e : k < nodes.length
    · rw [rdN_app e]; exact h.node k e
    · obtain rfl : k = nodes.length := by omega
      rw [rdN_last]; exact hx
  · by_cases e : k < nodes.length
    · rw [rdN_app e] at hy; exact h.kids k e y hy
    · obtain rfl : k = nodes.length := by omega
      rw [rdN_last] at hy; exact hk y hy
  · by_cases e : k < nodes.length
    · have h1 := h.part k e
      rw [e1 (k : Int) (by omega), e1 _ (by omega)]
      exact h1
    · obtain rfl : k = nodes.length := by omega
      rw [e2, e2]
      exact ⟨by omega, rfl⟩
  · by_cases e : k < nodes.length
    · rw [rdN_app e] at hy
      have h1 := h.kids k e y hy
      rw [e1 y (by omega)]
      exact h.root k e y hy
    · obtain rfl : k = nodes.length := by omega
      rw [rdN_last] at hy
      rw [e1 y (hk y hy)]
      exact hr y hy
  · by_cases e3 : k < nodes.length
    · rw [rdN_app e3, rdN_app (by omega)] at e
      rw [e1 (i : Int) (by omega), e1 (k : Int) (by omega)]
      exact h.like k i e3 hi e
    · obtain rfl : k = nodes.length := by omega
      rw [rdN_last, rdN_app hi] at e
      exact absurd e.symm (hn i hi)
/-- Nodes that are alike, or none. -/
theorem findFrom_iff (hp : ∀ k, k < nodes.length → 0 ≤ rd parts (k : Int)) (x : S36) : ∀ (d i : Nat), nodes.length - i = d → i ≤ nodes.length →
    (0 ≤ findFrom nodes parts x d i ∨ findFrom nodes parts x d i = -1) ∧ (findFrom nodes parts x d i = -1 → ∀ j, i ≤ j → j < nodes.length → rd_T36 nodes (j : Int) ≠ x)
  | 0, i, hd, hi => ⟨.inr rfl, fun _ j h1 h2 => by omega⟩
  | d + 1, i, hd, hi => by
    have h : i < nodes.length := by omega
    have ih := findFrom_iff hp x d (i + 1) (by omega) (by omega)
    unfold findFrom
    cases ha : alikeB (rd_T36 nodes (i : Int)) x with
    | true =>
      rw [if_pos rfl]
      have := hp i h
      exact ⟨.inl this, fun e => by omega⟩
    | false =>
      rw [if_neg (by decide)]
      refine ⟨ih.1, fun e j h1 h2 hj => ?_⟩
      by_cases e2 : j = i
      · subst e2; rw [alikeB_iff.2 hj] at ha; cases ha
      · exact ih.2 e j (by omega) h2 hj
/-- What AddNode answers. -/
def ansAddNode (nodes : List S36) (parts : List Int) (x : S36) : (List S36 × List Int) × Int × Bool :=
  if ((goodG nodes parts && nodeB x.f0 x.f1 x.f2) && allK x.f2 0 ((nodes.length : Int) - 1)) = true then
    if 0 ≤ findN nodes parts ⟨x.f0, x.f1, kidsC parts x.f2⟩ then ((nodes, parts), findN nodes parts ⟨x.f0, x.f1, kidsC parts x.f2⟩, true)
    else if nodes.length = 120 then (([], []), 0, false)
    else ((nodes ++ [⟨x.f0, x.f1, kidsC parts x.f2⟩], parts ++ [(nodes.length : Int)]), (nodes.length : Int), true)
  else (([], []), 0, false)
theorem kidsC_node {x : S36} (hx : nodeB x.f0 x.f1 x.f2 = true) : nodeB x.f0 x.f1 (kidsC parts x.f2) = true := by
  unfold nodeB at hx ⊢
  rw [show (kidsC parts x.f2).length = x.f2.length by simp [kidsC]]
  exact hx
theorem kidsC_in (h : GoodGr nodes parts) {kids : List Int} (hk : ∀ y ∈ kids, 0 ≤ y ∧ y < (nodes.length : Int)) : ∀ z ∈ kidsC parts kids, (0 ≤ z ∧ z < (nodes.length : Int)) ∧ rd parts z = z := fun z hz => by
  obtain ⟨y, hy, rfl⟩ := List.mem_map.1 hz
  have h1 := hk y hy
  obtain ⟨k, rfl⟩ := Int.eq_ofNat_of_zero_le h1.1
  have h2 := h.part k (by omega)
  exact ⟨by omega, h2.2⟩
/-- With a node more that is not there yet, the graph is good just where there is room. -/
theorem added_good (h : GoodGr nodes parts) {x : S36} (hx : nodeB x.f0 x.f1 x.f2 = true) (hk : ∀ y ∈ x.f2, 0 ≤ y ∧ y < (nodes.length : Int)) (hf : findN nodes parts ⟨x.f0, x.f1, kidsC parts x.f2⟩ = -1) :
    goodG (nodes ++ [⟨x.f0, x.f1, kidsC parts x.f2⟩]) (parts ++ [(nodes.length : Int)]) = !decide (nodes.length = 120) := by
  by_cases hl : nodes.length = 120
  · rw [decide_eq_true hl]
    refine Bool.eq_false_iff.2 fun h2 => ?_
    have := (goodG_iff.1 h2).most
    simp at this
    omega
  · rw [decide_eq_false hl]
    have hm := h.most
    exact goodG_iff.2 (good_add h (by omega) (kidsC_node hx) (fun y hy => ((kidsC_in h hk) y hy).1) (fun y hy => ((kidsC_in h hk) y hy).2) (fun i hi => (findFrom_iff (fun k hk => (h.part k hk).1.1) _ nodes.length 0 rfl (Nat.zero_le _)).2 hf i (Nat.zero_le _) hi))
end
end Go.Proofs.Ytlnejmlphkpaaaa.PA
