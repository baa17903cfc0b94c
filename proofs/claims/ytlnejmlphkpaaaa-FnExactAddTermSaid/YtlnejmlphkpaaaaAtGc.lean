/- Parts of the walk. -/
import Derived.Test.YtlnejmlphkpaaaaAtGb
section
/- The graph seat: what AddNode answers, in plain words; the reference's parts as that. -/
namespace Go.Proofs.Ytlnejmlphkpaaaa.PA
open Go.RowKit Go.Proofs.YtlnejmlphkpaaaaW.PrintWords Go.Proofs.YtlnejmlphkpaaaaW.PrintLast Go.Proofs.YtlnejmlphkpaaaaW.PrintMore
set_option linter.unusedVariables false
section
variable {nodes : List S36} {parts : List Int}
theorem roots_loop (hn : nodesB nodes = true) (hp : parts.length = nodes.length) (k : Nat) (hk : k < nodes.length) {r : Bool} :
    (rootsB parts (rd_T36 nodes (k : Int)).f2 = true → Ev (fun q => spec_GoodGraph.l2 q (k : Int) 0 nodes (nodes.length : Int) (k : Int) nodes parts (rd_T36 nodes (k : Int)).f0 (rd_T36 nodes (k : Int)).f1 (rd_T36 nodes (k : Int)).f2) r → Ev (fun q => spec_GoodGraph.l1 q (k : Int) nodes (nodes.length : Int) (k : Int) (rd_T36 nodes (k : Int)).f2 ((rd_T36 nodes (k : Int)).f2.length : Int) 0 nodes parts (rd_T36 nodes (k : Int)).f0 (rd_T36 nodes (k : Int)).f1 (rd_T36 nodes (k : Int)).f2) r) ∧
    (rootsB parts (rd_T36 nodes (k : Int)).f2 = false → Ev (fun q => spec_GoodGraph.l1 q (k : Int) nodes (nodes.length : Int) (k : Int) (rd_T36 nodes (k : Int)).f2 ((rd_T36 nodes (k : Int)).f2.length : Int) 0 nodes parts (rd_T36 nodes (k : Int)).f0 (rd_T36 nodes (k : Int)).f1 (rd_T36 nodes (k : Int)).f2) false) := by
  obtain ⟨hl, hnb, hks⟩ := nodes_at hn k hk
  have hkl := node_kids hnb
  obtain ⟨x, hx⟩ : ∃ x, x = rd_T36 nodes (k : Int) := ⟨_, rfl⟩
  rw [← hx] at hks hkl ⊢
  have hin : ∀ i, i < x.f2.length → 0 ≤ rd x.f2 (i : Int) ∧ rd x.f2 (i : Int) < (parts.length : Int) := fun i hi => by
    rw [rd_at x.f2 i hi]
    have := hks _ (List.getElem_mem hi)
    omega
  have step : ∀ i, i < x.f2.length → ∀ r, (rd parts (rd x.f2 (i : Int)) == rd x.f2 (i : Int)) = true → Ev (fun q => spec_GoodGraph.l1 q (k : Int) nodes (nodes.length : Int) (k : Int) x.f2 (x.f2.length : Int) ((i + 1 : Nat) : Int) nodes parts x.f0 x.f1 x.f2) r → Ev (fun q => spec_GoodGraph.l1 q (k : Int) nodes (nodes.length : Int) (k : Int) x.f2 (x.f2.length : Int) (i : Int) nodes parts x.f0 x.f1 x.f2) r := fun i hi r hq hr => by
    have := hin i hi
    refine Ev.step (fun q => ?_) hr
    simp only [spec_GoodGraph.l1]
    rw [if_pos (by omega), if_pos (by omega), if_pos (by omega), if_pos this.1, if_pos this.2, if_pos (eq_of_beq hq), wnext i x.f2.length hi (by omega)]
  refine ⟨fun h hr => ?_, fun h => ?_⟩
  · exact loop_true (g := fun q i => spec_GoodGraph.l1 q (k : Int) nodes (nodes.length : Int) (k : Int) x.f2 (x.f2.length : Int) (i : Int) nodes parts x.f0 x.f1 x.f2) (fun i hi hq hr => step i hi r hq hr) x.f2.length 0 rfl (Nat.zero_le _) h (Ev.step (fun q => by simp only [spec_GoodGraph.l1]; rw [if_neg (by omega)]) hr)
  · refine loop_false (g := fun q i => spec_GoodGraph.l1 q (k : Int) nodes (nodes.length : Int) (k : Int) x.f2 (x.f2.length : Int) (i : Int) nodes parts x.f0 x.f1 x.f2) (fun i hi hq hr => step i hi false hq hr) (fun i hi hq => ?_) x.f2.length 0 rfl (Nat.zero_le _) h
    have := hin i hi
    refine Ev.step (f := fun _ => some false) (fun q => ?_) (Ev.now _)
    simp only [spec_GoodGraph.l1]
    rw [if_pos (by omega), if_pos (by omega), if_pos (by omega), if_pos this.1, if_pos this.2, if_neg (beq_eq_false_iff_ne.mp hq)]
theorem good_f (nodes : List S36) (parts : List Int) : Ev (fun k => spec_GoodGraph.f k nodes parts) (goodG nodes parts) := by
  unfold goodG
  refine Ev.congr (fun k => by unfold spec_GoodGraph.f; rfl) (Ev.bind (nodes_f nodes) ?_)
  cases hn : nodesB nodes with
  | false =>
    rw [Bool.false_and, Bool.false_and]
    exact Ev.congr (fun k => if_neg (by decide)) (Ev.step (f := fun _ => some false) (fun k => by simp only [spec_GoodGraph.j0]; rw [if_pos trivial]) (Ev.now _))
  | true =>
    refine Ev.congr (fun k => if_pos rfl) ?_
    by_cases hp : (parts.length : Int) = (nodes.length : Int)
    · refine Ev.congr (fun k => if_pos hp) (Ev.bind (parts_f parts) ?_)
      rw [beq_iff_eq.mpr hp, Bool.true_and, Bool.true_and]
      cases hpb : partsB parts with
      | false => exact Ev.step (f := fun _ => some false) (fun k => by simp only [spec_GoodGraph.j0, Bool.not_false]; rw [if_pos trivial]) (Ev.now _)
      | true =>
        rw [Bool.true_and]
        have hp2 : parts.length = nodes.length := by omega
        have hl : nodes.length ≤ 120 := by simp only [nodesB, Bool.and_eq_true, decide_eq_true_eq] at hn; exact hn.1
        refine Ev.step (f := fun k => spec_GoodGraph.l0 k nodes (nodes.length : Int) ((0 : Nat) : Int) nodes parts) (fun k => by simp only [spec_GoodGraph.j0, Bool.not_true]; rw [if_neg (by decide)]; rfl) (all_loop nodes.length _ (fun q i => spec_GoodGraph.l0 q nodes (nodes.length : Int) (i : Int) nodes parts) (fun i hi => ⟨fun hq r hr => ?_, fun hq => ?_⟩) ?_ nodes.length 0 rfl (Nat.zero_le _))
        · rw [Bool.and_eq_true] at hq
          refine Ev.step (fun q => ?_) ((roots_loop hn hp2 i hi).1 hq.1 ((likes_loop hn hp2 i hi).1 hq.2 hr))
          simp only [spec_GoodGraph.l0]
          rw [if_pos (by omega), if_pos (by omega), if_pos (by omega)]
        · have key : Ev (fun q => spec_GoodGraph.l1 q (i : Int) nodes (nodes.length : Int) (i : Int) (rd_T36 nodes (i : Int)).f2 ((rd_T36 nodes (i : Int)).f2.length : Int) 0 nodes parts (rd_T36 nodes (i : Int)).f0 (rd_T36 nodes (i : Int)).f1 (rd_T36 nodes (i : Int)).f2) false := by
            cases h1 : rootsB parts (rd_T36 nodes (i : Int)).f2 with
            | false => exact (roots_loop (r := true) hn hp2 i hi).2 h1
            | true =>
              rw [h1, Bool.true_and] at hq
              exact (roots_loop hn hp2 i hi).1 h1 ((likes_loop (r := true) hn hp2 i hi).2 hq)
          refine Ev.step (fun q => ?_) key
          simp only [spec_GoodGraph.l0]
          rw [if_pos (by omega), if_pos (by omega), if_pos (by omega)]
        · refine Ev.step (f := fun _ => some true) (fun q => ?_) (Ev.now _)
          simp only [spec_GoodGraph.l0]
          rw [if_neg (by omega)]
    · refine Ev.congr (fun k => if_neg hp) ?_
      rw [beq_eq_false_iff_ne.mpr hp]
      simp only [Bool.false_and, Bool.and_false]
      exact Ev.step (f := fun _ => some false) (fun k => by simp only [spec_GoodGraph.j0]; rw [if_pos trivial]) (Ev.now _)
end
/-- The class of a node that is alike; -1 where there is none. -/
def findFrom (nodes : List S36) (parts : List Int) (x : S36) : Nat → Nat → Int
  | 0, _ => -1
  | d + 1, i => if alikeB (rd_T36 nodes (i : Int)) x = true then rd parts (i : Int) else findFrom nodes parts x d (i + 1)
def findN (nodes : List S36) (parts : List Int) (x : S36) : Int := findFrom nodes parts x nodes.length 0
section
variable {nodes : List S36} {parts : List Int}
theorem find_f (hk : ∀ x ∈ nodes, x.f2.length ≤ 1000) (hl : nodes.length ≤ 1000) (hp : parts.length = nodes.length) (x : S36) : ∀ (d i : Nat), nodes.length - i = d → i ≤ nodes.length → Ev (fun k => spec_l6Find.l0 k nodes (nodes.length : Int) (i : Int) nodes parts x.f0 x.f1 x.f2) (findFrom nodes parts x d i)
  | 0, i, hd, hi => by
    refine Ev.step (f := fun _ => some (-1)) (fun k => ?_) (Ev.now _)
    simp only [spec_l6Find.l0]
    rw [if_neg (by omega)]
  | d + 1, i, hd, hi => by
    have h : i < nodes.length := by omega
    have hm : (rd_T36 nodes (i : Int)).f2.length ≤ 1000 := by rw [rdN_at nodes i h]; exact hk _ (List.getElem_mem h)
    have ih := find_f hk hl hp x d (i + 1) (by omega) (by omega)
    refine Ev.step (f := fun k => (spec_l6Alike.f k (rd_T36 nodes (i : Int)).f0 (rd_T36 nodes (i : Int)).f1 (rd_T36 nodes (i : Int)).f2 x.f0 x.f1 x.f2).bind fun t => if t = true then (if (i : Int) < (parts.length : Int) then some (rd parts (i : Int)) else none) else spec_l6Find.l0 k nodes (nodes.length : Int) ((i + 1 : Nat) : Int) nodes parts x.f0 x.f1 x.f2) (fun k => ?_) (Ev.bind (alike_f _ _ hm) ?_)
    · simp only [spec_l6Find.l0]
      rw [if_pos (by omega), if_pos (by omega), if_pos (by omega), wnext i nodes.length h (by omega)]
    · unfold findFrom
      cases ha : alikeB (rd_T36 nodes (i : Int)) x with
      | true => exact Ev.congr (fun k => by rw [if_pos rfl, if_pos (by omega)]; rfl) (Ev.now _)
      | false => exact Ev.congr (fun k => if_neg (by decide)) ih
theorem find_is (hk : ∀ x ∈ nodes, x.f2.length ≤ 1000) (hl : nodes.length ≤ 1000) (hp : parts.length = nodes.length) (x : S36) : Ev (fun k => spec_l6Find.f k nodes parts x.f0 x.f1 x.f2) (findN nodes parts x) :=
  Ev.congr (fun k => rfl) (find_f hk hl hp x nodes.length 0 rfl (Nat.zero_le _))
/-- Kids by their classes. -/
def kidsC (parts kids : List Int) : List Int := kids.map (rd parts)
end
end Go.Proofs.Ytlnejmlphkpaaaa.PA
end
section
/- The graph seat: a good graph with a node more is good. -/
namespace Go.Proofs.Ytlnejmlphkpaaaa.PA
open Go.RowKit Go.Proofs.YtlnejmlphkpaaaaW.PrintWords Go.Proofs.YtlnejmlphkpaaaaW.PrintLast Go.Proofs.YtlnejmlphkpaaaaW.PrintMore
set_option linter.unusedVariables false
theorem allFrom_iff {n : Nat} {p : Nat → Bool} : allFrom n p 0 = true ↔ ∀ j, j < n → p j = true := by
  unfold allFrom
  rw [decide_eq_true_iff]
  exact ⟨fun h j hj => h j hj (Nat.zero_le _), fun h j hj _ => h j hj⟩
theorem rd_app {l : List Int} {a y : Int} (h : 0 ≤ y ∧ y < (l.length : Int)) : rd (l ++ [a]) y = rd l y := by
  obtain ⟨k, rfl⟩ := Int.eq_ofNat_of_zero_le h.1
  have : k < l.length := by omega
  simp [rd, List.getD_eq_getElem?_getD, List.getElem?_append_left this]
theorem rd_last {l : List Int} {a : Int} : rd (l ++ [a]) (l.length : Int) = a := by
  simp [rd, List.getD_eq_getElem?_getD]
theorem rdN_app {l : List S36} {a : S36} {k : Nat} (h : k < l.length) : rd_T36 (l ++ [a]) (k : Int) = rd_T36 l (k : Int) := by
  simp [rd_T36, List.getD_eq_getElem?_getD, List.getElem?_append_left h]
theorem rdN_last {l : List S36} {a : S36} : rd_T36 (l ++ [a]) (l.length : Int) = a := by
  simp [rd_T36, List.getD_eq_getElem?_getD]
section
variable {nodes : List S36} {parts : List Int}
/-- What is known of a good graph. -/
structure GoodGr (nodes : List S36) (parts : List Int) : Prop where
  len : parts.length = nodes.length
  most : nodes.length ≤ 120
  node : ∀ k, k < nodes.length → nodeB (rd_T36 nodes (k : Int)).f0 (rd_T36 nodes (k : Int)).f1 (rd_T36 nodes (k : Int)).f2 = true
  kids : ∀ k, k < nodes.length → ∀ y ∈ (rd_T36 nodes (k : Int)).f2, 0 ≤ y ∧ y < (k : Int)
  part : ∀ k, k < nodes.length → (0 ≤ rd parts (k : Int) ∧ rd parts (k : Int) ≤ (k : Int)) ∧ rd parts (rd parts (k : Int)) = rd parts (k : Int)
  root : ∀ k, k < nodes.length → ∀ y ∈ (rd_T36 nodes (k : Int)).f2, rd parts y = y
  like : ∀ k i, k < nodes.length → i < k → rd_T36 nodes (k : Int) = rd_T36 nodes (i : Int) → rd parts (i : Int) = rd parts (k : Int)
theorem roots_iff {kids : List Int} : rootsB parts kids = true ↔ ∀ y ∈ kids, rd parts y = y := by
  unfold rootsB
  rw [allFrom_iff]
  constructor
  · intro h y hy
    obtain ⟨j, hj, rfl⟩ := List.getElem_of_mem hy
    have := h j hj
    rw [rd_at kids j hj] at this
    exact eq_of_beq this
  · intro h j hj
    rw [rd_at kids j hj]
    exact beq_iff_eq.mpr (h _ (List.getElem_mem hj))
theorem likes_iff {k : Nat} : likesB nodes parts k = true ↔ ∀ i, i < k → rd_T36 nodes (k : Int) = rd_T36 nodes (i : Int) → rd parts (i : Int) = rd parts (k : Int) := by
  unfold likesB
  rw [allFrom_iff]
  refine forall_congr' fun i => forall_congr' fun hi => ?_
  rw [Bool.or_eq_true, Bool.not_eq_true', beq_iff_eq]
  constructor
  · intro h e
    rcases h with h | h
    · rw [alikeB_iff.2 e] at h; cases h
    · exact h
  · intro h
    cases ha : alikeB (rd_T36 nodes (k : Int)) (rd_T36 nodes (i : Int)) with
    | false => exact .inl rfl
    | true => exact .inr (h (alikeB_iff.1 ha))
theorem goodG_iff : goodG nodes parts = true ↔ GoodGr nodes parts := by
  unfold goodG nodesB partsB
  simp only [Bool.and_eq_true, allFrom_iff, decide_eq_true_eq, beq_iff_eq, allK_iff, roots_iff, likes_iff, within]
  constructor
  · rintro ⟨⟨⟨h1, h2⟩, h3, h4, h5⟩, h6⟩
    have hl : parts.length = nodes.length := by omega
    exact ⟨hl, h1, fun k hk => (h2 k hk).1, fun k hk y hy => by have := (h2 k hk).2 y hy; omega, fun k hk => by have := h5 k (by omega); exact this, fun k hk => (h6 k hk).1, fun k i hk hi e => (h6 k hk).2 i hi e⟩
  · intro h
    have hl := h.len
    have hm := h.most
    exact ⟨⟨⟨h.most, fun k hk => ⟨h.node k hk, fun y hy => by have := h.kids k hk y hy; omega⟩⟩, by omega, by omega, fun k hk => h.part k (by omega)⟩, fun k hk => ⟨h.root k hk, fun i hi e => h.like k i hk hi e⟩⟩
theorem good_add (h : GoodGr nodes parts) {x : S36} (hl : nodes.length < 120) (hx : nodeB x.f0 x.f1 x.f2 = true) (hk : ∀ y ∈ x.f2, 0 ≤ y ∧ y < (nodes.length : Int)) (hr : ∀ y ∈ x.f2, rd parts y = y) (hn : ∀ i, i < nodes.length → rd_T36 nodes (i : Int) ≠ x) : GoodGr (nodes ++ [x]) (parts ++ [(nodes.length : Int)]) := by
  have hp := h.len
  have e1 : ∀ y : Int, 0 ≤ y ∧ y < (nodes.length : Int) → rd (parts ++ [(nodes.length : Int)]) y = rd parts y := fun y hy => rd_app (by omega)
  have e2 : rd (parts ++ [(nodes.length : Int)]) (nodes.length : Int) = (nodes.length : Int) := by rw [← hp]; exact rd_last
  have hlen : (nodes ++ [x]).length = nodes.length + 1 := by simp
  refine ⟨by simp [hp], by omega, fun k hk2 => ?_, fun k hk2 y hy => ?_, fun k hk2 => ?_, fun k hk2 y hy => ?_, fun k i hk2 hi e => ?_⟩
  · by_cases e : k < nodes.length
    · rw [rdN_app e]; exact h.node k e
    · obtain rfl : k = nodes.length := by omega
      rw [rdN_last]; exact hx
  · by_cases e : k < nodes.length
    · rw [rdN_app e] at hy; exact h.kids k e y hy
    · obtain rfl : k = nodes.length := by omega
      rw [rdN_last] at hy; exact hk y hy
  · by_cases e : k < nodes.length
    · have h1 := h.part k e
      rw [e1 (k : Int) (by omega), e1 _ (by omega)]
      exact h1
    · obtain rfl : k = nodes.length := by omega
      rw [e2, e2]
      exact ⟨by omega, rfl⟩
  · by_cases e : k < nodes.length
    · rw [rdN_app e] at hy
      have h1 := h.kids k e y hy
      rw [e1 y (by omega)]
      exact h.root k e y hy
    · obtain rfl : k = nodes.length := by omega
      rw [rdN_last] at hy
      rw [e1 y (hk y hy)]
      exact hr y hy
  · by_cases e3 : k < nodes.length
    · rw [rdN_app e3, rdN_app (by omega)] at e
      rw [e1 (i : Int) (by omega), e1 (k : Int) (by omega)]
      exact h.like k i e3 hi e
    · obtain rfl : k = nodes.length := by omega
      rw [rdN_last, rdN_app hi] at e
      exact absurd e.symm (hn i hi)
/-- Nodes that are alike, or none. -/
theorem findFrom_iff (hp : ∀ k, k < nodes.length → 0 ≤ rd parts (k : Int)) (x : S36) : ∀ (d i : Nat), nodes.length - i = d → i ≤ nodes.length →
    (0 ≤ findFrom nodes parts x d i ∨ findFrom nodes parts x d i = -1) ∧ (findFrom nodes parts x d i = -1 → ∀ j, i ≤ j → j < nodes.length → rd_T36 nodes (j : Int) ≠ x)
  | 0, i, hd, hi => ⟨.inr rfl, fun _ j h1 h2 => by omega⟩
  | d + 1, i, hd, hi => by
    have h : i < nodes.length := by omega
    have ih := findFrom_iff hp x d (i + 1) (by omega) (by omega)
    unfold findFrom
    cases ha : alikeB (rd_T36 nodes (i : Int)) x with
    | true =>
      rw [if_pos rfl]
      have := hp i h
      exact ⟨.inl this, fun e => by omega⟩
    | false =>
      rw [if_neg (by decide)]
      refine ⟨ih.1, fun e j h1 h2 hj => ?_⟩
      by_cases e2 : j = i
      · subst e2; rw [alikeB_iff.2 hj] at ha; cases ha
      · exact ih.2 e j (by omega) h2 hj
end
end Go.Proofs.Ytlnejmlphkpaaaa.PA
end
section
/- The graph seat: what the implementation asks of nodes and parts is what the reference asks. -/
namespace Go.Proofs.Ytlnejmlphkpaaaa.PA
open Go.RowKit Go.Proofs.YtlnejmlphkpaaaaW.PrintWords Go.Proofs.YtlnejmlphkpaaaaW.PrintLast Go.Proofs.YtlnejmlphkpaaaaW.PrintMore
set_option linter.unusedVariables false
theorem isOp_f (a : Int) : impl_isOp.f a = some (within a 1 11) := by unfold impl_isOp.f; rw [within_f]; rfl
/-- A number of an op, as the implementation asks it. -/
def numI (op n : Int) : Bool := if op = 1 then true else if op = 2 then within n 0 3 else within op 1 11 && (n == 0)
theorem numOK_f (op n : Int) : impl_numOK.f op n = some (numI op n) := by
  unfold impl_numOK.f numI
  by_cases h1 : op = 1
  · rw [if_pos h1, if_pos h1]
  · rw [if_neg h1, if_neg h1]
    by_cases h2 : op = 2
    · rw [if_pos h2, if_pos h2]
      unfold within
      by_cases h5 : n ≥ 0
      · rw [if_pos h5, decide_eq_true (show (0 : Int) ≤ n from h5), Bool.true_and]
        congr 1
        exact decide_eq_decide.2 (by omega)
      · rw [if_neg h5, decide_eq_false (show ¬ (0 : Int) ≤ n by omega)]; rfl
    · rw [if_neg h2, if_neg h2, isOp_f, Option.bind_some]
      cases within op 1 11 with
      | true => rw [if_pos rfl, Bool.true_and]
      | false => rw [if_neg (by decide), Bool.false_and]
/-- How many kids, as the implementation counts them. -/
def arI (op : Int) : Int := if op = 1 ∨ op = 2 then 0 else if op = 3 then 1 else if op = 11 then 3 else 2
theorem arity_j (k : Nat) (op : Int) : impl_arity.f (k + 1) op = some (arI op) := by
  unfold impl_arity.f arI
  simp only [impl_arity.j0]
  by_cases h1 : op = 1
  · simp [h1]
  · by_cases h2 : op = 2
    · simp [h2]
    · have e2 : (op == 2) = false := beq_eq_false_iff_ne.mpr h2
      simp only [h1, h2, e2, if_false, or_self]
      by_cases h3 : op = 3
      · simp [h3]
      · by_cases h4 : op = 11
        · simp [h4]
        · simp [h3, h4]
/-- The same question. -/
theorem node_same (op n : Int) (l : List Int) : (numI op n && ((l.length : Int) == arI op)) = nodeB op n l := by
  unfold numI arI nodeB arE numB within
  by_cases h1 : op = 1
  · subst h1; simp
  · by_cases h2 : op = 2
    · subst h2; simp [Bool.and_comm]
    · simp only [h1, h2, if_false, or_self]
      by_cases h3 : op = 3
      · subst h3; simp [Bool.and_comm]
      · by_cases h4 : op = 11
        · subst h4; simp [Bool.and_comm]
        · simp only [h3, h4, if_false]
          by_cases h5 : 4 ≤ op ∧ op ≤ 10
          · have e1 : (decide (1 ≤ op) && decide (op ≤ 11)) = true := by simp; omega
            have e2 : (decide (4 ≤ op) && decide (op ≤ 10)) = true := by simp; omega
            rw [e1, e2, if_pos rfl]
            simp [Bool.and_comm]
          · have e1 : (decide (1 ≤ op) && decide (op ≤ 11)) = false := by
              rw [Bool.eq_false_iff]
              simp only [ne_eq, Bool.and_eq_true, decide_eq_true_eq, not_and]
              omega
            have e2 : (decide (4 ≤ op) && decide (op ≤ 10)) = false := by
              rw [Bool.eq_false_iff]
              simp only [ne_eq, Bool.and_eq_true, decide_eq_true_eq, not_and]
              omega
            rw [e1, e2, if_neg (by decide)]
            simp
theorem equal_f (a b : List Int) (hl : a.length ≤ 1000) : Ev (fun k => slices_Equal_int_int.f k a b) (decide (a = b)) := by
  by_cases h : a.length = b.length
  · rw [← same_iff h]
    refine Ev.congr (f := fun k => slices_Equal_int_int.l0 k a b (a.length : Int) ((0 : Nat) : Int)) (fun k => by unfold slices_Equal_int_int.f; rw [if_pos (by omega)]; rfl) (all_loop a.length _ (fun k i => slices_Equal_int_int.l0 k a b (a.length : Int) (i : Int)) (fun i hi => ⟨fun hp r hr => ?_, fun hp => ?_⟩) ?_ a.length 0 rfl (Nat.zero_le _))
    · refine Ev.step (fun k => ?_) hr
      simp only [slices_Equal_int_int.l0]
      rw [if_pos (by omega), if_pos (by omega), if_pos (by omega), if_pos (by omega), if_pos (eq_of_beq hp), wnext i a.length hi (by omega)]
    · refine Ev.step (f := fun _ => some false) (fun k => ?_) (Ev.now _)
      simp only [slices_Equal_int_int.l0]
      rw [if_pos (by omega), if_pos (by omega), if_pos (by omega), if_pos (by omega), if_neg (beq_eq_false_iff_ne.mp hp)]
    · refine Ev.step (f := fun _ => some true) (fun k => ?_) (Ev.now _)
      simp only [slices_Equal_int_int.l0]
      rw [if_neg (by omega)]
  · rw [decide_eq_false (fun e => h (by rw [e]))]
    exact Ev.congr (fun k => by unfold slices_Equal_int_int.f; rw [if_neg (by omega)]) (Ev.now _)
theorem ialike_f (a b : S36) (hl : a.f2.length ≤ 1000) : Ev (fun k => impl_alike.f k a.f0 a.f1 a.f2 b.f0 b.f1 b.f2) (alikeB a b) := by
  unfold alikeB
  by_cases h1 : a.f0 = b.f0
  · by_cases h2 : a.f1 = b.f1
    · rw [beq_iff_eq.mpr h1, beq_iff_eq.mpr h2, Bool.true_and, Bool.true_and]
      exact Ev.congr (fun k => by unfold impl_alike.f; rw [if_pos h1, if_pos h2]) (Ev.bind (f := fun _ t => some t) (equal_f a.f2 b.f2 hl) (Ev.now _))
    · rw [beq_eq_false_iff_ne.mpr h2, Bool.false_and, Bool.and_false]
      exact Ev.congr (fun k => by unfold impl_alike.f; rw [if_pos h1, if_neg h2]) (Ev.now _)
  · rw [beq_eq_false_iff_ne.mpr h1, Bool.false_and]
    exact Ev.congr (fun k => by unfold impl_alike.f; rw [if_neg h1]) (Ev.now _)
/-- Parents: none greater than its number. -/
def parB (l : List Int) : Bool := allFrom l.length (fun j => within (rd l (j : Int)) 0 (j : Int)) 0 && decide (l.length ≤ 200)
theorem parents_f (l : List Int) (hl : l.length ≤ 1000) : Ev (fun k => impl_parentsOK.f k l) (parB l) := by
  unfold parB
  have step : ∀ i, i < l.length → ∀ r, within (rd l (i : Int)) 0 (i : Int) = true → Ev (fun k => impl_parentsOK.l0 k l l (l.length : Int) ((i + 1 : Nat) : Int)) r → Ev (fun k => impl_parentsOK.l0 k l l (l.length : Int) (i : Int)) r := fun i hi r hp hr => by
    refine Ev.step (fun k => ?_) hr
    simp only [impl_parentsOK.l0]
    rw [if_pos (by omega), if_pos (by omega), if_pos (by omega), within_f, hp, Option.bind_some, if_pos rfl, wnext i l.length hi (by omega)]
  cases ha : allFrom l.length (fun j => within (rd l (j : Int)) 0 (j : Int)) 0 with
  | true =>
    rw [Bool.true_and]
    refine Ev.congr (f := fun k => impl_parentsOK.l0 k l l (l.length : Int) ((0 : Nat) : Int)) (fun k => rfl) (loop_true (g := fun k i => impl_parentsOK.l0 k l l (l.length : Int) (i : Int)) (fun i hi hp hr => step i hi _ hp hr) l.length 0 rfl (Nat.zero_le _) ha (Ev.step (f := fun _ => some (decide (l.length ≤ 200))) (fun k => ?_) (Ev.now _)))
    simp only [impl_parentsOK.l0]
    rw [if_neg (by omega)]
    congr 1
    exact decide_eq_decide.2 (by omega)
  | false =>
    rw [Bool.false_and]
    refine Ev.congr (f := fun k => impl_parentsOK.l0 k l l (l.length : Int) ((0 : Nat) : Int)) (fun k => rfl) (loop_false (g := fun k i => impl_parentsOK.l0 k l l (l.length : Int) (i : Int)) (fun i hi hp hr => step i hi _ hp hr) (fun i hi hp => ?_) l.length 0 rfl (Nat.zero_le _) ha)
    refine Ev.step (f := fun _ => some false) (fun k => ?_) (Ev.now _)
    simp only [impl_parentsOK.l0]
    rw [if_pos (by omega), if_pos (by omega), if_pos (by omega), within_f, hp, Option.bind_some, if_neg (by decide)]
/-- Parts, as the implementation asks it: parents, and none that isn't its own root. -/
theorem parts_same (l : List Int) : partsB l = (parB l && l.all fun p => rd l p == p) := by
  refine Bool.eq_iff_iff.2 ?_
  unfold partsB parB
  simp only [Bool.and_eq_true, decide_eq_true_eq, allFrom_iff, List.all_eq_true, beq_iff_eq]
  constructor
  · rintro ⟨h1, h2⟩
    refine ⟨⟨fun j hj => (h2 j hj).1, h1⟩, fun p hp => ?_⟩
    obtain ⟨j, hj, rfl⟩ := List.getElem_of_mem hp
    have := (h2 j hj).2
    rw [rd_at l j hj] at this
    exact this
  · rintro ⟨⟨h1, h2⟩, h3⟩
    refine ⟨h2, fun j hj => ⟨h1 j hj, ?_⟩⟩
    rw [rd_at l j hj]
    exact h3 _ (List.getElem_mem hj)
end Go.Proofs.Ytlnejmlphkpaaaa.PA
end
