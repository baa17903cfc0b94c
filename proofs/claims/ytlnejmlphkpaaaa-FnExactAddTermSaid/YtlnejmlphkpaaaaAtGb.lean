/- The graph seat: good graphs, nodes that are found, kids by their classes, in plain words. -/
import Derived.Test.YtlnejmlphkpaaaaAtGa
import Derived.Test.YtlnejmlphkpaaaaAtPAx3
import Derived.Test.YtlnejmlphkpaaaaAtPAx4
namespace Go.Proofs.Ytlnejmlphkpaaaa.PA
open Go.RowKit Go.Proofs.YtlnejmlphkpaaaaW.PrintWords Go.Proofs.YtlnejmlphkpaaaaW.PrintLast Go.Proofs.YtlnejmlphkpaaaaW.PrintMore
set_option linter.unusedVariables false
theorem loop_true {α : Type} {n : Nat} {p : Nat → Bool} {g : Nat → Nat → Option α} {r : α} (hs : ∀ i, i < n → p i = true → Ev (fun k => g k (i + 1)) r → Ev (fun k => g k i) r) :
    ∀ (d i : Nat), n - i = d → i ≤ n → allFrom n p i = true → Ev (fun k => g k n) r → Ev (fun k => g k i) r
  | 0, i, hd, hi, ha, he => by
    obtain rfl : i = n := by omega
    exact he
  | d + 1, i, hd, hi, ha, he => by
    have h : i < n := by omega
    have hp : p i = true := (of_decide_eq_true ha) i h (Nat.le_refl _)
    exact hs i h hp (loop_true hs d (i + 1) (by omega) (by omega) (by rw [← allFrom_step h hp]; exact ha) he)
theorem loop_false {α : Type} {n : Nat} {p : Nat → Bool} {g : Nat → Nat → Option α} {r : α} (hs : ∀ i, i < n → p i = true → Ev (fun k => g k (i + 1)) r → Ev (fun k => g k i) r) (hf : ∀ i, i < n → p i = false → Ev (fun k => g k i) r) :
    ∀ (d i : Nat), n - i = d → i ≤ n → allFrom n p i = false → Ev (fun k => g k i) r
  | 0, i, hd, hi, ha => by
    obtain rfl : i = n := by omega
    rw [allFrom_end] at ha
    cases ha
  | d + 1, i, hd, hi, ha => by
    have h : i < n := by omega
    cases hp : p i with
    | true => exact hs i h hp (loop_false hs hf d (i + 1) (by omega) (by omega) (by rw [← allFrom_step h hp]; exact ha))
    | false => exact hf i h hp
/-- Parts: each number's root is no greater, and its own root. -/
def partsB (l : List Int) : Bool := decide (l.length ≤ 200) && allFrom l.length (fun j => within (rd l (j : Int)) 0 (j : Int) && (rd l (rd l (j : Int)) == rd l (j : Int))) 0
theorem parts_f (l : List Int) : Ev (fun k => spec_GoodParts.f k l) (partsB l) := by
  unfold partsB
  by_cases hl : l.length ≤ 200
  · rw [decide_eq_true hl, Bool.true_and]
    refine Ev.congr (f := fun k => spec_GoodParts.l0 k l l (l.length : Int) ((0 : Nat) : Int)) (fun k => by unfold spec_GoodParts.f; rw [if_neg (by omega)]; rfl) (all_loop l.length _ (fun k i => spec_GoodParts.l0 k l l (l.length : Int) (i : Int)) (fun i hi => ⟨fun hp r hr => ?_, fun hp => ?_⟩) ?_ l.length 0 rfl (Nat.zero_le _))
    · rw [Bool.and_eq_true, beq_iff_eq] at hp
      have hw := hp.1
      simp only [within, Bool.and_eq_true, decide_eq_true_eq] at hw
      refine Ev.step (fun k => ?_) hr
      simp only [spec_GoodParts.l0]
      rw [if_pos (by omega), if_pos (by omega), if_pos (by omega), l1In_f, hp.1, Option.bind_some, if_pos rfl, if_pos (by omega), if_pos (by omega), if_pos hp.2, wnext i l.length hi (by omega)]
    · refine Ev.step (f := fun _ => some false) (fun k => ?_) (Ev.now _)
      simp only [spec_GoodParts.l0]
      rw [if_pos (by omega), if_pos (by omega), if_pos (by omega), l1In_f, Option.bind_some]
      cases hw : within (rd l (i : Int)) 0 (i : Int) with
      | false => rw [if_neg (by decide)]
      | true =>
        rw [hw, Bool.true_and] at hp
        simp only [within, Bool.and_eq_true, decide_eq_true_eq] at hw
        rw [if_pos rfl, if_pos (by omega), if_pos (by omega), if_neg (beq_eq_false_iff_ne.mp hp)]
    · refine Ev.step (f := fun _ => some true) (fun k => ?_) (Ev.now _)
      simp only [spec_GoodParts.l0]
      rw [if_neg (by omega)]
  · rw [decide_eq_false hl, Bool.false_and]
    exact Ev.congr (fun k => by unfold spec_GoodParts.f; rw [if_pos (by omega)]) (Ev.now _)
theorem same_iff {a b : List Int} (h : a.length = b.length) : allFrom a.length (fun j => rd a (j : Int) == rd b (j : Int)) 0 = decide (a = b) := by
  unfold allFrom
  refine decide_eq_decide.2 ⟨fun h1 => List.ext_getElem h fun j h2 h3 => ?_, fun h1 j hj _ => by subst h1; exact beq_self_eq_true _⟩
  have := h1 j h2 (Nat.zero_le _)
  dsimp only at this
  rw [rd_at a j h2, rd_at b j h3] at this
  exact eq_of_beq this
theorem same_f (a b : List Int) (hl : a.length ≤ 1000) : Ev (fun k => spec_l1Same.f k a b) (decide (a = b)) := by
  by_cases h : a.length = b.length
  · rw [← same_iff h]
    refine Ev.congr (f := fun k => spec_l1Same.l0 k a b (a.length : Int) ((0 : Nat) : Int)) (fun k => by unfold spec_l1Same.f; rw [if_pos (by omega)]; rfl) (all_loop a.length _ (fun k i => spec_l1Same.l0 k a b (a.length : Int) (i : Int)) (fun i hi => ⟨fun hp r hr => ?_, fun hp => ?_⟩) ?_ a.length 0 rfl (Nat.zero_le _))
    · refine Ev.step (fun k => ?_) hr
      simp only [spec_l1Same.l0]
      rw [if_pos (by omega), if_pos (by omega), if_pos (by omega), if_pos (by omega), if_pos (eq_of_beq hp), wnext i a.length hi (by omega)]
    · refine Ev.step (f := fun _ => some false) (fun k => ?_) (Ev.now _)
      simp only [spec_l1Same.l0]
      rw [if_pos (by omega), if_pos (by omega), if_pos (by omega), if_pos (by omega), if_neg (beq_eq_false_iff_ne.mp hp)]
    · refine Ev.step (f := fun _ => some true) (fun k => ?_) (Ev.now _)
      simp only [spec_l1Same.l0]
      rw [if_neg (by omega)]
  · rw [decide_eq_false (fun e => h (by rw [e]))]
    exact Ev.congr (fun k => by unfold spec_l1Same.f; rw [if_neg (by omega)]) (Ev.now _)
/-- Nodes that are alike. -/
def alikeB (a b : S36) : Bool := (a.f0 == b.f0) && ((a.f1 == b.f1) && decide (a.f2 = b.f2))
theorem alikeB_iff {a b : S36} : alikeB a b = true ↔ a = b := by
  unfold alikeB
  rw [Bool.and_eq_true, Bool.and_eq_true, beq_iff_eq, beq_iff_eq, decide_eq_true_iff]
  constructor
  · rintro ⟨h1, h2, h3⟩
    cases a
    cases b
    simp_all
  · rintro rfl
    exact ⟨rfl, rfl, rfl⟩
theorem alike_f (a b : S36) (hl : a.f2.length ≤ 1000) : Ev (fun k => spec_l6Alike.f k a.f0 a.f1 a.f2 b.f0 b.f1 b.f2) (alikeB a b) := by
  unfold alikeB
  by_cases h1 : a.f0 = b.f0
  · by_cases h2 : a.f1 = b.f1
    · rw [beq_iff_eq.mpr h1, beq_iff_eq.mpr h2, Bool.true_and, Bool.true_and]
      exact Ev.congr (fun k => by unfold spec_l6Alike.f; rw [if_pos h1, if_pos h2]) (Ev.bind (f := fun _ t => some t) (same_f a.f2 b.f2 hl) (Ev.now _))
    · rw [beq_eq_false_iff_ne.mpr h2, Bool.false_and, Bool.and_false]
      exact Ev.congr (fun k => by unfold spec_l6Alike.f; rw [if_pos h1, if_neg h2]) (Ev.now _)
  · rw [beq_eq_false_iff_ne.mpr h1, Bool.false_and]
    exact Ev.congr (fun k => by unfold spec_l6Alike.f; rw [if_neg h1]) (Ev.now _)
/-- A node's kids are roots. -/
def rootsB (parts : List Int) (kids : List Int) : Bool := allFrom kids.length (fun j => rd parts (rd kids (j : Int)) == rd kids (j : Int)) 0
/-- A node that is like one ahead of it is of its part. -/
def likesB (nodes : List S36) (parts : List Int) (k : Nat) : Bool := allFrom k (fun i => !alikeB (rd_T36 nodes (k : Int)) (rd_T36 nodes (i : Int)) || (rd parts (i : Int) == rd parts (k : Int))) 0
def goodG (nodes : List S36) (parts : List Int) : Bool := (nodesB nodes && (((parts.length : Int) == (nodes.length : Int)) && partsB parts)) && allFrom nodes.length (fun k => rootsB parts (rd_T36 nodes (k : Int)).f2 && likesB nodes parts k) 0
section
variable {nodes : List S36} {parts : List Int}
theorem nodes_at (h : nodesB nodes = true) (k : Nat) (hk : k < nodes.length) : nodes.length ≤ 120 ∧ nodeB (rd_T36 nodes (k : Int)).f0 (rd_T36 nodes (k : Int)).f1 (rd_T36 nodes (k : Int)).f2 = true ∧ ∀ y ∈ (rd_T36 nodes (k : Int)).f2, 0 ≤ y ∧ y < (k : Int) := by
  simp only [nodesB, Bool.and_eq_true, decide_eq_true_eq] at h
  have h2 := (of_decide_eq_true h.2) k hk (Nat.zero_le _)
  dsimp only at h2
  rw [Bool.and_eq_true] at h2
  refine ⟨h.1, h2.1, fun y hy => ?_⟩
  have := allK_iff.1 h2.2 y hy
  omega
theorem likes_loop (hn : nodesB nodes = true) (hp : parts.length = nodes.length) (k : Nat) (hk : k < nodes.length) {r : Bool} :
    (likesB nodes parts k = true → Ev (fun q => spec_GoodGraph.l0 q nodes (nodes.length : Int) ((k + 1 : Nat) : Int) nodes parts) r → Ev (fun q => spec_GoodGraph.l2 q (k : Int) 0 nodes (nodes.length : Int) (k : Int) nodes parts (rd_T36 nodes (k : Int)).f0 (rd_T36 nodes (k : Int)).f1 (rd_T36 nodes (k : Int)).f2) r) ∧
    (likesB nodes parts k = false → Ev (fun q => spec_GoodGraph.l2 q (k : Int) 0 nodes (nodes.length : Int) (k : Int) nodes parts (rd_T36 nodes (k : Int)).f0 (rd_T36 nodes (k : Int)).f1 (rd_T36 nodes (k : Int)).f2) false) := by
  obtain ⟨hl, hnb, _⟩ := nodes_at hn k hk
  have hkl := node_kids hnb
  have step : ∀ i, i < k → ∀ r, (!alikeB (rd_T36 nodes (k : Int)) (rd_T36 nodes (i : Int)) || (rd parts (i : Int) == rd parts (k : Int))) = true → Ev (fun q => spec_GoodGraph.l2 q (k : Int) ((i + 1 : Nat) : Int) nodes (nodes.length : Int) (k : Int) nodes parts (rd_T36 nodes (k : Int)).f0 (rd_T36 nodes (k : Int)).f1 (rd_T36 nodes (k : Int)).f2) r → Ev (fun q => spec_GoodGraph.l2 q (k : Int) (i : Int) nodes (nodes.length : Int) (k : Int) nodes parts (rd_T36 nodes (k : Int)).f0 (rd_T36 nodes (k : Int)).f1 (rd_T36 nodes (k : Int)).f2) r := fun i hi r hq hr => by
    refine Ev.step (fun q => ?_) (Ev.bind (f := fun q t => if t = true then (if (i : Int) < (parts.length : Int) then (if 0 ≤ (k : Int) then (if (k : Int) < (parts.length : Int) then (if rd parts (i : Int) = rd parts (k : Int) then spec_GoodGraph.l2 q (k : Int) ((i + 1 : Nat) : Int) nodes (nodes.length : Int) (k : Int) nodes parts (rd_T36 nodes (k : Int)).f0 (rd_T36 nodes (k : Int)).f1 (rd_T36 nodes (k : Int)).f2 else some false) else none) else none) else none) else spec_GoodGraph.l2 q (k : Int) ((i + 1 : Nat) : Int) nodes (nodes.length : Int) (k : Int) nodes parts (rd_T36 nodes (k : Int)).f0 (rd_T36 nodes (k : Int)).f1 (rd_T36 nodes (k : Int)).f2) (alike_f (rd_T36 nodes (k : Int)) (rd_T36 nodes (i : Int)) (by omega)) ?_)
    · simp only [spec_GoodGraph.l2]
      rw [if_pos (by omega), if_pos (by omega), if_pos (by omega), wnext i k hi (by omega)]
    · cases ha : alikeB (rd_T36 nodes (k : Int)) (rd_T36 nodes (i : Int)) with
      | false => exact Ev.congr (fun q => if_neg (by decide)) hr
      | true =>
        rw [ha] at hq
        have hq2 : rd parts (i : Int) = rd parts (k : Int) := by simpa using hq
        exact Ev.congr (fun q => by rw [if_pos rfl, if_pos (by omega), if_pos (by omega), if_pos (by omega), if_pos hq2]) hr
  refine ⟨fun h hr => ?_, fun h => ?_⟩
  · exact loop_true (g := fun q i => spec_GoodGraph.l2 q (k : Int) (i : Int) nodes (nodes.length : Int) (k : Int) nodes parts (rd_T36 nodes (k : Int)).f0 (rd_T36 nodes (k : Int)).f1 (rd_T36 nodes (k : Int)).f2) (fun i hi hq hr => step i hi r hq hr) k 0 rfl (Nat.zero_le _) h (Ev.step (fun q => by simp only [spec_GoodGraph.l2]; rw [if_neg (by omega), wnext k nodes.length hk (by omega)]) hr)
  · refine loop_false (g := fun q i => spec_GoodGraph.l2 q (k : Int) (i : Int) nodes (nodes.length : Int) (k : Int) nodes parts (rd_T36 nodes (k : Int)).f0 (rd_T36 nodes (k : Int)).f1 (rd_T36 nodes (k : Int)).f2) (fun i hi hq hr => step i hi false hq hr) (fun i hi hq => ?_) k 0 rfl (Nat.zero_le _) h
    rw [Bool.or_eq_false_iff, Bool.not_eq_false'] at hq
    refine Ev.step (fun q => ?_) (Ev.bind (f := fun q t => if t = true then (if (i : Int) < (parts.length : Int) then (if 0 ≤ (k : Int) then (if (k : Int) < (parts.length : Int) then (if rd parts (i : Int) = rd parts (k : Int) then spec_GoodGraph.l2 q (k : Int) ((i + 1 : Nat) : Int) nodes (nodes.length : Int) (k : Int) nodes parts (rd_T36 nodes (k : Int)).f0 (rd_T36 nodes (k : Int)).f1 (rd_T36 nodes (k : Int)).f2 else some false) else none) else none) else none) else spec_GoodGraph.l2 q (k : Int) ((i + 1 : Nat) : Int) nodes (nodes.length : Int) (k : Int) nodes parts (rd_T36 nodes (k : Int)).f0 (rd_T36 nodes (k : Int)).f1 (rd_T36 nodes (k : Int)).f2) (alike_f (rd_T36 nodes (k : Int)) (rd_T36 nodes (i : Int)) (by omega)) (Ev.congr (fun q => by rw [hq.1, if_pos rfl, if_pos (by omega), if_pos (by omega), if_pos (by omega), if_neg (beq_eq_false_iff_ne.mp hq.2)]) (Ev.now _)))
    simp only [spec_GoodGraph.l2]
    rw [if_pos (by omega), if_pos (by omega), if_pos (by omega), wnext i k hi (by omega)]
end
end Go.Proofs.Ytlnejmlphkpaaaa.PA
