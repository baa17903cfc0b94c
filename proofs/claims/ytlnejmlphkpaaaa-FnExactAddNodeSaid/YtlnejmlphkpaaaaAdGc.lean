/- The graph seat: what AddNode answers, in plain words; the reference's parts as that. -/
import Derived.Test.YtlnejmlphkpaaaaAdGb
namespace Go.Proofs.Ytlnejmlphkpaaaa.PA
open Go.RowKit Go.Proofs.YtlnejmlphkpaaaaW.PrintWords Go.Proofs.YtlnejmlphkpaaaaW.PrintLast Go.Proofs.YtlnejmlphkpaaaaW.PrintMore
set_option linter.unusedVariables false
section
variable {nodes : List S36} {parts : List Int}
theorem roots_loop (hn : nodesB nodes = true) (hp : parts.length = nodes.length) (k : Nat) (hk : k < nodes.length) {r : Bool} :
    (rootsB parts (rd_T36 nodes (k : Int)).f2 = true → Ev (fun q => spec_GoodGraph.l2 q (k : Int) 0 nodes (nodes.length : Int) (k : Int) nodes parts (rd_T36 nodes (k : Int)).f0 (rd_T36 nodes (k : Int)).f1 (rd_T36 nodes (k : Int)).f2) r → Ev (fun q => spec_GoodGraph.l1 q (k : Int) nodes (nodes.length : Int) (k : Int) (rd_T36 nodes (k : Int)).f2 ((rd_T36 nodes (k : Int)).f2.length : Int) 0 nodes parts (rd_T36 nodes (k : Int)).f0 (rd_T36 nodes (k : Int)).f1 (rd_T36 nodes (k : Int)).f2) r) ∧
    (rootsB parts (rd_T36 nodes (k : Int)).f2 = false → Ev (fun q => spec_GoodGraph.l1 q (k : Int) nodes (nodes.length : Int) (k : Int) (rd_T36 nodes (k : Int)).f2 ((rd_T36 nodes (k : Int)).f2.length : Int) 0 nodes parts (rd_T36 nodes (k : Int)).f0 (rd_T36 nodes (k : Int)).f1 (rd_T36 nodes (k : Int)).f2) false) := by
  obtain ⟨hl, hnb, hks⟩ := nodes_at hn k hk
  have hkl := node_kids hnb
  obtain ⟨x, hx⟩ : ∃ x, x = rd_T36 nodes (k : Int) := ⟨_, rfl⟩
  rw [← hx] at hks hkl ⊢
  have hin : ∀ i, i < x.f2.length → 0 ≤ rd x.f2 (i : Int) ∧ rd x.f2 (i : Int) < (parts.length : Int) := fun i hi => by
    rw [rd_at x.f2 i hi]
    have := hks _ (List.getElem_mem hi)
    omega
  have step : ∀ i, i < x.f2.length → ∀ r, (rd parts (rd x.f2 (i : Int)) == rd x.f2 (i : Int)) = true → Ev (fun q => spec_GoodGraph.l1 q (k : Int) nodes (nodes.length : Int) (k : Int) x.f2 (x.f2.length : Int) ((i + 1 : Nat) : Int) nodes parts x.f0 x.f1 x.f2) r → Ev (fun q => spec_GoodGraph.l1 q (k : Int) nodes (nodes.length : Int) (k : Int) x.f2 (x.f2.length : Int) (i : Int) nodes parts x.f0 x.f1 x.f2) r := fun i hi r hq hr => by
    have := hin i hi
    refine Ev.step (fun q => ?_) hr
    simp only [spec_GoodGraph.l1]
    rw [if_pos (by omega), if_pos (by omega), if_pos (by omega), if_pos this.1, if_pos this.2, if_pos (eq_of_beq hq), wnext i x.f2.length hi (by omega)]
  refine ⟨fun h hr => ?_, fun h => ?_⟩
  · exact loop_true (g := fun q i => spec_GoodGraph.l1 q (k : Int) nodes (nodes.length : Int) (k : Int) x.f2 (x.f2.length : Int) (i : Int) nodes parts x.f0 x.f1 x.f2) (fun i hi hq hr => step i hi r hq hr) x.f2.length 0 rfl (Nat.zero_le _) h (Ev.step (fun q => by simp only [spec_GoodGraph.l1]; rw [if_neg (by omega)]) hr)
  · refine loop_false (g := fun q i => spec_GoodGraph.l1 q (k : Int) nodes (nodes.length : Int) (k : Int) x.f2 (x.f2.length : Int) (i : Int) nodes parts x.f0 x.f1 x.f2) (fun i hi hq hr => step i hi false hq hr) (fun i hi hq => ?_) x.f2.length 0 rfl (Nat.zero_le _) h
    have := hin i hi
    refine Ev.step (f := fun _ => some false) (fun q => ?_) (Ev.now _)
    simp only [spec_GoodGraph.l1]
    rw [if_pos (by omega), if_pos (by omega), if_pos (by omega), if_pos this.1, if_pos this.2, if_neg (beq_eq_false_iff_ne.mp hq)]
theorem good_f (nodes : List S36) (parts : List Int) : Ev (fun k => spec_GoodGraph.f k nodes parts) (goodG nodes parts) := by
  unfold goodG
  refine Ev.congr (fun k => by unfold spec_GoodGraph.f; rfl) (Ev.bind (nodes_f nodes) ?_)
  cases hn : nodesB nodes with
  | false =>
    rw [Bool.false_and, Bool.false_and]
    exact Ev.congr (fun k => if_neg (by decide)) (Ev.step (f := fun _ => some false) (fun k => by simp only [spec_GoodGraph.j0]; rw [if_pos trivial]) (Ev.now _))
  | true =>
    refine Ev.congr (fun k => if_pos rfl) ?_
    by_cases hp : (parts.length : Int) = (nodes.length : Int)
    · refine Ev.congr (fun k => if_pos hp) (Ev.bind (parts_f parts) ?_)
      rw [beq_iff_eq.mpr hp, Bool.true_and, Bool.true_and]
      cases hpb : partsB parts with
      | false => exact Ev.step (f := fun _ => some false) (fun k => by simp only [spec_GoodGraph.j0, Bool.not_false]; rw [if_pos trivial]) (Ev.now _)
      | true =>
        rw [Bool.true_and]
        have hp2 : parts.length = nodes.length := by omega
        have hl : nodes.length ≤ 120 := by simp only [nodesB, Bool.and_eq_true, decide_eq_true_eq] at hn; exact hn.1
        refine Ev.step (f := fun k => spec_GoodGraph.l0 k nodes (nodes.length : Int) ((0 : Nat) : Int) nodes parts) (fun k => by simp only [spec_GoodGraph.j0, Bool.not_true]; rw [if_neg (by decide)]; rfl) (all_loop nodes.length _ (fun q i => spec_GoodGraph.l0 q nodes (nodes.length : Int) (i : Int) nodes parts) (fun i hi => ⟨fun hq r hr => ?_, fun hq => ?_⟩) ?_ nodes.length 0 rfl (Nat.zero_le _))
        · rw [Bool.and_eq_true] at hq
          refine Ev.step (fun q => ?_) ((roots_loop hn hp2 i hi).1 hq.1 ((likes_loop hn hp2 i hi).1 hq.2 hr))
          simp only [spec_GoodGraph.l0]
          rw [if_pos (by omega), if_pos (by omega), if_pos (by omega)]
        · have key : Ev (fun q => spec_GoodGraph.l1 q (i : Int) nodes (nodes.length : Int) (i : Int) (rd_T36 nodes (i : Int)).f2 ((rd_T36 nodes (i : Int)).f2.length : Int) 0 nodes parts (rd_T36 nodes (i : Int)).f0 (rd_T36 nodes (i : Int)).f1 (rd_T36 nodes (i : Int)).f2) false := by
            cases h1 : rootsB parts (rd_T36 nodes (i : Int)).f2 with
            | false => exact (roots_loop (r := true) hn hp2 i hi).2 h1
            | true =>
              rw [h1, Bool.true_and] at hq
              exact (roots_loop hn hp2 i hi).1 h1 ((likes_loop (r := true) hn hp2 i hi).2 hq)
          refine Ev.step (fun q => ?_) key
          simp only [spec_GoodGraph.l0]
          rw [if_pos (by omega), if_pos (by omega), if_pos (by omega)]
        · refine Ev.step (f := fun _ => some true) (fun q => ?_) (Ev.now _)
          simp only [spec_GoodGraph.l0]
          rw [if_neg (by omega)]
    · refine Ev.congr (fun k => if_neg hp) ?_
      rw [beq_eq_false_iff_ne.mpr hp]
      simp only [Bool.false_and, Bool.and_false]
      exact Ev.step (f := fun _ => some false) (fun k => by simp only [spec_GoodGraph.j0]; rw [if_pos trivial]) (Ev.now _)
end
/-- The class of a node that is alike; -1 where there is none. -/
def findFrom (nodes : List S36) (parts : List Int) (x : S36) : Nat → Nat → Int
  | 0, _ => -1
  | d + 1, i => if alikeB (rd_T36 nodes (i : Int)) x = true then rd parts (i : Int) else findFrom nodes parts x d (i + 1)
def findN (nodes : List S36) (parts : List Int) (x : S36) : Int := findFrom nodes parts x nodes.length 0
section
variable {nodes : List S36} {parts : List Int}
theorem find_f (hk : ∀ x ∈ nodes, x.f2.length ≤ 1000) (hl : nodes.length ≤ 1000) (hp : parts.length = nodes.length) (x : S36) : ∀ (d i : Nat), nodes.length - i = d → i ≤ nodes.length → Ev (fun k => spec_l6Find.l0 k nodes (nodes.length : Int) (i : Int) nodes parts x.f0 x.f1 x.f2) (findFrom nodes parts x d i)
  | 0, i, hd, hi => by
    refine Ev.step (f := fun _ => some (-1)) (fun k => ?_) (Ev.now _)
    simp only [spec_l6Find.l0]
    rw [if_neg (by omega)]
  | d + 1, i, hd, hi => by
    have h : i < nodes.length := by omega
    have hm : (rd_T36 nodes (i : Int)).f2.length ≤ 1000 := by rw [rdN_at nodes i h]; exact hk _ (List.getElem_mem h)
    have ih := find_f hk hl hp x d (i + 1) (by omega) (by omega)
    refine Ev.step (f := fun k => (spec_l6Alike.f k (rd_T36 nodes (i : Int)).f0 (rd_T36 nodes (i : Int)).f1 (rd_T36 nodes (i : Int)).f2 x.f0 x.f1 x.f2).bind fun t => if t = true then (if (i : Int) < (parts.length : Int) then some (rd parts (i : Int)) else none) else spec_l6Find.l0 k nodes (nodes.length : Int) ((i + 1 : Nat) : Int) nodes parts x.f0 x.f1 x.f2) (fun k => ?_) (Ev.bind (alike_f _ _ hm) ?_)
    · simp only [spec_l6Find.l0]
      rw [if_pos (by omega), if_pos (by omega), if_pos (by omega), wnext i nodes.length h (by omega)]
    · unfold findFrom
      cases ha : alikeB (rd_T36 nodes (i : Int)) x with
      | true => exact Ev.congr (fun k => by rw [if_pos rfl, if_pos (by omega)]; rfl) (Ev.now _)
      | false => exact Ev.congr (fun k => if_neg (by decide)) ih
theorem find_is (hk : ∀ x ∈ nodes, x.f2.length ≤ 1000) (hl : nodes.length ≤ 1000) (hp : parts.length = nodes.length) (x : S36) : Ev (fun k => spec_l6Find.f k nodes parts x.f0 x.f1 x.f2) (findN nodes parts x) :=
  Ev.congr (fun k => rfl) (find_f hk hl hp x nodes.length 0 rfl (Nat.zero_le _))
/-- Kids by their classes. -/
def kidsC (parts kids : List Int) : List Int := kids.map (rd parts)
theorem kids_f (kids : List Int) (hl : kids.length ≤ 1000) (hin : ∀ y ∈ kids, 0 ≤ y ∧ y < (parts.length : Int)) : ∀ (d i : Nat), kids.length - i = d → i ≤ kids.length → Ev (fun k => spec_l6Kids.l0 k parts (kidsC parts (kids.take i)) kids (kids.length : Int) (i : Int)) (kidsC parts kids)
  | 0, i, hd, hi => by
    have e : i = kids.length := by omega
    refine Ev.step (f := fun _ => some (kidsC parts kids)) (fun k => ?_) (Ev.now _)
    simp only [spec_l6Kids.l0]
    rw [if_neg (by omega), e, List.take_length]
  | d + 1, i, hd, hi => by
    have h : i < kids.length := by omega
    have hy := hin _ (List.getElem_mem h)
    have er := rd_at kids i h
    refine Ev.step (fun k => ?_) (kids_f kids hl hin d (i + 1) (by omega) (by omega))
    simp only [spec_l6Kids.l0]
    rw [if_pos (by omega), if_pos (by omega), if_pos (by omega), er, if_pos hy.1, if_pos hy.2, if_pos (by simp [kidsC]; omega), wnext i kids.length h (by omega)]
    rw [show kidsC parts (kids.take (i + 1)) = kidsC parts (kids.take i) ++ [rd parts kids[i]] by rw [List.take_succ_eq_append_getElem h]; simp only [kidsC, List.map_append, List.map_cons, List.map_nil]]
theorem kids_is (kids : List Int) (hl : kids.length ≤ 1000) (hin : ∀ y ∈ kids, 0 ≤ y ∧ y < (parts.length : Int)) : Ev (fun k => spec_l6Kids.f k parts kids) (kidsC parts kids) :=
  Ev.congr (fun k => by unfold spec_l6Kids.f; rfl) (kids_f kids hl hin kids.length 0 rfl (Nat.zero_le _))
end
end Go.Proofs.Ytlnejmlphkpaaaa.PA
