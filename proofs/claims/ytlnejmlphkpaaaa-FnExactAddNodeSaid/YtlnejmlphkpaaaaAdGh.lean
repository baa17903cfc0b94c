/- The graph seat: spec.AddNode by hand. -/
import Derived.Test.YtlnejmlphkpaaaaAdGg
namespace Go.Proofs.Ytlnejmlphkpaaaa.PA
open Go.RowKit Go.Proofs.YtlnejmlphkpaaaaW.PrintWords Go.Proofs.YtlnejmlphkpaaaaW.PrintLast Go.Proofs.YtlnejmlphkpaaaaW.PrintMore
set_option linter.unusedVariables false
theorem good_calls {A0 A1 : Option Addr} {c0 c1 : Nat} {nodes : List S36} {parts : List Int} (w : World) (h0 : Kd.C k36 w A0 nodes.length nodes) (l0 : nodes.length ≤ c0) (h1 : Kd.C (Kd.int .i64) w A1 parts.length parts) (l1 : parts.length ≤ c1) :
    Calls Try.prog 43 #[.agg #[.slice A0 nodes.length c0, .slice A1 parts.length c1]] w fun e w' => e = .returned (.bool (goodG nodes parts)) ∧ Below w.heap.size w w' := by
  obtain ⟨k, hk⟩ := Ev.rounds (good_f nodes parts)
  exact spec_GoodGraph.calls k A0 c0 nodes A1 c1 parts _ w h0 l0 h1 l1 hk
theorem node_calls {A2 : Option Addr} {c2 : Nat} (x : S36) (w : World) (h : Kd.C (Kd.int .i64) w A2 x.f2.length x.f2) (l : x.f2.length ≤ c2) :
    Calls Try.prog 59 #[.agg #[.int .i64 x.f0, .int .i64 x.f1, .slice A2 x.f2.length c2]] w fun e w' => e = .returned (.bool (nodeB x.f0 x.f1 x.f2)) ∧ Below w.heap.size w w' := by
  obtain ⟨k, hk⟩ := Ev.rounds (node_f x.f0 x.f1 x.f2)
  exact spec_l6Node.calls k _ _ A2 c2 x.f2 _ w h l hk
theorem all_calls {A2 : Option Addr} {c2 : Nat} (l : List Int) (a b : Int) (hl : l.length ≤ 1000) (w : World) (h : Kd.C (Kd.int .i64) w A2 l.length l) (hc : l.length ≤ c2) :
    Calls Try.prog 60 #[.slice A2 l.length c2, .int .i64 a, .int .i64 b] w fun e w' => e = .returned (.bool (allK l a b)) ∧ Below w.heap.size w w' := by
  obtain ⟨k, hk⟩ := Ev.rounds (allK_f l a b hl)
  exact (spec_l1All.calls k A2 c2 l a b _ w h hc hk).mono fun e w' h => ⟨h.1, h.2.below⟩
theorem own_calls {A0 A1 : Option Addr} {c0 c1 : Nat} {nodes : List S36} {parts : List Int} (w : World) (h0 : Kd.C k36 w A0 nodes.length nodes) (l0 : nodes.length ≤ c0) (h1 : Kd.C (Kd.int .i64) w A1 parts.length parts) (l1 : parts.length ≤ c1) (hl : nodes.length ≤ 1000) (hp : parts.length ≤ 1000) (hk : ∀ x ∈ nodes, x.f2.length ≤ 1000) :
    Calls Try.prog 62 #[.agg #[.slice A0 nodes.length c0, .slice A1 parts.length c1]] w fun e w' => ∃ v0 v1 : Value, e = .returned (.agg #[v0, v1]) ∧ Kd.S k36 36 w' w.heap.size (fun k => some k ≠ v1.ownBlock) v0 nodes ∧ (Kd.int .i64).R 3 w' w.heap.size (fun _ => True) v1 parts ∧ Below w.heap.size w w' := by
  obtain ⟨k, hk⟩ := Ev.rounds (own_is nodes parts hl hp hk)
  exact spec_l6Own.calls k A0 c0 nodes A1 c1 parts _ _ w h0 l0 h1 l1 hk
theorem kids_calls {A1 A2 : Option Addr} {c1 c2 : Nat} {parts kids : List Int} (w : World) (h1 : Kd.C (Kd.int .i64) w A1 parts.length parts) (l1 : parts.length ≤ c1) (h2 : Kd.C (Kd.int .i64) w A2 kids.length kids) (l2 : kids.length ≤ c2) (hl : kids.length ≤ 1000) (hin : ∀ y ∈ kids, 0 ≤ y ∧ y < (parts.length : Int)) :
    Calls Try.prog 63 #[.slice A1 parts.length c1, .slice A2 kids.length c2] w fun e w' => ∃ v0 : Value, e = .returned v0 ∧ (Kd.int .i64).R 3 w' w.heap.size (fun _ => True) v0 (kidsC parts kids) ∧ Below w.heap.size w w' := by
  obtain ⟨k, hk⟩ := Ev.rounds (kids_is kids hl hin)
  exact spec_l6Kids.calls k A1 c1 parts A2 c2 kids _ w h1 l1 h2 l2 hk
/-- What AddNode answers, once its arguments are right. -/
def addOf (p : (List S36 × List Int) × Int) : (List S36 × List Int) × Int × Bool := if goodG p.1.1 p.1.2 = true then (p.1, p.2, true) else (([], []), 0, false)
theorem ans_right {nodes : List S36} {parts : List Int} {x : S36} (h1 : goodG nodes parts = true) (h2 : nodeB x.f0 x.f1 x.f2 = true) (h3 : allK x.f2 0 ((nodes.length : Int) - 1) = true) : ansAddNode nodes parts x = addOf (putN nodes parts ⟨x.f0, x.f1, kidsC parts x.f2⟩) := by
  have hg := goodG_iff.1 h1
  have hk : ∀ y ∈ x.f2, 0 ≤ y ∧ y < (nodes.length : Int) := fun y hy => by have := allK_iff.1 h3 y hy; omega
  rw [ansAddNode, h1, h2, h3, if_pos (by decide), putN, addOf]
  by_cases hf : 0 ≤ findN nodes parts ⟨x.f0, x.f1, kidsC parts x.f2⟩
  · rw [if_pos hf, if_pos hf, if_pos h1]
  · have hm := ((findFrom_iff (fun k hk => (hg.part k hk).1.1) ⟨x.f0, x.f1, kidsC parts x.f2⟩ nodes.length 0 rfl (Nat.zero_le _)).1).resolve_left hf
    have ha := added_good hg h2 hk hm
    rw [if_neg hf, if_neg hf]
    by_cases hl : nodes.length = 120
    · rw [if_pos hl, if_neg (by rw [ha, decide_eq_true hl]; decide)]
    · rw [if_neg hl, if_pos (by rw [ha, decide_eq_false hl]; rfl)]
theorem ans_wrong {nodes : List S36} {parts : List Int} {x : S36} (h : ((goodG nodes parts && nodeB x.f0 x.f1 x.f2) && allK x.f2 0 ((nodes.length : Int) - 1)) = false) : ansAddNode nodes parts x = (([], []), 0, false) := by
  rw [ansAddNode, h]; rfl
end Go.Proofs.Ytlnejmlphkpaaaa.PA
