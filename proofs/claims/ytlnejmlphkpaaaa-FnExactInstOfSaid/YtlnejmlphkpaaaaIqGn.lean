/- The graph seat: looseOK, cloneNodes, cloneGraph in plain words. -/
import Derived.Test.YtlnejmlphkpaaaaIqGl
import Derived.Test.YtlnejmlphkpaaaaIqGm
namespace Go.Proofs.Ytlnejmlphkpaaaa.PA
open Go.RowKit Go.Proofs.YtlnejmlphkpaaaaW.PrintWords Go.Proofs.YtlnejmlphkpaaaaW.PrintLast Go.Proofs.YtlnejmlphkpaaaaW.PrintMore
set_option linter.unusedVariables false
theorem wnext64 (i n : Nat) (h : i < n) (hn : n ≤ 9223372036854775807) : wrap64 ((i : Int) + 1) = ((i + 1 : Nat) : Int) := by unfold wrap64; omega
def nodeAt (l : List S36) (j : Nat) : Bool := nodeB (rd_T36 l (j : Int)).f0 (rd_T36 l (j : Int)).f1 (rd_T36 l (j : Int)).f2 && allK (rd_T36 l (j : Int)).f2 0 ((j : Int) - 1)
theorem loose_f (l : List S36) (hl : l.length ≤ 9223372036854775807) : Ev (fun k => impl_looseOK.f k l) (nodesB l) := by
 have hc : nodesB l = (allFrom l.length (nodeAt l) 0 && decide (l.length ≤ 120)) := by unfold nodesB; exact Bool.and_comm _ _
 rw [hc]
 have en : ∀ i : Nat, i < l.length → impl_enodeOK.f (rd_T36 l (i : Int)).f0 (rd_T36 l (i : Int)).f1 (rd_T36 l (i : Int)).f2 (i : Int) = some (nodeAt l i) := fun i hi => by
  unfold impl_enodeOK.f nodeAt
  rw [show wrap64 ((i : Int) - 1) = (i : Int) - 1 by unfold wrap64; omega]
 have step : ∀ i, i < l.length → ∀ r, nodeAt l i = true → Ev (fun k => impl_looseOK.l0 k l l (l.length : Int) ((i + 1 : Nat) : Int)) r → Ev (fun k => impl_looseOK.l0 k l l (l.length : Int) (i : Int)) r := fun i hi r hp hr => by
  refine Ev.step (fun k => ?_) hr
  simp only [impl_looseOK.l0]
  rw [if_pos (by omega), if_pos (by omega), if_pos (by omega), en i hi, hp, Option.bind_some, if_pos rfl, wnext64 i l.length hi hl]
 cases ha : allFrom l.length (nodeAt l) 0 with
 | true =>
  rw [Bool.true_and]
  refine Ev.congr (f := fun k => impl_looseOK.l0 k l l (l.length : Int) ((0 : Nat) : Int)) (fun k => rfl) (loop_true (g := fun k i => impl_looseOK.l0 k l l (l.length : Int) (i : Int)) (fun i hi hp hr => step i hi _ hp hr) l.length 0 rfl (Nat.zero_le _) ha (Ev.step (f := fun _ => some (decide (l.length ≤ 120))) (fun k => ?_) (Ev.now _)))
  simp only [impl_looseOK.l0]
  rw [if_neg (by omega)]
  congr 1
  exact decide_eq_decide.2 (by omega)
 | false =>
  rw [Bool.false_and]
  refine Ev.congr (f := fun k => impl_looseOK.l0 k l l (l.length : Int) ((0 : Nat) : Int)) (fun k => rfl) (loop_false (g := fun k i => impl_looseOK.l0 k l l (l.length : Int) (i : Int)) (fun i hi hp hr => step i hi _ hp hr) (fun i hi hp => ?_) l.length 0 rfl (Nat.zero_le _) ha)
  refine Ev.step (f := fun _ => some false) (fun k => ?_) (Ev.now _)
  simp only [impl_looseOK.l0]
  rw [if_pos (by omega), if_pos (by omega), if_pos (by omega), en i hi, hp, Option.bind_some, if_neg (by decide)]
theorem loose_calls {A0 : Option Addr} {c0 : Nat} {nodes : List S36} (w : World) (h0 : Kd.C k36 w A0 nodes.length nodes) (l0 : nodes.length ≤ c0) :
  Calls Try.prog 75 #[.slice A0 nodes.length c0] w fun e w' => e = .returned (.bool (nodesB nodes)) ∧ Below w.heap.size w w' := by
 obtain ⟨k, hk⟩ := Ev.rounds (loose_f nodes (Kd.C_max h0))
 exact impl_looseOK.calls k A0 c0 nodes _ w h0 l0 hk
theorem clone_int_f (l : List Int) (h : l.length ≤ 1000) : slices_Clone_int_int.f l = some l := by
 unfold slices_Clone_int_int.f
 rw [Option.bind_some, if_pos (by simp only [List.length_nil]; omega), List.nil_append]
theorem cloneNodes_go (l : List S36) (hl : l.length ≤ 1000) (hk : ∀ y ∈ l, y.f2.length ≤ 1000) : ∀ (d i : Nat) (x : List S36), l.length - i = d → i ≤ l.length → x.length = l.length → (∀ j, j < i → x[j]? = l[j]?) → Ev (fun k => impl_cloneNodes.l0 k x l (l.length : Int) (i : Int)) l
 | 0, i, x, hd, hi, hx, hj => by
  have : x = l := List.ext_getElem? fun j => by
   by_cases h : j < i
   ·exact hj j h
   ·rw [List.getElem?_eq_none (by omega), List.getElem?_eq_none (by omega)]
  subst this
  refine Ev.step (f := fun _ => some x) (fun k => ?_) (Ev.now _)
  simp only [impl_cloneNodes.l0]
  rw [if_neg (by omega)]
 | d + 1, i, x, hd, hi, hx, hj => by
  have h : i < l.length := by omega
  have ih := cloneNodes_go l hl hk d (i + 1) (x.set i l[i]) (by omega) (by omega) (by simpa using hx) (fun j h1 => by
   by_cases e : j = i
   ·subst e; rw [List.getElem?_set_self (by omega), List.getElem?_eq_getElem h]
   ·rw [List.getElem?_set_ne (by omega)]; exact hj j (by omega))
  refine Ev.step (fun k => ?_) ih
  simp only [impl_cloneNodes.l0]
  rw [if_pos (by omega), if_pos (by omega), if_pos (by omega), rdN_at l i h, clone_int_f _ (hk _ (List.getElem_mem h)), Option.bind_some, if_pos (by omega), wnext i l.length h (by omega), Int.toNat_natCast]
theorem cloneNodes_f (l : List S36) (hl : l.length ≤ 1000) (hk : ∀ y ∈ l, y.f2.length ≤ 1000) : Ev (fun k => impl_cloneNodes.f k l) l :=
 Ev.congr (f := fun k => impl_cloneNodes.l0 k (List.replicate l.length z36) l (l.length : Int) ((0 : Nat) : Int)) (fun k => by unfold impl_cloneNodes.f; rw [if_pos (by omega), if_pos (by omega)]; rfl) (cloneNodes_go l hl hk l.length 0 _ rfl (Nat.zero_le _) (by simp) (fun j h => absurd h (by omega)))
theorem cloneGraph_f (nodes : List S36) (parts : List Int) (hl : nodes.length ≤ 1000) (hp : parts.length ≤ 1000) (hk : ∀ y ∈ nodes, y.f2.length ≤ 1000) : Ev (fun k => impl_cloneGraph.f k nodes parts) (nodes, parts) :=
 Ev.congr (fun k => rfl) (Ev.bind (cloneNodes_f nodes hl hk) (Ev.congr (f := fun _ => some (nodes, parts)) (fun k => by rw [clone_int_f parts hp, Option.bind_some]) (Ev.now _)))
theorem cloneG_calls {A0 A1 : Option Addr} {c0 c1 : Nat} {nodes : List S36} {parts : List Int} (w : World) (h0 : Kd.C k36 w A0 nodes.length nodes) (l0 : nodes.length ≤ c0) (h1 : Kd.C (Kd.int .i64) w A1 parts.length parts) (l1 : parts.length ≤ c1) (hl : nodes.length ≤ 1000) (hp : parts.length ≤ 1000) (hk : ∀ x ∈ nodes, x.f2.length ≤ 1000) :
  Calls Try.prog 66 #[.agg #[.slice A0 nodes.length c0, .slice A1 parts.length c1]] w fun e w' => ∃ v0 v1 : Value, e = .returned (.agg #[v0, v1]) ∧ Kd.S k36 36 w' w.heap.size (fun k => some k ≠ v1.ownBlock) v0 nodes ∧ (Kd.int .i64).R 3 w' w.heap.size (fun _ => True) v1 parts ∧ Below w.heap.size w w' := by
 obtain ⟨k, hk⟩ := Ev.rounds (cloneGraph_f nodes parts hl hp hk)
 exact impl_cloneGraph.calls k A0 c0 nodes A1 c1 parts _ _ w h0 l0 h1 l1 hk
end Go.Proofs.Ytlnejmlphkpaaaa.PA
