/- The graph seat: what a region of an exact law has made so far that copies the arguments and asks for the answer; the law's contracts. -/
import Derived.Test.YtlnejmlphkpaaaaAdGw
import Derived.Test.YtlnejmlphkpaaaaAdGu
import Derived.Test.YtlnejmlphkpaaaaAdGi
namespace Go.Proofs.Ytlnejmlphkpaaaa.PA
open Go.RowKit Go.Proofs.YtlnejmlphkpaaaaW.PrintWords Go.Proofs.YtlnejmlphkpaaaaW.PrintLast Go.Proofs.YtlnejmlphkpaaaaW.PrintMore
set_option linter.unusedVariables false
/-- A graph that is read. -/
def GC (W : World) (v : Value) (nodes : List S36) (parts : List Int) : Prop := ∃ A c A' c', v = .agg #[.slice A nodes.length c, .slice A' parts.length c'] ∧ Kd.C k36 W A nodes.length nodes ∧ nodes.length ≤ c ∧ Kd.C (Kd.int .i64) W A' parts.length parts ∧ parts.length ≤ c'
/-- A node that is read. -/
def NC (W : World) (v : Value) (x : S36) : Prop := ∃ A c, v = .agg #[.int .i64 x.f0, .int .i64 x.f1, .slice A x.f2.length c] ∧ Kd.C (Kd.int .i64) W A x.f2.length x.f2 ∧ x.f2.length ≤ c
theorem GC.below {W W' : World} {v : Value} {nodes : List S36} {parts : List Int} (h : GC W v nodes parts) (hb : Below W.heap.size W W') : GC W' v nodes parts := by
  obtain ⟨A, c, A', c', e, h1, h2, h3, h4⟩ := h
  exact ⟨A, c, A', c', e, Kd.C_below h1 hb, h2, Kd.C_below h3 hb, h4⟩
theorem NC.below {W W' : World} {v : Value} {x : S36} (h : NC W v x) (hb : Below W.heap.size W W') : NC W' v x := by
  obtain ⟨A, c, e, h1, h2⟩ := h
  exact ⟨A, c, e, Kd.C_below h1 hb, h2⟩
/-- What has come up (b): the graph (1), the node (3), the answer (4), its variable (9). -/
structure LR (wS : World) (nodes : List S36) (parts : List Int) (x : S36) (a1 : List S36) (a2 : List Int) (ai : Int) (ab : Bool) (b1 b3 b4 b9 : Bool) (xc1 xc2 xe0 xe1 xe2 xal : Value) (W : World) : Prop where
  below : Below wS.heap.size wS W
  f1 : b1 = true → b4 = false → GC W xc1 nodes parts
  f3 : b3 = true → b4 = false → NC W xc2 x
  f4 : b4 = true → ∃ u0 u1, xe0 = .agg #[u0, u1] ∧ xe1 = .int .i64 ai ∧ xe2 = .bool ab ∧ Kd.S k36 36 W wS.heap.size (fun k => some k ≠ u1.ownBlock) u0 a1 ∧ (Kd.int .i64).R 3 W wS.heap.size (fun _ => True) u1 a2
  f9 : b9 = true → ∃ g, xal = .pointer (some ⟨g, 0, none⟩) ∧ wS.heap.size ≤ g ∧ W.heap[g]? = some (.cells #[.slice none 0 0, .slice none 0 0] 32 (0, 0))
theorem LR.grow {wS : World} {nodes : List S36} {parts : List Int} {x : S36} {a1 : List S36} {a2 : List Int} {ai : Int} {ab b1 b3 b4 b9 : Bool} {xc1 xc2 xe0 xe1 xe2 xal : Value} {W W' : World} (h : LR wS nodes parts x a1 a2 ai ab b1 b3 b4 b9 xc1 xc2 xe0 xe1 xe2 xal W) (hb : Below W.heap.size W W') : LR wS nodes parts x a1 a2 ai ab b1 b3 b4 b9 xc1 xc2 xe0 xe1 xe2 xal W' where
  below := h.below.trans (hb.mono h.below.size)
  f1 h0 h1 := (h.f1 h0 h1).below hb
  f3 h0 h1 := (h.f3 h0 h1).below hb
  f4 h0 := by
    obtain ⟨u0, u1, e1, e2, e3, hs, hr⟩ := h.f4 h0
    exact ⟨u0, u1, e1, e2, e3, Kd.S_below hs hb, Kd.R_below hr hb⟩
  f9 h0 := by
    obtain ⟨g, e, hg, hc⟩ := h.f9 h0
    exact ⟨g, e, hg, blk_below hc hb⟩
/-- What AddNode answers is small. -/
theorem ans_small (nodes : List S36) (parts : List Int) (x : S36) : (ansAddNode nodes parts x).1.1.length ≤ 1000 ∧ (∀ y ∈ (ansAddNode nodes parts x).1.1, y.f2.length ≤ 1000) ∧ (ansAddNode nodes parts x).1.2.length ≤ 1000 := by
  unfold ansAddNode
  split
  · rename_i h
    rw [Bool.and_eq_true, Bool.and_eq_true] at h
    have hg := goodG_iff.1 h.1.1
    have hks : ∀ y ∈ nodes, y.f2.length ≤ 1000 := fun y hy => by
      obtain ⟨k, hk, rfl⟩ := List.getElem_of_mem hy
      have := node_kids (hg.node k hk)
      rw [rdN_at nodes k hk] at this
      omega
    have hx := node_kids h.1.2
    have hm := hg.most
    have hl := hg.len
    split
    · exact ⟨by show nodes.length ≤ 1000; omega, hks, by show parts.length ≤ 1000; omega⟩
    · split
      · exact ⟨by simp, fun y hy => by simp at hy, by simp⟩
      · refine ⟨by simp; omega, fun y hy => ?_, by simp; omega⟩
        rcases List.mem_append.1 hy with hy | hy
        · exact hks y hy
        · rw [List.mem_singleton] at hy
          rw [hy]
          simp only [kidsC, List.length_map]
          omega
  · exact ⟨by simp, fun y hy => by simp at hy, by simp⟩
/-- What the law leans on, for one graph and one node that are small. -/
theorem toG_any {A0 A1 : Option Addr} {c0 c1 : Nat} {nodes : List S27} {parts : List Int} (h : SmallG nodes parts) (W : World) (h0 : Kd.C k27 W A0 nodes.length nodes) (l0 : nodes.length ≤ c0) (h1 : Kd.C (Kd.int .i64) W A1 parts.length parts) (l1 : parts.length ≤ c1) :
    Calls Try.prog 13 #[.agg #[.slice A0 nodes.length c0, .slice A1 parts.length c1]] W fun e w' => ∃ v0 v1 : Value, e = .returned (.agg #[v0, v1]) ∧ Kd.S k36 36 w' W.heap.size (fun k => some k ≠ v1.ownBlock) v0 (nodes.map cN) ∧ (Kd.int .i64).R 3 w' W.heap.size (fun _ => True) v1 parts ∧ Below W.heap.size W w' := by
  obtain ⟨k, hk⟩ := Ev.rounds (toG_f nodes parts h)
  exact laws_toEGraph.calls k A0 c0 nodes A1 c1 parts _ _ W h0 l0 h1 l1 hk
theorem toN_any {A2 : Option Addr} {c2 : Nat} (p q : Int) (l : List Int) (h : l.length ≤ 1048576) (W : World) (h0 : Kd.C (Kd.int .i64) W A2 l.length l) (l0 : l.length ≤ c2) :
    Calls Try.prog 14 #[.agg #[.int .i64 p, .int .i64 q, .slice A2 l.length c2]] W fun e w' => ∃ v2 : Value, e = .returned (.agg #[.int .i64 p, .int .i64 q, v2]) ∧ (Kd.int .i64).R 3 w' W.heap.size (fun _ => True) v2 l ∧ Below W.heap.size W w' := by
  obtain ⟨k, hk⟩ := Ev.rounds (toN_f p q l h)
  exact laws_toENode.calls k p q A2 c2 l _ _ _ W h0 l0 hk
theorem eqG_any {A0 A1 B0 B1 : Option Addr} {c0 c1 d0 d1 : Nat} {nodes : List S36} {parts : List Int} (hn : nodes.length ≤ 1048576) (hk : ∀ x ∈ nodes, x.f2.length ≤ 1048576) (hp : parts.length ≤ 1048576) (W : World)
    (h0 : Kd.C k36 W A0 nodes.length nodes) (l0 : nodes.length ≤ c0) (h1 : Kd.C (Kd.int .i64) W A1 parts.length parts) (l1 : parts.length ≤ c1) (g0 : Kd.C k36 W B0 nodes.length nodes) (m0 : nodes.length ≤ d0) (g1 : Kd.C (Kd.int .i64) W B1 parts.length parts) (m1 : parts.length ≤ d1) :
    Calls Try.prog 16 #[.agg #[.slice A0 nodes.length c0, .slice A1 parts.length c1], .agg #[.slice B0 nodes.length d0, .slice B1 parts.length d1]] W fun e w' => e = .returned (.bool true) ∧ Below W.heap.size W w' := by
  obtain ⟨k, hkk⟩ := Ev.rounds (eqG_f nodes parts hn hk hp)
  exact laws_eqEGraph.calls k A0 c0 nodes A1 c1 parts B0 d0 nodes B1 d1 parts true W h0 l0 h1 l1 g0 m0 g1 m1 hkk
theorem eqN_any {A B : Option Addr} {c d : Nat} (p q : Int) (l : List Int) (h : l.length ≤ 1048576) (W : World) (h0 : Kd.C (Kd.int .i64) W A l.length l) (l0 : l.length ≤ c) (g0 : Kd.C (Kd.int .i64) W B l.length l) (m0 : l.length ≤ d) :
    Calls Try.prog 17 #[.agg #[.int .i64 p, .int .i64 q, .slice A l.length c], .agg #[.int .i64 p, .int .i64 q, .slice B l.length d]] W fun e w' => e = .returned (.bool true) ∧ Below W.heap.size W w' := by
  obtain ⟨k, hk⟩ := Ev.rounds (eqN_f p q l h)
  exact laws_eqENode.calls k p q A c l p q B d l true W h0 l0 g0 m0 hk
theorem markE_any {w0 w : World} {P : Nat → Prop} {u : Value} (p q : Int) (l : List Int) (k : Int) (h0 : 0 ≤ k) (h1 : k ≤ 4000000000000000000) (hl : l.length ≤ 1048576) (hB : Below w0.heap.size w0 w) (ho : (Kd.int .i64).R 3 w w0.heap.size P u l) :
    Calls Try.prog 19 #[.agg #[.int .i64 p, .int .i64 q, u], .int .i64 k] w fun e w' => e = .returned (.int .i64 (k + (l.length : Int))) ∧ Below w0.heap.size w0 w' ∧ Kept w w' P := by
  obtain ⟨j, hj⟩ := Ev.rounds (markI_f l k h0 h1 hl)
  exact (laws_markENode.calls j p q P u l k _ _ w0 w hB ho (by unfold laws_markENode.f; rw [hj]; rfl)).mono fun e w' h => ⟨h.1, h.2.2.1, h.2.2.2⟩
end Go.Proofs.Ytlnejmlphkpaaaa.PA
