/- Parts of the walk. -/
import Derived.Test.YtlnejmlphkpaaaaIqGg
import Derived.Test.YtlnejmlphkpaaaaIqGh0
import Derived.Test.YtlnejmlphkpaaaaIqGz
import Derived.Test.YtlnejmlphkpaaaaIqGt
section
/- The graph seat: spec.AddNode by hand. -/
namespace Go.Proofs.Ytlnejmlphkpaaaa.PA
open Go.RowKit Go.Proofs.YtlnejmlphkpaaaaW.PrintWords Go.Proofs.YtlnejmlphkpaaaaW.PrintLast Go.Proofs.YtlnejmlphkpaaaaW.PrintMore
set_option linter.unusedVariables false
theorem own_calls {A0 A1 : Option Addr} {c0 c1 : Nat} {nodes : List S36} {parts : List Int} (w : World) (h0 : Kd.C k36 w A0 nodes.length nodes) (l0 : nodes.length ≤ c0) (h1 : Kd.C (Kd.int .i64) w A1 parts.length parts) (l1 : parts.length ≤ c1) (hl : nodes.length ≤ 1000) (hp : parts.length ≤ 1000) (hk : ∀ x ∈ nodes, x.f2.length ≤ 1000) :
  Calls Try.prog 62 #[.agg #[.slice A0 nodes.length c0, .slice A1 parts.length c1]] w fun e w' => ∃ v0 v1 : Value, e = .returned (.agg #[v0, v1]) ∧ Kd.S k36 36 w' w.heap.size (fun k => some k ≠ v1.ownBlock) v0 nodes ∧ (Kd.int .i64).R 3 w' w.heap.size (fun _ => True) v1 parts ∧ Below w.heap.size w w' := by
 obtain ⟨k, hk⟩ := Ev.rounds (own_is nodes parts hl hp hk)
 exact spec_l6Own.calls k A0 c0 nodes A1 c1 parts _ _ w h0 l0 h1 l1 hk
end Go.Proofs.Ytlnejmlphkpaaaa.PA
end
section
/- The graph seat: what a region of an exact law has made so far that copies the arguments and asks for the answer; the law's contracts. -/
namespace Go.Proofs.Ytlnejmlphkpaaaa.PA
open Go.RowKit Go.Proofs.YtlnejmlphkpaaaaW.PrintWords Go.Proofs.YtlnejmlphkpaaaaW.PrintLast Go.Proofs.YtlnejmlphkpaaaaW.PrintMore
set_option linter.unusedVariables false
def GC (W : World) (v : Value) (nodes : List S36) (parts : List Int) : Prop := ∃ A c A' c', v = .agg #[.slice A nodes.length c, .slice A' parts.length c'] ∧ Kd.C k36 W A nodes.length nodes ∧ nodes.length ≤ c ∧ Kd.C (Kd.int .i64) W A' parts.length parts ∧ parts.length ≤ c'
def NC (W : World) (v : Value) (x : S36) : Prop := ∃ A c, v = .agg #[.int .i64 x.f0, .int .i64 x.f1, .slice A x.f2.length c] ∧ Kd.C (Kd.int .i64) W A x.f2.length x.f2 ∧ x.f2.length ≤ c
theorem GC.below {W W' : World} {v : Value} {nodes : List S36} {parts : List Int} (h : GC W v nodes parts) (hb : Below W.heap.size W W') : GC W' v nodes parts := by
 obtain ⟨A, c, A', c', e, h1, h2, h3, h4⟩ := h
 exact ⟨A, c, A', c', e, Kd.C_below h1 hb, h2, Kd.C_below h3 hb, h4⟩
theorem NC.below {W W' : World} {v : Value} {x : S36} (h : NC W v x) (hb : Below W.heap.size W W') : NC W' v x := by
 obtain ⟨A, c, e, h1, h2⟩ := h
 exact ⟨A, c, e, Kd.C_below h1 hb, h2⟩
structure LR (wS : World) (nodes : List S36) (parts : List Int) (x : S36) (a1 : List S36) (a2 : List Int) (ai : Int) (ab : Bool) (b1 b3 b4 b9 : Bool) (xc1 xc2 xe0 xe1 xe2 xal : Value) (W : World) : Prop where
 below : Below wS.heap.size wS W
 f1 : b1 = true → b4 = false → GC W xc1 nodes parts
 f3 : b3 = true → b4 = false → NC W xc2 x
 f4 : b4 = true → ∃ u0 u1, xe0 = .agg #[u0, u1] ∧ xe1 = .int .i64 ai ∧ xe2 = .bool ab ∧ Kd.S k36 36 W wS.heap.size (fun k => some k ≠ u1.ownBlock) u0 a1 ∧ (Kd.int .i64).R 3 W wS.heap.size (fun _ => True) u1 a2
 f9 : b9 = true → ∃ g, xal = .pointer (some ⟨g, 0, none⟩) ∧ wS.heap.size ≤ g ∧ W.heap[g]? = some (.cells #[.slice none 0 0, .slice none 0 0] 32 (0, 0))
theorem toG_any {A0 A1 : Option Addr} {c0 c1 : Nat} {nodes : List S27} {parts : List Int} (h : SmallG nodes parts) (W : World) (h0 : Kd.C k27 W A0 nodes.length nodes) (l0 : nodes.length ≤ c0) (h1 : Kd.C (Kd.int .i64) W A1 parts.length parts) (l1 : parts.length ≤ c1) :
  Calls Try.prog 13 #[.agg #[.slice A0 nodes.length c0, .slice A1 parts.length c1]] W fun e w' => ∃ v0 v1 : Value, e = .returned (.agg #[v0, v1]) ∧ Kd.S k36 36 w' W.heap.size (fun k => some k ≠ v1.ownBlock) v0 (nodes.map cN) ∧ (Kd.int .i64).R 3 w' W.heap.size (fun _ => True) v1 parts ∧ Below W.heap.size W w' := by
 obtain ⟨k, hk⟩ := Ev.rounds (toG_f nodes parts h)
 exact laws_toEGraph.calls k A0 c0 nodes A1 c1 parts _ _ W h0 l0 h1 l1 hk
end Go.Proofs.Ytlnejmlphkpaaaa.PA
end
section
/- The graph seat: what stands throughout an exact law's walk. -/
namespace Go.Proofs.Ytlnejmlphkpaaaa.PA
open Go.RowKit Go.Proofs.YtlnejmlphkpaaaaW.PrintWords Go.Proofs.YtlnejmlphkpaaaaW.PrintLast Go.Proofs.YtlnejmlphkpaaaaW.PrintMore
set_option linter.unusedVariables false
set_option linter.unusedSimpArgs false
structure LA (w : World) (b2 b3 : Array Value) (g6 : Nat) (u0 u1 : Value) (a1 : List S36) (a2 : List Int) (n3 : Nat) (W : World) : Prop where
 hb : Below w.heap.size w W
 k2 : W.heap[w.heap.size]? = some (.cells b2 25 (0, 0))
 k3 : W.heap[w.heap.size + 1]? = some (.cells b3 27 (0, 0))
 k6 : W.heap[g6]? = some (.cells #[u0, u1] 32 (0, 0))
 s6 : Kd.S k36 36 W w.heap.size (fun k => k < n3) u0 a1
 r6 : (Kd.int .i64).R 3 W w.heap.size (fun k => k < n3) u1 a2
 lt : w.heap.size + 1 < n3
 lg : g6 < n3
structure LG (w : World) (m g : Nat) (u0 u1 : Value) (l0 : List S36) (l1 : List Int) (W : World) : Prop where
 k : W.heap[g]? = some (.cells #[u0, u1] 32 (0, 0))
 s : Kd.S k36 36 W w.heap.size (fun k => (m ≤ k ∧ k < g) ∧ some k ≠ u1.ownBlock) u0 l0
 r : (Kd.int .i64).R 3 W w.heap.size (fun k => (m ≤ k ∧ k < g) ∧ some k = u1.ownBlock) u1 l1
structure LN (w : World) (m g : Nat) (f0 f1 : Int) (u : Value) (l : List Int) (W : World) : Prop where
 k : W.heap[g]? = some (.cells #[.int .i64 f0, .int .i64 f1, u] 36 (0, 0))
 r : (Kd.int .i64).R 3 W w.heap.size (fun k => m ≤ k ∧ k < g) u l
section
variable {w W W1 : World} {b2 b3 : Array Value} {g6 n3 m g : Nat} {u0 u1 u : Value} {a1 : List S36} {a2 l : List Int} {f0 f1 : Int} {S : Nat → Prop}
theorem LA.below (h : LA w b2 b3 g6 u0 u1 a1 a2 n3 W) (hb : Below W.heap.size W W1) : LA w b2 b3 g6 u0 u1 a1 a2 n3 W1 := ⟨below_step h.hb hb, blk_below h.k2 hb, blk_below h.k3 hb, blk_below h.k6 hb, Kd.S_below h.s6 hb, Kd.R_below h.r6 hb, h.lt, h.lg⟩
theorem LA.kept (h : LA w b2 b3 g6 u0 u1 a1 a2 n3 W) (hb : Below w.heap.size w W1) (hk : Kept W W1 S) (hS : ∀ k, k < n3 → ¬ S k) : LA w b2 b3 g6 u0 u1 a1 a2 n3 W1 := ⟨hb, blk_kept h.k2 hk (hS _ (by have := h.lt; omega)), blk_kept h.k3 hk (hS _ h.lt), blk_kept h.k6 hk (hS _ h.lg), Kd.S_kept h.s6 hk hS, Kd.R_kept h.r6 hk hS, h.lt, h.lg⟩
theorem LG.below (h : LG w m g u0 u1 a1 a2 W) (hb : Below W.heap.size W W1) : LG w m g u0 u1 a1 a2 W1 := ⟨blk_below h.k hb, Kd.S_below h.s hb, Kd.R_below h.r hb⟩
theorem LG.kept (h : LG w m g u0 u1 a1 a2 W) (hk : Kept W W1 S) (hS : ∀ k, m ≤ k → k ≤ g → ¬ S k) (hm : m ≤ g) : LG w m g u0 u1 a1 a2 W1 := ⟨blk_kept h.k hk (hS g hm (Nat.le_refl _)), Kd.S_kept h.s hk (fun k h => hS k h.1.1 (Nat.le_of_lt h.1.2)), Kd.R_kept h.r hk (fun k h => hS k h.1.1 (Nat.le_of_lt h.1.2))⟩
theorem LN.below (h : LN w m g f0 f1 u l W) (hb : Below W.heap.size W W1) : LN w m g f0 f1 u l W1 := ⟨blk_below h.k hb, Kd.R_below h.r hb⟩
theorem LN.kept (h : LN w m g f0 f1 u l W) (hk : Kept W W1 S) (hS : ∀ k, m ≤ k → k ≤ g → ¬ S k) (hm : m ≤ g) : LN w m g f0 f1 u l W1 := ⟨blk_kept h.k hk (hS g hm (Nat.le_refl _)), Kd.R_kept h.r hk (fun k h => hS k h.1 (Nat.le_of_lt h.2))⟩
theorem LG.mk_ {w0 wC wD : World} {Au Av : Option Addr} {cu cv n p : Nat} (hs : Kd.S k36 36 W w0.heap.size (fun k => some k ≠ (Value.slice Av p cv).ownBlock) (.slice Au n cu) a1) (hr : (Kd.int .i64).R 3 W w0.heap.size (fun _ => True) (.slice Av p cv) a2) (hg : g = W.heap.size) (hC : wC.heap[g]? = some (.cells #[.slice none 0 0, .slice none 0 0] 32 (0, 0))) (hb : Below W.heap.size W wC) (hD : wD = (wC.setCell ⟨g, 0, none⟩ (.slice Au n cu)).setCell ⟨g, 1, none⟩ (.slice Av p cv)) (hw : w.heap.size ≤ w0.heap.size) :
  LG w w0.heap.size g (.slice Au n cu) (.slice Av p cv) a1 a2 wD := by
 subst hD
 have hs1 := Kd.S_below (Kd.S_lower (Kd.S_mono (Kd.S_bound hs) (fun k hk => (show (w0.heap.size ≤ k ∧ k < g) ∧ some k ≠ (Value.slice Av p cv).ownBlock from ⟨⟨hk.2.1, by rw [hg]; exact hk.2.2.1⟩, hk.1⟩))) hw) hb
 have hr1 := Kd.R_below (Kd.R_lower (R_int_ok (ok' := fun k => (w0.heap.size ≤ k ∧ k < g) ∧ some k = (Value.slice Av p cv).ownBlock) (Kd.R_bound hr) (fun k hk => ⟨⟨((Kd.R_bound hr).1 k hk).2.1, by rw [hg]; exact ((Kd.R_bound hr).1 k hk).2.2.1⟩, hk.symm⟩)) hw) hb
 exact ⟨blk_put (blk_put hC 0 _ rfl) 1 _ rfl, Kd.S_far (p := ⟨g, 1, none⟩) (Kd.S_far (p := ⟨g, 0, none⟩) hs1 (fun k hk => by have := hk.1.2; dsimp only; omega) _) (fun k hk => by have := hk.1.2; dsimp only; omega) _, Kd.R_far (p := ⟨g, 1, none⟩) (Kd.R_far (p := ⟨g, 0, none⟩) hr1 (fun k hk => by have := hk.1.2; dsimp only; omega) _) (fun k hk => by have := hk.1.2; dsimp only; omega) _⟩
theorem kept_box {v v' : Value} (hW : W1 = (W.setCell ⟨g, 0, none⟩ v).setCell ⟨g, 1, none⟩ v') : Kept W W1 (fun k => k = g) := by
 subst hW
 exact ((Kept.refl W (fun k => k = g)).setCell (p := ⟨g, 0, none⟩) (.inl rfl) _).setCell (p := ⟨g, 1, none⟩) (.inl rfl) _
theorem below_box {B : Nat} {v v' : Value} (hb : Below B w W) (hg : B ≤ g) (hW : W1 = (W.setCell ⟨g, 0, none⟩ v).setCell ⟨g, 1, none⟩ v') : Below B w W1 := by
 subst hW
 exact (hb.setCell (p := ⟨g, 0, none⟩) hg _).setCell (p := ⟨g, 1, none⟩) hg _
end
end Go.Proofs.Ytlnejmlphkpaaaa.PA
end
section
/- The graph seat: equality of a term and itself (printed by gen/mkgz.py). -/
namespace Go.Proofs.Ytlnejmlphkpaaaa.PA
open Go.RowKit Go.Proofs.YtlnejmlphkpaaaaW.PrintWords Go.Proofs.YtlnejmlphkpaaaaW.PrintLast Go.Proofs.YtlnejmlphkpaaaaW.PrintMore
set_option linter.unusedVariables false
set_option linter.unusedSimpArgs false
set_option maxHeartbeats 4000000 in
set_option maxRecDepth 100000 in
theorem eqT1_any (p q : Int) (W : World) :
  Calls Try.prog 109 #[.agg #[.int .i64 p, .int .i64 q], .agg #[.int .i64 p, .int .i64 q]] W fun e w' => e = .returned (.bool true) ∧ Below W.heap.size W w' := by
 have ep : (p != p) = false := by simp
 have eq : (q != q) = false := by simp
 go_enter Try.func109, Try.ntmps109
 go_wp2_with (first | ((with_reducible refine gate_dst (N := 2) rfl ?_); refine box_event ?hg (N := 2) ?hd (cs := #[.int .i64 p, .int .i64 q]) (t := 125) ?hr ?_; (case hd => rfl); (case hg => rfl); (case hr => first | (go_simp; done) | (go_simp; rfl)); intro g2 hga w1 hbox hb; have B2 := Aside0.mk hbox; have HB1 := Aside0.mk hb; clear hbox hb hga) | ((with_reducible refine gate_dst (N := 3) rfl ?_); refine box_event ?hg (N := 3) ?hd (cs := #[.int .i64 p, .int .i64 q]) (t := 125) ?hr ?_; (case hd => rfl); (case hg => rfl); (case hr => first | (go_simp; done) | (go_simp; rfl)); intro g3 hga w2 hbox hb; have B3 := Aside0.mk hbox; have D2 := Aside0.mk (blk_below B2.out hb); have HB2 := Aside0.mk (below_step HB1.out hb); clear B2; have x0 := blk_cell D2.out 0; have x1 := blk_cell D2.out 1; have y0 := blk_cell B3.out 0; have y1 := blk_cell B3.out 1; (try simp only [List.getElem?_toArray, List.getElem?_cons_zero, List.getElem?_cons_succ] at x0 y0 x1 y1); clear hbox hb hga))
 go_ret
 exact ⟨rfl, HB2.out⟩
set_option maxHeartbeats 4000000 in
set_option maxRecDepth 100000 in
theorem eqT_any {A B : Option Addr} {c d : Nat} (l : List S125) (hl : l.length ≤ 1048576) (W : World) (h0 : Kd.C k125 W A l.length l) (l0 : l.length ≤ c) (g0 : Kd.C k125 W B l.length l) (m0 : l.length ≤ d) :
  Calls Try.prog 48 #[.slice A l.length c, .slice B l.length d] W fun e w' => e = .returned (.bool true) ∧ Below W.heap.size W w' := by
 obtain ⟨n, hn⟩ : ∃ n, n = l.length := ⟨_, rfl⟩
 have HN := Aside0.mk hn
 have HR := Aside0.mk h0
 have HG := Aside0.mk g0
 have HL := Aside0.mk hl
 rw [← hn]
 clear h0 g0 l0 m0 hn hl
 go_enter Try.func48, Try.ntmps48
 go_wp2
 go_loopg [5] n (fun gg v5 wr => ∃ i : Nat, v5 = .int .i64 (i : Int) ∧ Aside0 (i ≤ n ∧ n - i ≤ gg) ∧ Aside0 (Below W.heap.size W wr))
 case atStart => exact ⟨0, rfl, ⟨Nat.zero_le _, Nat.le_refl _⟩, ⟨Below.refl _ _⟩⟩
 case round =>
  obtain ⟨i, rfl, HA, HB⟩ := hrel
  obtain ⟨wo, rfl⟩ : ∃ wo : World, wo = wr := ⟨_, rfl⟩
  by_cases hlt : i < n
  ·have p0 := eq_true (show (0 : Int) ≤ (i : Int) by omega)
   have q0 := eq_true (show (i : Int) < (n : Int) by omega)
   obtain ⟨ad, ae, a0, a1⟩ := at_T125 HR.out (i : Int) (by omega) (by have := HN.out; omega)
   obtain ⟨bd, be, b0, b1⟩ := at_T125 HG.out (i : Int) (by omega) (by have := HN.out; omega)
   cases ae
   cases be
   obtain ⟨x, hx⟩ : ∃ x, x = rd_T125 l (i : Int) := ⟨_, rfl⟩
   have HX := Aside0.mk hx
   rw [← hx] at a0 b0 a1 b1
   simp only [Int.toNat_natCast] at a0 b0 a1 b1
   replace a0 := (HB.out.cell (World.block_lt_of_cell? W _ a0)).trans a0
   replace a1 := (HB.out.cell (World.block_lt_of_cell? W _ a1)).trans a1
   replace b0 := (HB.out.cell (World.block_lt_of_cell? W _ b0)).trans b0
   replace b1 := (HB.out.cell (World.block_lt_of_cell? W _ b1)).trans b1
   have T109 := Aside0.mk (fun W1 (_ : Below W.heap.size W W1) => eqT1_any x.f0 x.f1 W1)
   have hwr : wrap64 ((i : Int) + 1) = ((i + 1 : Nat) : Int) := by have := HL.out; have := HN.out; unfold wrap64; omega
   have HWR := Aside0.mk hwr
   have HLT := Aside0.mk hlt
   clear hx hwr hlt
   go_wp2_with fail
   refine region_tail 8 (by kernel_rfl) (by kernel_rfl) ?_
   simp only [List.take_succ_cons, List.take_zero, List.drop_succ_cons, List.drop_zero]
   iterate 8 (with_reducible refine wpStill_step (fun K hK => ?_); go_simp; with_reducible refine hK _ ?_; clear hK K)
   with_reducible refine wpStill_nil ?_
   go_wp2_with (go_at_call 109; refine (T109.out _ (by repeat (first | exact HB.out | apply below_drew1))).mono ?_; rintro e w9 ⟨rfl, hb⟩; have HB9 := Aside0.mk (below_step (by repeat (first | exact HB.out | apply below_drew1)) hb); clear hb)
   have hA := HA.out
   have hLT := HLT.out
   clear HA HLT
   go_roundg (n - (i + 1))
   case measure => omega
   case rel => exact ⟨i + 1, by rw [HWR.out], ⟨by omega, Nat.le_refl _⟩, HB9⟩
  ·have cj : decide ((i : Int) < (n : Int)) = false := decide_eq_false (by omega)
   go_wp2
   go_ret
   exact ⟨rfl, HB.out⟩
end Go.Proofs.Ytlnejmlphkpaaaa.PA
end
