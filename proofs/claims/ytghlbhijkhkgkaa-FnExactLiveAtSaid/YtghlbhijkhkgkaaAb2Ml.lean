/- Parts of the walk. -/
import Derived.Test.YtghlbhijkhkgkaaAb2Mh
import Derived.Test.YtghlbhijkhkgkaaAb2Mj
import Derived.Test.YtghlbhijkhkgkaaAb2PAx0
import Derived.Test.YtghlbhijkhkgkaaAb2PAx1
import Derived.Test.YtghlbhijkhkgkaaAb2PAz1
import Derived.Test.YtghlbhijkhkgkaaAb2PAz2
import Derived.Test.YtghlbhijkhkgkaaAb2Vc
import Derived.Test.YtghlbhijkhkgkaaAb2Lb
section
/- The flow seat: spec.l13From by hand. -/
namespace Go.Proofs.Ytghlbhijkhkgkaa.PA
open Go.RowKit Go.Proofs.YtghlbhijkhkgkaaW.PrintWords Go.Proofs.YtghlbhijkhkgkaaW.PrintLast Go.Proofs.YtghlbhijkhkgkaaW.PrintMore
set_option linter.unusedVariables false
/-- The walk of l13From under way. -/
structure FI (next : List (List Int)) (a but : Int) (out : List Int) : Prop where
  rises : Rises out
  at_a : a ∈ out
  way : ∀ y ∈ out, (0 ≤ y ∧ y < (next.length : Int)) ∧ Way next but a y
/-- The blocks of l go nowhere but into out. -/
def Shut (next : List (List Int)) (but : Int) (l out : List Int) : Prop := ∀ y ∈ l, ∀ c ∈ rd_L1 next y, c ≠ but → c ∈ out
section
variable {next : List (List Int)} {a but : Int} {out : List Int}
theorem FI.len (h : FI next a but out) : out.length ≤ next.length := by
  have := rises_len out 0 next.length h.rises fun y hy => (h.way y hy).1
  omega
theorem FI.done (h : FI next a but out) (hn : RowsOk next) (ha : 0 ≤ a ∧ a < (next.length : Int)) (hne : a ≠ but) (hs : Shut next but out out) : out = fromL next a but := by
  refine rises_ext _ _ h.rises (rises_fromL _ _ _) fun y => ?_
  rw [mem_fromL' hn ha]
  refine ⟨fun hy => ⟨hne, (h.way y hy).2⟩, fun hy => ?_⟩
  induction hy.2 with
  | here => exact h.at_a
  | on h1 h2 h3 ih => exact hs _ (ih ⟨hne, h1⟩) _ h2 h3
theorem Shut.more {l r : List Int} (h : Shut next but l out) (hm : ∀ y ∈ out, y ∈ r) : Shut next but l r := fun y hy c hc hne => hm c (h y hy c hc hne)
end
/-- l13From as a function of its arguments; none where it is not spoken of. -/
noncomputable def spec_l13From.f (a0_0 : Int) (l0_1 : List S87) (a1 : Int) (a2 : Int) : Option (List Int) := @ite _ (GoodRows l0_1 ∧ 0 ≤ a1 ∧ a1 < (l0_1.length : Int)) (Classical.propDecidable _) (some (fromL (nextL l0_1) a1 a2)) none
theorem spec_l13From.is {bs : List S87} (hg : GoodRows bs) (p a but : Int) (ha : 0 ≤ a ∧ a < (bs.length : Int)) : spec_l13From.f p bs a but = some (fromL (nextL bs) a but) := if_pos ⟨hg, ha⟩
end Go.Proofs.Ytghlbhijkhkgkaa.PA
end
section
/- Printed by the kit's print over surrogate texts, turned by this session -/
namespace Go.Proofs.Ytghlbhijkhkgkaa.PA
open Go.RowKit Go.Proofs.YtghlbhijkhkgkaaW.PrintWords Go.Proofs.YtghlbhijkhkgkaaW.PrintLast Go.Proofs.YtghlbhijkhkgkaaW.PrintMore
attribute [local go_sem] max2_int min2_int max_two min_two max_three min_three max_four min_four   -- for this text's walks alone
set_option linter.unusedVariables false
set_option linter.unusedSimpArgs false

noncomputable section
/-! ### spec_l1Own: function 114 -/
def spec_l1Own.f (l0 : List Int) : Option (List Int) := (some (([] : List Int) : List Int)).bind fun y583 => (if y583.length + l0.length < 17592186044416 then (some (y583 ++ l0)) else (none))
/-! ### spec_l13Walk: function 74 -/
mutual
def spec_l13Walk.l0 : Nat → Int → List Int → List Int → List (S109) → Int → Int → Int → List (S87) → Option (List Int × List Int)
  | 0, _, _, _, _, _, _, _, _ => none
  | k + 1, x1, x2, x3, x22, x23, x24, x590000, x590001 => if x24 < x23 then (if 0 ≤ x24 then (if x24 < (x22.length : Int) then ((spec_l1Has.f k x2 ((rd_T109 x22 x24).f0)).bind fun t605 => (if t605 = true then (spec_l13Walk.l0 k x1 x2 x3 x22 x23 (wrap64 (x24 + 1)) x590000 x590001) else ((spec_l13Walk.f k x590000 x590001 ((rd_T109 x22 x24).f0) x2 x3).bind fun bt606 => (spec_l13Walk.l0 k x1 bt606.1 bt606.2 x22 x23 (wrap64 (x24 + 1)) x590000 x590001)))) else (none)) else (none)) else ((some (([x1] : List Int) : List Int)).bind fun y597 => (if y597.length + x3.length < 17592186044416 then (some (x2, (y597 ++ x3))) else (none)))
def spec_l13Walk.f : Nat → Int → List (S87) → Int → List Int → List Int → Option (List Int × List Int)
  | 0, _, _, _, _, _ => none
  | k + 1, a0_0, l0_1, a1, l2, l3 => (spec_l1Own.f l2).bind fun t590 => (if t590.length < 17592186044416 then (if 0 ≤ a1 then (if a1 < (l0_1.length : Int) then (spec_l13Walk.l0 k a1 (t590 ++ [a1]) l3 ((rd_T87 l0_1 a1).f4) (((rd_T87 l0_1 a1).f4).length : Int) 0 a0_0 l0_1) else (none)) else (none)) else (none))
end
/-! ### spec_BackOrder: function 33 -/
end
end Go.Proofs.Ytghlbhijkhkgkaa.PA
end
section
/- Printed by the kit's print over surrogate texts, turned by this session -/
namespace Go.Proofs.Ytghlbhijkhkgkaa.PA
open Go.RowKit Go.Proofs.YtghlbhijkhkgkaaW.PrintWords Go.Proofs.YtghlbhijkhkgkaaW.PrintLast Go.Proofs.YtghlbhijkhkgkaaW.PrintMore
attribute [local go_sem] max2_int min2_int max_two min_two max_three min_three max_four min_four   -- for this text's walks alone
set_option linter.unusedVariables false
set_option linter.unusedSimpArgs false

noncomputable section
/-! ### spec_l13Doms: function 115 -/
def spec_l13Doms.l0 : Nat → Int → List Int → Int → Int → Int → List (S87) → Option (List Int)
  | 0, _, _, _, _, _, _ => none
  | k + 1, x1, x5, x9, x10, x641000, x641001 => if x10 < x9 then (if x10 = x1 then (if x5.length < 17592186044416 then (spec_l13Doms.l0 k x1 (x5 ++ [x10]) x9 (wrap64 (x10 + 1)) x641000 x641001) else (none)) else ((spec_l13From.f x641000 x641001 0 x10).bind fun t644 => ((spec_l1Has.f k t644 x1).bind fun t647 => (if t647 = true then (spec_l13Doms.l0 k x1 x5 x9 (wrap64 (x10 + 1)) x641000 x641001) else (if x5.length < 17592186044416 then (spec_l13Doms.l0 k x1 (x5 ++ [x10]) x9 (wrap64 (x10 + 1)) x641000 x641001) else (none)))))) else (some x5)
end
end Go.Proofs.Ytghlbhijkhkgkaa.PA
end
section
/- The flow seat: dominators, in plain words. -/
namespace Go.Proofs.Ytghlbhijkhkgkaa.PA
open Go.RowKit Go.Proofs.YtghlbhijkhkgkaaW.PrintWords Go.Proofs.YtghlbhijkhkgkaaW.PrintLast Go.Proofs.YtghlbhijkhkgkaaW.PrintMore
set_option linter.unusedVariables false
/-- The blocks that are reached. -/
noncomputable def reached (next : List (List Int)) : List Int := fromL next 0 (-1)
/-- d dominates b: both are reached, and no way to b leaves d out. -/
noncomputable def domB (next : List (List Int)) (b d : Int) : Bool := decide (d ∈ reached next) && (decide (b ∈ reached next) && !decide (b ∈ fromL next 0 d))
/-- The dominators of a block. -/
noncomputable def domsRow (next : List (List Int)) (b : Int) : List Int := numsL next.length (domB next b)
noncomputable def allDoms (next : List (List Int)) : List (List Int) := (List.range next.length).map fun (b : Nat) => domsRow next (b : Int)
section
variable {next : List (List Int)} {a b d : Int}
end
end Go.Proofs.Ytghlbhijkhkgkaa.PA
end
section
/- The flow seat: rows of rows of one's own: an element lent, grown, put back. -/
namespace Go.Proofs.Ytghlbhijkhkgkaa.PA
open Go.RowKit Go.Proofs.YtghlbhijkhkgkaaW.PrintWords Go.Proofs.YtghlbhijkhkgkaaW.PrintLast Go.Proofs.YtghlbhijkhkgkaaW.PrintMore
set_option linter.unusedVariables false
/-- Rows of bools. -/
abbrev kB : Kd (List Bool) := Kd.slice 4 Kd.bool
section
variable {α : Type} {d : Kd α} {ei eo : Nat} {W w1 : World} {base g n cap i : Nat} {ok oki : Nat → Prop} {rows : List (List α)} {v v1 : Value} {ys : List α}
theorem rows_lend (h : Kd.S (Kd.slice ei d) eo W base ok (.slice (some ⟨g, 0, none⟩) n cap) rows) (hi : i < n) :
    ∃ (oki : Nat → Prop) (v : Value), W.cell? ⟨g, i, none⟩ = some v ∧ W.frozen? ⟨g, i, none⟩ = false ∧ d.R ei W base oki v (rows.getD i []) ∧ (∀ k, oki k → ok k ∧ k ≠ g) ∧ Kd.H (Kd.slice ei d) eo W base ok (.slice (some ⟨g, 0, none⟩) n cap) rows (i : Int) oki [v] := by
  obtain ⟨oki, c, hcl, hM, hcc, hfr, hoki, hH⟩ := Kd.S_elem h [] (i : Int) (by omega) (by omega)
  obtain ⟨v, rfl, hR⟩ := hM
  have h1 : W.cell? ⟨g, (i : Int).toNat * 1 + 0, none⟩ = some v := hcc 0 v rfl
  have h2 : W.frozen? ⟨g, (i : Int).toNat * 1 + 0, none⟩ = false := hfr 0
  rw [Int.toNat_natCast, Nat.mul_one, Nat.add_zero] at h1 h2
  rw [Int.toNat_natCast] at hR
  exact ⟨oki, v, h1, h2, hR, hoki, hH⟩
theorem rows_back (hH : Kd.H (Kd.slice ei d) eo w1 base ok (.slice (some ⟨g, 0, none⟩) n cap) rows (i : Int) (fun k => oki k ∨ ok k ∧ W.heap.size ≤ k) [v]) (hi : i < n) (hR : d.R ei w1 base (fun k => oki k ∨ W.heap.size ≤ k) v1 ys) (hok : ∀ k, W.heap.size ≤ k → ok k) :
    Kd.S (Kd.slice ei d) eo (w1.setCell ⟨g, i, none⟩ v1) base ok (.slice (some ⟨g, 0, none⟩) n cap) (rows.set i ys) ∧ w1.grownBy (w1.setCell ⟨g, i, none⟩ v1) (some g) := by
  have h3 : Kd.H (Kd.slice ei d) eo w1 base (fun k => ok k ∧ ¬ False) (.slice (some ⟨g, 0, none⟩) n cap) rows (i : Int) (fun k => oki k ∨ ok k ∧ W.heap.size ≤ k) [v] := Kd.H_mono hH (fun k hk => ⟨hk, fun h => h⟩)
  have h4 := Kd.S_seg (okg := fun _ => False) (seg := [v1]) (j := 0) (x' := ys) (okp := fun k => oki k ∨ W.heap.size ≤ k) h3 (by omega) (by omega) (Nat.le_refl 1) ⟨v1, rfl, hR⟩ (fun k hk => .inl (hk.elim .inl (fun h => .inr ⟨hok k h, h⟩))) (fun k hk => hk.elim)
  have e : (i : Int).toNat * (Kd.slice ei d).sz + 0 = i := by show (i : Int).toNat * 1 + 0 = i; rw [Int.toNat_natCast, Nat.mul_one, Nat.add_zero]
  rw [e, Int.toNat_natCast] at h4
  exact h4
/-- The element is a new row. -/
theorem rows_new (hH : Kd.H (Kd.slice ei d) eo W base ok (.slice (some ⟨g, 0, none⟩) n cap) rows (i : Int) oki [v]) (hi : i < n) (hR : d.R ei w1 base (fun k => W.heap.size ≤ k) v1 ys) (hb : Below W.heap.size W w1) (hok : ∀ k, W.heap.size ≤ k → ok k) :
    Kd.S (Kd.slice ei d) eo (w1.setCell ⟨g, i, none⟩ v1) base ok (.slice (some ⟨g, 0, none⟩) n cap) (rows.set i ys) ∧ w1.grownBy (w1.setCell ⟨g, i, none⟩ v1) (some g) :=
  rows_back (Kd.H_below (Kd.H_widen hH) hb) hi (Kd.R_mono hR (fun k h => .inr h)) hok
theorem rows_at (h : Kd.S (Kd.slice ei d) eo W base ok (.slice (some ⟨g, 0, none⟩) n cap) rows) (hp : 0 < n) : ∃ cells, W.heap[g]? = some (.cells cells eo (0, 0)) := by
  have hn := (Kd.S_reads' h).1
  obtain ⟨g', cap', e, _, _, hc⟩ := Kd.S_form h (by omega)
  simp only [Value.slice.injEq, Option.some.injEq, Addr.mk.injEq] at e
  obtain ⟨⟨rfl, _⟩, _⟩ := e
  exact hc
end
end Go.Proofs.Ytghlbhijkhkgkaa.PA
end
section
/- The flow seat: spec.l13AllDoms by hand. -/
namespace Go.Proofs.Ytghlbhijkhkgkaa.PA
open Go.RowKit Go.Proofs.YtghlbhijkhkgkaaW.PrintWords Go.Proofs.YtghlbhijkhkgkaaW.PrintLast Go.Proofs.YtghlbhijkhkgkaaW.PrintMore
set_option linter.unusedVariables false
section
variable {next : List (List Int)} {i bn : Nat}
end
/-- l13AllDoms as a function of its arguments; none where it is not spoken of. -/
noncomputable def spec_l13AllDoms.f (k : Nat) (a0_0 : Int) (l0_1 : List S87) : Option (List (List Int)) := @ite _ (GoodRows l0_1) (Classical.propDecidable _) (some (allDoms (nextL l0_1))) none
theorem spec_l13AllDoms.is {bs : List S87} (hg : GoodRows bs) (k : Nat) (p : Int) : spec_l13AllDoms.f k p bs = some (allDoms (nextL bs)) := if_pos hg
end Go.Proofs.Ytghlbhijkhkgkaa.PA
end
section
/- Printed by the kit's print over surrogate texts, turned by this session -/
namespace Go.Proofs.Ytghlbhijkhkgkaa.PA
open Go.RowKit Go.Proofs.YtghlbhijkhkgkaaW.PrintWords Go.Proofs.YtghlbhijkhkgkaaW.PrintLast Go.Proofs.YtghlbhijkhkgkaaW.PrintMore
attribute [local go_sem] max2_int min2_int max_two min_two max_three min_three max_four min_four   -- for this text's walks alone
set_option linter.unusedVariables false
set_option linter.unusedSimpArgs false

noncomputable section
/-! ### spec_l13Backs: function 79 -/
mutual
def spec_l13Backs.l0 : Nat → List (List Int) → List (List Int) → Int → Int → Int → List (S87) → Option ((List (List Int)))
  | 0, _, _, _, _, _, _ => none
  | k + 1, x3, x4, x12, x13, x746000, x746001 => if x13 < x12 then ((spec_l13Next.f k x746000 x746001 x13).bind fun t749 => (spec_l13Backs.l1 k x3 x4 x13 x12 x13 t749 (t749.length : Int) 0 x746000 x746001)) else (some x4)
def spec_l13Backs.l1 : Nat → List (List Int) → List (List Int) → Int → Int → Int → List Int → Int → Int → Int → List (S87) → Option ((List (List Int)))
  | 0, _, _, _, _, _, _, _, _, _, _ => none
  | k + 1, x3, x4, x5, x12, x13, x18, x19, x20, x746000, x746001 => if x20 < x19 then (if 0 ≤ x20 then (if x20 < (x18.length : Int) then (if 0 ≤ x5 then (if x5 < (x3.length : Int) then ((spec_l1Has.f k (rd_L1 x3 x5) (rd x18 x20)).bind fun t754 => (if t754 = true then (if x4.length < 5864062014805 then (spec_l13Backs.l1 k x3 (x4 ++ [(([x5, rd x18 x20] : List Int))]) x5 x12 x13 x18 x19 (wrap64 (x20 + 1)) x746000 x746001) else (none)) else (spec_l13Backs.l1 k x3 x4 x5 x12 x13 x18 x19 (wrap64 (x20 + 1)) x746000 x746001))) else (none)) else (none)) else (none)) else (none)) else (spec_l13Backs.l0 k x3 x4 x12 (wrap64 (x13 + 1)) x746000 x746001)
end
/-! ### spec_BackEdges: function 42 -/
end
end Go.Proofs.Ytghlbhijkhkgkaa.PA
end
section
/- The flow seat: impl.AheadOf by hand. -/
namespace Go.Proofs.Ytghlbhijkhkgkaa.PA
open Go.RowKit Go.Proofs.YtghlbhijkhkgkaaW.PrintWords Go.Proofs.YtghlbhijkhkgkaaW.PrintLast Go.Proofs.YtghlbhijkhkgkaaW.PrintMore
set_option linter.unusedVariables false
/-- The rows of next, which lie in the blocks from B to H. -/
structure RW (W : World) (g B H : Nat) (rows : List (List Int)) : Prop where
  hB : B ≤ g
  hH : g < H
  hW : H ≤ W.heap.size
  blk : ∃ arr : List Value, W.heap[g]? = some (.cells arr.toArray 34 (0, 0)) ∧ ∀ j, j < rows.length → ∃ u, arr[j]? = some u ∧ (Kd.int .i64).R 3 W B (fun k => B ≤ k ∧ k < H) u (rows.getD j [])
section
variable {w0 W W1 w1 : World} {g n B H : Nat} {rows : List (List Int)} {v : Value} {xs : List Int} {row : Option Nat}
theorem RW.of_NX (h : NX w0 W g n H rows v xs) : RW W g w0.heap.size H rows := by
  obtain ⟨h1, h2, h3, h4, h5, arr, h6, h7, h8, h9⟩ := h
  exact ⟨h2, h3, h4, arr, h6, fun j hj => by obtain ⟨u, hu, hR⟩ := h9 j hj; exact ⟨u, hu, Kd.R_mono (Kd.R_bound hR) (fun k hk => ⟨hk.2.1, hk.1⟩)⟩⟩
theorem RW.later (h : RW W g B H rows) (hb : Below W.heap.size W W1) : RW W1 g B H rows := by
  obtain ⟨h2, h3, h4, arr, h6, h9⟩ := h
  exact ⟨h2, h3, Nat.le_trans h4 hb.size, arr, blk_below h6 hb, fun j hj => by obtain ⟨u, hu, hR⟩ := h9 j hj; exact ⟨u, hu, Kd.R_below hR hb⟩⟩
theorem RW.at_row (h : RW W g B H rows) {j : Nat} (hj : j < rows.length) : ∃ A c, W.cell? ⟨g, j, none⟩ = some (.slice A (rows.getD j []).length c) ∧ (Kd.int .i64).R 3 W B (fun k => B ≤ k ∧ k < H) (.slice A (rows.getD j []).length c) (rows.getD j []) := by
  obtain ⟨arr, h6, h9⟩ := h.blk
  obtain ⟨u, hu, hR⟩ := h9 j hj
  obtain ⟨A, c, rfl⟩ := Kd.R_slice hR
  exact ⟨A, c, by rw [blk_cell h6 j]; simpa using hu, hR⟩
end
end Go.Proofs.Ytghlbhijkhkgkaa.PA
end
section
/- The flow seat: impl.reach and impl.listOf over the rows of next; impl.ReachedBlocks by hand. -/
namespace Go.Proofs.Ytghlbhijkhkgkaa.PA
open Go.RowKit Go.Proofs.YtghlbhijkhkgkaaW.PrintWords Go.Proofs.YtghlbhijkhkgkaaW.PrintLast Go.Proofs.YtghlbhijkhkgkaaW.PrintMore
set_option linter.unusedVariables false
theorem listOf_any {w : World} {A : Option Addr} {c : Nat} (l : List Bool) (hl : l.length ≤ 1000) (hr : Kd.bool.C w A l.length l) (hc : l.length ≤ c) :
    Calls Try.prog 72 #[.slice A l.length c] w fun e w' => ∃ v : Value, e = .returned v ∧ (Kd.int .i64).R 3 w' w.heap.size (fun _ => True) v (numsL l.length (rdOf false l)) ∧ Below w.heap.size w w' := by
  obtain ⟨k, hk⟩ := Ev.rounds (listOf_is l hl)
  exact impl_listOf.calls k A c l _ w hr hc hk
end Go.Proofs.Ytghlbhijkhkgkaa.PA
end
section
/- The flow seat: impl.dominators by hand. -/
namespace Go.Proofs.Ytghlbhijkhkgkaa.PA
open Go.RowKit Go.Proofs.YtghlbhijkhkgkaaW.PrintWords Go.Proofs.YtghlbhijkhkgkaaW.PrintLast Go.Proofs.YtghlbhijkhkgkaaW.PrintMore
set_option linter.unusedVariables false
/-- n rows of n bools. -/
def rowF (n : Nat) (f : Int → Int → Bool) (b : Int) : List Bool := (List.range n).map fun (d : Nat) => f b (d : Int)
def grid (n : Nat) (f : Int → Int → Bool) : List (List Bool) := (List.range n).map fun (b : Nat) => rowF n f (b : Int)
section
variable {n b d : Nat} {f f' : Int → Int → Bool} {v : Bool}
end
/-- The dominators of all blocks, as bools. -/
noncomputable def domGrid (next : List (List Int)) : List (List Bool) := grid next.length (domB next)
section
variable {next : List (List Int)} {n i j xn : Nat} {x : Int}
end
/-- dominators as a function of its argument; none where it is not spoken of. -/
noncomputable def impl_dominators.f (k : Nat) (l0 : List (List Int)) : Option (List (List Bool)) := @ite _ (RowsOk l0 ∧ 0 < l0.length ∧ l0.length ≤ 8) (Classical.propDecidable _) (some (domGrid l0)) none
theorem impl_dominators.is {l0 : List (List Int)} (h0 : RowsOk l0) (h1 : 0 < l0.length) (h8 : l0.length ≤ 8) (k : Nat) : impl_dominators.f k l0 = some (domGrid l0) := if_pos ⟨h0, h1, h8⟩
end Go.Proofs.Ytghlbhijkhkgkaa.PA
end
section
/- Printed by the kit's print over surrogate texts, turned by this session -/
namespace Go.Proofs.Ytghlbhijkhkgkaa.PA
open Go.RowKit Go.Proofs.YtghlbhijkhkgkaaW.PrintWords Go.Proofs.YtghlbhijkhkgkaaW.PrintLast Go.Proofs.YtghlbhijkhkgkaaW.PrintMore
attribute [local go_sem] max2_int min2_int max_two min_two max_three min_three max_four min_four   -- for this text's walks alone
set_option linter.unusedVariables false
set_option linter.unusedSimpArgs false

noncomputable section
/-! ### impl_backEdges: function 80 -/
mutual
def impl_backEdges.l0 : Nat → List (List Int) → List (List Int) → List (List Bool) → Int → Int → Option ((List (List Int)))
  | 0, _, _, _, _, _ => none
  | k + 1, x0, x3, x10, x11, x12 => if x12 < x11 then (if 0 ≤ x12 then (if x12 < (x10.length : Int) then ((impl_listOf.f k (rd_L13 x10 x12)).bind fun t773 => (impl_backEdges.l1 k x0 x3 x12 x10 x11 x12 t773 (t773.length : Int) 0)) else (none)) else (none)) else (some x3)
def impl_backEdges.l1 : Nat → List (List Int) → List (List Int) → Int → List (List Bool) → Int → Int → List Int → Int → Int → Option ((List (List Int)))
  | 0, _, _, _, _, _, _, _, _, _ => none
  | k + 1, x0, x3, x4, x10, x11, x12, x18, x19, x20 => if x20 < x19 then (if 0 ≤ x20 then (if x20 < (x18.length : Int) then (if 0 ≤ x4 then (if x4 < (x0.length : Int) then ((slices_Contains_int_int.f k (rd_L1 x0 x4) (rd x18 x20)).bind fun t778 => (if t778 = true then (if x3.length < 5864062014805 then (impl_backEdges.l1 k x0 (x3 ++ [(([x4, rd x18 x20] : List Int))]) x4 x10 x11 x12 x18 x19 (wrap64 (x20 + 1))) else (none)) else (impl_backEdges.l1 k x0 x3 x4 x10 x11 x12 x18 x19 (wrap64 (x20 + 1))))) else (none)) else (none)) else (none)) else (none)) else (impl_backEdges.l0 k x0 x3 x10 x11 (wrap64 (x12 + 1)))
end


end
end Go.Proofs.Ytghlbhijkhkgkaa.PA
end
section
/- The flow seat: the walk in depth, in plain words. -/
namespace Go.Proofs.Ytghlbhijkhkgkaa.PA
open Go.RowKit Go.Proofs.YtghlbhijkhkgkaaW.PrintWords Go.Proofs.YtghlbhijkhkgkaaW.PrintLast Go.Proofs.YtghlbhijkhkgkaaW.PrintMore
set_option linter.unusedVariables false
/-- How many blocks are not seen. -/
def unseen (n : Nat) (s : List Int) : Nat := (numsL n fun y => !decide (y ∈ s)).length
section
variable {next : List (List Int)} {a : Int} {s o : List Int} {n : Nat}
/-- A walk under way: how much is seen and ended. -/
structure DfsOk (n : Nat) (st : List Int × List Int) : Prop where
  size : st.1.length + unseen n st.1 ≤ n
  order : st.2.length ≤ st.1.length
end
end Go.Proofs.Ytghlbhijkhkgkaa.PA
end
section
/- The flow seat: BackOrder's closure by hand. -/
namespace Go.Proofs.Ytghlbhijkhkgkaa.PA
open Go.RowKit Go.Proofs.YtghlbhijkhkgkaaW.PrintWords Go.Proofs.YtghlbhijkhkgkaaW.PrintLast Go.Proofs.YtghlbhijkhkgkaaW.PrintMore
set_option linter.unusedVariables false
theorem RW.kept {W W1 : World} {g B H : Nat} {rows : List (List Int)} (h : RW W g B H rows) (hs : W.heap.size ≤ W1.heap.size) (hk : ∀ k, B ≤ k → k < H → W1.heap[k]? = W.heap[k]?) : RW W1 g B H rows := by
  obtain ⟨h2, h3, h4, arr, h6, h9⟩ := h
  exact ⟨h2, h3, Nat.le_trans h4 hs, arr, by rw [hk g h2 h3]; exact h6, fun j hj => by obtain ⟨u, hu, hR⟩ := h9 j hj; exact ⟨u, hu, Kd.R_step hR (fun k hk1 hk2 => hk k hk1.1 hk1.2)⟩⟩
/-- Where BackOrder's things lie. -/
structure BoAt where
  (g1 g2 g3 g4 gb cb gn capn Bn Hn n B : Nat)
/-- The blocks that the closure leaves as they are. -/
def BoAt.Q (b : BoAt) (k : Nat) : Prop := k = b.g1 ∨ k = b.g2 ∨ k = b.g3 ∨ (b.Bn ≤ k ∧ k < b.Hn)
def BoAt.fv (b : BoAt) : Value := .func (.func 75) #[] #[.pointer (some ⟨b.g1, 0, none⟩), .pointer (some ⟨b.g2, 0, none⟩), .pointer (some ⟨b.g3, 0, none⟩), .pointer (some ⟨b.g4, 0, none⟩)]
/-- No two of them are one. -/
structure BoAt.Ok (b : BoAt) : Prop where
  qb : ¬ b.Q b.gb
  q4 : ¬ b.Q b.g4
  b4 : b.gb ≠ b.g4
  Bb : b.B ≤ b.gb
  B4 : b.B ≤ b.g4
  n8 : b.n ≤ 8
  cap : b.n ≤ b.capn
/-- What the closure finds and leaves. -/
structure BoFix (b : BoAt) (next : List (List Int)) (W : World) : Prop where
  c1 : W.cell? ⟨b.g1, 0, none⟩ = some (.slice (some ⟨b.gb, 0, none⟩) b.n b.cb)
  c2 : W.cell? ⟨b.g2, 0, none⟩ = some (.slice (some ⟨b.gn, 0, none⟩) b.n b.capn)
  c3 : W.cell? ⟨b.g3, 0, none⟩ = some b.fv
  rw : RW W b.gn b.Bn b.Hn next
/-- What is seen, and what is ended. -/
structure BoDyn (b : BoAt) (st : List Int × List Int) (W : World) : Prop where
  row : Kd.bool.R 4 W b.B (fun k => k = b.gb) (.slice (some ⟨b.gb, 0, none⟩) b.n b.cb) (rowF b.n (fun _ y => decide (y ∈ st.1)) 0)
  ord : ∃ A c, W.heap[b.g4]? = some (.cells #[.slice A st.2.length c] 34 (0, 0)) ∧ (Kd.int .i64).R 3 W b.B (fun k => ¬ b.Q k ∧ k ≠ b.gb ∧ k ≠ b.g4) (.slice A st.2.length c) st.2.reverse
section
variable {b : BoAt} {next : List (List Int)} {W W1 : World} {s o : List Int} {a : Int}
end
end Go.Proofs.Ytghlbhijkhkgkaa.PA
end
section
/- The flow seat: the rows of bools of LiveAt, and its closure by hand. -/
namespace Go.Proofs.Ytghlbhijkhkgkaa.PA
open Go.RowKit Go.Proofs.YtghlbhijkhkgkaaW.PrintWords Go.Proofs.YtghlbhijkhkgkaaW.PrintLast Go.Proofs.YtghlbhijkhkgkaaW.PrintMore
set_option linter.unusedVariables false
/-- Where LiveAt's things lie. -/
structure LvAt where
  (gv g6 g7 g cap gn Bn Hn n : Nat)
/-- The rows in a world behind w1. -/
structure LvW (b : LvAt) (next : List (List Int)) (rows : List (List Bool)) (w1 W : World) : Prop where
  below : Below w1.heap.size w1 W
  c6 : W.heap[b.g6]? = some (.cells #[.pointer (some ⟨b.gv, 0, none⟩)] 52 (0, 0))
  c7 : W.heap[b.g7]? = some (.cells #[.slice (some ⟨b.g, 0, none⟩) b.n b.cap] 75 (0, 0))
  rw : RW W b.gn b.Bn b.Hn next
  rows : Kd.S kB 69 W w1.heap.size (fun k => k < b.Bn ∨ b.Hn ≤ k) (.slice (some ⟨b.g, 0, none⟩) b.n b.cap) rows
section
variable {b : LvAt} {next : List (List Int)} {rows : List (List Bool)} {w1 W W1 : World} {i x : Nat}
theorem LvW.later (h : LvW b next rows w1 W) (hb : Below W.heap.size W W1) : LvW b next rows w1 W1 :=
  ⟨below_step h.below hb, blk_below h.c6 hb, blk_below h.c7 hb, h.rw.later hb, Kd.S_below h.rows hb⟩
theorem LvW.cells (h : LvW b next rows w1 W) : W.cell? ⟨b.g6, 0, none⟩ = some (.pointer (some ⟨b.gv, 0, none⟩)) ∧ W.cell? ⟨b.g7, 0, none⟩ = some (.slice (some ⟨b.g, 0, none⟩) b.n b.cap) :=
  ⟨by rw [blk_cell h.c6 0]; rfl, by rw [blk_cell h.c7 0]; rfl⟩
theorem blk_far {g k t t' : Nat} {cs cs' : Array Value} (h : W.heap[k]? = some (.cells cs t (0, 0))) (h' : W.heap[g]? = some (.cells cs' t' (0, 0))) (ht : t ≠ t') (j : Nat) (u : Value) : (W.setCell ⟨g, j, none⟩ u).heap[k]? = some (.cells cs t (0, 0)) :=
  (Below.heap_setCell W ⟨g, j, none⟩ u k (fun e => blk_ne h h' ht e)).trans h
/-- An element's bool, and what it is to write it. -/
theorem LvW.at_bool (h : LvW b next rows w1 W) (hi : i < b.n) (hx : x < (rows.getD i []).length) :
    ∃ gr cr, W.cell? ⟨b.g, i, none⟩ = some (.slice (some ⟨gr, 0, none⟩) (rows.getD i []).length cr) ∧ W.cell? ⟨gr, x, none⟩ = some (.bool (rdOf false (rows.getD i []) (x : Int))) ∧ W.frozen? ⟨gr, x, none⟩ = false ∧ (∃ cells, W.heap[gr]? = some (.cells cells 4 (0, 0))) ∧
      ∀ v : Bool, LvW b next (rows.set i ((rows.getD i []).set x v)) w1 (W.setCell ⟨gr, x, none⟩ (.bool v)) := by
  obtain ⟨oki, v6, z6, f6, hR6, hok6, hH6⟩ := rows_lend h.rows hi
  obtain ⟨gr, cr, e6, hb6, hl6, cells6, hc6⟩ := Kd.R_form hR6 (by omega)
  subst e6
  have hy := Kd.R_celln false hR6 (x : Int) (by omega) (by omega)
  simp only [Int.toNat_natCast] at hy
  have hgr := hok6 gr (hR6.1 _ rfl)
  refine ⟨gr, cr, z6, hy.1, hy.2, ⟨cells6, hc6⟩, fun v => ?_⟩
  have hput := Kd.R_put (cap := cr) hR6 (x : Int) v
  simp only [Int.toNat_natCast] at hput
  have hH1 := Kd.H_grown hH6 hput.2 (fun k hk => by injection hk with hk; subst hk; exact hR6.1 _ rfl)
  have hS := Kd.H_back hH1 (x' := (rows.getD i []).set x v) ⟨_, rfl, hput.1⟩ (fun _ h => h)
  rw [Int.toNat_natCast] at hS
  refine ⟨h.below.setCell (p := ⟨gr, x, none⟩) hb6 _, blk_far h.c6 hc6 (by decide) x _, blk_far h.c7 hc6 (by decide) x _, h.rw.kept (by simp [World.setCell]) (fun k h1 h2 => Below.heap_setCell W ⟨gr, x, none⟩ _ k (fun e => ?_)), hS⟩
  have hg1 := hgr.1
  dsimp only at e
  omega
/-- A row of one's own put in an element's place. -/
theorem LvW.put_row {r : List Bool} {v : Value} {W2 : World} (h : LvW b next rows w1 W) (hi : i < b.n) (hb : Below W.heap.size W W2) (hR : Kd.bool.R 4 W2 w1.heap.size (fun k => W.heap.size ≤ k) v r) :
    LvW b next (rows.set i r) w1 (W2.setCell ⟨b.g, i, none⟩ v) ∧ ∃ u, W2.cell? ⟨b.g, i, none⟩ = some u ∧ W2.frozen? ⟨b.g, i, none⟩ = false := by
  obtain ⟨oki, v6, z6, f6, hR6, hok6, hH6⟩ := rows_lend h.rows hi
  obtain ⟨cells6, hg6⟩ := rows_at h.rows (Nat.lt_of_le_of_lt (Nat.zero_le _) hi)
  have hg2 := blk_below hg6 hb
  have hgb : w1.heap.size ≤ b.g := Kd.R_base (Kd.S_R h.rows) b.g rfl
  have hgo := (Kd.S_R h.rows).1 b.g rfl
  have hput := rows_new hH6 hi hR hb (fun k hk => .inr (Nat.le_trans h.rw.hW hk))
  have h2 := h.later hb
  refine ⟨⟨h2.below.setCell (p := ⟨b.g, i, none⟩) hgb _, blk_far h2.c6 hg2 (by decide) i _, blk_far h2.c7 hg2 (by decide) i _, h2.rw.kept (by simp [World.setCell]) (fun k h1 h2 => Below.heap_setCell W2 ⟨b.g, i, none⟩ _ k (fun e => ?_)), hput.1⟩, v6, pw_cell_below hb z6, blk_frozen hg2 i⟩
  dsimp only at e
  omega
end
end Go.Proofs.Ytghlbhijkhkgkaa.PA
end
