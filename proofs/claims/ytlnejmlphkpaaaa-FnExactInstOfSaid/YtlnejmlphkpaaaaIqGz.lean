/- The graph seat: equality of what is the same (printed by gen/mkgz.py). -/
import Derived.Test.YtlnejmlphkpaaaaIqGw
import Derived.Test.YtlnejmlphkpaaaaIqGe
namespace Go.Proofs.Ytlnejmlphkpaaaa.PA
open Go.RowKit Go.Proofs.YtlnejmlphkpaaaaW.PrintWords Go.Proofs.YtlnejmlphkpaaaaW.PrintLast Go.Proofs.YtlnejmlphkpaaaaW.PrintMore
set_option linter.unusedVariables false
set_option linter.unusedSimpArgs false
theorem eqI_any {A B : Option Addr} {c d : Nat} (l : List Int) (h : l.length ≤ 1048576) (W : World) (h0 : Kd.C (Kd.int .i64) W A l.length l) (l0 : l.length ≤ c) (g0 : Kd.C (Kd.int .i64) W B l.length l) (m0 : l.length ≤ d) :
  Calls Try.prog 53 #[.slice A l.length c, .slice B l.length d] W fun e w' => e = .returned (.bool true) ∧ Below W.heap.size W w' := by
 obtain ⟨k, hk⟩ := Ev.rounds (eqI_f l h)
 exact (laws_eqIntS.calls k A c l B d l true W h0 l0 g0 m0 hk).mono fun e w' h => ⟨h.1, h.2.below⟩
set_option maxHeartbeats 4000000 in
set_option maxRecDepth 100000 in
theorem eqN_any {A B : Option Addr} {c d : Nat} (p q : Int) (l : List Int) (h : l.length ≤ 1048576) (W : World) (h0 : Kd.C (Kd.int .i64) W A l.length l) (l0 : l.length ≤ c) (g0 : Kd.C (Kd.int .i64) W B l.length l) (m0 : l.length ≤ d) :
  Calls Try.prog 17 #[.agg #[.int .i64 p, .int .i64 q, .slice A l.length c], .agg #[.int .i64 p, .int .i64 q, .slice B l.length d]] W fun e w' => e = .returned (.bool true) ∧ Below W.heap.size W w' := by
 have T53 := Aside0.mk (fun W1 (hW : Below W.heap.size W W1) => eqI_any l h W1 (Kd.C_below h0 hW) l0 (Kd.C_below g0 hW) m0)
 have ep : (p != p) = false := by simp
 have eq : (q != q) = false := by simp
 clear h0 l0 g0 m0 h
 go_enter Try.func17, Try.ntmps17
 go_wp2_with (first | ((with_reducible refine gate_dst (N := 2) rfl ?_); refine box_event ?hg (N := 2) ?hd (cs := #[.int .i64 p, .int .i64 q, .slice A l.length c]) (t := 36) ?hr ?_; (case hd => rfl); (case hg => rfl); (case hr => first | (go_simp; done) | (go_simp; rfl)); intro g2 hga w1 hbox hb; have B2 := Aside0.mk hbox; have HB1 := Aside0.mk hb; clear hbox hb hga) | ((with_reducible refine gate_dst (N := 3) rfl ?_); refine box_event ?hg (N := 3) ?hd (cs := #[.int .i64 p, .int .i64 q, .slice B l.length d]) (t := 36) ?hr ?_; (case hd => rfl); (case hg => rfl); (case hr => first | (go_simp; done) | (go_simp; rfl)); intro g3 hga w2 hbox hb; have B3 := Aside0.mk hbox; have D2 := Aside0.mk (blk_below B2.out hb); have HB2 := Aside0.mk (below_step HB1.out hb); clear B2; have x0 := blk_cell D2.out 0; have x1 := blk_cell D2.out 1; have x2 := blk_cell D2.out 2; have y0 := blk_cell B3.out 0; have y1 := blk_cell B3.out 1; have y2 := blk_cell B3.out 2; (try simp only [List.getElem?_toArray, List.getElem?_cons_zero, List.getElem?_cons_succ] at x0 y0 x1 y1 x2 y2); clear hbox hb hga) | (go_at_call 53; refine (T53.out _ HB2.out).mono ?_; rintro e w3 ⟨rfl, hb⟩; have E2_3 := Aside0.mk (blk_below D2.out hb); have E3_3 := Aside0.mk (blk_below B3.out hb); have HB3 := Aside0.mk (below_step HB2.out hb); clear hb D2 B3 x0 y0 x1 y1 x2 y2 T53; have x0 := blk_cell E2_3.out 0; have y0 := blk_cell E3_3.out 0; have x1 := blk_cell E2_3.out 1; have y1 := blk_cell E3_3.out 1; have x2 := blk_cell E2_3.out 2; have y2 := blk_cell E3_3.out 2; (try simp only [List.getElem?_toArray, List.getElem?_cons_zero, List.getElem?_cons_succ] at x0 y0 x1 y1 x2 y2)))
 go_ret
 exact ⟨rfl, HB3.out⟩
set_option maxHeartbeats 4000000 in
set_option maxRecDepth 100000 in
theorem eqNS_any {A B : Option Addr} {c d : Nat} (l : List S36) (hl : l.length ≤ 1048576) (hk : ∀ x ∈ l, x.f2.length ≤ 1048576) (W : World) (h0 : Kd.C k36 W A l.length l) (l0 : l.length ≤ c) (g0 : Kd.C k36 W B l.length l) (m0 : l.length ≤ d) :
  Calls Try.prog 68 #[.slice A l.length c, .slice B l.length d] W fun e w' => e = .returned (.bool true) ∧ Below W.heap.size W w' := by
 have HKS := Aside0.mk hk
 obtain ⟨n, hn⟩ : ∃ n, n = l.length := ⟨_, rfl⟩
 have HN := Aside0.mk hn
 have HR := Aside0.mk h0
 have HG := Aside0.mk g0
 have HL := Aside0.mk hl
 rw [← hn]
 clear h0 g0 l0 m0 hn hl hk
 go_enter Try.func68, Try.ntmps68
 go_wp2
 go_loopg [5] n (fun gg v5 wr => ∃ i : Nat, v5 = .int .i64 (i : Int) ∧ Aside0 (i ≤ n ∧ n - i ≤ gg) ∧ Aside0 (Below W.heap.size W wr))
 case atStart => exact ⟨0, rfl, ⟨Nat.zero_le _, Nat.le_refl _⟩, ⟨Below.refl _ _⟩⟩
 case round =>
  obtain ⟨i, rfl, HA, HB⟩ := hrel
  obtain ⟨wo, rfl⟩ : ∃ wo : World, wo = wr := ⟨_, rfl⟩
  by_cases hlt : i < n
  ·have p0 := eq_true (show (0 : Int) ≤ (i : Int) by omega)
   have q0 := eq_true (show (i : Int) < (n : Int) by omega)
   obtain ⟨ad, aA, ac, ae, a0, a1, a2, al, ai⟩ := at_T36 HR.out (i : Int) (by omega) (by have := HN.out; omega)
   obtain ⟨bd, bA, bc, be, b0, b1, b2, bl, bi⟩ := at_T36 HG.out (i : Int) (by omega) (by have := HN.out; omega)
   cases ae
   cases be
   obtain ⟨x, hx⟩ : ∃ x, x = rd_T36 l (i : Int) := ⟨_, rfl⟩
   have HX := Aside0.mk hx
   rw [← hx] at a0 b0 a1 b1 a2 b2 al ai bl bi
   simp only [Int.toNat_natCast] at a0 b0 a1 b1 a2 b2
   replace a0 := (HB.out.cell (World.block_lt_of_cell? W _ a0)).trans a0
   replace a1 := (HB.out.cell (World.block_lt_of_cell? W _ a1)).trans a1
   replace a2 := (HB.out.cell (World.block_lt_of_cell? W _ a2)).trans a2
   replace b0 := (HB.out.cell (World.block_lt_of_cell? W _ b0)).trans b0
   replace b1 := (HB.out.cell (World.block_lt_of_cell? W _ b1)).trans b1
   replace b2 := (HB.out.cell (World.block_lt_of_cell? W _ b2)).trans b2
   have hm : x ∈ l := by rw [hx]; unfold rd_T36; exact mem_at l z36 (i : Int) (by omega) (by have := HN.out; omega)
   have T17 := Aside0.mk (fun W1 (hW : Below W.heap.size W W1) => eqN_any x.f0 x.f1 x.f2 (HKS.out x hm) W1 (Kd.C_below ai hW) al (Kd.C_below bi hW) bl)
   clear hm ai al bi bl
   have hwr : wrap64 ((i : Int) + 1) = ((i + 1 : Nat) : Int) := by have := HL.out; have := HN.out; unfold wrap64; omega
   have HWR := Aside0.mk hwr
   have HLT := Aside0.mk hlt
   clear hx hwr hlt
   go_wp2_with fail
   refine region_tail 8 (by kernel_rfl) (by kernel_rfl) ?_
   simp only [List.take_succ_cons, List.take_zero, List.drop_succ_cons, List.drop_zero]
   iterate 8 (with_reducible refine wpStill_step (fun K hK => ?_); go_simp; with_reducible refine hK _ ?_; clear hK K)
   with_reducible refine wpStill_nil ?_
   go_wp2_with (go_at_call 17; refine (T17.out _ (by repeat (first | exact HB.out | apply below_drew1))).mono ?_; rintro e w9 ⟨rfl, hb⟩; have HB9 := Aside0.mk (below_step (by repeat (first | exact HB.out | apply below_drew1)) hb); clear hb)
   have hA := HA.out
   have hLT := HLT.out
   clear HA HLT
   go_roundg (n - (i + 1))
   case measure => omega
   case rel => exact ⟨i + 1, by rw [HWR.out], ⟨by omega, Nat.le_refl _⟩, HB9⟩
  ·have cj : decide ((i : Int) < (n : Int)) = false := decide_eq_false (by omega)
   go_wp2
   go_ret
   exact ⟨rfl, HB.out⟩
set_option maxHeartbeats 4000000 in
set_option maxRecDepth 100000 in
theorem eqG_any {A0 A1 B0 B1 : Option Addr} {c0 c1 d0 d1 : Nat} {nodes : List S36} {parts : List Int} (hn : nodes.length ≤ 1048576) (hk : ∀ x ∈ nodes, x.f2.length ≤ 1048576) (hp : parts.length ≤ 1048576) (W : World)
  (h0 : Kd.C k36 W A0 nodes.length nodes) (l0 : nodes.length ≤ c0) (h1 : Kd.C (Kd.int .i64) W A1 parts.length parts) (l1 : parts.length ≤ c1) (g0 : Kd.C k36 W B0 nodes.length nodes) (m0 : nodes.length ≤ d0) (g1 : Kd.C (Kd.int .i64) W B1 parts.length parts) (m1 : parts.length ≤ d1) :
  Calls Try.prog 16 #[.agg #[.slice A0 nodes.length c0, .slice A1 parts.length c1], .agg #[.slice B0 nodes.length d0, .slice B1 parts.length d1]] W fun e w' => e = .returned (.bool true) ∧ Below W.heap.size W w' := by
 have T68 := Aside0.mk (fun W1 (hW : Below W.heap.size W W1) => eqNS_any nodes hn hk W1 (Kd.C_below h0 hW) l0 (Kd.C_below g0 hW) m0)
 have T53 := Aside0.mk (fun W1 (hW : Below W.heap.size W W1) => eqI_any parts hp W1 (Kd.C_below h1 hW) l1 (Kd.C_below g1 hW) m1)
 clear h0 l0 g0 m0 h1 l1 g1 m1 hn hk hp
 go_enter Try.func16, Try.ntmps16
 go_wp2_with (first | ((with_reducible refine gate_dst (N := 2) rfl ?_); refine box_event ?hg (N := 2) ?hd (cs := #[.slice A0 nodes.length c0, .slice A1 parts.length c1]) (t := 32) ?hr ?_; (case hd => rfl); (case hg => rfl); (case hr => first | (go_simp; done) | (go_simp; rfl)); intro g2 hga w1 hbox hb; have B2 := Aside0.mk hbox; have HB1 := Aside0.mk hb; clear hbox hb hga) | ((with_reducible refine gate_dst (N := 3) rfl ?_); refine box_event ?hg (N := 3) ?hd (cs := #[.slice B0 nodes.length d0, .slice B1 parts.length d1]) (t := 32) ?hr ?_; (case hd => rfl); (case hg => rfl); (case hr => first | (go_simp; done) | (go_simp; rfl)); intro g3 hga w2 hbox hb; have B3 := Aside0.mk hbox; have D2 := Aside0.mk (blk_below B2.out hb); have HB2 := Aside0.mk (below_step HB1.out hb); clear B2; have x0 := blk_cell D2.out 0; have x1 := blk_cell D2.out 1; have y0 := blk_cell B3.out 0; have y1 := blk_cell B3.out 1; (try simp only [List.getElem?_toArray, List.getElem?_cons_zero, List.getElem?_cons_succ] at x0 y0 x1 y1); clear hbox hb hga) | (go_at_call 68; refine (T68.out _ HB2.out).mono ?_; rintro e w3 ⟨rfl, hb⟩; have E2_3 := Aside0.mk (blk_below D2.out hb); have E3_3 := Aside0.mk (blk_below B3.out hb); have HB3 := Aside0.mk (below_step HB2.out hb); clear hb D2 B3 x0 y0 x1 y1 T68; have x0 := blk_cell E2_3.out 0; have y0 := blk_cell E3_3.out 0; have x1 := blk_cell E2_3.out 1; have y1 := blk_cell E3_3.out 1; (try simp only [List.getElem?_toArray, List.getElem?_cons_zero, List.getElem?_cons_succ] at x0 y0 x1 y1)) | (go_at_call 53; refine (T53.out _ HB3.out).mono ?_; rintro e w4 ⟨rfl, hb⟩; have E2_4 := Aside0.mk (blk_below E2_3.out hb); have E3_4 := Aside0.mk (blk_below E3_3.out hb); have HB4 := Aside0.mk (below_step HB3.out hb); clear hb E2_3 E3_3 x0 y0 x1 y1 T53; have x0 := blk_cell E2_4.out 0; have y0 := blk_cell E3_4.out 0; have x1 := blk_cell E2_4.out 1; have y1 := blk_cell E3_4.out 1; (try simp only [List.getElem?_toArray, List.getElem?_cons_zero, List.getElem?_cons_succ] at x0 y0 x1 y1)))
 go_ret
 exact ⟨rfl, HB4.out⟩
end Go.Proofs.Ytlnejmlphkpaaaa.PA
