/- Printed by the kit's print over surrogate texts, turned by this session -/
import Derived.Test.YtghlbhijkhkgkaaIbOb
import Derived.Test.YtghlbhijkhkgkaaIbW
namespace Go.Proofs.Ytghlbhijkhkgkaa.PA
open Go.RowKit Go.Proofs.YtghlbhijkhkgkaaW.PrintWords Go.Proofs.YtghlbhijkhkgkaaW.PrintLast Go.Proofs.YtghlbhijkhkgkaaW.PrintMore
attribute [local go_sem] max2_int min2_int max_two min_two max_three min_three max_four min_four   -- for this text's walks alone
set_option linter.unusedVariables false
set_option linter.unusedSimpArgs false

noncomputable section
/-! ### spec_ImmediateOf: function 40 -/
mutual
def spec_ImmediateOf.j0 : Nat → Int → Bool → Int → List (S87) → Option (Int × Bool)
  | 0, _, _, _, _ => none
  | k + 1, x1, x16, x723000, x723001 => if x16 = true then (some (0, false)) else ((spec_l13AllDoms.f k x723000 x723001).bind fun t724 => (if 0 ≤ x1 then (if x1 < (t724.length : Int) then (spec_ImmediateOf.l0 k x1 t724 (rd_L1 t724 x1) ((rd_L1 t724 x1).length : Int) 0) else (none)) else (none)))
def spec_ImmediateOf.l0 : Nat → Int → List (List Int) → List Int → Int → Int → Option (Int × Bool)
  | 0, _, _, _, _, _ => none
  | k + 1, x1, x6, x22, x23, x24 => if x24 < x23 then (if 0 ≤ x24 then (if x24 < (x22.length : Int) then (if (rd x22 x24) = x1 then (spec_ImmediateOf.l0 k x1 x6 x22 x23 (wrap64 (x24 + 1))) else (if 0 ≤ (rd x22 x24) then (if (rd x22 x24) < (x6.length : Int) then (if 0 ≤ x1 then (if x1 < (x6.length : Int) then (if ((rd_L1 x6 (rd x22 x24)).length : Int) = (wrap64 (((rd_L1 x6 x1).length : Int) - 1)) then (some (rd x22 x24, true)) else (spec_ImmediateOf.l0 k x1 x6 x22 x23 (wrap64 (x24 + 1)))) else (none)) else (none)) else (none)) else (none))) else (none)) else (none)) else (some (0, false))
end
def spec_ImmediateOf.f (k : Nat) (a0_0 : Int) (l0_1 : List (S87)) (a1 : Int) : Option (Int × Bool) := (spec_l13Is.f a0_0 l0_1 a1).bind fun t723 => (if t723 = true then (spec_ImmediateOf.j0 k a1 (a1 == 0) a0_0 l0_1) else (spec_ImmediateOf.j0 k a1 true a0_0 l0_1))
set_option maxHeartbeats 8000000 in
set_option maxRecDepth 100000 in
theorem spec_ImmediateOf.calls (k : Nat) (a0_0 : Int) (A0_1 : Option Addr) (c0_1 : Nat) (l0_1 : List (S87)) (a1 : Int) (r1 : Int) (r2 : Bool) (w : World) (hr0_1 : Kd.C k87 w A0_1 l0_1.length l0_1) (hc0_1 : l0_1.length ≤ c0_1) (h : spec_ImmediateOf.f k a0_0 l0_1 a1 = some (r1, r2)) :
    Calls Try.prog 40 #[.agg #[.int .i64 a0_0, .slice A0_1 l0_1.length c0_1], .int .i64 a1] w fun e w' => e = .returned (.tuple #[.int .i64 r1, .bool r2]) ∧ Below w.heap.size w w' := by
  have hu30 := Try.underlying30
  have HR0_1 := Aside0.mk hr0_1
  have HC0_1 := Aside0.mk hc0_1
  clear hr0_1 hc0_1
  have HB := Aside0.mk (Below.refl w.heap.size w)
  have H : ((spec_l13Is.f a0_0 l0_1 a1).bind fun t723 => (if t723 = true then (spec_ImmediateOf.j0 k a1 (a1 == 0) a0_0 l0_1) else (spec_ImmediateOf.j0 k a1 true a0_0 l0_1))) = some (r1, r2) := h
  clear h
  have HC3 := Aside0.mk H
  clear H
  go_enter Try.func40, Try.ntmps40
  go_upto_region 1 with (first | ((with_reducible refine gate_dst (N := 2) rfl ?_); (try (refine gate_guard (by rfl) ?_; dsimp only)); refine box_event ?hg (N := 2) ?hd (cs := #[.int .i64 a0_0, .slice A0_1 l0_1.length c0_1]) (t := 30) ?hr ?_; (case hd => rfl); (case hg => rfl); (case hr => first | (go_simp; done) | (go_simp; rfl)); intro gb722 hg w4 hbox hb; have n0_ := Aside0.mk (below_step (by repeat (first | (with_reducible first | exact HB.out | apply below_alloc | apply pw_below_drewN | apply below_drew1) | exact HB.out)) hb); have n1_ := Aside0.mk (hbox); have n2_ := Aside0.mk ((by rw [hg]; exact (below_size (by repeat (first | (with_reducible first | exact HB.out | apply below_alloc | apply pw_below_drewN | apply below_drew1) | exact HB.out))) : w.heap.size ≤ gb722)); have n3_ := Aside0.mk ((by rw [hg]; exact (below_size (by repeat (first | (with_reducible first | exact HB.out | apply below_alloc | apply pw_below_drewN | apply below_drew1) | exact HB.out))) : w.heap.size ≤ gb722)); clear HB; have HB := n0_; have BK722 := n1_; have GW722 := n2_; have GE722 := n3_; clear n0_ n1_ n2_ n3_; clear hb hbox hg))
  repeat (go_quiet (first | ((with_reducible refine gate_dst (N := 2) rfl ?_); (try (refine gate_guard (by rfl) ?_; dsimp only)); refine box_event ?hg (N := 2) ?hd (cs := #[.int .i64 a0_0, .slice A0_1 l0_1.length c0_1]) (t := 30) ?hr ?_; (case hd => rfl); (case hg => rfl); (case hr => first | (go_simp; done) | (go_simp; rfl)); intro gb722 hg w4 hbox hb; have n0_ := Aside0.mk (below_step (by repeat (first | (with_reducible first | exact HB.out | apply below_alloc | apply pw_below_drewN | apply below_drew1) | exact HB.out)) hb); have n1_ := Aside0.mk (hbox); have n2_ := Aside0.mk ((by rw [hg]; exact (below_size (by repeat (first | (with_reducible first | exact HB.out | apply below_alloc | apply pw_below_drewN | apply below_drew1) | exact HB.out))) : w.heap.size ≤ gb722)); have n3_ := Aside0.mk ((by rw [hg]; exact (below_size (by repeat (first | (with_reducible first | exact HB.out | apply below_alloc | apply pw_below_drewN | apply below_drew1) | exact HB.out))) : w.heap.size ≤ gb722)); clear HB; have HB := n0_; have BK722 := n1_; have GW722 := n2_; have GE722 := n3_; clear n0_ n1_ n2_ n3_; clear hb hbox hg)); go_upto_region 1 with (first | ((with_reducible refine gate_dst (N := 2) rfl ?_); (try (refine gate_guard (by rfl) ?_; dsimp only)); refine box_event ?hg (N := 2) ?hd (cs := #[.int .i64 a0_0, .slice A0_1 l0_1.length c0_1]) (t := 30) ?hr ?_; (case hd => rfl); (case hg => rfl); (case hr => first | (go_simp; done) | (go_simp; rfl)); intro gb722 hg w4 hbox hb; have n0_ := Aside0.mk (below_step (by repeat (first | (with_reducible first | exact HB.out | apply below_alloc | apply pw_below_drewN | apply below_drew1) | exact HB.out)) hb); have n1_ := Aside0.mk (hbox); have n2_ := Aside0.mk ((by rw [hg]; exact (below_size (by repeat (first | (with_reducible first | exact HB.out | apply below_alloc | apply pw_below_drewN | apply below_drew1) | exact HB.out))) : w.heap.size ≤ gb722)); have n3_ := Aside0.mk ((by rw [hg]; exact (below_size (by repeat (first | (with_reducible first | exact HB.out | apply below_alloc | apply pw_below_drewN | apply below_drew1) | exact HB.out))) : w.heap.size ≤ gb722)); clear HB; have HB := n0_; have BK722 := n1_; have GW722 := n2_; have GE722 := n3_; clear n0_ n1_ n2_ n3_; clear hb hbox hg)))
  (try simp only [Act.put, List.setIfInBounds_toArray, List.set_cons_zero, List.set_cons_succ])
  go_cut [16] (fun v16 wc => ∃ (kq : Nat) (x16_2 : Bool), v16 = .bool x16_2 ∧ Aside0 (spec_ImmediateOf.j0 kq a1 x16_2 a0_0 l0_1 = some (r1, r2)) ∧ Aside0 (kq ≤ k) ∧ Aside0 (wc.heap[gb722]? = some (.cells #[.int .i64 a0_0, (.slice A0_1 l0_1.length c0_1)] 30 (0, 0))) ∧ Aside0 (Below w.heap.size w wc))
  case first =>
    have H := HC3.out
    clear HC3
    replace H := Option.bind_eq_some_iff.mp H
    obtain ⟨t723, A50, H⟩ := H
    replace H : (if t723 = true then (spec_ImmediateOf.j0 k a1 (a1 == 0) a0_0 l0_1) else (spec_ImmediateOf.j0 k a1 true a0_0 l0_1)) = some (r1, r2) := H
    have A5 := Aside0.mk A50
    clear A50
    by_cases c6 : t723 = true
    · subst c6
      have H1 : (spec_ImmediateOf.j0 k a1 (a1 == 0) a0_0 l0_1) = some (r1, r2) := by rw [if_pos rfl] at H; exact H
      clear H
      have H := H1
      clear H1
      have H' := Aside0.mk H
      clear H
      have hcz7_0 : w4.cell? ⟨gb722, 0, none⟩ = some (.int .i64 a0_0) := (blk_cell BK722.out 0).trans rfl
      have hcz7_1 : w4.cell? ⟨gb722, 1, none⟩ = some (.slice A0_1 l0_1.length c0_1) := (blk_cell BK722.out 1).trans rfl
      have hfz7_0 := blk_frozen BK722.out 0
      have hfz7_1 := blk_frozen BK722.out 1
      go_wp2_with (first | (go_at_call 61; (with_reducible refine (spec_l13Is.calls a0_0 _ _ l0_1 a1 true _ ?side1 ?side2 A5.out).mono ?_); (case side1 => repeat (first | exact (Kd.C_below HR0_1.out HB.out) | (with_reducible refine Kd.C_alloc ?_ _) | (with_reducible refine Kd.C_drewN ?_ _) | (with_reducible refine Kd.C_drew ?_))); (case side2 => exact HC0_1.out); rintro e w8 ⟨rfl, hb⟩; have n0_ := Aside0.mk (blk_below (g := gb722) (o := .cells #[.int .i64 a0_0, .slice A0_1 l0_1.length c0_1] 30 (0, 0)) (by (with_reducible repeat (first | refine blk_drewN ?_ _ | refine blk_drew ?_ | refine blk_alloc ?_ _)); exact BK722.out) hb); have n1_ := Aside0.mk (below_step (by repeat (first | (with_reducible first | exact HB.out | apply below_alloc | apply pw_below_drewN | apply below_drew1 | refine below_set ?_ GE722.out) | exact HB.out)) hb); clear BK722; clear HB; have BK722 := n0_; have HB := n1_; clear n0_ n1_; (try clear hb); (try clear hb2); (try clear hk); (try clear hi)))
      repeat (go_quiet (first | (go_at_call 61; (with_reducible refine (spec_l13Is.calls a0_0 _ _ l0_1 a1 true _ ?side1 ?side2 A5.out).mono ?_); (case side1 => repeat (first | exact (Kd.C_below HR0_1.out HB.out) | (with_reducible refine Kd.C_alloc ?_ _) | (with_reducible refine Kd.C_drewN ?_ _) | (with_reducible refine Kd.C_drew ?_))); (case side2 => exact HC0_1.out); rintro e w8 ⟨rfl, hb⟩; have n0_ := Aside0.mk (blk_below (g := gb722) (o := .cells #[.int .i64 a0_0, .slice A0_1 l0_1.length c0_1] 30 (0, 0)) (by (with_reducible repeat (first | refine blk_drewN ?_ _ | refine blk_drew ?_ | refine blk_alloc ?_ _)); exact BK722.out) hb); have n1_ := Aside0.mk (below_step (by repeat (first | (with_reducible first | exact HB.out | apply below_alloc | apply pw_below_drewN | apply below_drew1 | refine below_set ?_ GE722.out) | exact HB.out)) hb); clear BK722; clear HB; have BK722 := n0_; have HB := n1_; clear n0_ n1_; (try clear hb); (try clear hb2); (try clear hk); (try clear hi))); try go_wp2_with (first | (go_at_call 61; (with_reducible refine (spec_l13Is.calls a0_0 _ _ l0_1 a1 true _ ?side1 ?side2 A5.out).mono ?_); (case side1 => repeat (first | exact (Kd.C_below HR0_1.out HB.out) | (with_reducible refine Kd.C_alloc ?_ _) | (with_reducible refine Kd.C_drewN ?_ _) | (with_reducible refine Kd.C_drew ?_))); (case side2 => exact HC0_1.out); rintro e w8 ⟨rfl, hb⟩; have n0_ := Aside0.mk (blk_below (g := gb722) (o := .cells #[.int .i64 a0_0, .slice A0_1 l0_1.length c0_1] 30 (0, 0)) (by (with_reducible repeat (first | refine blk_drewN ?_ _ | refine blk_drew ?_ | refine blk_alloc ?_ _)); exact BK722.out) hb); have n1_ := Aside0.mk (below_step (by repeat (first | (with_reducible first | exact HB.out | apply below_alloc | apply pw_below_drewN | apply below_drew1 | refine below_set ?_ GE722.out) | exact HB.out)) hb); clear BK722; clear HB; have BK722 := n0_; have HB := n1_; clear n0_ n1_; (try clear hb); (try clear hb2); (try clear hk); (try clear hi))))
      go_meet
      case rel => exact ⟨_, ((a1 == 0)), (by first | rfl | (simp; done) | (simp [*]; done)), H', ⟨by first | omega | exact Nat.le_refl _⟩, ⟨by (with_reducible repeat (first | refine blk_drewN ?_ _ | refine blk_drew ?_ | refine blk_alloc ?_ _)); exact BK722.out⟩, ⟨by repeat (first | (with_reducible first | exact HB.out | apply below_alloc | apply pw_below_drewN | apply below_drew1 | refine below_set ?_ GE722.out) | exact HB.out)⟩⟩
    · replace c6 := Bool.eq_false_iff.mpr c6
      subst c6
      have H1 : (spec_ImmediateOf.j0 k a1 true a0_0 l0_1) = some (r1, r2) := by rw [if_neg (show ¬ (false = true) by decide)] at H; exact H
      clear H
      have H := H1
      clear H1
      have H' := Aside0.mk H
      clear H
      have hcz9_0 : w4.cell? ⟨gb722, 0, none⟩ = some (.int .i64 a0_0) := (blk_cell BK722.out 0).trans rfl
      have hcz9_1 : w4.cell? ⟨gb722, 1, none⟩ = some (.slice A0_1 l0_1.length c0_1) := (blk_cell BK722.out 1).trans rfl
      have hfz9_0 := blk_frozen BK722.out 0
      have hfz9_1 := blk_frozen BK722.out 1
      go_wp2_with (first | (go_at_call 61; (with_reducible refine (spec_l13Is.calls a0_0 _ _ l0_1 a1 false _ ?side1 ?side2 A5.out).mono ?_); (case side1 => repeat (first | exact (Kd.C_below HR0_1.out HB.out) | (with_reducible refine Kd.C_alloc ?_ _) | (with_reducible refine Kd.C_drewN ?_ _) | (with_reducible refine Kd.C_drew ?_))); (case side2 => exact HC0_1.out); rintro e w10 ⟨rfl, hb⟩; have n0_ := Aside0.mk (blk_below (g := gb722) (o := .cells #[.int .i64 a0_0, .slice A0_1 l0_1.length c0_1] 30 (0, 0)) (by (with_reducible repeat (first | refine blk_drewN ?_ _ | refine blk_drew ?_ | refine blk_alloc ?_ _)); exact BK722.out) hb); have n1_ := Aside0.mk (below_step (by repeat (first | (with_reducible first | exact HB.out | apply below_alloc | apply pw_below_drewN | apply below_drew1 | refine below_set ?_ GE722.out) | exact HB.out)) hb); clear BK722; clear HB; have BK722 := n0_; have HB := n1_; clear n0_ n1_; (try clear hb); (try clear hb2); (try clear hk); (try clear hi)))
      repeat (go_quiet (first | (go_at_call 61; (with_reducible refine (spec_l13Is.calls a0_0 _ _ l0_1 a1 false _ ?side1 ?side2 A5.out).mono ?_); (case side1 => repeat (first | exact (Kd.C_below HR0_1.out HB.out) | (with_reducible refine Kd.C_alloc ?_ _) | (with_reducible refine Kd.C_drewN ?_ _) | (with_reducible refine Kd.C_drew ?_))); (case side2 => exact HC0_1.out); rintro e w10 ⟨rfl, hb⟩; have n0_ := Aside0.mk (blk_below (g := gb722) (o := .cells #[.int .i64 a0_0, .slice A0_1 l0_1.length c0_1] 30 (0, 0)) (by (with_reducible repeat (first | refine blk_drewN ?_ _ | refine blk_drew ?_ | refine blk_alloc ?_ _)); exact BK722.out) hb); have n1_ := Aside0.mk (below_step (by repeat (first | (with_reducible first | exact HB.out | apply below_alloc | apply pw_below_drewN | apply below_drew1 | refine below_set ?_ GE722.out) | exact HB.out)) hb); clear BK722; clear HB; have BK722 := n0_; have HB := n1_; clear n0_ n1_; (try clear hb); (try clear hb2); (try clear hk); (try clear hi))); try go_wp2_with (first | (go_at_call 61; (with_reducible refine (spec_l13Is.calls a0_0 _ _ l0_1 a1 false _ ?side1 ?side2 A5.out).mono ?_); (case side1 => repeat (first | exact (Kd.C_below HR0_1.out HB.out) | (with_reducible refine Kd.C_alloc ?_ _) | (with_reducible refine Kd.C_drewN ?_ _) | (with_reducible refine Kd.C_drew ?_))); (case side2 => exact HC0_1.out); rintro e w10 ⟨rfl, hb⟩; have n0_ := Aside0.mk (blk_below (g := gb722) (o := .cells #[.int .i64 a0_0, .slice A0_1 l0_1.length c0_1] 30 (0, 0)) (by (with_reducible repeat (first | refine blk_drewN ?_ _ | refine blk_drew ?_ | refine blk_alloc ?_ _)); exact BK722.out) hb); have n1_ := Aside0.mk (below_step (by repeat (first | (with_reducible first | exact HB.out | apply below_alloc | apply pw_below_drewN | apply below_drew1 | refine below_set ?_ GE722.out) | exact HB.out)) hb); clear BK722; clear HB; have BK722 := n0_; have HB := n1_; clear n0_ n1_; (try clear hb); (try clear hb2); (try clear hk); (try clear hi))))
      go_meet
      case rel => exact ⟨_, (true), (by first | rfl | (simp; done) | (simp [*]; done)), H', ⟨by first | omega | exact Nat.le_refl _⟩, ⟨by (with_reducible repeat (first | refine blk_drewN ?_ _ | refine blk_drew ?_ | refine blk_alloc ?_ _)); exact BK722.out⟩, ⟨by repeat (first | (with_reducible first | exact HB.out | apply below_alloc | apply pw_below_drewN | apply below_drew1 | refine below_set ?_ GE722.out) | exact HB.out)⟩⟩
  case rest =>
    clear HC3
    try clear p2
    try clear c4
    try clear c6
    try clear hcz7_0
    try clear hcz7_1
    try clear hcz9_0
    try clear hcz9_1
    try clear hfz7_0
    try clear hfz7_1
    try clear hfz9_0
    try clear hfz9_1
    obtain ⟨kq, x16_2, rfl, HA, HJ2, BK722, HB⟩ := hcut
    cases kq with
    | zero => exact absurd HA.out (by simp [spec_ImmediateOf.j0])
    | succ kj2 =>
      have H := HA.out
      clear HA
      simp only [spec_ImmediateOf.j0] at H
      by_cases c11 : x16_2 = true
      · subst c11
        have H1 : (some (0, false)) = some (r1, r2) := by rw [if_pos rfl] at H; exact H
        clear H
        have H := H1
        clear H1
        simp only [Option.some.injEq, Prod.mk.injEq] at H
        obtain ⟨rfl, rfl⟩ := H
        go_wp2
        repeat (go_quiet (fail); try go_wp2)
        go_ret2
        exact ⟨by first | rfl | (simp [errW_none, errW_some] <;> rfl) | (simp [*, errW_none, errW_some] <;> rfl), by repeat (first | (with_reducible first | exact HB.out | apply below_alloc | apply pw_below_drewN | apply below_drew1 | refine below_set ?_ GE722.out) | exact HB.out)⟩
      · replace c11 := Bool.eq_false_iff.mpr c11
        subst c11
        have H1 : ((spec_l13AllDoms.f kj2 a0_0 l0_1).bind fun t724 => (if 0 ≤ a1 then (if a1 < (t724.length : Int) then (spec_ImmediateOf.l0 kj2 a1 t724 (rd_L1 t724 a1) ((rd_L1 t724 a1).length : Int) 0) else (none)) else (none))) = some (r1, r2) := by rw [if_neg (show ¬ (false = true) by decide)] at H; exact H
        clear H
        have H := H1
        clear H1
        replace H := Option.bind_eq_some_iff.mp H
        obtain ⟨t724, A120, H⟩ := H
        replace H : (if 0 ≤ a1 then (if a1 < (t724.length : Int) then (spec_ImmediateOf.l0 kj2 a1 t724 (rd_L1 t724 a1) ((rd_L1 t724 a1).length : Int) 0) else (none)) else (none)) = some (r1, r2) := H
        have A12 := Aside0.mk A120
        clear A120
        by_cases c13 : 0 ≤ a1
        · rw [if_pos c13] at H
          have c13b0 : decide (0 ≤ a1) = true := decide_eq_true c13
          clear c13
          by_cases c14 : a1 < (t724.length : Int)
          · rw [if_pos c14] at H
            have c14b0 : decide (a1 < (t724.length : Int)) = true := decide_eq_true c14
            clear c14
            have H' := Aside0.mk H
            clear H
            have hcz15_0 : wc.cell? ⟨gb722, 0, none⟩ = some (.int .i64 a0_0) := (blk_cell BK722.out 0).trans rfl
            have hcz15_1 : wc.cell? ⟨gb722, 1, none⟩ = some (.slice A0_1 l0_1.length c0_1) := (blk_cell BK722.out 1).trans rfl
            have hfz15_0 := blk_frozen BK722.out 0
            have hfz15_1 := blk_frozen BK722.out 1
            go_wp2_with (first | (go_at_call 77; (with_reducible refine (spec_l13AllDoms.calls kj2 a0_0 _ _ l0_1 t724 _ ?side1 ?side2 A12.out).mono ?_); (case side1 => repeat (first | exact (Kd.C_below HR0_1.out HB.out) | (with_reducible refine Kd.C_alloc ?_ _) | (with_reducible refine Kd.C_drewN ?_ _) | (with_reducible refine Kd.C_drew ?_))); (case side2 => exact HC0_1.out); rintro e w16 ⟨v725, rfl, ho0, hb⟩; have n0_ := Aside0.mk (Kd.S_lower ho0 (below_size (by repeat (first | (with_reducible first | exact HB.out | apply below_alloc | apply pw_below_drewN | apply below_drew1 | refine below_set ?_ GE722.out) | exact HB.out)))); have n1_ := Aside0.mk (blk_below (g := gb722) (o := .cells #[.int .i64 a0_0, .slice A0_1 l0_1.length c0_1] 30 (0, 0)) (by (with_reducible repeat (first | refine blk_drewN ?_ _ | refine blk_drew ?_ | refine blk_alloc ?_ _)); exact BK722.out) hb); have n2_ := Aside0.mk (below_step (by repeat (first | (with_reducible first | exact HB.out | apply below_alloc | apply pw_below_drewN | apply below_drew1 | refine below_set ?_ GE722.out) | exact HB.out)) hb); clear BK722; clear HB; have HO726 := n0_; have BK722 := n1_; have HB := n2_; clear n0_ n1_ n2_; (try clear hb); (try clear hb2); (try clear hk); (try clear hi); (try clear ho0); obtain ⟨Ao17, co17, eo17⟩ := Kd.S_slice HO726.out; subst eo17; have p727 : 0 ≤ (a1 : Int) := of_decide_eq_true (by first | (with_reducible assumption) | assumption); have q727 : a1 < (t724.length : Int) := of_decide_eq_true (by first | (with_reducible assumption) | assumption); obtain ⟨ad727, A727_0, c727_0, e727, hx727_0, hl727_0, hi727_0⟩ := at_L1 (Kd.S_reads' HO726.out).2.2 a1 p727 q727; cases e727; obtain ⟨ce727, hce727, hMe727, hcc727⟩ := Kd.S_get HO726.out [] a1 p727 (by first | exact q727 | exact of_decide_eq_true (by first | (with_reducible assumption) | assumption) | (have e_ := (Kd.S_reads' HO726.out).1; omega)); obtain ⟨ve727_0, rfl, ge727_0⟩ := hMe727; have hv727_0 := hcc727 0 _ rfl; rw [Nat.add_zero, show ((Kd.slice 3 (Kd.int .i64))).sz = 1 from rfl, Nat.mul_one] at hv727_0; replace hv727_0 := Option.some.inj (hv727_0.symm.trans hx727_0); rw [hv727_0] at ge727_0; have HL727_0 := Aside0.mk (show Kd.R (Kd.int .i64) 3 _ _ _ _ (rd_L1 t724 a1) from ge727_0); clear hv727_0 ge727_0; clear hcc727 hce727; have HR727_0 := Aside0.mk hi727_0; have HC727_0 := Aside0.mk hl727_0; clear hi727_0 hl727_0; replace p727 := eq_true p727; replace q727 := eq_true q727))
            repeat (go_quiet (first | (go_at_call 77; (with_reducible refine (spec_l13AllDoms.calls kj2 a0_0 _ _ l0_1 t724 _ ?side1 ?side2 A12.out).mono ?_); (case side1 => repeat (first | exact (Kd.C_below HR0_1.out HB.out) | (with_reducible refine Kd.C_alloc ?_ _) | (with_reducible refine Kd.C_drewN ?_ _) | (with_reducible refine Kd.C_drew ?_))); (case side2 => exact HC0_1.out); rintro e w16 ⟨v725, rfl, ho0, hb⟩; have n0_ := Aside0.mk (Kd.S_lower ho0 (below_size (by repeat (first | (with_reducible first | exact HB.out | apply below_alloc | apply pw_below_drewN | apply below_drew1 | refine below_set ?_ GE722.out) | exact HB.out)))); have n1_ := Aside0.mk (blk_below (g := gb722) (o := .cells #[.int .i64 a0_0, .slice A0_1 l0_1.length c0_1] 30 (0, 0)) (by (with_reducible repeat (first | refine blk_drewN ?_ _ | refine blk_drew ?_ | refine blk_alloc ?_ _)); exact BK722.out) hb); have n2_ := Aside0.mk (below_step (by repeat (first | (with_reducible first | exact HB.out | apply below_alloc | apply pw_below_drewN | apply below_drew1 | refine below_set ?_ GE722.out) | exact HB.out)) hb); clear BK722; clear HB; have HO726 := n0_; have BK722 := n1_; have HB := n2_; clear n0_ n1_ n2_; (try clear hb); (try clear hb2); (try clear hk); (try clear hi); (try clear ho0); obtain ⟨Ao17, co17, eo17⟩ := Kd.S_slice HO726.out; subst eo17; have p727 : 0 ≤ (a1 : Int) := of_decide_eq_true (by first | (with_reducible assumption) | assumption); have q727 : a1 < (t724.length : Int) := of_decide_eq_true (by first | (with_reducible assumption) | assumption); obtain ⟨ad727, A727_0, c727_0, e727, hx727_0, hl727_0, hi727_0⟩ := at_L1 (Kd.S_reads' HO726.out).2.2 a1 p727 q727; cases e727; obtain ⟨ce727, hce727, hMe727, hcc727⟩ := Kd.S_get HO726.out [] a1 p727 (by first | exact q727 | exact of_decide_eq_true (by first | (with_reducible assumption) | assumption) | (have e_ := (Kd.S_reads' HO726.out).1; omega)); obtain ⟨ve727_0, rfl, ge727_0⟩ := hMe727; have hv727_0 := hcc727 0 _ rfl; rw [Nat.add_zero, show ((Kd.slice 3 (Kd.int .i64))).sz = 1 from rfl, Nat.mul_one] at hv727_0; replace hv727_0 := Option.some.inj (hv727_0.symm.trans hx727_0); rw [hv727_0] at ge727_0; have HL727_0 := Aside0.mk (show Kd.R (Kd.int .i64) 3 _ _ _ _ (rd_L1 t724 a1) from ge727_0); clear hv727_0 ge727_0; clear hcc727 hce727; have HR727_0 := Aside0.mk hi727_0; have HC727_0 := Aside0.mk hl727_0; clear hi727_0 hl727_0; replace p727 := eq_true p727; replace q727 := eq_true q727)); try go_wp2_with (first | (go_at_call 77; (with_reducible refine (spec_l13AllDoms.calls kj2 a0_0 _ _ l0_1 t724 _ ?side1 ?side2 A12.out).mono ?_); (case side1 => repeat (first | exact (Kd.C_below HR0_1.out HB.out) | (with_reducible refine Kd.C_alloc ?_ _) | (with_reducible refine Kd.C_drewN ?_ _) | (with_reducible refine Kd.C_drew ?_))); (case side2 => exact HC0_1.out); rintro e w16 ⟨v725, rfl, ho0, hb⟩; have n0_ := Aside0.mk (Kd.S_lower ho0 (below_size (by repeat (first | (with_reducible first | exact HB.out | apply below_alloc | apply pw_below_drewN | apply below_drew1 | refine below_set ?_ GE722.out) | exact HB.out)))); have n1_ := Aside0.mk (blk_below (g := gb722) (o := .cells #[.int .i64 a0_0, .slice A0_1 l0_1.length c0_1] 30 (0, 0)) (by (with_reducible repeat (first | refine blk_drewN ?_ _ | refine blk_drew ?_ | refine blk_alloc ?_ _)); exact BK722.out) hb); have n2_ := Aside0.mk (below_step (by repeat (first | (with_reducible first | exact HB.out | apply below_alloc | apply pw_below_drewN | apply below_drew1 | refine below_set ?_ GE722.out) | exact HB.out)) hb); clear BK722; clear HB; have HO726 := n0_; have BK722 := n1_; have HB := n2_; clear n0_ n1_ n2_; (try clear hb); (try clear hb2); (try clear hk); (try clear hi); (try clear ho0); obtain ⟨Ao17, co17, eo17⟩ := Kd.S_slice HO726.out; subst eo17; have p727 : 0 ≤ (a1 : Int) := of_decide_eq_true (by first | (with_reducible assumption) | assumption); have q727 : a1 < (t724.length : Int) := of_decide_eq_true (by first | (with_reducible assumption) | assumption); obtain ⟨ad727, A727_0, c727_0, e727, hx727_0, hl727_0, hi727_0⟩ := at_L1 (Kd.S_reads' HO726.out).2.2 a1 p727 q727; cases e727; obtain ⟨ce727, hce727, hMe727, hcc727⟩ := Kd.S_get HO726.out [] a1 p727 (by first | exact q727 | exact of_decide_eq_true (by first | (with_reducible assumption) | assumption) | (have e_ := (Kd.S_reads' HO726.out).1; omega)); obtain ⟨ve727_0, rfl, ge727_0⟩ := hMe727; have hv727_0 := hcc727 0 _ rfl; rw [Nat.add_zero, show ((Kd.slice 3 (Kd.int .i64))).sz = 1 from rfl, Nat.mul_one] at hv727_0; replace hv727_0 := Option.some.inj (hv727_0.symm.trans hx727_0); rw [hv727_0] at ge727_0; have HL727_0 := Aside0.mk (show Kd.R (Kd.int .i64) 3 _ _ _ _ (rd_L1 t724 a1) from ge727_0); clear hv727_0 ge727_0; clear hcc727 hce727; have HR727_0 := Aside0.mk hi727_0; have HC727_0 := Aside0.mk hl727_0; clear hi727_0 hl727_0; replace p727 := eq_true p727; replace q727 := eq_true q727)))
            go_loopg [24] kj2 (fun kq v24 w' => ∃ (x24_2 : Int), v24 = .int .i64 x24_2 ∧ Aside0 (spec_ImmediateOf.l0 kq a1 t724 (rd_L1 t724 a1) ((rd_L1 t724 a1).length : Int) x24_2 = some (r1, r2)) ∧ Aside0 (kq ≤ kj2) ∧ Aside0 (Kd.S (Kd.slice 3 (Kd.int .i64)) 34 w' w.heap.size (fun _ => True) (.slice (some ad727) t724.length co17) t724) ∧ Aside0 (w'.heap[gb722]? = some (.cells #[.int .i64 a0_0, (.slice A0_1 l0_1.length c0_1)] 30 (0, 0))) ∧ Aside0 (Kd.C (Kd.int .i64) w' A727_0 (rd_L1 t724 a1).length (rd_L1 t724 a1)) ∧ Aside0 (Below w.heap.size w w'))
            case atStart => exact ⟨(0), (by first | rfl | (simp; done) | (simp [*]; done)), H', ⟨Nat.le_refl _⟩, ⟨by (with_reducible repeat (first | apply Kd.S_alloc | apply Kd.S_drewN | apply Kd.S_drew)); exact HO726.out⟩, ⟨by (with_reducible repeat (first | refine blk_drewN ?_ _ | refine blk_drew ?_ | refine blk_alloc ?_ _)); exact BK722.out⟩, ⟨by repeat (first | (with_reducible exact HR727_0.out) | (with_reducible refine Kd.C_alloc ?_ _) | (with_reducible refine Kd.C_drewN ?_ _) | (with_reducible refine Kd.C_drew ?_) | exact HR727_0.out)⟩, ⟨by repeat (first | (with_reducible first | exact HB.out | apply below_alloc | apply pw_below_drewN | apply below_drew1 | refine below_set ?_ GE722.out) | exact HB.out)⟩⟩
            case round =>
              clear H'
              try clear c1
              try clear p2
              try clear c4
              try clear c6
              try clear c7
              try clear p7
              try clear q7
              try clear hx7
              try clear c11
              try clear c13
              try clear c13b0
              try clear c14
              try clear c14b0
              try clear hcz15_0
              try clear hcz15_1
              try clear hcz7_0
              try clear hcz7_1
              try clear hcz9_0
              try clear hcz9_1
              try clear hfz15_0
              try clear hfz15_1
              try clear hfz7_0
              try clear hfz7_1
              try clear hfz9_0
              try clear hfz9_1
              try clear hx727_0
              try clear p2
              try clear p727
              try clear q727
              obtain ⟨x24_2, rfl, HA, HK2, HO_6, BK722, HR727_0, HB⟩ := hrel
              cases gk with
              | zero => exact absurd HA.out (by simp [spec_ImmediateOf.l0])
              | succ k2 =>
                have H := HA.out
                clear HA
                simp only [spec_ImmediateOf.l0] at H
                by_cases c18 : x24_2 < ((rd_L1 t724 a1).length : Int)
                · rw [if_pos c18] at H
                  have c18b0 : decide (x24_2 < ((rd_L1 t724 a1).length : Int)) = true := decide_eq_true c18
                  clear c18
                  by_cases c19 : 0 ≤ x24_2
                  · rw [if_pos c19] at H
                    have c19b0 : decide (0 ≤ x24_2) = true := decide_eq_true c19
                    clear c19
                    by_cases c20 : x24_2 < ((rd_L1 t724 a1).length : Int)
                    · rw [if_pos c20] at H
                      have c20b0 : decide (x24_2 < ((rd_L1 t724 a1).length : Int)) = true := decide_eq_true c20
                      clear c20
                      by_cases c21 : (rd (rd_L1 t724 a1) x24_2) = a1
                      · rw [if_pos c21] at H
                        have c21b0 : ((rd (rd_L1 t724 a1) x24_2) == a1) = true := beq_iff_eq.mpr c21
                        have c21b1 : ((rd (rd_L1 t724 a1) x24_2) != a1) = false := bne_eq_false_iff_eq.mpr c21
                        clear c21
                        have H' := Aside0.mk H
                        clear H
                        have p728 : 0 ≤ (x24_2 : Int) := of_decide_eq_true (by first | (with_reducible assumption) | assumption)
                        have q728 : x24_2 < ((rd_L1 t724 a1).length : Int) := of_decide_eq_true (by first | (with_reducible assumption) | assumption)
                        obtain ⟨ad728, e728, hx728_0⟩ := Kd.at_int HR727_0.out x24_2 p728 q728
                        cases e728
                        (try (replace hx728_0 := (HB.out.cell (World.block_lt_of_cell? w _ hx728_0)).trans hx728_0))
                        replace p728 := eq_true p728
                        replace q728 := eq_true q728
                        go_wp2
                        repeat (go_quiet (fail); try go_wp2)
                        go_roundg k2
                        case measure => have := HJ2.out; have := HK2.out; omega
                        case rel => exact ⟨(wrap64 (x24_2 + 1)), (by first | rfl | (simp; done) | (simp [*]; done)), H', ⟨by have := HJ2.out; have := HK2.out; omega⟩, ⟨by (with_reducible repeat (first | apply Kd.S_alloc | apply Kd.S_drewN | apply Kd.S_drew)); exact HO_6.out⟩, ⟨by (with_reducible repeat (first | refine blk_drewN ?_ _ | refine blk_drew ?_ | refine blk_alloc ?_ _)); exact BK722.out⟩, ⟨by repeat (first | (with_reducible exact HR727_0.out) | (with_reducible refine Kd.C_alloc ?_ _) | (with_reducible refine Kd.C_drewN ?_ _) | (with_reducible refine Kd.C_drew ?_) | exact HR727_0.out)⟩, ⟨by repeat (first | (with_reducible first | exact HB.out | apply below_alloc | apply pw_below_drewN | apply below_drew1 | refine below_set ?_ GE722.out) | exact HB.out)⟩⟩
                      · rw [if_neg c21] at H
                        have c21b0 : ((rd (rd_L1 t724 a1) x24_2) == a1) = false := beq_eq_false_iff_ne.mpr c21
                        have c21b1 : ((rd (rd_L1 t724 a1) x24_2) != a1) = true := bne_iff_ne.mpr c21
                        by_cases c22 : 0 ≤ (rd (rd_L1 t724 a1) x24_2)
                        · rw [if_pos c22] at H
                          have c22b0 : decide (0 ≤ (rd (rd_L1 t724 a1) x24_2)) = true := decide_eq_true c22
                          clear c22
                          by_cases c23 : (rd (rd_L1 t724 a1) x24_2) < (t724.length : Int)
                          · rw [if_pos c23] at H
                            have c23b0 : decide ((rd (rd_L1 t724 a1) x24_2) < (t724.length : Int)) = true := decide_eq_true c23
                            clear c23
                            by_cases c24 : 0 ≤ a1
                            · rw [if_pos c24] at H
                              have c24b0 : decide (0 ≤ a1) = true := decide_eq_true c24
                              clear c24
                              by_cases c25 : a1 < (t724.length : Int)
                              · rw [if_pos c25] at H
                                have c25b0 : decide (a1 < (t724.length : Int)) = true := decide_eq_true c25
                                clear c25
                                by_cases c26 : ((rd_L1 t724 (rd (rd_L1 t724 a1) x24_2)).length : Int) = (wrap64 (((rd_L1 t724 a1).length : Int) - 1))
                                · rw [if_pos c26] at H
                                  have c26b0 : (((rd_L1 t724 (rd (rd_L1 t724 a1) x24_2)).length : Int) == (wrap64 (((rd_L1 t724 a1).length : Int) - 1))) = true := beq_iff_eq.mpr c26
                                  have c26b1 : (((rd_L1 t724 (rd (rd_L1 t724 a1) x24_2)).length : Int) != (wrap64 (((rd_L1 t724 a1).length : Int) - 1))) = false := bne_eq_false_iff_eq.mpr c26
                                  clear c26
                                  simp only [Option.some.injEq, Prod.mk.injEq] at H
                                  obtain ⟨rfl, rfl⟩ := H
                                  have p728 : 0 ≤ (x24_2 : Int) := of_decide_eq_true (by first | (with_reducible assumption) | assumption)
                                  have q728 : x24_2 < ((rd_L1 t724 a1).length : Int) := of_decide_eq_true (by first | (with_reducible assumption) | assumption)
                                  obtain ⟨ad728, e728, hx728_0⟩ := Kd.at_int HR727_0.out x24_2 p728 q728
                                  cases e728
                                  (try (replace hx728_0 := (HB.out.cell (World.block_lt_of_cell? w _ hx728_0)).trans hx728_0))
                                  replace p728 := eq_true p728
                                  replace q728 := eq_true q728
                                  have p729 : 0 ≤ ((rd (rd_L1 t724 a1) x24_2) : Int) := of_decide_eq_true (by first | (with_reducible assumption) | assumption)
                                  have q729 : (rd (rd_L1 t724 a1) x24_2) < (t724.length : Int) := of_decide_eq_true (by first | (with_reducible assumption) | assumption)
                                  obtain ⟨ad729, A729_0, c729_0, e729, hx729_0, hl729_0, hi729_0⟩ := at_L1 (Kd.S_reads' HO_6.out).2.2 (rd (rd_L1 t724 a1) x24_2) p729 q729
                                  obtain rfl : ad727 = ad729 := (by injection e729)
                                  obtain ⟨ce729, hce729, hMe729, hcc729⟩ := Kd.S_get HO_6.out [] (rd (rd_L1 t724 a1) x24_2) p729 (by first | exact q729 | exact of_decide_eq_true (by first | (with_reducible assumption) | assumption) | (have e_ := (Kd.S_reads' HO_6.out).1; omega))
                                  obtain ⟨ve729_0, rfl, ge729_0⟩ := hMe729
                                  have hv729_0 := hcc729 0 _ rfl
                                  rw [Nat.add_zero, show ((Kd.slice 3 (Kd.int .i64))).sz = 1 from rfl, Nat.mul_one] at hv729_0
                                  replace hv729_0 := Option.some.inj (hv729_0.symm.trans hx729_0)
                                  rw [hv729_0] at ge729_0
                                  have HL729_0 := Aside0.mk (show Kd.R (Kd.int .i64) 3 _ _ _ _ (rd_L1 t724 (rd (rd_L1 t724 a1) x24_2)) from ge729_0)
                                  clear hv729_0 ge729_0
                                  clear hcc729 hce729
                                  have HR729_0 := Aside0.mk hi729_0
                                  have HC729_0 := Aside0.mk hl729_0
                                  clear hi729_0 hl729_0
                                  replace p729 := eq_true p729
                                  replace q729 := eq_true q729
                                  have p730 : 0 ≤ (a1 : Int) := of_decide_eq_true (by first | (with_reducible assumption) | assumption)
                                  have q730 : a1 < (t724.length : Int) := of_decide_eq_true (by first | (with_reducible assumption) | assumption)
                                  obtain ⟨ad730, A730_0, c730_0, e730, hx730_0, hl730_0, hi730_0⟩ := at_L1 (Kd.S_reads' HO_6.out).2.2 a1 p730 q730
                                  obtain rfl : ad727 = ad730 := (by injection e730)
                                  obtain ⟨ce730, hce730, hMe730, hcc730⟩ := Kd.S_get HO_6.out [] a1 p730 (by first | exact q730 | exact of_decide_eq_true (by first | (with_reducible assumption) | assumption) | (have e_ := (Kd.S_reads' HO_6.out).1; omega))
                                  obtain ⟨ve730_0, rfl, ge730_0⟩ := hMe730
                                  have hv730_0 := hcc730 0 _ rfl
                                  rw [Nat.add_zero, show ((Kd.slice 3 (Kd.int .i64))).sz = 1 from rfl, Nat.mul_one] at hv730_0
                                  replace hv730_0 := Option.some.inj (hv730_0.symm.trans hx730_0)
                                  rw [hv730_0] at ge730_0
                                  have HL730_0 := Aside0.mk (show Kd.R (Kd.int .i64) 3 _ _ _ _ (rd_L1 t724 a1) from ge730_0)
                                  clear hv730_0 ge730_0
                                  clear hcc730 hce730
                                  have HR730_0 := Aside0.mk hi730_0
                                  have HC730_0 := Aside0.mk hl730_0
                                  clear hi730_0 hl730_0
                                  replace p730 := eq_true p730
                                  replace q730 := eq_true q730
                                  go_wp2
                                  repeat (go_quiet (fail); try go_wp2)
                                  go_ret2
                                  exact ⟨by first | rfl | (simp [errW_none, errW_some] <;> rfl) | (simp [*, errW_none, errW_some] <;> rfl), by repeat (first | (with_reducible first | exact HB.out | apply below_alloc | apply pw_below_drewN | apply below_drew1 | refine below_set ?_ GE722.out) | exact HB.out)⟩
                                · rw [if_neg c26] at H
                                  have c26b0 : (((rd_L1 t724 (rd (rd_L1 t724 a1) x24_2)).length : Int) == (wrap64 (((rd_L1 t724 a1).length : Int) - 1))) = false := beq_eq_false_iff_ne.mpr c26
                                  have c26b1 : (((rd_L1 t724 (rd (rd_L1 t724 a1) x24_2)).length : Int) != (wrap64 (((rd_L1 t724 a1).length : Int) - 1))) = true := bne_iff_ne.mpr c26
                                  have H' := Aside0.mk H
                                  clear H
                                  have p728 : 0 ≤ (x24_2 : Int) := of_decide_eq_true (by first | (with_reducible assumption) | assumption)
                                  have q728 : x24_2 < ((rd_L1 t724 a1).length : Int) := of_decide_eq_true (by first | (with_reducible assumption) | assumption)
                                  obtain ⟨ad728, e728, hx728_0⟩ := Kd.at_int HR727_0.out x24_2 p728 q728
                                  cases e728
                                  (try (replace hx728_0 := (HB.out.cell (World.block_lt_of_cell? w _ hx728_0)).trans hx728_0))
                                  replace p728 := eq_true p728
                                  replace q728 := eq_true q728
                                  have p729 : 0 ≤ ((rd (rd_L1 t724 a1) x24_2) : Int) := of_decide_eq_true (by first | (with_reducible assumption) | assumption)
                                  have q729 : (rd (rd_L1 t724 a1) x24_2) < (t724.length : Int) := of_decide_eq_true (by first | (with_reducible assumption) | assumption)
                                  obtain ⟨ad729, A729_0, c729_0, e729, hx729_0, hl729_0, hi729_0⟩ := at_L1 (Kd.S_reads' HO_6.out).2.2 (rd (rd_L1 t724 a1) x24_2) p729 q729
                                  obtain rfl : ad727 = ad729 := (by injection e729)
                                  obtain ⟨ce729, hce729, hMe729, hcc729⟩ := Kd.S_get HO_6.out [] (rd (rd_L1 t724 a1) x24_2) p729 (by first | exact q729 | exact of_decide_eq_true (by first | (with_reducible assumption) | assumption) | (have e_ := (Kd.S_reads' HO_6.out).1; omega))
                                  obtain ⟨ve729_0, rfl, ge729_0⟩ := hMe729
                                  have hv729_0 := hcc729 0 _ rfl
                                  rw [Nat.add_zero, show ((Kd.slice 3 (Kd.int .i64))).sz = 1 from rfl, Nat.mul_one] at hv729_0
                                  replace hv729_0 := Option.some.inj (hv729_0.symm.trans hx729_0)
                                  rw [hv729_0] at ge729_0
                                  have HL729_0 := Aside0.mk (show Kd.R (Kd.int .i64) 3 _ _ _ _ (rd_L1 t724 (rd (rd_L1 t724 a1) x24_2)) from ge729_0)
                                  clear hv729_0 ge729_0
                                  clear hcc729 hce729
                                  have HR729_0 := Aside0.mk hi729_0
                                  have HC729_0 := Aside0.mk hl729_0
                                  clear hi729_0 hl729_0
                                  replace p729 := eq_true p729
                                  replace q729 := eq_true q729
                                  have p730 : 0 ≤ (a1 : Int) := of_decide_eq_true (by first | (with_reducible assumption) | assumption)
                                  have q730 : a1 < (t724.length : Int) := of_decide_eq_true (by first | (with_reducible assumption) | assumption)
                                  obtain ⟨ad730, A730_0, c730_0, e730, hx730_0, hl730_0, hi730_0⟩ := at_L1 (Kd.S_reads' HO_6.out).2.2 a1 p730 q730
                                  obtain rfl : ad727 = ad730 := (by injection e730)
                                  obtain ⟨ce730, hce730, hMe730, hcc730⟩ := Kd.S_get HO_6.out [] a1 p730 (by first | exact q730 | exact of_decide_eq_true (by first | (with_reducible assumption) | assumption) | (have e_ := (Kd.S_reads' HO_6.out).1; omega))
                                  obtain ⟨ve730_0, rfl, ge730_0⟩ := hMe730
                                  have hv730_0 := hcc730 0 _ rfl
                                  rw [Nat.add_zero, show ((Kd.slice 3 (Kd.int .i64))).sz = 1 from rfl, Nat.mul_one] at hv730_0
                                  replace hv730_0 := Option.some.inj (hv730_0.symm.trans hx730_0)
                                  rw [hv730_0] at ge730_0
                                  have HL730_0 := Aside0.mk (show Kd.R (Kd.int .i64) 3 _ _ _ _ (rd_L1 t724 a1) from ge730_0)
                                  clear hv730_0 ge730_0
                                  clear hcc730 hce730
                                  have HR730_0 := Aside0.mk hi730_0
                                  have HC730_0 := Aside0.mk hl730_0
                                  clear hi730_0 hl730_0
                                  replace p730 := eq_true p730
                                  replace q730 := eq_true q730
                                  go_wp2
                                  repeat (go_quiet (fail); try go_wp2)
                                  go_roundg k2
                                  case measure => have := HJ2.out; have := HK2.out; omega
                                  case rel => exact ⟨(wrap64 (x24_2 + 1)), (by first | rfl | (simp; done) | (simp [*]; done)), H', ⟨by have := HJ2.out; have := HK2.out; omega⟩, ⟨by (with_reducible repeat (first | apply Kd.S_alloc | apply Kd.S_drewN | apply Kd.S_drew)); exact HO_6.out⟩, ⟨by (with_reducible repeat (first | refine blk_drewN ?_ _ | refine blk_drew ?_ | refine blk_alloc ?_ _)); exact BK722.out⟩, ⟨by repeat (first | (with_reducible exact HR727_0.out) | (with_reducible refine Kd.C_alloc ?_ _) | (with_reducible refine Kd.C_drewN ?_ _) | (with_reducible refine Kd.C_drew ?_) | exact HR727_0.out)⟩, ⟨by repeat (first | (with_reducible first | exact HB.out | apply below_alloc | apply pw_below_drewN | apply below_drew1 | refine below_set ?_ GE722.out) | exact HB.out)⟩⟩
                              · rw [if_neg c25] at H
                                exact absurd H (by simp)
                            · rw [if_neg c24] at H
                              exact absurd H (by simp)
                          · rw [if_neg c23] at H
                            exact absurd H (by simp)
                        · rw [if_neg c22] at H
                          exact absurd H (by simp)
                    · rw [if_neg c20] at H
                      exact absurd H (by simp)
                  · rw [if_neg c19] at H
                    exact absurd H (by simp)
                · rw [if_neg c18] at H
                  have c18b0 : decide (x24_2 < ((rd_L1 t724 a1).length : Int)) = false := decide_eq_false c18
                  clear c18
                  simp only [Option.some.injEq, Prod.mk.injEq] at H
                  obtain ⟨rfl, rfl⟩ := H
                  go_wp2
                  repeat (go_quiet (fail); try go_wp2)
                  go_ret2
                  exact ⟨by first | rfl | (simp [errW_none, errW_some] <;> rfl) | (simp [*, errW_none, errW_some] <;> rfl), by repeat (first | (with_reducible first | exact HB.out | apply below_alloc | apply pw_below_drewN | apply below_drew1 | refine below_set ?_ GE722.out) | exact HB.out)⟩
          · rw [if_neg c14] at H
            exact absurd H (by simp)
        · rw [if_neg c13] at H
          exact absurd H (by simp)



end
end Go.Proofs.Ytghlbhijkhkgkaa.PA
