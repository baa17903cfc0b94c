/- Printed by the kit's print over surrogate texts, turned by this session -/
import Derived.Test.YtghlbhijkhkgkaaKbOb
namespace Go.Proofs.Ytghlbhijkhkgkaa.PA
open Go.RowKit Go.Proofs.YtghlbhijkhkgkaaW.PrintWords Go.Proofs.YtghlbhijkhkgkaaW.PrintLast Go.Proofs.YtghlbhijkhkgkaaW.PrintMore
attribute [local go_sem] max2_int min2_int max_two min_two max_three min_three max_four min_four   -- for this text's walks alone
set_option linter.unusedVariables false
set_option linter.unusedSimpArgs false

noncomputable section
/-! ### spec_l13Backs: function 79 -/
mutual
def spec_l13Backs.l0 : Nat → List (List Int) → List (List Int) → Int → Int → Int → List (S87) → Option ((List (List Int)))
  | 0, _, _, _, _, _, _ => none
  | k + 1, x3, x4, x12, x13, x746000, x746001 => if x13 < x12 then ((spec_l13Next.f k x746000 x746001 x13).bind fun t749 => (spec_l13Backs.l1 k x3 x4 x13 x12 x13 t749 (t749.length : Int) 0 x746000 x746001)) else (some x4)
def spec_l13Backs.l1 : Nat → List (List Int) → List (List Int) → Int → Int → Int → List Int → Int → Int → Int → List (S87) → Option ((List (List Int)))
  | 0, _, _, _, _, _, _, _, _, _, _ => none
  | k + 1, x3, x4, x5, x12, x13, x18, x19, x20, x746000, x746001 => if x20 < x19 then (if 0 ≤ x20 then (if x20 < (x18.length : Int) then (if 0 ≤ x5 then (if x5 < (x3.length : Int) then ((spec_l1Has.f k (rd_L1 x3 x5) (rd x18 x20)).bind fun t754 => (if t754 = true then (if x4.length < 5864062014805 then (spec_l13Backs.l1 k x3 (x4 ++ [(([x5, rd x18 x20] : List Int))]) x5 x12 x13 x18 x19 (wrap64 (x20 + 1)) x746000 x746001) else (none)) else (spec_l13Backs.l1 k x3 x4 x5 x12 x13 x18 x19 (wrap64 (x20 + 1)) x746000 x746001))) else (none)) else (none)) else (none)) else (none)) else (spec_l13Backs.l0 k x3 x4 x12 (wrap64 (x13 + 1)) x746000 x746001)
end
def spec_l13Backs.f (k : Nat) (a0_0 : Int) (l0_1 : List (S87)) : Option ((List (List Int))) := (spec_l13AllDoms.f k a0_0 l0_1).bind fun t746 => (spec_l13Backs.l0 k t746 ([] : List (List Int)) (l0_1.length : Int) 0 a0_0 l0_1)
set_option maxHeartbeats 8000000 in
set_option maxRecDepth 100000 in
theorem spec_l13Backs.calls (k : Nat) (a0_0 : Int) (A0_1 : Option Addr) (c0_1 : Nat) (l0_1 : List (S87)) (r : List (List Int)) (w : World) (hr0_1 : Kd.C k87 w A0_1 l0_1.length l0_1) (hc0_1 : l0_1.length ≤ c0_1) (h : spec_l13Backs.f k a0_0 l0_1 = some r) :
    Calls Try.prog 79 #[.agg #[.int .i64 a0_0, .slice A0_1 l0_1.length c0_1]] w fun e w' => ∃ v0_ : Value, e = .returned (v0_) ∧ Kd.S (Kd.slice 3 (Kd.int .i64)) 34 w' w.heap.size (fun _ => True) v0_ r ∧ Below w.heap.size w w' := by
  have hu30 := Try.underlying30
  have HR0_1 := Aside0.mk hr0_1
  have HC0_1 := Aside0.mk hc0_1
  clear hr0_1 hc0_1
  have HB := Aside0.mk (Below.refl w.heap.size w)
  have H : ((spec_l13AllDoms.f k a0_0 l0_1).bind fun t746 => (spec_l13Backs.l0 k t746 ([] : List (List Int)) (l0_1.length : Int) 0 a0_0 l0_1)) = some r := h
  clear h
  replace H := Option.bind_eq_some_iff.mp H
  obtain ⟨t746, A20, H⟩ := H
  replace H : (spec_l13Backs.l0 k t746 ([] : List (List Int)) (l0_1.length : Int) 0 a0_0 l0_1) = some r := H
  have A2 := Aside0.mk A20
  clear A20
  have H' := Aside0.mk H
  clear H
  go_enter Try.func79, Try.ntmps79
  go_wp2_with (first | ((with_reducible refine gate_dst (N := 1) rfl ?_); refine box_event ?hg (N := 1) ?hd (cs := #[.int .i64 a0_0, .slice A0_1 l0_1.length c0_1]) (t := 30) ?hr ?_; (case hd => rfl); (case hg => rfl); (case hr => first | (go_simp; done) | (go_simp; rfl)); intro gb745 hg w3 hbox hb; have n0_ := Aside0.mk (below_step (by repeat (first | (with_reducible first | exact HB.out | apply below_alloc | apply pw_below_drewN | apply below_drew1) | exact HB.out)) hb); have n1_ := Aside0.mk (hbox); have n2_ := Aside0.mk ((by rw [hg]; exact (below_size (by repeat (first | (with_reducible first | exact HB.out | apply below_alloc | apply pw_below_drewN | apply below_drew1) | exact HB.out))) : w.heap.size ≤ gb745)); have n3_ := Aside0.mk ((by rw [hg]; exact (below_size (by repeat (first | (with_reducible first | exact HB.out | apply below_alloc | apply pw_below_drewN | apply below_drew1) | exact HB.out))) : w.heap.size ≤ gb745)); clear HB; have HB := n0_; have BK745 := n1_; have GW745 := n2_; have GE745 := n3_; clear n0_ n1_ n2_ n3_; clear hb hbox hg; have hcz4_0 : w3.cell? ⟨gb745, 0, none⟩ = some (.int .i64 a0_0) := (blk_cell BK745.out 0).trans rfl; have hcz4_1 : w3.cell? ⟨gb745, 1, none⟩ = some (.slice A0_1 l0_1.length c0_1) := (blk_cell BK745.out 1).trans rfl; have hfz4_0 := blk_frozen BK745.out 0; have hfz4_1 := blk_frozen BK745.out 1) | ((with_reducible refine gate_callee (f := 77) rfl ?_); refine goesL_ (some 9) rfl rfl Try.func77 (by kernel_rfl) rfl #[.agg #[.int .i64 a0_0, .slice A0_1 l0_1.length c0_1]] rfl (by (try simp only [List.map_toArray, List.map_cons, List.map_nil]); first | done | rfl | (simp only [List.length_drop, List.length_take]; rfl)) ?_; (with_reducible refine (spec_l13AllDoms.calls k a0_0 _ _ l0_1 t746 _ ?side1 ?side2 A2.out).mono ?_); (case side1 => repeat (first | exact (Kd.C_below HR0_1.out HB.out) | (with_reducible refine Kd.C_alloc ?_ _) | (with_reducible refine Kd.C_drewN ?_ _) | (with_reducible refine Kd.C_drew ?_))); (case side2 => exact HC0_1.out); rintro e w5 ⟨v747, rfl, ho0, hb⟩; refine ⟨_, rfl, ?_⟩; have n0_ := Aside0.mk (Kd.S_lower ho0 (below_size (by repeat (first | (with_reducible first | exact HB.out | apply below_alloc | apply pw_below_drewN | apply below_drew1 | refine below_set ?_ GE745.out) | exact HB.out)))); have n1_ := Aside0.mk (blk_below (g := gb745) (o := .cells #[.int .i64 a0_0, .slice A0_1 l0_1.length c0_1] 30 (0, 0)) (by (with_reducible repeat (first | refine blk_drewN ?_ _ | refine blk_drew ?_ | refine blk_alloc ?_ _)); exact BK745.out) hb); have n2_ := Aside0.mk (below_step (by repeat (first | (with_reducible first | exact HB.out | apply below_alloc | apply pw_below_drewN | apply below_drew1 | refine below_set ?_ GE745.out) | exact HB.out)) hb); clear BK745; clear HB; have HO748 := n0_; have BK745 := n1_; have HB := n2_; clear n0_ n1_ n2_; (try clear hb); (try clear hb2); (try clear hk); (try clear hi); (try clear ho0); have hcz6_0 : w5.cell? ⟨gb745, 0, none⟩ = some (.int .i64 a0_0) := (blk_cell BK745.out 0).trans rfl; have hcz6_1 : w5.cell? ⟨gb745, 1, none⟩ = some (.slice A0_1 l0_1.length c0_1) := (blk_cell BK745.out 1).trans rfl; have hfz6_0 := blk_frozen BK745.out 0; have hfz6_1 := blk_frozen BK745.out 1))
  go_loopg [4, 13] k (fun kq v4 v13 w' => ∃ (x4_1 : List (List Int)) (x13_1 : Int), v13 = .int .i64 x13_1 ∧ Aside0 (spec_l13Backs.l0 kq t746 x4_1 (l0_1.length : Int) x13_1 a0_0 l0_1 = some r) ∧ Aside0 (kq ≤ k) ∧ Aside0 (Kd.S (Kd.slice 3 (Kd.int .i64)) 34 w' w.heap.size (fun k_ => some k_ ≠ (v4 : Value).ownBlock) v747 t746) ∧ Aside0 (Kd.S (Kd.slice 3 (Kd.int .i64)) 34 w' w.heap.size (fun k_ => some k_ ≠ (v747 : Value).ownBlock) v4 x4_1) ∧ Aside0 (w'.heap[gb745]? = some (.cells #[.int .i64 a0_0, (.slice A0_1 l0_1.length c0_1)] 30 (0, 0))) ∧ Aside0 (Below w.heap.size w w'))
  case atStart => exact ⟨(([] : List (List Int))), (0), (by first | rfl | (simp; done) | (simp [*]; done)), H', ⟨Nat.le_refl _⟩, ⟨by (with_reducible repeat (first | apply Kd.S_alloc | apply Kd.S_drewN | apply Kd.S_drew)); exact Kd.S_mono HO748.out (fun _ hk => (by simp [Value.ownBlock]))⟩, ⟨by first | exact Kd.S_nil _ _ _ _ _ | exact Kd.N_nil _ _ _ _ _ | exact Kd.V_nil _ _ _ _ _ | exact Kd.Q_nil _ _ _ _ _ | exact Kd.R_nil _ _ _ _ _⟩, ⟨by (with_reducible repeat (first | refine blk_drewN ?_ _ | refine blk_drew ?_ | refine blk_alloc ?_ _)); exact BK745.out⟩, ⟨by repeat (first | (with_reducible first | exact HB.out | apply below_alloc | apply pw_below_drewN | apply below_drew1 | refine below_set ?_ GE745.out) | exact HB.out)⟩⟩
  case round =>
    clear H'
    try clear p2
    try clear hcz4_0
    try clear hcz4_1
    try clear hcz6_0
    try clear hcz6_1
    try clear hfz4_0
    try clear hfz4_1
    try clear hfz6_0
    try clear hfz6_1
    obtain ⟨x4_1, x13_1, rfl, HA, HK1, HO_3, HO_4, BK745, HB⟩ := hrel
    cases gk with
    | zero => exact absurd HA.out (by simp [spec_l13Backs.l0])
    | succ k1 =>
      have H := HA.out
      clear HA
      simp only [spec_l13Backs.l0] at H
      by_cases c7 : x13_1 < (l0_1.length : Int)
      · rw [if_pos c7] at H
        have c7b0 : decide (x13_1 < (l0_1.length : Int)) = true := decide_eq_true c7
        clear c7
        replace H := Option.bind_eq_some_iff.mp H
        obtain ⟨t749, A80, H⟩ := H
        replace H : (spec_l13Backs.l1 k1 t746 x4_1 x13_1 (l0_1.length : Int) x13_1 t749 (t749.length : Int) 0 a0_0 l0_1) = some r := H
        have A8 := Aside0.mk A80
        clear A80
        have H' := Aside0.mk H
        clear H
        have hcz9_0 : wr.cell? ⟨gb745, 0, none⟩ = some (.int .i64 a0_0) := (blk_cell BK745.out 0).trans rfl
        have hcz9_1 : wr.cell? ⟨gb745, 1, none⟩ = some (.slice A0_1 l0_1.length c0_1) := (blk_cell BK745.out 1).trans rfl
        have hfz9_0 := blk_frozen BK745.out 0
        have hfz9_1 := blk_frozen BK745.out 1
        go_wp2_with (first | ((with_reducible refine gate_callee (f := 62) rfl ?_); refine goesL_ (some 18) rfl rfl Try.func62 (by kernel_rfl) rfl #[.agg #[.int .i64 a0_0, .slice A0_1 l0_1.length c0_1], .int .i64 x13_1] rfl (by (try simp only [List.map_toArray, List.map_cons, List.map_nil]); first | done | rfl | (simp only [List.length_drop, List.length_take]; rfl)) ?_; (with_reducible refine (spec_l13Next.calls k1 a0_0 _ _ l0_1 x13_1 t749 _ ?side1 ?side2 A8.out).mono ?_); (case side1 => repeat (first | exact (Kd.C_below HR0_1.out HB.out) | (with_reducible refine Kd.C_alloc ?_ _) | (with_reducible refine Kd.C_drewN ?_ _) | (with_reducible refine Kd.C_drew ?_))); (case side2 => exact HC0_1.out); rintro e w10 ⟨v750, rfl, ho0, hb⟩; refine ⟨_, rfl, ?_⟩; have n0_ := Aside0.mk (Kd.S_elder' (by (with_reducible repeat (first | apply Kd.S_alloc | apply Kd.S_drewN | apply Kd.S_drew)); exact HO_3.out) (Kd.R_base ho0) hb); have n1_ := Aside0.mk (Kd.S_elder' (by (with_reducible repeat (first | apply Kd.S_alloc | apply Kd.S_drewN | apply Kd.S_drew)); exact HO_4.out) (Kd.R_base ho0) hb); have n2_ := Aside0.mk (Kd.R_lower ho0 (below_size (by repeat (first | (with_reducible first | exact HB.out | apply below_alloc | apply pw_below_drewN | apply below_drew1 | refine below_set ?_ GE745.out) | exact HB.out)))); have n3_ := Aside0.mk (blk_below (g := gb745) (o := .cells #[.int .i64 a0_0, .slice A0_1 l0_1.length c0_1] 30 (0, 0)) (by (with_reducible repeat (first | refine blk_drewN ?_ _ | refine blk_drew ?_ | refine blk_alloc ?_ _)); exact BK745.out) hb); have n4_ := Aside0.mk (below_step (by repeat (first | (with_reducible first | exact HB.out | apply below_alloc | apply pw_below_drewN | apply below_drew1 | refine below_set ?_ GE745.out) | exact HB.out)) hb); clear HO_3; clear HO_4; clear BK745; clear HB; have HO_3 := n0_; have HO_4 := n1_; have HO751 := n2_; have BK745 := n3_; have HB := n4_; clear n0_ n1_ n2_ n3_ n4_; (try clear hb); (try clear hb2); (try clear hk); (try clear hi); (try clear ho0); obtain ⟨Ao11, co11, eo11⟩ := Kd.R_slice HO751.out; subst eo11))
        go_loopg [4, 20] k1 (fun kq v4 v20 w' => ∃ (x4_2 : List (List Int)) (x20_2 : Int), v20 = .int .i64 x20_2 ∧ Aside0 (spec_l13Backs.l1 kq t746 x4_2 x13_1 (l0_1.length : Int) x13_1 t749 (t749.length : Int) x20_2 a0_0 l0_1 = some r) ∧ Aside0 (kq ≤ k1) ∧ Aside0 (Kd.S (Kd.slice 3 (Kd.int .i64)) 34 w' w.heap.size (fun k_ => some k_ ≠ (v4 : Value).ownBlock ∧ some k_ ≠ ((.slice Ao11 t749.length co11) : Value).ownBlock) v747 t746) ∧ Aside0 (Kd.S (Kd.slice 3 (Kd.int .i64)) 34 w' w.heap.size (fun k_ => some k_ ≠ (v747 : Value).ownBlock ∧ some k_ ≠ ((.slice Ao11 t749.length co11) : Value).ownBlock) v4 x4_2) ∧ Aside0 (Kd.R (Kd.int .i64) 3 w' w.heap.size (fun _ => True) (.slice Ao11 t749.length co11) t749) ∧ Aside0 (w'.heap[gb745]? = some (.cells #[.int .i64 a0_0, (.slice A0_1 l0_1.length c0_1)] 30 (0, 0))) ∧ Aside0 (Below w.heap.size w w'))
        case atStart => exact ⟨(x4_1), (0), (by first | rfl | (simp; done) | (simp [*]; done)), H', ⟨Nat.le_refl _⟩, ⟨by (with_reducible repeat (first | apply Kd.S_alloc | apply Kd.S_drewN | apply Kd.S_drew)); exact HO_3.out⟩, ⟨by (with_reducible repeat (first | apply Kd.S_alloc | apply Kd.S_drewN | apply Kd.S_drew)); exact HO_4.out⟩, ⟨by (with_reducible repeat (first | apply Kd.R_alloc | apply Kd.R_drewN | apply Kd.R_drew)); exact HO751.out⟩, ⟨by (with_reducible repeat (first | refine blk_drewN ?_ _ | refine blk_drew ?_ | refine blk_alloc ?_ _)); exact BK745.out⟩, ⟨by repeat (first | (with_reducible first | exact HB.out | apply below_alloc | apply pw_below_drewN | apply below_drew1 | refine below_set ?_ GE745.out) | exact HB.out)⟩⟩
        case round =>
          clear H'
          try clear p2
          try clear c6
          try clear c7
          try clear c7b0
          try clear hcz4_0
          try clear hcz4_1
          try clear hcz6_0
          try clear hcz6_1
          try clear hcz9_0
          try clear hcz9_1
          try clear hfz4_0
          try clear hfz4_1
          try clear hfz6_0
          try clear hfz6_1
          try clear hfz9_0
          try clear hfz9_1
          try clear p2
          obtain ⟨x4_2, x20_2, rfl, HA, HK2, HO_3, HO_4, HO_18, BK745, HB⟩ := hrel
          cases gk with
          | zero => exact absurd HA.out (by simp [spec_l13Backs.l1])
          | succ k2 =>
            have H := HA.out
            clear HA
            simp only [spec_l13Backs.l1] at H
            by_cases c12 : x20_2 < (t749.length : Int)
            · rw [if_pos c12] at H
              have c12b0 : decide (x20_2 < (t749.length : Int)) = true := decide_eq_true c12
              clear c12
              by_cases c13 : 0 ≤ x20_2
              · rw [if_pos c13] at H
                have c13b0 : decide (0 ≤ x20_2) = true := decide_eq_true c13
                clear c13
                by_cases c14 : x20_2 < (t749.length : Int)
                · rw [if_pos c14] at H
                  have c14b0 : decide (x20_2 < (t749.length : Int)) = true := decide_eq_true c14
                  clear c14
                  by_cases c15 : 0 ≤ x13_1
                  · rw [if_pos c15] at H
                    have c15b0 : decide (0 ≤ x13_1) = true := decide_eq_true c15
                    clear c15
                    by_cases c16 : x13_1 < (t746.length : Int)
                    · rw [if_pos c16] at H
                      have c16b0 : decide (x13_1 < (t746.length : Int)) = true := decide_eq_true c16
                      clear c16
                      replace H := Option.bind_eq_some_iff.mp H
                      obtain ⟨t754, A170, H⟩ := H
                      replace H : (if t754 = true then (if x4_2.length < 5864062014805 then (spec_l13Backs.l1 k2 t746 (x4_2 ++ [(([x13_1, rd t749 x20_2] : List Int))]) x13_1 (l0_1.length : Int) x13_1 t749 (t749.length : Int) (wrap64 (x20_2 + 1)) a0_0 l0_1) else (none)) else (spec_l13Backs.l1 k2 t746 x4_2 x13_1 (l0_1.length : Int) x13_1 t749 (t749.length : Int) (wrap64 (x20_2 + 1)) a0_0 l0_1)) = some r := H
                      have A17 := Aside0.mk A170
                      clear A170
                      by_cases c18 : t754 = true
                      · subst c18
                        have H1 : (if x4_2.length < 5864062014805 then (spec_l13Backs.l1 k2 t746 (x4_2 ++ [(([x13_1, rd t749 x20_2] : List Int))]) x13_1 (l0_1.length : Int) x13_1 t749 (t749.length : Int) (wrap64 (x20_2 + 1)) a0_0 l0_1) else (none)) = some r := by rw [if_pos rfl] at H; exact H
                        clear H
                        have H := H1
                        clear H1
                        obtain ⟨y755, hy755⟩ : ∃ y_ : List Int, y_ = (([x13_1, rd t749 x20_2] : List Int)) := ⟨_, rfl⟩
                        replace H : (if x4_2.length < 5864062014805 then (spec_l13Backs.l1 k2 t746 (x4_2 ++ [y755]) x13_1 (l0_1.length : Int) x13_1 t749 (t749.length : Int) (wrap64 (x20_2 + 1)) a0_0 l0_1) else (none)) = some r := by first | (rw [hy755]; with_reducible exact H) | (have H2_ := (Option.bind_some _ _).symm.trans H; rw [hy755]; with_reducible exact H2_) | (have H2_ := (Option.bind_some _ _).symm.trans H; with_reducible exact H2_) | with_reducible exact H | (rw [hy755]; exact H) | exact H
                        have Ny755 := Aside0.mk hy755
                        clear hy755
                        by_cases c19 : x4_2.length < 5864062014805
                        · rw [if_pos c19] at H
                          have LMc19 := Aside0.mk c19
                          clear c19
                          obtain ⟨y758, hy758⟩ : ∃ y_ : List (List Int), y_ = (x4_2 ++ [y755]) := ⟨_, rfl⟩
                          replace H : (spec_l13Backs.l1 k2 t746 y758 x13_1 (l0_1.length : Int) x13_1 t749 (t749.length : Int) (wrap64 (x20_2 + 1)) a0_0 l0_1) = some r := by first | (rw [hy758]; with_reducible exact H) | (have H2_ := (Option.bind_some _ _).symm.trans H; rw [hy758]; with_reducible exact H2_) | (have H2_ := (Option.bind_some _ _).symm.trans H; with_reducible exact H2_) | with_reducible exact H | (rw [hy758]; exact H) | exact H
                          have Ny758 := Aside0.mk hy758
                          clear hy758
                          have H' := Aside0.mk H
                          clear H
                          have p752 : 0 ≤ (x20_2 : Int) := of_decide_eq_true (by first | (with_reducible assumption) | assumption)
                          have q752 : x20_2 < (t749.length : Int) := of_decide_eq_true (by first | (with_reducible assumption) | assumption)
                          obtain ⟨ad752, e752, hx752_0⟩ := Kd.at_int (Kd.R_reads' HO_18.out).2.2 x20_2 p752 q752
                          cases e752
                          replace p752 := eq_true p752
                          replace q752 := eq_true q752
                          obtain ⟨Ao20, co20, eo20⟩ := Kd.S_slice HO_3.out
                          subst eo20
                          have p753 : 0 ≤ (x13_1 : Int) := of_decide_eq_true (by first | (with_reducible assumption) | assumption)
                          have q753 : x13_1 < (t746.length : Int) := of_decide_eq_true (by first | (with_reducible assumption) | assumption)
                          obtain ⟨ad753, A753_0, c753_0, e753, hx753_0, hl753_0, hi753_0⟩ := at_L1 (Kd.S_reads' HO_3.out).2.2 x13_1 p753 q753
                          cases e753
                          obtain ⟨ce753, hce753, hMe753, hcc753⟩ := Kd.S_get HO_3.out [] x13_1 p753 (by first | exact q753 | exact of_decide_eq_true (by first | (with_reducible assumption) | assumption) | (have e_ := (Kd.S_reads' HO_3.out).1; omega))
                          obtain ⟨ve753_0, rfl, ge753_0⟩ := hMe753
                          have hv753_0 := hcc753 0 _ rfl
                          rw [Nat.add_zero, show ((Kd.slice 3 (Kd.int .i64))).sz = 1 from rfl, Nat.mul_one] at hv753_0
                          replace hv753_0 := Option.some.inj (hv753_0.symm.trans hx753_0)
                          rw [hv753_0] at ge753_0
                          have HL753_0 := Aside0.mk (show Kd.R (Kd.int .i64) 3 _ _ _ _ (rd_L1 t746 x13_1) from ge753_0)
                          clear hv753_0 ge753_0
                          clear hcc753 hce753
                          have HR753_0 := Aside0.mk hi753_0
                          have HC753_0 := Aside0.mk hl753_0
                          clear hi753_0 hl753_0
                          replace p753 := eq_true p753
                          replace q753 := eq_true q753
                          go_wp2_with (first | ((with_reducible refine gate_callee (f := 83) rfl ?_); refine goesL_ (some 29) rfl rfl Try.func83 (by kernel_rfl) rfl #[.slice A753_0 (rd_L1 t746 x13_1).length c753_0, .int .i64 (rd t749 x20_2)] rfl (by (try simp only [List.map_toArray, List.map_cons, List.map_nil]); first | done | rfl | (simp only [List.length_drop, List.length_take]; rfl)) ?_; (with_reducible refine (spec_l1Has.calls k2 _ _ (rd_L1 t746 x13_1) (rd t749 x20_2) true _ ?side1 ?side2 A17.out).mono ?_); (case side1 => repeat (first | exact (by repeat (first | (with_reducible exact HR753_0.out) | (with_reducible refine Kd.C_alloc ?_ _) | (with_reducible refine Kd.C_drewN ?_ _) | (with_reducible refine Kd.C_drew ?_) | exact HR753_0.out)) | (with_reducible refine Kd.C_alloc ?_ _) | (with_reducible refine Kd.C_drewN ?_ _) | (with_reducible refine Kd.C_drew ?_))); (case side2 => exact HC753_0.out); rintro e w' ⟨rfl, ⟨nd, rfl⟩⟩; refine ⟨_, rfl, ?_⟩) | ((with_reducible refine gate_dst (N := 33) rfl ?_); refine Kd.R_lit (Kd.int .i64) _ 3 ?hg (N := 33) ?hd (xs := ([x13_1, rd t749 x20_2] : List Int)) (inner := [.int .i64 x13_1, .int .i64 (rd t749 x20_2)]) (ok := fun _ => True) (okp := fun _ => True) ?hr ?hp (fun _ hk => hk) trivial (Below.refl _ _) (Nat.le_refl _) (by simp) ?_; (case hd => rfl); (case hg => rfl); (case hr => first | (go_simp; done) | (go_simp; rfl)); (case hp => exact (Reps.one (show Kd.M (Kd.int .i64) _ _ _ x13_1 [.int .i64 x13_1] from rfl) (Reps.one (show Kd.M (Kd.int .i64) _ _ _ (rd t749 x20_2) [.int .i64 (rd t749 x20_2)] from rfl) (Reps.none _ _)))); intro v756 w21 ho22 hb hg_ hnew_; clear hg_ hnew_; (first | rw [← Ny755.out] at ho22 | (simp only [Int.reduceToNat] at ho22; rw [← Ny755.out] at ho22)); have n0_ := Aside0.mk (Kd.S_elder' (by (with_reducible repeat (first | apply Kd.S_alloc | apply Kd.S_drewN | apply Kd.S_drew)); exact HO_3.out) (Kd.R_base ho22) hb); have n1_ := Aside0.mk (Kd.S_elder' (by (with_reducible repeat (first | apply Kd.S_alloc | apply Kd.S_drewN | apply Kd.S_drew)); exact HO_4.out) (Kd.R_base ho22) hb); have n2_ := Aside0.mk (Kd.R_elder' (by (with_reducible repeat (first | apply Kd.R_alloc | apply Kd.R_drewN | apply Kd.R_drew)); exact HO_18.out) (Kd.R_base ho22) hb); have n3_ := Aside0.mk (Kd.R_elder' (by (with_reducible repeat (first | apply Kd.R_alloc | apply Kd.R_drewN | apply Kd.R_drew)); exact HL753_0.out) (Kd.R_base ho22) hb); have n4_ := Aside0.mk (Kd.R_lower (Kd.R_new' (Kd.R_new' ho22 (Kd.R_lt (by (with_reducible repeat (first | apply Kd.R_alloc | apply Kd.R_drewN | apply Kd.R_drew)); exact HO_18.out))) (Kd.R_lt (by (with_reducible repeat (first | apply Kd.R_alloc | apply Kd.R_drewN | apply Kd.R_drew)); exact HL753_0.out))) (below_size (by repeat (first | (with_reducible first | exact HB.out | apply below_alloc | apply pw_below_drewN | apply below_drew1 | refine below_set ?_ GE745.out) | exact HB.out)))); have n5_ := Aside0.mk (blk_below (g := gb745) (o := .cells #[.int .i64 a0_0, .slice A0_1 l0_1.length c0_1] 30 (0, 0)) (by (with_reducible repeat (first | refine blk_drewN ?_ _ | refine blk_drew ?_ | refine blk_alloc ?_ _)); exact BK745.out) hb); have n6_ := Aside0.mk (Kd.C_below (by repeat (first | (with_reducible exact HR753_0.out) | (with_reducible refine Kd.C_alloc ?_ _) | (with_reducible refine Kd.C_drewN ?_ _) | (with_reducible refine Kd.C_drew ?_) | exact HR753_0.out)) hb); have n7_ := Aside0.mk (below_step (by repeat (first | (with_reducible first | exact HB.out | apply below_alloc | apply pw_below_drewN | apply below_drew1 | refine below_set ?_ GE745.out) | exact HB.out)) hb); clear HO_3; clear HO_4; clear HO_18; clear HL753_0; clear BK745; clear HR753_0; clear HB; have HO_3 := n0_; have HO_4 := n1_; have HO_18 := n2_; have HL753_0 := n3_; have HO757 := n4_; have BK745 := n5_; have HR753_0 := n6_; have HB := n7_; clear n0_ n1_ n2_ n3_ n4_ n5_ n6_ n7_; clear hb ho22; obtain ⟨Ao24, co24, eo24⟩ := Kd.R_slice HO757.out; subst eo24) | ((with_reducible refine gate_builtin (b := .append) (xs := #[.tmp 30, .tmp 34]) rfl ?_); at_builtin; refine Kd.S_append (Kd.slice 3 (Kd.int .i64)) (w0 := w) w.heap.size rfl (.tmp 30) (.tmp 34) 42 34 (.slice none 0 0) 24 rfl Try.underlying42 info34 rfl (by decide) (by omega) u4 x4_2 y755 [.slice Ao24 y755.length co24] (fun k_ => some k_ ≠ (.slice (some ad753) t746.length co20 : Value).ownBlock ∧ some k_ ≠ (.slice (some ad752) t749.length co11 : Value).ownBlock) (fun k_ => some k_ = (.slice Ao24 y755.length co24 : Value).ownBlock) rfl rfl ?aP (fun k_ hk_ => ((Kd.R_mono (ok' := fun k_ => ((fun k_ => some k_ ≠ (.slice (some ad753) t746.length co20 : Value).ownBlock ∧ some k_ ≠ (.slice (some ad752) t749.length co11 : Value).ownBlock)) k_ ∧ some k_ ≠ (u4 : Value).ownBlock) (Kd.R_apart' (Kd.R_apart' (HO757.out) (Kd.S_typed HO_3.out) (by decide)) (Kd.S_typed HO_4.out) (by decide)) (fun k_ hk => ⟨⟨hk.1.2, hk.1.1.1.2⟩, hk.2⟩))).1 k_ hk_.symm) ?aF ?aO ?aB ?aS ?aL ?_; (case aP => exact Kd.M_row (Kd.R_mono (Kd.R_tight rfl (Kd.R_mono (ok' := fun k_ => ((fun k_ => some k_ ≠ (.slice (some ad753) t746.length co20 : Value).ownBlock ∧ some k_ ≠ (.slice (some ad752) t749.length co11 : Value).ownBlock)) k_ ∧ some k_ ≠ (u4 : Value).ownBlock) (Kd.R_apart' (Kd.R_apart' (HO757.out) (Kd.S_typed HO_3.out) (by decide)) (Kd.S_typed HO_4.out) (by decide)) (fun k_ hk => ⟨⟨hk.1.2, hk.1.1.1.2⟩, hk.2⟩))) (fun _ h_ => h_))); (case aB => exact (by repeat (first | (with_reducible first | exact HB.out | apply below_alloc | apply pw_below_drewN | apply below_drew1 | refine below_set ?_ GE745.out) | exact HB.out))); (case aF => exact (fun k_ hk => ⟨Kd.fresh' (Kd.S_lt (by (with_reducible repeat (first | apply Kd.S_alloc | apply Kd.S_drewN | apply Kd.S_drew)); exact HO_3.out)) k_ hk, Kd.fresh' (Kd.R_lt (by (with_reducible repeat (first | apply Kd.R_alloc | apply Kd.R_drewN | apply Kd.R_drew)); exact HO_18.out)) k_ hk⟩)); (case aO => exact (by (with_reducible repeat (first | apply Kd.S_alloc | apply Kd.S_drewN | apply Kd.S_drew)); exact Kd.S_mono HO_4.out (fun k_ hk => ⟨⟨hk.1.1, hk.1.2⟩, fun e_ => hk.2 e_⟩))); (case aS => exact (below_size (by repeat (first | (with_reducible first | exact HB.out | apply below_alloc | apply pw_below_drewN | apply below_drew1 | refine below_set ?_ GE745.out) | exact HB.out)))); (case aL => have := LMc19.out; omega); intro v759 w23 ho hb hg hat; rw [← Ny758.out] at ho; have n0_ := Aside0.mk (Kd.S_after (ok := (fun k_ => some k_ ≠ (.slice (some ad752) t749.length co11 : Value).ownBlock ∧ some k_ ≠ (.slice Ao24 y755.length co24 : Value).ownBlock)) (by (with_reducible repeat (first | apply Kd.S_alloc | apply Kd.S_drewN | apply Kd.S_drew)); exact Kd.S_mono HO_3.out (fun _ hk => ⟨⟨hk.1.2, hk.2⟩, hk.1.1⟩)) hg hat); have n1_ := Aside0.mk (Kd.R_over' (by (with_reducible repeat (first | apply Kd.R_alloc | apply Kd.R_drewN | apply Kd.R_drew)); exact HO_18.out) (Kd.S_typed (by (with_reducible repeat (first | apply Kd.S_alloc | apply Kd.S_drewN | apply Kd.S_drew)); exact HO_4.out)) (by decide) hg); have n2_ := Aside0.mk (blk_grown (g := gb745) (o := .cells #[.int .i64 a0_0, .slice A0_1 l0_1.length c0_1] 30 (0, 0)) (by (with_reducible repeat (first | refine blk_drewN ?_ _ | refine blk_drew ?_ | refine blk_alloc ?_ _)); exact BK745.out) hg (Kd.S_ne HO_4.out BK745.out (by decide))); have n3_ := Aside0.mk (Kd.R_after (ok := (fun k_ => some k_ ≠ (.slice (some ad753) t746.length co20 : Value).ownBlock ∧ some k_ ≠ (.slice (some ad752) t749.length co11 : Value).ownBlock ∧ some k_ ≠ (.slice Ao24 y755.length co24 : Value).ownBlock)) (by (with_reducible repeat (first | apply Kd.R_alloc | apply Kd.R_drewN | apply Kd.R_drew)); exact Kd.R_mono HL753_0.out (fun _ hk => ⟨⟨hk.1.2, ⟨hk.1.1.2, hk.2⟩⟩, hk.1.1.1⟩)) hg hat); have n4_ := Aside0.mk (hb); have n5_ := Aside0.mk (ho); clear HO_3; clear HO_18; clear BK745; clear HL753_0; clear HB; clear HO_4; clear HO757; have HO_3 := n0_; have HO_18 := n1_; have BK745 := n2_; have HL753_0 := n3_; have HB := n4_; have HO760 := n5_; clear n0_ n1_ n2_ n3_ n4_ n5_; clear ho hb hg hat))
                          go_roundg k2
                          case measure => have := HK1.out; have := HK2.out; omega
                          case rel => exact ⟨(y758), (wrap64 (x20_2 + 1)), (by first | rfl | (simp; done) | (simp [*]; done)), H', ⟨by have := HK1.out; have := HK2.out; omega⟩, ⟨by (with_reducible repeat (first | apply Kd.S_alloc | apply Kd.S_drewN | apply Kd.S_drew)); exact Kd.S_mono HO_3.out (fun _ hk => ⟨hk.2, hk.1.1⟩)⟩, ⟨by (with_reducible repeat (first | apply Kd.S_alloc | apply Kd.S_drewN | apply Kd.S_drew)); exact HO760.out⟩, ⟨by (with_reducible repeat (first | apply Kd.R_alloc | apply Kd.R_drewN | apply Kd.R_drew)); exact Kd.R_mono HO_18.out (fun _ hk => trivial)⟩, ⟨by (with_reducible repeat (first | refine blk_drewN ?_ _ | refine blk_drew ?_ | refine blk_alloc ?_ _)); exact BK745.out⟩, ⟨by repeat (first | (with_reducible first | exact HB.out | apply below_alloc | apply pw_below_drewN | apply below_drew1 | refine below_set ?_ GE745.out) | exact HB.out)⟩⟩
                        · rw [if_neg c19] at H
                          exact absurd H (by simp)
                      · replace c18 := Bool.eq_false_iff.mpr c18
                        subst c18
                        have H1 : (spec_l13Backs.l1 k2 t746 x4_2 x13_1 (l0_1.length : Int) x13_1 t749 (t749.length : Int) (wrap64 (x20_2 + 1)) a0_0 l0_1) = some r := by rw [if_neg (show ¬ (false = true) by decide)] at H; exact H
                        clear H
                        have H := H1
                        clear H1
                        have H' := Aside0.mk H
                        clear H
                        have p752 : 0 ≤ (x20_2 : Int) := of_decide_eq_true (by first | (with_reducible assumption) | assumption)
                        have q752 : x20_2 < (t749.length : Int) := of_decide_eq_true (by first | (with_reducible assumption) | assumption)
                        obtain ⟨ad752, e752, hx752_0⟩ := Kd.at_int (Kd.R_reads' HO_18.out).2.2 x20_2 p752 q752
                        cases e752
                        replace p752 := eq_true p752
                        replace q752 := eq_true q752
                        obtain ⟨Ao25, co25, eo25⟩ := Kd.S_slice HO_3.out
                        subst eo25
                        have p753 : 0 ≤ (x13_1 : Int) := of_decide_eq_true (by first | (with_reducible assumption) | assumption)
                        have q753 : x13_1 < (t746.length : Int) := of_decide_eq_true (by first | (with_reducible assumption) | assumption)
                        obtain ⟨ad753, A753_0, c753_0, e753, hx753_0, hl753_0, hi753_0⟩ := at_L1 (Kd.S_reads' HO_3.out).2.2 x13_1 p753 q753
                        cases e753
                        obtain ⟨ce753, hce753, hMe753, hcc753⟩ := Kd.S_get HO_3.out [] x13_1 p753 (by first | exact q753 | exact of_decide_eq_true (by first | (with_reducible assumption) | assumption) | (have e_ := (Kd.S_reads' HO_3.out).1; omega))
                        obtain ⟨ve753_0, rfl, ge753_0⟩ := hMe753
                        have hv753_0 := hcc753 0 _ rfl
                        rw [Nat.add_zero, show ((Kd.slice 3 (Kd.int .i64))).sz = 1 from rfl, Nat.mul_one] at hv753_0
                        replace hv753_0 := Option.some.inj (hv753_0.symm.trans hx753_0)
                        rw [hv753_0] at ge753_0
                        have HL753_0 := Aside0.mk (show Kd.R (Kd.int .i64) 3 _ _ _ _ (rd_L1 t746 x13_1) from ge753_0)
                        clear hv753_0 ge753_0
                        clear hcc753 hce753
                        have HR753_0 := Aside0.mk hi753_0
                        have HC753_0 := Aside0.mk hl753_0
                        clear hi753_0 hl753_0
                        replace p753 := eq_true p753
                        replace q753 := eq_true q753
                        go_wp2_with (first | ((with_reducible refine gate_callee (f := 83) rfl ?_); refine goesL_ (some 29) rfl rfl Try.func83 (by kernel_rfl) rfl #[.slice A753_0 (rd_L1 t746 x13_1).length c753_0, .int .i64 (rd t749 x20_2)] rfl (by (try simp only [List.map_toArray, List.map_cons, List.map_nil]); first | done | rfl | (simp only [List.length_drop, List.length_take]; rfl)) ?_; (with_reducible refine (spec_l1Has.calls k2 _ _ (rd_L1 t746 x13_1) (rd t749 x20_2) false _ ?side1 ?side2 A17.out).mono ?_); (case side1 => repeat (first | exact (by repeat (first | (with_reducible exact HR753_0.out) | (with_reducible refine Kd.C_alloc ?_ _) | (with_reducible refine Kd.C_drewN ?_ _) | (with_reducible refine Kd.C_drew ?_) | exact HR753_0.out)) | (with_reducible refine Kd.C_alloc ?_ _) | (with_reducible refine Kd.C_drewN ?_ _) | (with_reducible refine Kd.C_drew ?_))); (case side2 => exact HC753_0.out); rintro e w' ⟨rfl, ⟨nd, rfl⟩⟩; refine ⟨_, rfl, ?_⟩))
                        go_roundg k2
                        case measure => have := HK1.out; have := HK2.out; omega
                        case rel => exact ⟨(x4_2), (wrap64 (x20_2 + 1)), (by first | rfl | (simp; done) | (simp [*]; done)), H', ⟨by have := HK1.out; have := HK2.out; omega⟩, ⟨by (with_reducible repeat (first | apply Kd.S_alloc | apply Kd.S_drewN | apply Kd.S_drew)); exact HO_3.out⟩, ⟨by (with_reducible repeat (first | apply Kd.S_alloc | apply Kd.S_drewN | apply Kd.S_drew)); exact HO_4.out⟩, ⟨by (with_reducible repeat (first | apply Kd.R_alloc | apply Kd.R_drewN | apply Kd.R_drew)); exact HO_18.out⟩, ⟨by (with_reducible repeat (first | refine blk_drewN ?_ _ | refine blk_drew ?_ | refine blk_alloc ?_ _)); exact BK745.out⟩, ⟨by repeat (first | (with_reducible first | exact HB.out | apply below_alloc | apply pw_below_drewN | apply below_drew1 | refine below_set ?_ GE745.out) | exact HB.out)⟩⟩
                    · rw [if_neg c16] at H
                      exact absurd H (by simp)
                  · rw [if_neg c15] at H
                    exact absurd H (by simp)
                · rw [if_neg c14] at H
                  exact absurd H (by simp)
              · rw [if_neg c13] at H
                exact absurd H (by simp)
            · rw [if_neg c12] at H
              have c12b0 : decide (x20_2 < (t749.length : Int)) = false := decide_eq_false c12
              clear c12
              have H' := Aside0.mk H
              clear H
              go_wp2
              go_roundg k2
              case measure => have := HK1.out; have := HK2.out; omega
              case rel => exact ⟨(x4_2), (wrap64 (x13_1 + 1)), (by first | rfl | (simp; done) | (simp [*]; done)), H', ⟨by have := HK1.out; have := HK2.out; omega⟩, ⟨by (with_reducible repeat (first | apply Kd.S_alloc | apply Kd.S_drewN | apply Kd.S_drew)); exact Kd.S_mono HO_3.out (fun _ hk => hk.1)⟩, ⟨by (with_reducible repeat (first | apply Kd.S_alloc | apply Kd.S_drewN | apply Kd.S_drew)); exact Kd.S_mono HO_4.out (fun _ hk => hk.1)⟩, ⟨by (with_reducible repeat (first | refine blk_drewN ?_ _ | refine blk_drew ?_ | refine blk_alloc ?_ _)); exact BK745.out⟩, ⟨by repeat (first | (with_reducible first | exact HB.out | apply below_alloc | apply pw_below_drewN | apply below_drew1 | refine below_set ?_ GE745.out) | exact HB.out)⟩⟩
      · rw [if_neg c7] at H
        have c7b0 : decide (x13_1 < (l0_1.length : Int)) = false := decide_eq_false c7
        clear c7
        obtain rfl := Option.some.inj H
        go_wp2
        go_ret
        exact ⟨_, by first | rfl | (simp [errW_none, errW_some] <;> rfl) | (simp [*, errW_none, errW_some] <;> rfl), by (with_reducible repeat (first | apply Kd.S_alloc | apply Kd.S_drewN | apply Kd.S_drew)); exact Kd.S_mono HO_4.out (fun _ hk => trivial), by repeat (first | (with_reducible first | exact HB.out | apply below_alloc | apply pw_below_drewN | apply below_drew1 | refine below_set ?_ GE745.out) | exact HB.out)⟩

/-! ### spec_BackEdges: function 42 -/
end
end Go.Proofs.Ytghlbhijkhkgkaa.PA
