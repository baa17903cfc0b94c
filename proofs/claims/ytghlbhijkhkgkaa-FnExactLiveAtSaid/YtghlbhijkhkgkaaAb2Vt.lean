/- The flow seat: the reference's l12Ends by hand. -/
import Derived.Test.YtghlbhijkhkgkaaAb2V0
namespace Go.Proofs.Ytghlbhijkhkgkaa.PA
open Go.RowKit Go.Proofs.YtghlbhijkhkgkaaW.PrintWords Go.Proofs.YtghlbhijkhkgkaaW.PrintLast Go.Proofs.YtghlbhijkhkgkaaW.PrintMore
set_option linter.unusedVariables false
def endsB (tot : Int) (bs : List S87) (e v : Int) (l4 : List S109) : Bool := endB tot e v l4.length && !(jumpsB tot bs l4)
theorem vals1 (tot v : Int) : valsB tot [v] = within v 0 (tot - 1) := by simp [valsB]
/-- The loop over the jumps, behind the test of the end. -/
theorem jumps_hit {tot : Int} {bs : List S87} {l4 : List S109} (x : Int) (h0 : 0 ≤ x) (h1 : x < l4.length) (h : jumpB tot bs (rd_T109 l4 x).f0 (rd_T109 l4 x).f1 = false) : jumpsB tot bs l4 = true :=
  all_hit z109 x h0 h1 (by show (!(jumpB tot bs (rd_T109 l4 x).f0 (rd_T109 l4 x).f1)) = true; rw [h]; rfl)
set_option maxHeartbeats 8000000 in
set_option maxRecDepth 100000 in
theorem l12Ends_any {A A1 A4 : Option Addr} {c c1 c4 : Nat} (p f0 e v tot : Int) (bs : List S87) (n1 : Nat) (l4 : List S109) (w : World) (hr : Kd.C k87 w A bs.length bs) (hr4 : Kd.C k109 w A4 l4.length l4) (ht : 0 ≤ tot ∧ tot ≤ 1000) :
    Calls Try.prog 113 #[.agg #[.int .i64 p, .slice A bs.length c], .agg #[.int .i64 f0, .slice A1 n1 c1, .int .i64 e, .int .i64 v, .slice A4 l4.length c4], .int .i64 tot] w fun e1 w' => e1 = .returned (.bool (endsB tot bs e v l4)) ∧ Below w.heap.size w w' := by
  have HR := Aside0.mk hr
  have HR4 := Aside0.mk hr4
  have HT := Aside0.mk ht
  have hmax := Kd.C_max hr
  have hmax4 := Kd.C_max hr4
  obtain ⟨ht0, ht1⟩ := ht
  have HB := Aside0.mk (Below.refl w.heap.size w)
  clear hr hr4
  by_cases e1 : e = 1
  · subst e1
    rcases Bool.eq_false_or_eq_true ((l4.length : Int) != 0) with q5 | q5
    · have HE := Aside0.mk (show endB tot 1 v l4.length = false by have : ((l4.length : Int) == 0) = false := (by rw [bne] at q5; simpa using q5); simp [endB, this])
      go_enter Try.func113, Try.ntmps113
      go_wp2_with (go_at_call 90; refine (l1In_any _ _ _ _).mono ?_; rintro e w' ⟨rfl, rfl⟩)
      go_ret
      exact ⟨by rw [endsB, HE.out]; rfl, by repeat (first | exact HB.out | apply below_alloc)⟩
    · have HV5 := Aside0.mk (show ((l4.length : Int) == 0) = true by rw [bne] at q5; simpa using q5)
      rcases Bool.eq_false_or_eq_true (within v 0 (tot - 1)) with q6 | q6
      · have HE := Aside0.mk (show endB tot 1 v l4.length = true by have h : endB tot 1 v l4.length = (((l4.length : Int) == 0) && valsB tot [v]) := rfl; rw [h, HV5.out, vals1, q6]; rfl)
        go_enter Try.func113, Try.ntmps113
        go_wp2_with (go_at_call 90; refine (l1In_any _ _ _ _).mono ?_; rintro e w' ⟨rfl, rfl⟩)
        go_loopg [42] l4.length (fun gg s42 wr => ∃ x : Int, s42 = .int .i64 x ∧ Aside0 (0 ≤ x ∧ x ≤ l4.length ∧ l4.length - x.toNat ≤ gg ∧ ∀ j, j < x.toNat → (!(jumpB tot bs (l4.getD j z109).f0 (l4.getD j z109).f1)) = false) ∧ Aside0 (Below w.heap.size w wr) ∧ Aside0 (wr.cell? ⟨w.heap.size, 1, none⟩ = some (.slice A bs.length c)))
        case atStart => exact ⟨0, rfl, ⟨by omega, by omega, by simp, fun j hj => absurd hj (by simp)⟩, ⟨by repeat (first | exact HB.out | apply below_alloc)⟩, ⟨by simp⟩⟩
        case round =>
          obtain ⟨x, rfl, HA, HB1, HC1⟩ := hrel
          by_cases hlt : x < l4.length
          · have c0 : decide (x < (l4.length : Int)) = true := decide_eq_true hlt
            obtain ⟨ad, D1, d1, e, hx0, hx1, hl1, hi1⟩ := at_T109 (Kd.C_below HR4.out HB1.out) x HA.out.1 hlt
            cases e
            have hltA := World.block_lt_of_cell? wr _ hx0
            have hc1 := HC1.out
            have hltB := World.block_lt_of_cell? wr _ hc1
            have p0 := eq_true HA.out.1
            have q0 := eq_true hlt
            have HL := Aside0.mk hlt
            have hmj := Kd.C_max hi1
            have HIJ := Aside0.mk hi1
            obtain ⟨jt, hjt⟩ : ∃ z, z = rd_T109 l4 x := ⟨_, rfl⟩
            rw [← hjt] at hx0 hx1 hl1 hmj HIJ
            have HJ := Aside0.mk hjt
            have HRJ := Aside0.mk (show ∀ n, Kd.C (Kd.int .i64) ((wr.alloc (.cells #[.int .i64 jt.f0, .slice D1 jt.f1.length d1] 109)).drewN n) D1 jt.f1.length jt.f1 from fun n => Kd.C_below HIJ.out (by repeat (first | exact Below.refl _ _ | apply pw_below_drewN | apply below_alloc)))
            clear hlt hi1 hl1 hjt
            rcases Bool.eq_false_or_eq_true (within jt.f0 0 ((bs.length : Int) - 1)) with q1 | q1
            · have HQ1 := Aside0.mk q1
              have hin := q1
              simp only [within, Bool.and_eq_true, decide_eq_true_eq] at hin
              have hjl : jt.f0 < (bs.length : Int) := by omega
              obtain ⟨ad2, E1, g1, E4, g4, e, hy0, _, _, _, _, _, _, _, _⟩ := at_T87 (Kd.C_below HR.out HB1.out) jt.f0 hin.1 hjl
              cases e
              have hltC := World.block_lt_of_cell? wr _ hy0
              have p1 := eq_true hin.1
              have p2 := eq_true hjl
              have hwr1 : IntKind.i64.wrap ((bs.length : Int) - 1) = (bs.length : Int) - 1 := IntWalk.i64_in _ (by omega)
              have hwr2 : IntKind.i64.wrap (tot - 1) = tot - 1 := IntWalk.i64_in _ (by omega)
              clear hin hjl
              rcases Bool.eq_false_or_eq_true ((jt.f1.length : Int) != (rd_T87 bs jt.f0).f0) with q2 | q2
              · have HQ2 := Aside0.mk (show ((jt.f1.length : Int) == (rd_T87 bs jt.f0).f0) = false by rw [bne] at q2; simpa using q2)
                go_wp2
                go_quiet ((first | (go_at_call 90; exact Calls.quiet_of_same (same_w (l1In_any _ _ _ _))) | (go_at_call 112; exact Calls.quiet_of_same (same_w (l1All_any _ _ _ _ (HRJ.out _))))))
                go_wp2
                go_ret
                exact ⟨by rw [endsB, jumps_hit x HA.out.1 HL.out (by rw [← HJ.out]; simp [jumpB, HQ2.out])]; simp, by repeat (first | exact HB1.out | apply pw_below_drewN | apply below_drew1 | apply below_alloc)⟩
              · have HQ2 := Aside0.mk (show ((jt.f1.length : Int) == (rd_T87 bs jt.f0).f0) = true by rw [bne] at q2; simpa using q2)
                rcases Bool.eq_false_or_eq_true (jt.f1.any fun x => !(within x 0 (tot - 1))) with q3 | q3
                · have HQ3 := Aside0.mk (show valsB tot jt.f1 = false by rw [valsB, q3]; rfl)
                  go_wp2
                  go_quiet ((first | (go_at_call 90; exact Calls.quiet_of_same (same_w (l1In_any _ _ _ _))) | (go_at_call 112; exact Calls.quiet_of_same (same_w (l1All_any _ _ _ _ (HRJ.out _))))))
                  go_wp2
                  go_ret
                  exact ⟨by rw [endsB, jumps_hit x HA.out.1 HL.out (by rw [← HJ.out]; simp [jumpB, HQ3.out])]; simp, by repeat (first | exact HB1.out | apply pw_below_drewN | apply below_drew1 | apply below_alloc)⟩
                · have HQ3 := Aside0.mk (show valsB tot jt.f1 = true by rw [valsB, q3]; rfl)
                  go_wp2
                  go_quiet ((first | (go_at_call 90; exact Calls.quiet_of_same (same_w (l1In_any _ _ _ _))) | (go_at_call 112; exact Calls.quiet_of_same (same_w (l1All_any _ _ _ _ (HRJ.out _))))))
                  clear hwr1 hwr2
                  go_wp2
                  go_roundg (l4.length - (x + 1).toNat)
                  case measure => have := HA.out; have := HL.out; omega
                  case rel =>
                    have hw : wrap64 (x + 1) = x + 1 := by have := HL.out; have := HA.out.1; unfold wrap64; omega
                    refine ⟨wrap64 (x + 1), by first | rfl | (rw [hw]; rfl) | (rw [hw]), ⟨by rw [hw]; have := HA.out.1; omega, by rw [hw]; have := HL.out; omega, by rw [hw]; omega, fun j hj => ?_⟩, ⟨by repeat (first | exact HB1.out | apply pw_below_drewN | apply below_drew1 | apply below_alloc)⟩, ⟨pw_cell_below (by repeat (first | exact Below.refl _ _ | apply pw_below_drewN | apply below_drew1 | apply below_alloc)) HC1.out⟩⟩
                    rw [hw] at hj
                    by_cases e : j = x.toNat
                    · subst e; show (!(jumpB tot bs (rd_T109 l4 x).f0 (rd_T109 l4 x).f1)) = false; rw [← HJ.out, jumpB, HQ1.out, HQ2.out, HQ3.out]; rfl
                    · exact HA.out.2.2.2 j (by have := HA.out.1; omega)
            · have HQ1 := Aside0.mk q1
              have hwr1 : IntKind.i64.wrap ((bs.length : Int) - 1) = (bs.length : Int) - 1 := IntWalk.i64_in _ (by omega)
              go_wp2
              go_quiet ((first | (go_at_call 90; exact Calls.quiet_of_same (same_w (l1In_any _ _ _ _))) | (go_at_call 112; exact Calls.quiet_of_same (same_w (l1All_any _ _ _ _ (HRJ.out _))))))
              go_wp2
              go_ret
              exact ⟨by rw [endsB, jumps_hit x HA.out.1 HL.out (by rw [← HJ.out]; simp [jumpB, HQ1.out])]; simp, by repeat (first | exact HB1.out | apply pw_below_drewN | apply below_drew1 | apply below_alloc)⟩
          · have c0 : decide (x < (l4.length : Int)) = false := decide_eq_false hlt
            have HL := Aside0.mk hlt
            clear hlt
            go_wp2
            go_ret
            exact ⟨by rw [endsB, HE.out, jumpsB, all_miss z109 (fun j hj => HA.out.2.2.2 j (by have := HL.out; omega))]; rfl, HB1.out⟩
      · have HE := Aside0.mk (show endB tot 1 v l4.length = false by simp [endB, vals1, q6])
        go_enter Try.func113, Try.ntmps113
        go_wp2_with (go_at_call 90; refine (l1In_any _ _ _ _).mono ?_; rintro e w' ⟨rfl, rfl⟩)
        go_ret
        exact ⟨by rw [endsB, HE.out]; rfl, by repeat (first | exact HB.out | apply below_alloc)⟩
  by_cases e2 : e = 2
  · subst e2
    rcases Bool.eq_false_or_eq_true (v != 0) with q0 | q0
    · have HE := Aside0.mk (show endB tot 2 v l4.length = false by have : (v == 0) = false := (by rw [bne] at q0; simpa using q0); simp [endB, this])
      go_enter Try.func113, Try.ntmps113
      go_wp2_with (go_at_call 90; refine (l1In_any _ _ _ _).mono ?_; rintro e w' ⟨rfl, rfl⟩)
      go_ret
      exact ⟨by rw [endsB, HE.out]; rfl, by repeat (first | exact HB.out | apply below_alloc)⟩
    · have HV0 := Aside0.mk (show (v == 0) = true by rw [bne] at q0; simpa using q0)
      rcases Bool.eq_false_or_eq_true ((l4.length : Int) != 1) with q5 | q5
      · have HE := Aside0.mk (show endB tot 2 v l4.length = false by have : ((l4.length : Int) == 1) = false := (by rw [bne] at q5; simpa using q5); simp [endB, this])
        go_enter Try.func113, Try.ntmps113
        go_wp2_with (go_at_call 90; refine (l1In_any _ _ _ _).mono ?_; rintro e w' ⟨rfl, rfl⟩)
        go_ret
        exact ⟨by rw [endsB, HE.out]; rfl, by repeat (first | exact HB.out | apply below_alloc)⟩
      · have HV5 := Aside0.mk (show ((l4.length : Int) == 1) = true by rw [bne] at q5; simpa using q5)
        have HE := Aside0.mk (show endB tot 2 v l4.length = true by have h : endB tot 2 v l4.length = (((l4.length : Int) == 1) && (v == 0)) := rfl; rw [h, HV5.out, HV0.out]; rfl)
        go_enter Try.func113, Try.ntmps113
        go_wp2_with (go_at_call 90; refine (l1In_any _ _ _ _).mono ?_; rintro e w' ⟨rfl, rfl⟩)
        go_loopg [42] l4.length (fun gg s42 wr => ∃ x : Int, s42 = .int .i64 x ∧ Aside0 (0 ≤ x ∧ x ≤ l4.length ∧ l4.length - x.toNat ≤ gg ∧ ∀ j, j < x.toNat → (!(jumpB tot bs (l4.getD j z109).f0 (l4.getD j z109).f1)) = false) ∧ Aside0 (Below w.heap.size w wr) ∧ Aside0 (wr.cell? ⟨w.heap.size, 1, none⟩ = some (.slice A bs.length c)))
        case atStart => exact ⟨0, rfl, ⟨by omega, by omega, by simp, fun j hj => absurd hj (by simp)⟩, ⟨by repeat (first | exact HB.out | apply below_alloc)⟩, ⟨by simp⟩⟩
        case round =>
          obtain ⟨x, rfl, HA, HB1, HC1⟩ := hrel
          by_cases hlt : x < l4.length
          · have c0 : decide (x < (l4.length : Int)) = true := decide_eq_true hlt
            obtain ⟨ad, D1, d1, e, hx0, hx1, hl1, hi1⟩ := at_T109 (Kd.C_below HR4.out HB1.out) x HA.out.1 hlt
            cases e
            have hltA := World.block_lt_of_cell? wr _ hx0
            have hc1 := HC1.out
            have hltB := World.block_lt_of_cell? wr _ hc1
            have p0 := eq_true HA.out.1
            have q0 := eq_true hlt
            have HL := Aside0.mk hlt
            have hmj := Kd.C_max hi1
            have HIJ := Aside0.mk hi1
            obtain ⟨jt, hjt⟩ : ∃ z, z = rd_T109 l4 x := ⟨_, rfl⟩
            rw [← hjt] at hx0 hx1 hl1 hmj HIJ
            have HJ := Aside0.mk hjt
            have HRJ := Aside0.mk (show ∀ n, Kd.C (Kd.int .i64) ((wr.alloc (.cells #[.int .i64 jt.f0, .slice D1 jt.f1.length d1] 109)).drewN n) D1 jt.f1.length jt.f1 from fun n => Kd.C_below HIJ.out (by repeat (first | exact Below.refl _ _ | apply pw_below_drewN | apply below_alloc)))
            clear hlt hi1 hl1 hjt
            rcases Bool.eq_false_or_eq_true (within jt.f0 0 ((bs.length : Int) - 1)) with q1 | q1
            · have HQ1 := Aside0.mk q1
              have hin := q1
              simp only [within, Bool.and_eq_true, decide_eq_true_eq] at hin
              have hjl : jt.f0 < (bs.length : Int) := by omega
              obtain ⟨ad2, E1, g1, E4, g4, e, hy0, _, _, _, _, _, _, _, _⟩ := at_T87 (Kd.C_below HR.out HB1.out) jt.f0 hin.1 hjl
              cases e
              have hltC := World.block_lt_of_cell? wr _ hy0
              have p1 := eq_true hin.1
              have p2 := eq_true hjl
              have hwr1 : IntKind.i64.wrap ((bs.length : Int) - 1) = (bs.length : Int) - 1 := IntWalk.i64_in _ (by omega)
              have hwr2 : IntKind.i64.wrap (tot - 1) = tot - 1 := IntWalk.i64_in _ (by omega)
              clear hin hjl
              rcases Bool.eq_false_or_eq_true ((jt.f1.length : Int) != (rd_T87 bs jt.f0).f0) with q2 | q2
              · have HQ2 := Aside0.mk (show ((jt.f1.length : Int) == (rd_T87 bs jt.f0).f0) = false by rw [bne] at q2; simpa using q2)
                go_wp2
                go_quiet ((first | (go_at_call 90; exact Calls.quiet_of_same (same_w (l1In_any _ _ _ _))) | (go_at_call 112; exact Calls.quiet_of_same (same_w (l1All_any _ _ _ _ (HRJ.out _))))))
                go_wp2
                go_ret
                exact ⟨by rw [endsB, jumps_hit x HA.out.1 HL.out (by rw [← HJ.out]; simp [jumpB, HQ2.out])]; simp, by repeat (first | exact HB1.out | apply pw_below_drewN | apply below_drew1 | apply below_alloc)⟩
              · have HQ2 := Aside0.mk (show ((jt.f1.length : Int) == (rd_T87 bs jt.f0).f0) = true by rw [bne] at q2; simpa using q2)
                rcases Bool.eq_false_or_eq_true (jt.f1.any fun x => !(within x 0 (tot - 1))) with q3 | q3
                · have HQ3 := Aside0.mk (show valsB tot jt.f1 = false by rw [valsB, q3]; rfl)
                  go_wp2
                  go_quiet ((first | (go_at_call 90; exact Calls.quiet_of_same (same_w (l1In_any _ _ _ _))) | (go_at_call 112; exact Calls.quiet_of_same (same_w (l1All_any _ _ _ _ (HRJ.out _))))))
                  go_wp2
                  go_ret
                  exact ⟨by rw [endsB, jumps_hit x HA.out.1 HL.out (by rw [← HJ.out]; simp [jumpB, HQ3.out])]; simp, by repeat (first | exact HB1.out | apply pw_below_drewN | apply below_drew1 | apply below_alloc)⟩
                · have HQ3 := Aside0.mk (show valsB tot jt.f1 = true by rw [valsB, q3]; rfl)
                  go_wp2
                  go_quiet ((first | (go_at_call 90; exact Calls.quiet_of_same (same_w (l1In_any _ _ _ _))) | (go_at_call 112; exact Calls.quiet_of_same (same_w (l1All_any _ _ _ _ (HRJ.out _))))))
                  clear hwr1 hwr2
                  go_wp2
                  go_roundg (l4.length - (x + 1).toNat)
                  case measure => have := HA.out; have := HL.out; omega
                  case rel =>
                    have hw : wrap64 (x + 1) = x + 1 := by have := HL.out; have := HA.out.1; unfold wrap64; omega
                    refine ⟨wrap64 (x + 1), by first | rfl | (rw [hw]; rfl) | (rw [hw]), ⟨by rw [hw]; have := HA.out.1; omega, by rw [hw]; have := HL.out; omega, by rw [hw]; omega, fun j hj => ?_⟩, ⟨by repeat (first | exact HB1.out | apply pw_below_drewN | apply below_drew1 | apply below_alloc)⟩, ⟨pw_cell_below (by repeat (first | exact Below.refl _ _ | apply pw_below_drewN | apply below_drew1 | apply below_alloc)) HC1.out⟩⟩
                    rw [hw] at hj
                    by_cases e : j = x.toNat
                    · subst e; show (!(jumpB tot bs (rd_T109 l4 x).f0 (rd_T109 l4 x).f1)) = false; rw [← HJ.out, jumpB, HQ1.out, HQ2.out, HQ3.out]; rfl
                    · exact HA.out.2.2.2 j (by have := HA.out.1; omega)
            · have HQ1 := Aside0.mk q1
              have hwr1 : IntKind.i64.wrap ((bs.length : Int) - 1) = (bs.length : Int) - 1 := IntWalk.i64_in _ (by omega)
              go_wp2
              go_quiet ((first | (go_at_call 90; exact Calls.quiet_of_same (same_w (l1In_any _ _ _ _))) | (go_at_call 112; exact Calls.quiet_of_same (same_w (l1All_any _ _ _ _ (HRJ.out _))))))
              go_wp2
              go_ret
              exact ⟨by rw [endsB, jumps_hit x HA.out.1 HL.out (by rw [← HJ.out]; simp [jumpB, HQ1.out])]; simp, by repeat (first | exact HB1.out | apply pw_below_drewN | apply below_drew1 | apply below_alloc)⟩
          · have c0 : decide (x < (l4.length : Int)) = false := decide_eq_false hlt
            have HL := Aside0.mk hlt
            clear hlt
            go_wp2
            go_ret
            exact ⟨by rw [endsB, HE.out, jumpsB, all_miss z109 (fun j hj => HA.out.2.2.2 j (by have := HL.out; omega))]; rfl, HB1.out⟩
  by_cases e3 : e = 3
  · subst e3
    rcases Bool.eq_false_or_eq_true ((l4.length : Int) != 2) with q5 | q5
    · have HE := Aside0.mk (show endB tot 3 v l4.length = false by have : ((l4.length : Int) == 2) = false := (by rw [bne] at q5; simpa using q5); simp [endB, this])
      go_enter Try.func113, Try.ntmps113
      go_wp2_with (go_at_call 90; refine (l1In_any _ _ _ _).mono ?_; rintro e w' ⟨rfl, rfl⟩)
      go_ret
      exact ⟨by rw [endsB, HE.out]; rfl, by repeat (first | exact HB.out | apply below_alloc)⟩
    · have HV5 := Aside0.mk (show ((l4.length : Int) == 2) = true by rw [bne] at q5; simpa using q5)
      rcases Bool.eq_false_or_eq_true (within v 0 (tot - 1)) with q6 | q6
      · have HE := Aside0.mk (show endB tot 3 v l4.length = true by have h : endB tot 3 v l4.length = ((((3 : Int) == 3) && ((l4.length : Int) == 2)) && valsB tot [v]) := rfl; rw [h, HV5.out, vals1, q6]; rfl)
        go_enter Try.func113, Try.ntmps113
        go_wp2_with (go_at_call 90; refine (l1In_any _ _ _ _).mono ?_; rintro e w' ⟨rfl, rfl⟩)
        go_loopg [42] l4.length (fun gg s42 wr => ∃ x : Int, s42 = .int .i64 x ∧ Aside0 (0 ≤ x ∧ x ≤ l4.length ∧ l4.length - x.toNat ≤ gg ∧ ∀ j, j < x.toNat → (!(jumpB tot bs (l4.getD j z109).f0 (l4.getD j z109).f1)) = false) ∧ Aside0 (Below w.heap.size w wr) ∧ Aside0 (wr.cell? ⟨w.heap.size, 1, none⟩ = some (.slice A bs.length c)))
        case atStart => exact ⟨0, rfl, ⟨by omega, by omega, by simp, fun j hj => absurd hj (by simp)⟩, ⟨by repeat (first | exact HB.out | apply below_alloc)⟩, ⟨by simp⟩⟩
        case round =>
          obtain ⟨x, rfl, HA, HB1, HC1⟩ := hrel
          by_cases hlt : x < l4.length
          · have c0 : decide (x < (l4.length : Int)) = true := decide_eq_true hlt
            obtain ⟨ad, D1, d1, e, hx0, hx1, hl1, hi1⟩ := at_T109 (Kd.C_below HR4.out HB1.out) x HA.out.1 hlt
            cases e
            have hltA := World.block_lt_of_cell? wr _ hx0
            have hc1 := HC1.out
            have hltB := World.block_lt_of_cell? wr _ hc1
            have p0 := eq_true HA.out.1
            have q0 := eq_true hlt
            have HL := Aside0.mk hlt
            have hmj := Kd.C_max hi1
            have HIJ := Aside0.mk hi1
            obtain ⟨jt, hjt⟩ : ∃ z, z = rd_T109 l4 x := ⟨_, rfl⟩
            rw [← hjt] at hx0 hx1 hl1 hmj HIJ
            have HJ := Aside0.mk hjt
            have HRJ := Aside0.mk (show ∀ n, Kd.C (Kd.int .i64) ((wr.alloc (.cells #[.int .i64 jt.f0, .slice D1 jt.f1.length d1] 109)).drewN n) D1 jt.f1.length jt.f1 from fun n => Kd.C_below HIJ.out (by repeat (first | exact Below.refl _ _ | apply pw_below_drewN | apply below_alloc)))
            clear hlt hi1 hl1 hjt
            rcases Bool.eq_false_or_eq_true (within jt.f0 0 ((bs.length : Int) - 1)) with q1 | q1
            · have HQ1 := Aside0.mk q1
              have hin := q1
              simp only [within, Bool.and_eq_true, decide_eq_true_eq] at hin
              have hjl : jt.f0 < (bs.length : Int) := by omega
              obtain ⟨ad2, E1, g1, E4, g4, e, hy0, _, _, _, _, _, _, _, _⟩ := at_T87 (Kd.C_below HR.out HB1.out) jt.f0 hin.1 hjl
              cases e
              have hltC := World.block_lt_of_cell? wr _ hy0
              have p1 := eq_true hin.1
              have p2 := eq_true hjl
              have hwr1 : IntKind.i64.wrap ((bs.length : Int) - 1) = (bs.length : Int) - 1 := IntWalk.i64_in _ (by omega)
              have hwr2 : IntKind.i64.wrap (tot - 1) = tot - 1 := IntWalk.i64_in _ (by omega)
              clear hin hjl
              rcases Bool.eq_false_or_eq_true ((jt.f1.length : Int) != (rd_T87 bs jt.f0).f0) with q2 | q2
              · have HQ2 := Aside0.mk (show ((jt.f1.length : Int) == (rd_T87 bs jt.f0).f0) = false by rw [bne] at q2; simpa using q2)
                go_wp2
                go_quiet ((first | (go_at_call 90; exact Calls.quiet_of_same (same_w (l1In_any _ _ _ _))) | (go_at_call 112; exact Calls.quiet_of_same (same_w (l1All_any _ _ _ _ (HRJ.out _))))))
                go_wp2
                go_ret
                exact ⟨by rw [endsB, jumps_hit x HA.out.1 HL.out (by rw [← HJ.out]; simp [jumpB, HQ2.out])]; simp, by repeat (first | exact HB1.out | apply pw_below_drewN | apply below_drew1 | apply below_alloc)⟩
              · have HQ2 := Aside0.mk (show ((jt.f1.length : Int) == (rd_T87 bs jt.f0).f0) = true by rw [bne] at q2; simpa using q2)
                rcases Bool.eq_false_or_eq_true (jt.f1.any fun x => !(within x 0 (tot - 1))) with q3 | q3
                · have HQ3 := Aside0.mk (show valsB tot jt.f1 = false by rw [valsB, q3]; rfl)
                  go_wp2
                  go_quiet ((first | (go_at_call 90; exact Calls.quiet_of_same (same_w (l1In_any _ _ _ _))) | (go_at_call 112; exact Calls.quiet_of_same (same_w (l1All_any _ _ _ _ (HRJ.out _))))))
                  go_wp2
                  go_ret
                  exact ⟨by rw [endsB, jumps_hit x HA.out.1 HL.out (by rw [← HJ.out]; simp [jumpB, HQ3.out])]; simp, by repeat (first | exact HB1.out | apply pw_below_drewN | apply below_drew1 | apply below_alloc)⟩
                · have HQ3 := Aside0.mk (show valsB tot jt.f1 = true by rw [valsB, q3]; rfl)
                  go_wp2
                  go_quiet ((first | (go_at_call 90; exact Calls.quiet_of_same (same_w (l1In_any _ _ _ _))) | (go_at_call 112; exact Calls.quiet_of_same (same_w (l1All_any _ _ _ _ (HRJ.out _))))))
                  clear hwr1 hwr2
                  go_wp2
                  go_roundg (l4.length - (x + 1).toNat)
                  case measure => have := HA.out; have := HL.out; omega
                  case rel =>
                    have hw : wrap64 (x + 1) = x + 1 := by have := HL.out; have := HA.out.1; unfold wrap64; omega
                    refine ⟨wrap64 (x + 1), by first | rfl | (rw [hw]; rfl) | (rw [hw]), ⟨by rw [hw]; have := HA.out.1; omega, by rw [hw]; have := HL.out; omega, by rw [hw]; omega, fun j hj => ?_⟩, ⟨by repeat (first | exact HB1.out | apply pw_below_drewN | apply below_drew1 | apply below_alloc)⟩, ⟨pw_cell_below (by repeat (first | exact Below.refl _ _ | apply pw_below_drewN | apply below_drew1 | apply below_alloc)) HC1.out⟩⟩
                    rw [hw] at hj
                    by_cases e : j = x.toNat
                    · subst e; show (!(jumpB tot bs (rd_T109 l4 x).f0 (rd_T109 l4 x).f1)) = false; rw [← HJ.out, jumpB, HQ1.out, HQ2.out, HQ3.out]; rfl
                    · exact HA.out.2.2.2 j (by have := HA.out.1; omega)
            · have HQ1 := Aside0.mk q1
              have hwr1 : IntKind.i64.wrap ((bs.length : Int) - 1) = (bs.length : Int) - 1 := IntWalk.i64_in _ (by omega)
              go_wp2
              go_quiet ((first | (go_at_call 90; exact Calls.quiet_of_same (same_w (l1In_any _ _ _ _))) | (go_at_call 112; exact Calls.quiet_of_same (same_w (l1All_any _ _ _ _ (HRJ.out _))))))
              go_wp2
              go_ret
              exact ⟨by rw [endsB, jumps_hit x HA.out.1 HL.out (by rw [← HJ.out]; simp [jumpB, HQ1.out])]; simp, by repeat (first | exact HB1.out | apply pw_below_drewN | apply below_drew1 | apply below_alloc)⟩
          · have c0 : decide (x < (l4.length : Int)) = false := decide_eq_false hlt
            have HL := Aside0.mk hlt
            clear hlt
            go_wp2
            go_ret
            exact ⟨by rw [endsB, HE.out, jumpsB, all_miss z109 (fun j hj => HA.out.2.2.2 j (by have := HL.out; omega))]; rfl, HB1.out⟩
      · have HE := Aside0.mk (show endB tot 3 v l4.length = false by simp [endB, vals1, q6])
        go_enter Try.func113, Try.ntmps113
        go_wp2_with (go_at_call 90; refine (l1In_any _ _ _ _).mono ?_; rintro e w' ⟨rfl, rfl⟩)
        go_ret
        exact ⟨by rw [endsB, HE.out]; rfl, by repeat (first | exact HB.out | apply below_alloc)⟩
  have b1 : (e == 1) = false := beq_eq_false_iff_ne.mpr e1
  have b2 : (e == 2) = false := beq_eq_false_iff_ne.mpr e2
  have b3 : (e == 3) = false := beq_eq_false_iff_ne.mpr e3
  have HE := Aside0.mk (show endB tot e v l4.length = false by simp [endB, e1, e2, b3])
  clear e1 e2 e3
  go_enter Try.func113, Try.ntmps113
  go_wp2_with (go_at_call 90; refine (l1In_any _ _ _ _).mono ?_; rintro e w' ⟨rfl, rfl⟩)
  go_ret
  exact ⟨by rw [endsB, HE.out]; rfl, by repeat (first | exact HB.out | apply below_alloc)⟩
end Go.Proofs.Ytghlbhijkhkgkaa.PA
