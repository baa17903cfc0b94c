/- Printed by the kit's print over surrogate texts, turned by this session -/
import Derived.Test.YtceeocgpcagkjaaPBx0
import Derived.Test.YtceeocgpcagkjaaPBx1
namespace Go.Proofs.Ytceeocgpcagkjaa.PB
open Go.RowKit Go.Proofs.YtceeocgpcagkjaaW.PrintWords Go.Proofs.YtceeocgpcagkjaaW.PrintLast Go.Proofs.YtceeocgpcagkjaaW.PrintMore
attribute [local go_sem] max2_int min2_int max_two min_two max_three min_three max_four min_four   -- for this text's walks alone
set_option linter.unusedVariables false
set_option linter.unusedSimpArgs false

/-! ### impl_arity: function 66 -/
def impl_arity.j0 : Nat → Int → Bool → Option (Int)
  | 0, _, _ => none
  | k + 1, x3, x4 => if x4 = true then (some 0) else (if x3 = 3 then (some 1) else (if x3 = 11 then (some 3) else (some 2)))
def impl_arity.f (k : Nat) (a0 : Int) : Option (Int) := if a0 = 1 then (impl_arity.j0 k a0 (a0 == 1)) else (impl_arity.j0 k a0 (a0 == 2))
theorem impl_arity.mono_l : ∀ k, (∀ y0 y1, LeO (impl_arity.j0 k y0 y1) (impl_arity.j0 (k + 1) y0 y1))
  | 0 => fun _ _ r h => by simp [impl_arity.j0] at h
  | k + 1 => by
    have ih0 := impl_arity.mono_l k
    · intro y0 y1
      unfold impl_arity.j0
      repeat' first
      | (with_reducible exact ih0 _ _)
      | (with_reducible exact LeO.refl _)
      | (with_reducible exact LeO.none _)
      | (with_reducible refine LeO.ite ?_ ?_)
      | (with_reducible refine LeO.bind ?_ (fun _ => ?_))
      | exact ih0 _ _
      | exact LeO.none _
      | refine LeO.ite ?_ ?_
      | refine LeO.bind ?_ (fun _ => ?_)
theorem impl_arity.mono : ∀ a0 k, LeO (impl_arity.f k a0) (impl_arity.f (k + 1) a0) := by
  intro a0 k
  have ih0 := impl_arity.mono_l k
  unfold impl_arity.f
  repeat' first
      | (with_reducible exact ih0 _ _)
      | (with_reducible exact LeO.refl _)
      | (with_reducible exact LeO.none _)
      | (with_reducible refine LeO.ite ?_ ?_)
      | (with_reducible refine LeO.bind ?_ (fun _ => ?_))
      | exact ih0 _ _
      | exact LeO.none _
      | refine LeO.ite ?_ ?_
      | refine LeO.bind ?_ (fun _ => ?_)
set_option maxHeartbeats 8000000 in
set_option maxRecDepth 100000 in
theorem impl_arity.calls (k : Nat) (a0 : Int) (r : Int) (w : World) (h : impl_arity.f k a0 = some r) :
    Calls Try.prog 66 #[.int .i64 a0] w fun e w' => e = .returned (.int .i64 r) ∧ Drawn0 w w' := by
  have H : (if a0 = 1 then (impl_arity.j0 k a0 (a0 == 1)) else (impl_arity.j0 k a0 (a0 == 2))) = some r := h
  clear h
  have HC2 := Aside0.mk H
  clear H
  go_enter Try.func66, Try.ntmps66
  go_upto_if 4 with (fail)
  go_cut [4] (fun v4 wc => ∃ (kq : Nat) (x4_1 : Bool), v4 = .bool x4_1 ∧ Aside0 (impl_arity.j0 kq a0 x4_1 = some r) ∧ Aside0 (kq ≤ k) ∧ Drawn0 w wc)
  case first =>
    have H := HC2.out
    clear HC2
    by_cases c3 : a0 = 1
    · rw [if_pos c3] at H
      have c3b0 : (a0 == 1) = true := beq_iff_eq.mpr c3
      have c3b1 : (a0 != 1) = false := bne_eq_false_iff_eq.mpr c3
      clear c3
      (first | rw [c3b0] | (simp only [i64_w, i32_w]; rw [c3b0]) | skip)
      have H' := Aside0.mk H
      clear H
      go_wp2
      go_meet
      case rel => exact ⟨_, ((a0 == 1)), (by first | rfl | (simp; done) | (simp [*]; done)), H', ⟨by first | omega | exact Nat.le_refl _⟩, by repeat (first | exact Drawn0.refl _ | apply Drawn0.step)⟩
    · rw [if_neg c3] at H
      have c3b0 : (a0 == 1) = false := beq_eq_false_iff_ne.mpr c3
      have c3b1 : (a0 != 1) = true := bne_iff_ne.mpr c3
      (first | rw [c3b0] | (simp only [i64_w, i32_w]; rw [c3b0]) | skip)
      have H' := Aside0.mk H
      clear H
      go_wp2
      go_meet
      case rel => exact ⟨_, ((a0 == 2)), (by first | rfl | (simp; done) | (simp [*]; done)), H', ⟨by first | omega | exact Nat.le_refl _⟩, by repeat (first | exact Drawn0.refl _ | apply Drawn0.step)⟩
  case rest =>
    clear HC2
    try clear p2
    try clear c3
    try clear c3b0
    try clear c3b1
    obtain ⟨kq, x4_1, rfl, HA, HJ1, ⟨mc1, rfl⟩⟩ := hcut
    cases kq with
    | zero => exact absurd HA.out (by simp [impl_arity.j0])
    | succ kj1 =>
      have H := HA.out
      clear HA
      simp only [impl_arity.j0] at H
      by_cases c4 : x4_1 = true
      · subst c4
        have H1 : (some 0) = some r := by rw [if_pos rfl] at H; exact H
        clear H
        have H := H1
        clear H1
        obtain rfl := Option.some.inj H
        go_wp2
        go_ret
        exact ⟨by first | rfl | (simp; done) | (simp [*]; done), by repeat (first | exact Drawn0.refl _ | apply Drawn0.step)⟩
      · replace c4 := Bool.eq_false_iff.mpr c4
        subst c4
        have H1 : (if a0 = 3 then (some 1) else (if a0 = 11 then (some 3) else (some 2))) = some r := by rw [if_neg (show ¬ (false = true) by decide)] at H; exact H
        clear H
        have H := H1
        clear H1
        by_cases c5 : a0 = 3
        · rw [if_pos c5] at H
          have c5b0 : (a0 == 3) = true := beq_iff_eq.mpr c5
          have c5b1 : (a0 != 3) = false := bne_eq_false_iff_eq.mpr c5
          clear c5
          obtain rfl := Option.some.inj H
          go_wp2
          go_ret
          exact ⟨by first | rfl | (simp; done) | (simp [*]; done), by repeat (first | exact Drawn0.refl _ | apply Drawn0.step)⟩
        · rw [if_neg c5] at H
          have c5b0 : (a0 == 3) = false := beq_eq_false_iff_ne.mpr c5
          have c5b1 : (a0 != 3) = true := bne_iff_ne.mpr c5
          by_cases c6 : a0 = 11
          · rw [if_pos c6] at H
            have c6b0 : (a0 == 11) = true := beq_iff_eq.mpr c6
            have c6b1 : (a0 != 11) = false := bne_eq_false_iff_eq.mpr c6
            clear c6
            obtain rfl := Option.some.inj H
            go_wp2
            go_ret
            exact ⟨by first | rfl | (simp; done) | (simp [*]; done), by repeat (first | exact Drawn0.refl _ | apply Drawn0.step)⟩
          · rw [if_neg c6] at H
            have c6b0 : (a0 == 11) = false := beq_eq_false_iff_ne.mpr c6
            have c6b1 : (a0 != 11) = true := bne_iff_ne.mpr c6
            obtain rfl := Option.some.inj H
            go_wp2
            go_ret
            exact ⟨by first | rfl | (simp; done) | (simp [*]; done), by repeat (first | exact Drawn0.refl _ | apply Drawn0.step)⟩

/-! ### impl_oneIf: function 111 -/
def impl_oneIf.f (a0 : Bool) : Option (Int) := if a0 = true then (some 1) else (some 0)
set_option maxHeartbeats 8000000 in
set_option maxRecDepth 100000 in
theorem impl_oneIf.calls (a0 : Bool) (r : Int) (w : World) (h : impl_oneIf.f a0 = some r) :
    Calls Try.prog 111 #[.bool a0] w fun e w' => e = .returned (.int .i64 r) ∧ Drawn0 w w' := by
  have H : (if a0 = true then (some 1) else (some 0)) = some r := h
  clear h
  by_cases c2 : a0 = true
  · subst c2
    have H1 : (some 1) = some r := by rw [if_pos rfl] at H; exact H
    clear H
    have H := H1
    clear H1
    obtain rfl := Option.some.inj H
    go_enter Try.func111, Try.ntmps111
    go_wp2
    go_ret
    exact ⟨by first | rfl | (simp; done) | (simp [*]; done), by repeat (first | exact Drawn0.refl _ | apply Drawn0.step)⟩
  · replace c2 := Bool.eq_false_iff.mpr c2
    subst c2
    have H1 : (some 0) = some r := by rw [if_neg (show ¬ (false = true) by decide)] at H; exact H
    clear H
    have H := H1
    clear H1
    obtain rfl := Option.some.inj H
    go_enter Try.func111, Try.ntmps111
    go_wp2
    go_ret
    exact ⟨by first | rfl | (simp; done) | (simp [*]; done), by repeat (first | exact Drawn0.refl _ | apply Drawn0.step)⟩

/-! ### impl_doOp: function 67 -/
def impl_doOp.f (a0 : Int) (l1 : List Int) : Option (Int × Bool) := if a0 = 3 then (if 0 < (l1.length : Int) then (some (wrap64 (-(rd l1 0)), false)) else (none)) else (if a0 = 4 then (if 0 < (l1.length : Int) then (if 1 < (l1.length : Int) then (some (wrap64 ((rd l1 0) + (rd l1 1)), false)) else (none)) else (none)) else (if a0 = 5 then (if 0 < (l1.length : Int) then (if 1 < (l1.length : Int) then (some (wrap64 ((rd l1 0) - (rd l1 1)), false)) else (none)) else (none)) else (if a0 = 6 then (if 0 < (l1.length : Int) then (if 1 < (l1.length : Int) then (some (wrap64 ((rd l1 0) * (rd l1 1)), false)) else (none)) else (none)) else (if a0 = 7 then (if 0 < (l1.length : Int) then (if 1 < (l1.length : Int) then (if 0 ≤ (Int.tmod (IntKind.u64.wrap (rd l1 1)) 64) then (some (shl .i64 (rd l1 0) (Int.tmod (IntKind.u64.wrap (rd l1 1)) 64), false)) else (none)) else (none)) else (none)) else (if a0 = 8 then (if 1 < (l1.length : Int) then (if (rd l1 1) = 0 then (some (0, true)) else (if 0 < (l1.length : Int) then (some (wrap64 (Int.tdiv (rd l1 0) (rd l1 1)), false)) else (none))) else (none)) else (if a0 = 9 then (if 0 < (l1.length : Int) then (if 1 < (l1.length : Int) then ((impl_oneIf.f ((rd l1 0) == (rd l1 1))).bind fun t162 => (some (t162, false))) else (none)) else (none)) else (if a0 = 10 then (if 0 < (l1.length : Int) then (if 1 < (l1.length : Int) then ((impl_oneIf.f (decide ((rd l1 0) < (rd l1 1)))).bind fun t165 => (some (t165, false))) else (none)) else (none)) else (if 0 < (l1.length : Int) then (if (rd l1 0) = 0 then (if 2 < (l1.length : Int) then (some (rd l1 2, false)) else (none)) else (if 1 < (l1.length : Int) then (some (rd l1 1, false)) else (none))) else (none)))))))))
set_option maxHeartbeats 8000000 in
set_option maxRecDepth 100000 in
theorem impl_doOp.calls (a0 : Int) (A1 : Option Addr) (c1 : Nat) (l1 : List Int) (r1 : Int) (r2 : Bool) (w : World) (hr1 : Kd.C (Kd.int .i64) w A1 l1.length l1) (hc1 : l1.length ≤ c1) (h : impl_doOp.f a0 l1 = some (r1, r2)) :
    Calls Try.prog 67 #[.int .i64 a0, .slice A1 l1.length c1] w fun e w' => e = .returned (.tuple #[.int .i64 r1, .bool r2]) ∧ Drawn0 w w' := by
  have HR1 := Aside0.mk hr1
  have HC1 := Aside0.mk hc1
  clear hr1 hc1
  have H : (if a0 = 3 then (if 0 < (l1.length : Int) then (some (wrap64 (-(rd l1 0)), false)) else (none)) else (if a0 = 4 then (if 0 < (l1.length : Int) then (if 1 < (l1.length : Int) then (some (wrap64 ((rd l1 0) + (rd l1 1)), false)) else (none)) else (none)) else (if a0 = 5 then (if 0 < (l1.length : Int) then (if 1 < (l1.length : Int) then (some (wrap64 ((rd l1 0) - (rd l1 1)), false)) else (none)) else (none)) else (if a0 = 6 then (if 0 < (l1.length : Int) then (if 1 < (l1.length : Int) then (some (wrap64 ((rd l1 0) * (rd l1 1)), false)) else (none)) else (none)) else (if a0 = 7 then (if 0 < (l1.length : Int) then (if 1 < (l1.length : Int) then (if 0 ≤ (Int.tmod (IntKind.u64.wrap (rd l1 1)) 64) then (some (shl .i64 (rd l1 0) (Int.tmod (IntKind.u64.wrap (rd l1 1)) 64), false)) else (none)) else (none)) else (none)) else (if a0 = 8 then (if 1 < (l1.length : Int) then (if (rd l1 1) = 0 then (some (0, true)) else (if 0 < (l1.length : Int) then (some (wrap64 (Int.tdiv (rd l1 0) (rd l1 1)), false)) else (none))) else (none)) else (if a0 = 9 then (if 0 < (l1.length : Int) then (if 1 < (l1.length : Int) then ((impl_oneIf.f ((rd l1 0) == (rd l1 1))).bind fun t162 => (some (t162, false))) else (none)) else (none)) else (if a0 = 10 then (if 0 < (l1.length : Int) then (if 1 < (l1.length : Int) then ((impl_oneIf.f (decide ((rd l1 0) < (rd l1 1)))).bind fun t165 => (some (t165, false))) else (none)) else (none)) else (if 0 < (l1.length : Int) then (if (rd l1 0) = 0 then (if 2 < (l1.length : Int) then (some (rd l1 2, false)) else (none)) else (if 1 < (l1.length : Int) then (some (rd l1 1, false)) else (none))) else (none)))))))))) = some (r1, r2) := h
  clear h
  by_cases c3 : a0 = 3
  · rw [if_pos c3] at H
    have c3b0 : (a0 == 3) = true := beq_iff_eq.mpr c3
    have c3b1 : (a0 != 3) = false := bne_eq_false_iff_eq.mpr c3
    clear c3
    by_cases c4 : 0 < (l1.length : Int)
    · rw [if_pos c4] at H
      have c4b0 : decide (0 < (l1.length : Int)) = true := decide_eq_true c4
      have c4b1 : decide (0 < l1.length) = true := decide_eq_true (by omega)
      clear c4
      simp only [Option.some.injEq, Prod.mk.injEq] at H
      obtain ⟨rfl, rfl⟩ := H
      have p148 : 0 ≤ (0 : Int) := (by omega)
      have q148 : 0 < (l1.length : Int) := of_decide_eq_true (by first | (with_reducible assumption) | assumption)
      obtain ⟨ad148, e148, hx148_0⟩ := Kd.at_int HR1.out 0 p148 q148
      cases e148
      have qi148 : (0 < l1.length) = True := eq_true (by omega)
      (try rw [show ((0 : Int)).toNat = 0 from rfl] at hx148_0)
      (try rw [Addr.add_zero'] at hx148_0)
      replace p148 := eq_true p148
      replace q148 := eq_true q148
      go_enter Try.func67, Try.ntmps67
      go_wp2
      repeat (go_quiet (fail); try go_wp2)
      go_ret2
      exact ⟨by first | rfl | (simp; done) | (simp [*]; done), by repeat (first | exact Drawn0.refl _ | apply Drawn0.step)⟩
    · rw [if_neg c4] at H
      exact absurd H (by simp)
  · rw [if_neg c3] at H
    have c3b0 : (a0 == 3) = false := beq_eq_false_iff_ne.mpr c3
    have c3b1 : (a0 != 3) = true := bne_iff_ne.mpr c3
    by_cases c5 : a0 = 4
    · rw [if_pos c5] at H
      have c5b0 : (a0 == 4) = true := beq_iff_eq.mpr c5
      have c5b1 : (a0 != 4) = false := bne_eq_false_iff_eq.mpr c5
      clear c5
      by_cases c6 : 0 < (l1.length : Int)
      · rw [if_pos c6] at H
        have c6b0 : decide (0 < (l1.length : Int)) = true := decide_eq_true c6
        have c6b1 : decide (0 < l1.length) = true := decide_eq_true (by omega)
        clear c6
        by_cases c7 : 1 < (l1.length : Int)
        · rw [if_pos c7] at H
          have c7b0 : decide (1 < (l1.length : Int)) = true := decide_eq_true c7
          have c7b1 : decide (1 < l1.length) = true := decide_eq_true (by omega)
          clear c7
          simp only [Option.some.injEq, Prod.mk.injEq] at H
          obtain ⟨rfl, rfl⟩ := H
          have p149 : 0 ≤ (0 : Int) := (by omega)
          have q149 : 0 < (l1.length : Int) := of_decide_eq_true (by first | (with_reducible assumption) | assumption)
          obtain ⟨ad149, e149, hx149_0⟩ := Kd.at_int HR1.out 0 p149 q149
          cases e149
          have qi149 : (0 < l1.length) = True := eq_true (by omega)
          (try rw [show ((0 : Int)).toNat = 0 from rfl] at hx149_0)
          (try rw [Addr.add_zero'] at hx149_0)
          replace p149 := eq_true p149
          replace q149 := eq_true q149
          have p150 : 0 ≤ (1 : Int) := (by omega)
          have q150 : 1 < (l1.length : Int) := of_decide_eq_true (by first | (with_reducible assumption) | assumption)
          obtain ⟨ad150, e150, hx150_0⟩ := Kd.at_int HR1.out 1 p150 q150
          obtain rfl : ad149 = ad150 := (by injection e150)
          (try simp only [show (1 : Int).toNat = 1 from rfl, Nat.reduceMul, Nat.reduceEqDiff, Go.Addr.add, ↓reduceIte] at hx150_0)
          have qi150 : (1 < l1.length) = True := eq_true (by omega)
          (try rw [show ((1 : Int)).toNat = 1 from rfl] at hx150_0)
          replace p150 := eq_true p150
          replace q150 := eq_true q150
          go_enter Try.func67, Try.ntmps67
          go_wp2
          repeat (go_quiet (fail); try go_wp2)
          go_ret2
          exact ⟨by first | rfl | (simp; done) | (simp [*]; done), by repeat (first | exact Drawn0.refl _ | apply Drawn0.step)⟩
        · rw [if_neg c7] at H
          exact absurd H (by simp)
      · rw [if_neg c6] at H
        exact absurd H (by simp)
    · rw [if_neg c5] at H
      have c5b0 : (a0 == 4) = false := beq_eq_false_iff_ne.mpr c5
      have c5b1 : (a0 != 4) = true := bne_iff_ne.mpr c5
      by_cases c8 : a0 = 5
      · rw [if_pos c8] at H
        have c8b0 : (a0 == 5) = true := beq_iff_eq.mpr c8
        have c8b1 : (a0 != 5) = false := bne_eq_false_iff_eq.mpr c8
        clear c8
        by_cases c9 : 0 < (l1.length : Int)
        · rw [if_pos c9] at H
          have c9b0 : decide (0 < (l1.length : Int)) = true := decide_eq_true c9
          have c9b1 : decide (0 < l1.length) = true := decide_eq_true (by omega)
          clear c9
          by_cases c10 : 1 < (l1.length : Int)
          · rw [if_pos c10] at H
            have c10b0 : decide (1 < (l1.length : Int)) = true := decide_eq_true c10
            have c10b1 : decide (1 < l1.length) = true := decide_eq_true (by omega)
            clear c10
            simp only [Option.some.injEq, Prod.mk.injEq] at H
            obtain ⟨rfl, rfl⟩ := H
            have p151 : 0 ≤ (0 : Int) := (by omega)
            have q151 : 0 < (l1.length : Int) := of_decide_eq_true (by first | (with_reducible assumption) | assumption)
            obtain ⟨ad151, e151, hx151_0⟩ := Kd.at_int HR1.out 0 p151 q151
            cases e151
            have qi151 : (0 < l1.length) = True := eq_true (by omega)
            (try rw [show ((0 : Int)).toNat = 0 from rfl] at hx151_0)
            (try rw [Addr.add_zero'] at hx151_0)
            replace p151 := eq_true p151
            replace q151 := eq_true q151
            have p152 : 0 ≤ (1 : Int) := (by omega)
            have q152 : 1 < (l1.length : Int) := of_decide_eq_true (by first | (with_reducible assumption) | assumption)
            obtain ⟨ad152, e152, hx152_0⟩ := Kd.at_int HR1.out 1 p152 q152
            obtain rfl : ad151 = ad152 := (by injection e152)
            (try simp only [show (1 : Int).toNat = 1 from rfl, Nat.reduceMul, Nat.reduceEqDiff, Go.Addr.add, ↓reduceIte] at hx152_0)
            have qi152 : (1 < l1.length) = True := eq_true (by omega)
            (try rw [show ((1 : Int)).toNat = 1 from rfl] at hx152_0)
            replace p152 := eq_true p152
            replace q152 := eq_true q152
            go_enter Try.func67, Try.ntmps67
            go_wp2
            repeat (go_quiet (fail); try go_wp2)
            go_ret2
            exact ⟨by first | rfl | (simp; done) | (simp [*]; done), by repeat (first | exact Drawn0.refl _ | apply Drawn0.step)⟩
          · rw [if_neg c10] at H
            exact absurd H (by simp)
        · rw [if_neg c9] at H
          exact absurd H (by simp)
      · rw [if_neg c8] at H
        have c8b0 : (a0 == 5) = false := beq_eq_false_iff_ne.mpr c8
        have c8b1 : (a0 != 5) = true := bne_iff_ne.mpr c8
        by_cases c11 : a0 = 6
        · rw [if_pos c11] at H
          have c11b0 : (a0 == 6) = true := beq_iff_eq.mpr c11
          have c11b1 : (a0 != 6) = false := bne_eq_false_iff_eq.mpr c11
          clear c11
          by_cases c12 : 0 < (l1.length : Int)
          · rw [if_pos c12] at H
            have c12b0 : decide (0 < (l1.length : Int)) = true := decide_eq_true c12
            have c12b1 : decide (0 < l1.length) = true := decide_eq_true (by omega)
            clear c12
            by_cases c13 : 1 < (l1.length : Int)
            · rw [if_pos c13] at H
              have c13b0 : decide (1 < (l1.length : Int)) = true := decide_eq_true c13
              have c13b1 : decide (1 < l1.length) = true := decide_eq_true (by omega)
              clear c13
              simp only [Option.some.injEq, Prod.mk.injEq] at H
              obtain ⟨rfl, rfl⟩ := H
              have p153 : 0 ≤ (0 : Int) := (by omega)
              have q153 : 0 < (l1.length : Int) := of_decide_eq_true (by first | (with_reducible assumption) | assumption)
              obtain ⟨ad153, e153, hx153_0⟩ := Kd.at_int HR1.out 0 p153 q153
              cases e153
              have qi153 : (0 < l1.length) = True := eq_true (by omega)
              (try rw [show ((0 : Int)).toNat = 0 from rfl] at hx153_0)
              (try rw [Addr.add_zero'] at hx153_0)
              replace p153 := eq_true p153
              replace q153 := eq_true q153
              have p154 : 0 ≤ (1 : Int) := (by omega)
              have q154 : 1 < (l1.length : Int) := of_decide_eq_true (by first | (with_reducible assumption) | assumption)
              obtain ⟨ad154, e154, hx154_0⟩ := Kd.at_int HR1.out 1 p154 q154
              obtain rfl : ad153 = ad154 := (by injection e154)
              (try simp only [show (1 : Int).toNat = 1 from rfl, Nat.reduceMul, Nat.reduceEqDiff, Go.Addr.add, ↓reduceIte] at hx154_0)
              have qi154 : (1 < l1.length) = True := eq_true (by omega)
              (try rw [show ((1 : Int)).toNat = 1 from rfl] at hx154_0)
              replace p154 := eq_true p154
              replace q154 := eq_true q154
              go_enter Try.func67, Try.ntmps67
              go_wp2
              repeat (go_quiet (fail); try go_wp2)
              go_ret2
              exact ⟨by first | rfl | (simp; done) | (simp [*]; done), by repeat (first | exact Drawn0.refl _ | apply Drawn0.step)⟩
            · rw [if_neg c13] at H
              exact absurd H (by simp)
          · rw [if_neg c12] at H
            exact absurd H (by simp)
        · rw [if_neg c11] at H
          have c11b0 : (a0 == 6) = false := beq_eq_false_iff_ne.mpr c11
          have c11b1 : (a0 != 6) = true := bne_iff_ne.mpr c11
          by_cases c14 : a0 = 7
          · rw [if_pos c14] at H
            have c14b0 : (a0 == 7) = true := beq_iff_eq.mpr c14
            have c14b1 : (a0 != 7) = false := bne_eq_false_iff_eq.mpr c14
            clear c14
            by_cases c15 : 0 < (l1.length : Int)
            · rw [if_pos c15] at H
              have c15b0 : decide (0 < (l1.length : Int)) = true := decide_eq_true c15
              have c15b1 : decide (0 < l1.length) = true := decide_eq_true (by omega)
              clear c15
              by_cases c16 : 1 < (l1.length : Int)
              · rw [if_pos c16] at H
                have c16b0 : decide (1 < (l1.length : Int)) = true := decide_eq_true c16
                have c16b1 : decide (1 < l1.length) = true := decide_eq_true (by omega)
                clear c16
                obtain ⟨ji17, hji17⟩ : ∃ j_ : Int, (Int.tmod (IntKind.u64.wrap (rd l1 1)) 64) = j_ := ⟨_, rfl⟩
                replace H : (if 0 ≤ (ji17) then (some (shl .i64 (rd l1 0) (ji17), false)) else (none)) = some (r1, r2) := by first | (rw [hji17] at H; exact H) | (simp only [hji17] at H ⊢; exact H)
                by_cases c18 : 0 ≤ (ji17)
                · rw [if_pos c18] at H
                  have c18b0 := eq_true c18
                  have c18b1 : decide (0 ≤ (ji17)) = true := decide_eq_true c18
                  clear c18
                  obtain ⟨ji19, hji19⟩ : ∃ j_ : Int, (shl .i64 (rd l1 0) (ji17)) = j_ := ⟨_, rfl⟩
                  replace H : (some (ji19, false)) = some (r1, r2) := by first | (rw [hji19] at H; exact H) | (simp only [hji19] at H ⊢; exact H)
                  have hji19_ : (IntKind.i64.wrap ((rd l1 0) * 2 ^ min (ji17).toNat 64)) = ji19 := hji19
                  have hji19z : (ji17) ≤ 64 → (IntKind.i64.wrap ((rd l1 0) * 2 ^ (ji17).toNat)) = ji19 := shl_small hji19
                  have hji19y : (wrap64 ((rd l1 0) * 2 ^ min (ji17).toNat 64)) = ji19 := (i64_w _).symm.trans hji19_
                  have hji19x : (ji17) ≤ 64 → (wrap64 ((rd l1 0) * 2 ^ (ji17).toNat)) = ji19 := fun h_ => (i64_w _).symm.trans (hji19z h_)
                  simp only [Option.some.injEq, Prod.mk.injEq] at H
                  obtain ⟨rfl, rfl⟩ := H
                  have p155 : 0 ≤ (0 : Int) := (by omega)
                  have q155 : 0 < (l1.length : Int) := of_decide_eq_true (by first | (with_reducible assumption) | assumption)
                  obtain ⟨ad155, e155, hx155_0⟩ := Kd.at_int HR1.out 0 p155 q155
                  cases e155
                  have qi155 : (0 < l1.length) = True := eq_true (by omega)
                  (try rw [show ((0 : Int)).toNat = 0 from rfl] at hx155_0)
                  (try rw [Addr.add_zero'] at hx155_0)
                  replace p155 := eq_true p155
                  replace q155 := eq_true q155
                  have p156 : 0 ≤ (1 : Int) := (by omega)
                  have q156 : 1 < (l1.length : Int) := of_decide_eq_true (by first | (with_reducible assumption) | assumption)
                  obtain ⟨ad156, e156, hx156_0⟩ := Kd.at_int HR1.out 1 p156 q156
                  obtain rfl : ad155 = ad156 := (by injection e156)
                  (try simp only [show (1 : Int).toNat = 1 from rfl, Nat.reduceMul, Nat.reduceEqDiff, Go.Addr.add, ↓reduceIte] at hx156_0)
                  have qi156 : (1 < l1.length) = True := eq_true (by omega)
                  (try rw [show ((1 : Int)).toNat = 1 from rfl] at hx156_0)
                  replace p156 := eq_true p156
                  replace q156 := eq_true q156
                  go_enter Try.func67, Try.ntmps67
                  go_wp2
                  repeat (go_quiet (fail); try go_wp2)
                  go_ret2
                  exact ⟨by first | rfl | (simp; done) | (simp only [← hji17, ← hji19] <;> (first | rfl | simp)) | (simp [*]; done), by repeat (first | exact Drawn0.refl _ | apply Drawn0.step)⟩
                · rw [if_neg c18] at H
                  exact absurd H (by simp)
              · rw [if_neg c16] at H
                exact absurd H (by simp)
            · rw [if_neg c15] at H
              exact absurd H (by simp)
          · rw [if_neg c14] at H
            have c14b0 : (a0 == 7) = false := beq_eq_false_iff_ne.mpr c14
            have c14b1 : (a0 != 7) = true := bne_iff_ne.mpr c14
            by_cases c20 : a0 = 8
            · rw [if_pos c20] at H
              have c20b0 : (a0 == 8) = true := beq_iff_eq.mpr c20
              have c20b1 : (a0 != 8) = false := bne_eq_false_iff_eq.mpr c20
              clear c20
              by_cases c21 : 1 < (l1.length : Int)
              · rw [if_pos c21] at H
                have c21b0 : decide (1 < (l1.length : Int)) = true := decide_eq_true c21
                have c21b1 : decide (1 < l1.length) = true := decide_eq_true (by omega)
                clear c21
                by_cases c22 : (rd l1 1) = 0
                · rw [if_pos c22] at H
                  have c22b0 : ((rd l1 1) == 0) = true := beq_iff_eq.mpr c22
                  have c22b1 : ((rd l1 1) != 0) = false := bne_eq_false_iff_eq.mpr c22
                  clear c22
                  simp only [Option.some.injEq, Prod.mk.injEq] at H
                  obtain ⟨rfl, rfl⟩ := H
                  have p157 : 0 ≤ (1 : Int) := (by omega)
                  have q157 : 1 < (l1.length : Int) := of_decide_eq_true (by first | (with_reducible assumption) | assumption)
                  obtain ⟨ad157, e157, hx157_0⟩ := Kd.at_int HR1.out 1 p157 q157
                  cases e157
                  (try simp only [show (1 : Int).toNat = 1 from rfl, Nat.reduceMul, Nat.reduceEqDiff, Go.Addr.add, ↓reduceIte] at hx157_0)
                  have qi157 : (1 < l1.length) = True := eq_true (by omega)
                  (try rw [show ((1 : Int)).toNat = 1 from rfl] at hx157_0)
                  replace p157 := eq_true p157
                  replace q157 := eq_true q157
                  go_enter Try.func67, Try.ntmps67
                  go_wp2
                  repeat (go_quiet (fail); try go_wp2)
                  go_ret2
                  exact ⟨by first | rfl | (simp; done) | (simp [*]; done), by repeat (first | exact Drawn0.refl _ | apply Drawn0.step)⟩
                · rw [if_neg c22] at H
                  have c22b0 : ((rd l1 1) == 0) = false := beq_eq_false_iff_ne.mpr c22
                  have c22b1 : ((rd l1 1) != 0) = true := bne_iff_ne.mpr c22
                  by_cases c23 : 0 < (l1.length : Int)
                  · rw [if_pos c23] at H
                    have c23b0 : decide (0 < (l1.length : Int)) = true := decide_eq_true c23
                    have c23b1 : decide (0 < l1.length) = true := decide_eq_true (by omega)
                    clear c23
                    simp only [Option.some.injEq, Prod.mk.injEq] at H
                    obtain ⟨rfl, rfl⟩ := H
                    have p157 : 0 ≤ (1 : Int) := (by omega)
                    have q157 : 1 < (l1.length : Int) := of_decide_eq_true (by first | (with_reducible assumption) | assumption)
                    obtain ⟨ad157, e157, hx157_0⟩ := Kd.at_int HR1.out 1 p157 q157
                    cases e157
                    (try simp only [show (1 : Int).toNat = 1 from rfl, Nat.reduceMul, Nat.reduceEqDiff, Go.Addr.add, ↓reduceIte] at hx157_0)
                    have qi157 : (1 < l1.length) = True := eq_true (by omega)
                    (try rw [show ((1 : Int)).toNat = 1 from rfl] at hx157_0)
                    replace p157 := eq_true p157
                    replace q157 := eq_true q157
                    have p158 : 0 ≤ (0 : Int) := (by omega)
                    have q158 : 0 < (l1.length : Int) := of_decide_eq_true (by first | (with_reducible assumption) | assumption)
                    obtain ⟨ad158, e158, hx158_0⟩ := Kd.at_int HR1.out 0 p158 q158
                    obtain rfl : ad157 = ad158 := (by injection e158)
                    have qi158 : (0 < l1.length) = True := eq_true (by omega)
                    (try rw [show ((0 : Int)).toNat = 0 from rfl] at hx158_0)
                    (try rw [Addr.add_zero'] at hx158_0)
                    replace p158 := eq_true p158
                    replace q158 := eq_true q158
                    have p159 : 0 ≤ (1 : Int) := (by omega)
                    have q159 : 1 < (l1.length : Int) := of_decide_eq_true (by first | (with_reducible assumption) | assumption)
                    obtain ⟨ad159, e159, hx159_0⟩ := Kd.at_int HR1.out 1 p159 q159
                    obtain rfl : ad157 = ad159 := (by injection e159)
                    (try simp only [show (1 : Int).toNat = 1 from rfl, Nat.reduceMul, Nat.reduceEqDiff, Go.Addr.add, ↓reduceIte] at hx159_0)
                    have qi159 : (1 < l1.length) = True := eq_true (by omega)
                    (try rw [show ((1 : Int)).toNat = 1 from rfl] at hx159_0)
                    replace p159 := eq_true p159
                    replace q159 := eq_true q159
                    go_enter Try.func67, Try.ntmps67
                    go_wp2
                    repeat (go_quiet (fail); try go_wp2)
                    go_ret2
                    exact ⟨by first | rfl | (simp; done) | (simp [*]; done), by repeat (first | exact Drawn0.refl _ | apply Drawn0.step)⟩
                  · rw [if_neg c23] at H
                    exact absurd H (by simp)
              · rw [if_neg c21] at H
                exact absurd H (by simp)
            · rw [if_neg c20] at H
              have c20b0 : (a0 == 8) = false := beq_eq_false_iff_ne.mpr c20
              have c20b1 : (a0 != 8) = true := bne_iff_ne.mpr c20
              by_cases c24 : a0 = 9
              · rw [if_pos c24] at H
                have c24b0 : (a0 == 9) = true := beq_iff_eq.mpr c24
                have c24b1 : (a0 != 9) = false := bne_eq_false_iff_eq.mpr c24
                clear c24
                by_cases c25 : 0 < (l1.length : Int)
                · rw [if_pos c25] at H
                  have c25b0 : decide (0 < (l1.length : Int)) = true := decide_eq_true c25
                  have c25b1 : decide (0 < l1.length) = true := decide_eq_true (by omega)
                  clear c25
                  by_cases c26 : 1 < (l1.length : Int)
                  · rw [if_pos c26] at H
                    have c26b0 : decide (1 < (l1.length : Int)) = true := decide_eq_true c26
                    have c26b1 : decide (1 < l1.length) = true := decide_eq_true (by omega)
                    clear c26
                    replace H := Option.bind_eq_some_iff.mp H
                    obtain ⟨t162, A270, H⟩ := H
                    replace H : (some (t162, false)) = some (r1, r2) := H
                    have A27 := Aside0.mk A270
                    clear A270
                    simp only [Option.some.injEq, Prod.mk.injEq] at H
                    obtain ⟨rfl, rfl⟩ := H
                    have p160 : 0 ≤ (0 : Int) := (by omega)
                    have q160 : 0 < (l1.length : Int) := of_decide_eq_true (by first | (with_reducible assumption) | assumption)
                    obtain ⟨ad160, e160, hx160_0⟩ := Kd.at_int HR1.out 0 p160 q160
                    cases e160
                    have qi160 : (0 < l1.length) = True := eq_true (by omega)
                    (try rw [show ((0 : Int)).toNat = 0 from rfl] at hx160_0)
                    (try rw [Addr.add_zero'] at hx160_0)
                    replace p160 := eq_true p160
                    replace q160 := eq_true q160
                    have p161 : 0 ≤ (1 : Int) := (by omega)
                    have q161 : 1 < (l1.length : Int) := of_decide_eq_true (by first | (with_reducible assumption) | assumption)
                    obtain ⟨ad161, e161, hx161_0⟩ := Kd.at_int HR1.out 1 p161 q161
                    obtain rfl : ad160 = ad161 := (by injection e161)
                    (try simp only [show (1 : Int).toNat = 1 from rfl, Nat.reduceMul, Nat.reduceEqDiff, Go.Addr.add, ↓reduceIte] at hx161_0)
                    have qi161 : (1 < l1.length) = True := eq_true (by omega)
                    (try rw [show ((1 : Int)).toNat = 1 from rfl] at hx161_0)
                    replace p161 := eq_true p161
                    replace q161 := eq_true q161
                    go_enter Try.func67, Try.ntmps67
                    go_wp2_with (first | (go_at_call 111; (with_reducible refine (impl_oneIf.calls ((rd l1 0) == (rd l1 1)) t162 _ A27.out).mono ?_); rintro e w' ⟨rfl, ⟨nd, rfl⟩⟩; (try first | exact ⟨rfl, _, World.drewN_drewN _ _ _⟩ | exact ⟨rfl, _, Eq.trans (World.drewN_drewN _ _ _) (congrArg (World.drewN _) (Nat.add_assoc _ _ _))⟩)))
                    repeat (go_quiet (first | (go_at_call 111; (with_reducible refine (impl_oneIf.calls ((rd l1 0) == (rd l1 1)) t162 _ A27.out).mono ?_); rintro e w' ⟨rfl, ⟨nd, rfl⟩⟩; (try first | exact ⟨rfl, _, World.drewN_drewN _ _ _⟩ | exact ⟨rfl, _, Eq.trans (World.drewN_drewN _ _ _) (congrArg (World.drewN _) (Nat.add_assoc _ _ _))⟩))); try go_wp2_with (first | (go_at_call 111; (with_reducible refine (impl_oneIf.calls ((rd l1 0) == (rd l1 1)) t162 _ A27.out).mono ?_); rintro e w' ⟨rfl, ⟨nd, rfl⟩⟩; (try first | exact ⟨rfl, _, World.drewN_drewN _ _ _⟩ | exact ⟨rfl, _, Eq.trans (World.drewN_drewN _ _ _) (congrArg (World.drewN _) (Nat.add_assoc _ _ _))⟩))))
                    go_ret2
                    exact ⟨by first | rfl | (simp; done) | (simp [*]; done), by repeat (first | exact Drawn0.refl _ | apply Drawn0.step)⟩
                  · rw [if_neg c26] at H
                    exact absurd H (by simp)
                · rw [if_neg c25] at H
                  exact absurd H (by simp)
              · rw [if_neg c24] at H
                have c24b0 : (a0 == 9) = false := beq_eq_false_iff_ne.mpr c24
                have c24b1 : (a0 != 9) = true := bne_iff_ne.mpr c24
                by_cases c28 : a0 = 10
                · rw [if_pos c28] at H
                  have c28b0 : (a0 == 10) = true := beq_iff_eq.mpr c28
                  have c28b1 : (a0 != 10) = false := bne_eq_false_iff_eq.mpr c28
                  clear c28
                  by_cases c29 : 0 < (l1.length : Int)
                  · rw [if_pos c29] at H
                    have c29b0 : decide (0 < (l1.length : Int)) = true := decide_eq_true c29
                    have c29b1 : decide (0 < l1.length) = true := decide_eq_true (by omega)
                    clear c29
                    by_cases c30 : 1 < (l1.length : Int)
                    · rw [if_pos c30] at H
                      have c30b0 : decide (1 < (l1.length : Int)) = true := decide_eq_true c30
                      have c30b1 : decide (1 < l1.length) = true := decide_eq_true (by omega)
                      clear c30
                      replace H := Option.bind_eq_some_iff.mp H
                      obtain ⟨t165, A310, H⟩ := H
                      replace H : (some (t165, false)) = some (r1, r2) := H
                      have A31 := Aside0.mk A310
                      clear A310
                      simp only [Option.some.injEq, Prod.mk.injEq] at H
                      obtain ⟨rfl, rfl⟩ := H
                      have p163 : 0 ≤ (0 : Int) := (by omega)
                      have q163 : 0 < (l1.length : Int) := of_decide_eq_true (by first | (with_reducible assumption) | assumption)
                      obtain ⟨ad163, e163, hx163_0⟩ := Kd.at_int HR1.out 0 p163 q163
                      cases e163
                      have qi163 : (0 < l1.length) = True := eq_true (by omega)
                      (try rw [show ((0 : Int)).toNat = 0 from rfl] at hx163_0)
                      (try rw [Addr.add_zero'] at hx163_0)
                      replace p163 := eq_true p163
                      replace q163 := eq_true q163
                      have p164 : 0 ≤ (1 : Int) := (by omega)
                      have q164 : 1 < (l1.length : Int) := of_decide_eq_true (by first | (with_reducible assumption) | assumption)
                      obtain ⟨ad164, e164, hx164_0⟩ := Kd.at_int HR1.out 1 p164 q164
                      obtain rfl : ad163 = ad164 := (by injection e164)
                      (try simp only [show (1 : Int).toNat = 1 from rfl, Nat.reduceMul, Nat.reduceEqDiff, Go.Addr.add, ↓reduceIte] at hx164_0)
                      have qi164 : (1 < l1.length) = True := eq_true (by omega)
                      (try rw [show ((1 : Int)).toNat = 1 from rfl] at hx164_0)
                      replace p164 := eq_true p164
                      replace q164 := eq_true q164
                      go_enter Try.func67, Try.ntmps67
                      go_wp2_with (first | (go_at_call 111; (with_reducible refine (impl_oneIf.calls (decide ((rd l1 0) < (rd l1 1))) t165 _ A31.out).mono ?_); rintro e w' ⟨rfl, ⟨nd, rfl⟩⟩; (try first | exact ⟨rfl, _, World.drewN_drewN _ _ _⟩ | exact ⟨rfl, _, Eq.trans (World.drewN_drewN _ _ _) (congrArg (World.drewN _) (Nat.add_assoc _ _ _))⟩)))
                      repeat (go_quiet (first | (go_at_call 111; (with_reducible refine (impl_oneIf.calls (decide ((rd l1 0) < (rd l1 1))) t165 _ A31.out).mono ?_); rintro e w' ⟨rfl, ⟨nd, rfl⟩⟩; (try first | exact ⟨rfl, _, World.drewN_drewN _ _ _⟩ | exact ⟨rfl, _, Eq.trans (World.drewN_drewN _ _ _) (congrArg (World.drewN _) (Nat.add_assoc _ _ _))⟩))); try go_wp2_with (first | (go_at_call 111; (with_reducible refine (impl_oneIf.calls (decide ((rd l1 0) < (rd l1 1))) t165 _ A31.out).mono ?_); rintro e w' ⟨rfl, ⟨nd, rfl⟩⟩; (try first | exact ⟨rfl, _, World.drewN_drewN _ _ _⟩ | exact ⟨rfl, _, Eq.trans (World.drewN_drewN _ _ _) (congrArg (World.drewN _) (Nat.add_assoc _ _ _))⟩))))
                      go_ret2
                      exact ⟨by first | rfl | (simp; done) | (simp [*]; done), by repeat (first | exact Drawn0.refl _ | apply Drawn0.step)⟩
                    · rw [if_neg c30] at H
                      exact absurd H (by simp)
                  · rw [if_neg c29] at H
                    exact absurd H (by simp)
                · rw [if_neg c28] at H
                  have c28b0 : (a0 == 10) = false := beq_eq_false_iff_ne.mpr c28
                  have c28b1 : (a0 != 10) = true := bne_iff_ne.mpr c28
                  by_cases c32 : 0 < (l1.length : Int)
                  · rw [if_pos c32] at H
                    have c32b0 : decide (0 < (l1.length : Int)) = true := decide_eq_true c32
                    have c32b1 : decide (0 < l1.length) = true := decide_eq_true (by omega)
                    clear c32
                    by_cases c33 : (rd l1 0) = 0
                    · rw [if_pos c33] at H
                      have c33b0 : ((rd l1 0) == 0) = true := beq_iff_eq.mpr c33
                      have c33b1 : ((rd l1 0) != 0) = false := bne_eq_false_iff_eq.mpr c33
                      clear c33
                      by_cases c34 : 2 < (l1.length : Int)
                      · rw [if_pos c34] at H
                        have c34b0 : decide (2 < (l1.length : Int)) = true := decide_eq_true c34
                        have c34b1 : decide (2 < l1.length) = true := decide_eq_true (by omega)
                        clear c34
                        simp only [Option.some.injEq, Prod.mk.injEq] at H
                        obtain ⟨rfl, rfl⟩ := H
                        have p166 : 0 ≤ (0 : Int) := (by omega)
                        have q166 : 0 < (l1.length : Int) := of_decide_eq_true (by first | (with_reducible assumption) | assumption)
                        obtain ⟨ad166, e166, hx166_0⟩ := Kd.at_int HR1.out 0 p166 q166
                        cases e166
                        have qi166 : (0 < l1.length) = True := eq_true (by omega)
                        (try rw [show ((0 : Int)).toNat = 0 from rfl] at hx166_0)
                        (try rw [Addr.add_zero'] at hx166_0)
                        replace p166 := eq_true p166
                        replace q166 := eq_true q166
                        have p167 : 0 ≤ (2 : Int) := (by omega)
                        have q167 : 2 < (l1.length : Int) := of_decide_eq_true (by first | (with_reducible assumption) | assumption)
                        obtain ⟨ad167, e167, hx167_0⟩ := Kd.at_int HR1.out 2 p167 q167
                        obtain rfl : ad166 = ad167 := (by injection e167)
                        (try simp only [show (2 : Int).toNat = 2 from rfl, Nat.reduceMul, Nat.reduceEqDiff, Go.Addr.add, ↓reduceIte] at hx167_0)
                        have qi167 : (2 < l1.length) = True := eq_true (by omega)
                        (try rw [show ((2 : Int)).toNat = 2 from rfl] at hx167_0)
                        replace p167 := eq_true p167
                        replace q167 := eq_true q167
                        go_enter Try.func67, Try.ntmps67
                        go_wp2
                        repeat (go_quiet (fail); try go_wp2)
                        go_ret2
                        exact ⟨by first | rfl | (simp; done) | (simp [*]; done), by repeat (first | exact Drawn0.refl _ | apply Drawn0.step)⟩
                      · rw [if_neg c34] at H
                        exact absurd H (by simp)
                    · rw [if_neg c33] at H
                      have c33b0 : ((rd l1 0) == 0) = false := beq_eq_false_iff_ne.mpr c33
                      have c33b1 : ((rd l1 0) != 0) = true := bne_iff_ne.mpr c33
                      by_cases c35 : 1 < (l1.length : Int)
                      · rw [if_pos c35] at H
                        have c35b0 : decide (1 < (l1.length : Int)) = true := decide_eq_true c35
                        have c35b1 : decide (1 < l1.length) = true := decide_eq_true (by omega)
                        clear c35
                        simp only [Option.some.injEq, Prod.mk.injEq] at H
                        obtain ⟨rfl, rfl⟩ := H
                        have p166 : 0 ≤ (0 : Int) := (by omega)
                        have q166 : 0 < (l1.length : Int) := of_decide_eq_true (by first | (with_reducible assumption) | assumption)
                        obtain ⟨ad166, e166, hx166_0⟩ := Kd.at_int HR1.out 0 p166 q166
                        cases e166
                        have qi166 : (0 < l1.length) = True := eq_true (by omega)
                        (try rw [show ((0 : Int)).toNat = 0 from rfl] at hx166_0)
                        (try rw [Addr.add_zero'] at hx166_0)
                        replace p166 := eq_true p166
                        replace q166 := eq_true q166
                        have p168 : 0 ≤ (1 : Int) := (by omega)
                        have q168 : 1 < (l1.length : Int) := of_decide_eq_true (by first | (with_reducible assumption) | assumption)
                        obtain ⟨ad168, e168, hx168_0⟩ := Kd.at_int HR1.out 1 p168 q168
                        obtain rfl : ad166 = ad168 := (by injection e168)
                        (try simp only [show (1 : Int).toNat = 1 from rfl, Nat.reduceMul, Nat.reduceEqDiff, Go.Addr.add, ↓reduceIte] at hx168_0)
                        have qi168 : (1 < l1.length) = True := eq_true (by omega)
                        (try rw [show ((1 : Int)).toNat = 1 from rfl] at hx168_0)
                        replace p168 := eq_true p168
                        replace q168 := eq_true q168
                        go_enter Try.func67, Try.ntmps67
                        go_wp2
                        repeat (go_quiet (fail); try go_wp2)
                        go_ret2
                        exact ⟨by first | rfl | (simp; done) | (simp [*]; done), by repeat (first | exact Drawn0.refl _ | apply Drawn0.step)⟩
                      · rw [if_neg c35] at H
                        exact absurd H (by simp)
                  · rw [if_neg c32] at H
                    exact absurd H (by simp)

/-! ### impl_DoOp: function 10 -/
def impl_DoOp.f (k : Nat) (a0 : Int) (l1 : List Int) : Option (Int × Bool × Bool) := (impl_within.f a0 3 11).bind fun t169 => (if t169 = true then ((impl_arity.f k a0).bind fun t170 => (if (l1.length : Int) = t170 then ((impl_doOp.f a0 l1).bind fun bt171 => (some (bt171.1, bt171.2, true))) else (some (0, false, false)))) else (some (0, false, false)))
theorem impl_DoOp.mono : ∀ a0 a1 k, LeO (impl_DoOp.f k a0 a1) (impl_DoOp.f (k + 1) a0 a1) := by
  intro a0 a1 k
  unfold impl_DoOp.f
  repeat' first
      | (with_reducible exact impl_arity.mono _ _)
      | (with_reducible exact LeO.refl _)
      | (with_reducible exact LeO.none _)
      | (with_reducible refine LeO.ite ?_ ?_)
      | (with_reducible refine LeO.bind ?_ (fun _ => ?_))
      | exact impl_arity.mono _ _
      | exact LeO.none _
      | refine LeO.ite ?_ ?_
      | refine LeO.bind ?_ (fun _ => ?_)
set_option maxHeartbeats 8000000 in
set_option maxRecDepth 100000 in
theorem impl_DoOp.calls (k : Nat) (a0 : Int) (A1 : Option Addr) (c1 : Nat) (l1 : List Int) (r1 : Int) (r2 : Bool) (r3 : Bool) (w : World) (hr1 : Kd.C (Kd.int .i64) w A1 l1.length l1) (hc1 : l1.length ≤ c1) (h : impl_DoOp.f k a0 l1 = some (r1, r2, r3)) :
    Calls Try.prog 10 #[.int .i64 a0, .slice A1 l1.length c1] w fun e w' => e = .returned (.tuple #[.int .i64 r1, .bool r2, .bool r3]) ∧ Drawn0 w w' := by
  have HR1 := Aside0.mk hr1
  have HC1 := Aside0.mk hc1
  clear hr1 hc1
  have H : ((impl_within.f a0 3 11).bind fun t169 => (if t169 = true then ((impl_arity.f k a0).bind fun t170 => (if (l1.length : Int) = t170 then ((impl_doOp.f a0 l1).bind fun bt171 => (some (bt171.1, bt171.2, true))) else (some (0, false, false)))) else (some (0, false, false)))) = some (r1, r2, r3) := h
  clear h
  replace H := Option.bind_eq_some_iff.mp H
  obtain ⟨t169, A30, H⟩ := H
  replace H : (if t169 = true then ((impl_arity.f k a0).bind fun t170 => (if (l1.length : Int) = t170 then ((impl_doOp.f a0 l1).bind fun bt171 => (some (bt171.1, bt171.2, true))) else (some (0, false, false)))) else (some (0, false, false))) = some (r1, r2, r3) := H
  have A3 := Aside0.mk A30
  clear A30
  by_cases c4 : t169 = true
  · subst c4
    have H1 : ((impl_arity.f k a0).bind fun t170 => (if (l1.length : Int) = t170 then ((impl_doOp.f a0 l1).bind fun bt171 => (some (bt171.1, bt171.2, true))) else (some (0, false, false)))) = some (r1, r2, r3) := by rw [if_pos rfl] at H; exact H
    clear H
    have H := H1
    clear H1
    replace H := Option.bind_eq_some_iff.mp H
    obtain ⟨t170, A50, H⟩ := H
    replace H : (if (l1.length : Int) = t170 then ((impl_doOp.f a0 l1).bind fun bt171 => (some (bt171.1, bt171.2, true))) else (some (0, false, false))) = some (r1, r2, r3) := H
    have A5 := Aside0.mk A50
    clear A50
    by_cases c6 : (l1.length : Int) = t170
    · rw [if_pos c6] at H
      have c6b0 : ((l1.length : Int) == t170) = true := beq_iff_eq.mpr c6
      have c6b1 : ((l1.length : Int) != t170) = false := bne_eq_false_iff_eq.mpr c6
      clear c6
      replace H := Option.bind_eq_some_iff.mp H
      obtain ⟨⟨t171, t172⟩, A70, H⟩ := H
      replace H : (some (t171, t172, true)) = some (r1, r2, r3) := H
      have A7 := Aside0.mk A70
      clear A70
      simp only [Option.some.injEq, Prod.mk.injEq] at H
      obtain ⟨rfl, rfl, rfl⟩ := H
      go_enter Try.func10, Try.ntmps10
      go_wp2_with (first | ((with_reducible refine gate_callee (f := 65) rfl ?_); refine goesL_ (some 10) rfl rfl Try.func65 (by kernel_rfl) rfl #[.int .i64 a0, .int .i64 3, .int .i64 11] rfl (by (try simp only [List.map_toArray, List.map_cons, List.map_nil]); first | done | rfl | (simp only [List.length_drop, List.length_take]; rfl)) ?_; (with_reducible refine (impl_within.calls a0 3 11 true _ A3.out).mono ?_); rintro e w' ⟨rfl, ⟨nd, rfl⟩⟩; refine ⟨_, rfl, ?_⟩) | (go_at_call 66; (with_reducible refine (impl_arity.calls k a0 t170 _ A5.out).mono ?_); rintro e w' ⟨rfl, ⟨nd, rfl⟩⟩) | ((with_reducible refine gate_callee (f := 67) rfl ?_); refine goesL_ (some 22) rfl rfl Try.func67 (by kernel_rfl) rfl #[.int .i64 a0, .slice A1 l1.length c1] rfl (by (try simp only [List.map_toArray, List.map_cons, List.map_nil]); first | done | rfl | (simp only [List.length_drop, List.length_take]; rfl)) ?_; (with_reducible refine (impl_doOp.calls a0 _ _ l1 t171 t172 _ ?side1 ?side2 A7.out).mono ?_); (case side1 => repeat (first | exact HR1.out | (with_reducible refine Kd.C_alloc ?_ _) | (with_reducible refine Kd.C_drewN ?_ _) | (with_reducible refine Kd.C_drew ?_))); (case side2 => exact HC1.out); rintro e w' ⟨rfl, ⟨nd, rfl⟩⟩; refine ⟨_, rfl, ?_⟩))
      go_ret3
      exact ⟨by first | rfl | (simp; done) | (simp [*]; done), by repeat (first | exact Drawn0.refl _ | apply Drawn0.step)⟩
    · rw [if_neg c6] at H
      have c6b0 : ((l1.length : Int) == t170) = false := beq_eq_false_iff_ne.mpr c6
      have c6b1 : ((l1.length : Int) != t170) = true := bne_iff_ne.mpr c6
      simp only [Option.some.injEq, Prod.mk.injEq] at H
      obtain ⟨rfl, rfl, rfl⟩ := H
      go_enter Try.func10, Try.ntmps10
      go_wp2_with (first | ((with_reducible refine gate_callee (f := 65) rfl ?_); refine goesL_ (some 10) rfl rfl Try.func65 (by kernel_rfl) rfl #[.int .i64 a0, .int .i64 3, .int .i64 11] rfl (by (try simp only [List.map_toArray, List.map_cons, List.map_nil]); first | done | rfl | (simp only [List.length_drop, List.length_take]; rfl)) ?_; (with_reducible refine (impl_within.calls a0 3 11 true _ A3.out).mono ?_); rintro e w' ⟨rfl, ⟨nd, rfl⟩⟩; refine ⟨_, rfl, ?_⟩) | (go_at_call 66; (with_reducible refine (impl_arity.calls k a0 t170 _ A5.out).mono ?_); rintro e w' ⟨rfl, ⟨nd, rfl⟩⟩))
      go_ret3
      exact ⟨by first | rfl | (simp; done) | (simp [*]; done), by repeat (first | exact Drawn0.refl _ | apply Drawn0.step)⟩
  · replace c4 := Bool.eq_false_iff.mpr c4
    subst c4
    have H1 : (some (0, false, false)) = some (r1, r2, r3) := by rw [if_neg (show ¬ (false = true) by decide)] at H; exact H
    clear H
    have H := H1
    clear H1
    simp only [Option.some.injEq, Prod.mk.injEq] at H
    obtain ⟨rfl, rfl, rfl⟩ := H
    go_enter Try.func10, Try.ntmps10
    go_wp2_with (first | ((with_reducible refine gate_callee (f := 65) rfl ?_); refine goesL_ (some 10) rfl rfl Try.func65 (by kernel_rfl) rfl #[.int .i64 a0, .int .i64 3, .int .i64 11] rfl (by (try simp only [List.map_toArray, List.map_cons, List.map_nil]); first | done | rfl | (simp only [List.length_drop, List.length_take]; rfl)) ?_; (with_reducible refine (impl_within.calls a0 3 11 false _ A3.out).mono ?_); rintro e w' ⟨rfl, ⟨nd, rfl⟩⟩; refine ⟨_, rfl, ?_⟩))
    go_ret3
    exact ⟨by first | rfl | (simp; done) | (simp [*]; done), by repeat (first | exact Drawn0.refl _ | apply Drawn0.step)⟩

/-! ### spec_l1Div: function 112 -/
def spec_l1Div.f (a0 : Int) (a1 : Int) : Option (Int) := if a1 = (-1) then (some (wrap64 (-a0))) else (if a1 = 0 then (none) else (some (wrap64 (Int.tdiv a0 a1))))
set_option maxHeartbeats 8000000 in
set_option maxRecDepth 100000 in
theorem spec_l1Div.calls (a0 : Int) (a1 : Int) (r : Int) (w : World) (h : spec_l1Div.f a0 a1 = some r) :
    Calls Try.prog 112 #[.int .i64 a0, .int .i64 a1] w fun e w' => e = .returned (.int .i64 r) ∧ Drawn0 w w' := by
  have H : (if a1 = (-1) then (some (wrap64 (-a0))) else (if a1 = 0 then (none) else (some (wrap64 (Int.tdiv a0 a1))))) = some r := h
  clear h
  by_cases c3 : a1 = (-1)
  · rw [if_pos c3] at H
    have c3b0 : (a1 == (-1)) = true := beq_iff_eq.mpr c3
    have c3b1 : (a1 != (-1)) = false := bne_eq_false_iff_eq.mpr c3
    clear c3
    obtain rfl := Option.some.inj H
    go_enter Try.func112, Try.ntmps112
    go_wp2
    go_ret
    exact ⟨by first | rfl | (simp; done) | (simp [*]; done), by repeat (first | exact Drawn0.refl _ | apply Drawn0.step)⟩
  · rw [if_neg c3] at H
    have c3b0 : (a1 == (-1)) = false := beq_eq_false_iff_ne.mpr c3
    have c3b1 : (a1 != (-1)) = true := bne_iff_ne.mpr c3
    by_cases c4 : a1 = 0
    · rw [if_pos c4] at H
      exact absurd H (by simp)
    · rw [if_neg c4] at H
      have c4b0 : (a1 == 0) = false := beq_eq_false_iff_ne.mpr c4
      have c4b1 : (a1 != 0) = true := bne_iff_ne.mpr c4
      obtain rfl := Option.some.inj H
      go_enter Try.func112, Try.ntmps112
      go_wp2
      go_ret
      exact ⟨by first | rfl | (simp; done) | (simp [*]; done), by repeat (first | exact Drawn0.refl _ | apply Drawn0.step)⟩

/-! ### spec_l1Bool: function 113 -/
def spec_l1Bool.f (a0 : Bool) : Option (Int) := if a0 = true then (some 1) else (some 0)
set_option maxHeartbeats 8000000 in
set_option maxRecDepth 100000 in
theorem spec_l1Bool.calls (a0 : Bool) (r : Int) (w : World) (h : spec_l1Bool.f a0 = some r) :
    Calls Try.prog 113 #[.bool a0] w fun e w' => e = .returned (.int .i64 r) ∧ Drawn0 w w' := by
  have H : (if a0 = true then (some 1) else (some 0)) = some r := h
  clear h
  by_cases c2 : a0 = true
  · subst c2
    have H1 : (some 1) = some r := by rw [if_pos rfl] at H; exact H
    clear H
    have H := H1
    clear H1
    obtain rfl := Option.some.inj H
    go_enter Try.func113, Try.ntmps113
    go_wp2
    go_ret
    exact ⟨by first | rfl | (simp; done) | (simp [*]; done), by repeat (first | exact Drawn0.refl _ | apply Drawn0.step)⟩
  · replace c2 := Bool.eq_false_iff.mpr c2
    subst c2
    have H1 : (some 0) = some r := by rw [if_neg (show ¬ (false = true) by decide)] at H; exact H
    clear H
    have H := H1
    clear H1
    obtain rfl := Option.some.inj H
    go_enter Try.func113, Try.ntmps113
    go_wp2
    go_ret
    exact ⟨by first | rfl | (simp; done) | (simp [*]; done), by repeat (first | exact Drawn0.refl _ | apply Drawn0.step)⟩

end Go.Proofs.Ytceeocgpcagkjaa.PB
