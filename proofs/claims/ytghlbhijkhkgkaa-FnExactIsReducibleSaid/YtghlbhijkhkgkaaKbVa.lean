/- The flow seat: small contracts by hand: arity, argsOf, IndexFunc and ContainsFunc over ints, valuesOK. -/
import Derived.Test.YtghlbhijkhkgkaaKbPAx3
import Derived.Test.YtghlbhijkhkgkaaKbV0
namespace Go.Proofs.Ytghlbhijkhkgkaa.PA
open Go.RowKit Go.Proofs.YtghlbhijkhkgkaaW.PrintWords Go.Proofs.YtghlbhijkhkgkaaW.PrintLast Go.Proofs.YtghlbhijkhkgkaaW.PrintMore
set_option linter.unusedVariables false
theorem within_any (n a b : Int) (w : World) : Calls Try.prog 100 #[.int .i64 n, .int .i64 a, .int .i64 b] w fun e w' => e = .returned (.bool (within n a b)) ∧ w = w' := by
  by_cases h : a ≤ n
  · have h1 : decide (n ≥ a) = true := decide_eq_true h
    go_enter Try.func100, Try.ntmps100
    go_wp2
    go_ret
    exact ⟨by simp [within, h], rfl⟩
  · have h1 : decide (n ≥ a) = false := decide_eq_false h
    go_enter Try.func100, Try.ntmps100
    go_wp2
    go_ret
    exact ⟨by simp [within]; intro h'; omega, rfl⟩
theorem isOp_any (n : Int) (w : World) : Calls Try.prog 164 #[.int .i64 n] w fun e w' => e = .returned (.bool (within n 1 11)) ∧ w = w' := by
  go_enter Try.func164, Try.ntmps164
  go_wp2_with (go_at_call 100; refine (within_any _ _ _ _).mono ?_; rintro e w' ⟨rfl, rfl⟩)
  go_ret
  exact ⟨rfl, rfl⟩
theorem arity_any (n : Int) (w : World) : Calls Try.prog 165 #[.int .i64 n] w fun e w' => e = .returned (.int .i64 (arF n)) ∧ w = w' := by
  by_cases h1 : n = 1
  · subst h1
    go_enter Try.func165, Try.ntmps165
    go_wp2
    go_ret
    exact ⟨rfl, rfl⟩
  by_cases h2 : n = 2
  · subst h2
    go_enter Try.func165, Try.ntmps165
    go_wp2
    go_ret
    exact ⟨rfl, rfl⟩
  by_cases h3 : n = 3
  · subst h3
    go_enter Try.func165, Try.ntmps165
    go_wp2
    go_ret
    exact ⟨rfl, rfl⟩
  have b1 : (n == 1) = false := beq_eq_false_iff_ne.mpr h1
  have b2 : (n == 2) = false := beq_eq_false_iff_ne.mpr h2
  have b3 : (n == 3) = false := beq_eq_false_iff_ne.mpr h3
  have HE := Aside0.mk (show arF n = if n = 11 then 3 else 2 by simp [arF, h1, h2, h3])
  clear h1 h2 h3
  by_cases h4 : n = 11
  · subst h4
    go_enter Try.func165, Try.ntmps165
    go_wp2
    go_ret
    exact ⟨rfl, rfl⟩
  · have b4 : (n == 11) = false := beq_eq_false_iff_ne.mpr h4
    have HE2 := Aside0.mk (HE.out.trans (if_neg h4))
    clear h4
    go_enter Try.func165, Try.ntmps165
    go_wp2
    go_ret
    exact ⟨by rw [HE2.out]; rfl, rfl⟩
theorem argsOf_any (n : Int) (w : World) : Calls Try.prog 150 #[.int .i64 n] w fun e w' => e = .returned (.int .i64 (argF n)) ∧ w = w' := by
  by_cases h1 : n = 12
  · subst h1
    go_enter Try.func150, Try.ntmps150
    go_wp2
    go_ret
    exact ⟨rfl, rfl⟩
  by_cases h2 : n = 13
  · subst h2
    go_enter Try.func150, Try.ntmps150
    go_wp2
    go_ret
    exact ⟨rfl, rfl⟩
  have b1 : (n == 12) = false := beq_eq_false_iff_ne.mpr h1
  have b2 : (n == 13) = false := beq_eq_false_iff_ne.mpr h2
  have HE := Aside0.mk (show argF n = if within n 1 11 = true ∧ n ≠ 2 then arF n else -1 by simp [argF, h1, h2])
  clear h1 h2
  obtain ⟨ar, har⟩ : ∃ a, a = arF n := ⟨_, rfl⟩
  have HA := arity_any n
  rw [← har] at HA
  have HH := Aside0.mk HA
  have HR := Aside0.mk har
  clear HA har
  cases hq : within n 1 11 with
  | false =>
    have hc : ∀ w, Calls Try.prog 164 #[.int .i64 n] w fun e w' => e = .returned (.bool false) ∧ w = w' := fun w => by rw [← hq]; exact isOp_any n w
    have HC := Aside0.mk hc
    have HQ := Aside0.mk hq
    clear hc hq
    go_enter Try.func150, Try.ntmps150
    go_wp2_with (go_at_call 164; refine (HC.out _).mono ?_; rintro e w' ⟨rfl, rfl⟩)
    go_ret
    exact ⟨by rw [HE.out, HQ.out]; rfl, rfl⟩
  | true =>
    have hc : ∀ w, Calls Try.prog 164 #[.int .i64 n] w fun e w' => e = .returned (.bool true) ∧ w = w' := fun w => by rw [← hq]; exact isOp_any n w
    have HC := Aside0.mk hc
    have HQ := Aside0.mk hq
    clear hc hq
    by_cases h3 : n = 2
    · subst h3
      go_enter Try.func150, Try.ntmps150
      go_wp2_with (go_at_call 164; refine (HC.out _).mono ?_; rintro e w' ⟨rfl, rfl⟩)
      go_ret
      exact ⟨rfl, rfl⟩
    · have b3 : (n != 2) = true := bne_iff_ne.mpr h3
      have HN := Aside0.mk h3
      clear h3
      go_enter Try.func150, Try.ntmps150
      go_wp2_with (first | (go_at_call 164; refine (HC.out _).mono ?_; rintro e w' ⟨rfl, rfl⟩) | (go_at_call 165; refine (HH.out _).mono ?_; rintro e w' ⟨rfl, rfl⟩))
      go_ret
      exact ⟨by rw [HE.out, HQ.out, if_pos ⟨rfl, HN.out⟩, ← HR.out]; rfl, rfl⟩
end Go.Proofs.Ytghlbhijkhkgkaa.PA
