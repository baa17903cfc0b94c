/- The flow seat: the reference's BlockOf in plain words. -/
import Derived.Test.YtghlbhijkhkgkaaAbVp
namespace Go.Proofs.Ytghlbhijkhkgkaa.PA
open Go.RowKit Go.Proofs.YtghlbhijkhkgkaaW.PrintWords Go.Proofs.YtghlbhijkhkgkaaW.PrintLast Go.Proofs.YtghlbhijkhkgkaaW.PrintMore
set_option linter.unusedVariables false
theorem good_iff {p : Int} {bs : List S87} (h : goodB p bs = true) : (0 ≤ p ∧ p ≤ 4) ∧ (1 ≤ bs.length ∧ bs.length ≤ 8) ∧ Fine bs bs.length ∧ totF p bs bs.length ≤ 80 := by
  simp only [goodB, Bool.and_eq_true, decide_eq_true_eq] at h
  have h1 := (headB_iff p bs).1 h.1.1.1
  exact ⟨⟨h1.1, h1.2.1⟩, ⟨h1.2.2.1, h1.2.2.2.1⟩, (fine_all bs).2 h.1.1.2, h.1.2⟩
theorem wrap_small (x : Int) (h : -1000000 ≤ x ∧ x ≤ 1000000) : wrap64 x = x := by unfold wrap64; omega
theorem l1In_f (n a b : Int) : spec_l1In.f n a b = some (within n a b) := by
  unfold spec_l1In.f within
  by_cases h : a ≤ n
  · rw [if_pos (by omega), decide_eq_true h]; simp
  · rw [if_neg (by omega), decide_eq_false h]; simp
end Go.Proofs.Ytghlbhijkhkgkaa.PA
