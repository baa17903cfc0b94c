/- The flow seat: the reference's AheadOf in plain words. -/
import Derived.Test.YtghlbhijkhkgkaaNbMb
import Derived.Test.YtghlbhijkhkgkaaNbPAz2
namespace Go.Proofs.Ytghlbhijkhkgkaa.PA
open Go.RowKit Go.Proofs.YtghlbhijkhkgkaaW.PrintWords Go.Proofs.YtghlbhijkhkgkaaW.PrintLast Go.Proofs.YtghlbhijkhkgkaaW.PrintMore
set_option linter.unusedVariables false
theorem rd_at (l : List Int) (i : Nat) (h : i < l.length) : rd l (i : Int) = l[i] := by simp [rd, List.getD_eq_getElem?_getD, List.getElem?_eq_getElem h]
theorem put_in (l : List Int) (x : Int) (i : Nat) : (∀ y, y ∈ ([] ++ l.take i ++ [x]) ++ l.drop i ↔ y ∈ l ∨ y = x) := by
  intro y
  conv => rhs; rw [← List.take_append_drop i l]
  simp only [List.mem_append, List.nil_append, List.mem_singleton]
  constructor
  · rintro ((h | h) | h)
    · exact .inl (.inl h)
    · exact .inr h
    · exact .inl (.inr h)
  · rintro ((h | h) | h)
    · exact .inl (.inl h)
    · exact .inr h
    · exact .inl (.inr h)
theorem l13Is_f (p : Int) (bs : List S87) (v : Int) : Ev (fun k : Nat => spec_l13Is.f p bs v) (goodB p bs && within v 0 ((bs.length : Int) - 1)) := by
  cases hg : goodB p bs with
  | false => exact Ev.congr (fun k => by unfold spec_l13Is.f spec_GoodFunc.f; rw [hg]; rfl) (Ev.now _)
  | true =>
    obtain ⟨hp, hn, hf, ht⟩ := good_iff hg
    refine Ev.congr (f := fun k => (spec_l1In.f v 0 (wrap64 ((bs.length : Int) - 1))).bind fun t2 => some t2) (fun k => by unfold spec_l13Is.f spec_GoodFunc.f; rw [hg]; rfl) (Ev.congr (fun k => ?_) (Ev.now _))
    rw [wrap_small _ (by omega), l1In_f]
    rfl
end Go.Proofs.Ytghlbhijkhkgkaa.PA
