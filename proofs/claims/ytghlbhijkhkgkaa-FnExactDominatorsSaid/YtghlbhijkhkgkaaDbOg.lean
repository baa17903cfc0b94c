/- The flow seat: the reference's Dominators in plain words. -/
import Derived.Test.YtghlbhijkhkgkaaDbOd
import Derived.Test.YtghlbhijkhkgkaaDbOe
import Derived.Test.YtghlbhijkhkgkaaDbPAz9
namespace Go.Proofs.Ytghlbhijkhkgkaa.PA
open Go.RowKit Go.Proofs.YtghlbhijkhkgkaaW.PrintWords Go.Proofs.YtghlbhijkhkgkaaW.PrintLast Go.Proofs.YtghlbhijkhkgkaaW.PrintMore
set_option linter.unusedVariables false
theorem specDominators_f (p : Int) (bs : List S87) : spec_Dominators.f 0 p bs = some (ansDominators p bs) := by
  unfold spec_Dominators.f spec_GoodFunc.f ansDominators
  cases hg : goodB p bs with
  | false => rfl
  | true =>
    rw [spec_l13AllDoms.is (rows_of_good hg) 0 p]
    rfl
theorem specDominators_any {A : Option Addr} {c : Nat} (p : Int) (bs : List S87) (w : World) (hr : Kd.C k87 w A bs.length bs) (hc : bs.length ≤ c) :
    Calls Try.prog 35 #[.agg #[.int .i64 p, .slice A bs.length c]] w fun e w' => ∃ v0 : Value, e = .returned (.tuple #[v0, .bool (ansDominators p bs).2]) ∧ Kd.S kR 34 w' w.heap.size (fun _ => True) v0 (ansDominators p bs).1 ∧ Below w.heap.size w w' :=
  spec_Dominators.calls 0 p A c bs _ _ w hr hc (specDominators_f p bs)
theorem allDoms_small {bs : List S87} (hg : GoodRows bs) : SmallRows (allDoms (nextL bs)) := by
  have h8 := hg.len
  have hl := nextL_len bs
  refine ⟨by simp [allDoms, hl]; omega, fun r hr => ?_⟩
  simp only [allDoms, List.mem_map] at hr
  obtain ⟨b, _, rfl⟩ := hr
  have := numsL_len (nextL bs).length (domB (nextL bs) (b : Int))
  show (numsL _ _).length ≤ 100
  omega
theorem nil_small : SmallRows [] := ⟨by simp, fun r hr => by cases hr⟩
theorem ansDominators_small (p : Int) (bs : List S87) : SmallRows (ansDominators p bs).1 := by
  unfold ansDominators
  split
  · rename_i hg
    exact allDoms_small (rows_of_good hg)
  · exact nil_small
end Go.Proofs.Ytghlbhijkhkgkaa.PA
