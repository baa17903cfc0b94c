/- The flow seat: impl.BlockOf by hand. -/
import Derived.Test.YtghlbhijkhkgkaaAbVk
import Derived.Test.YtghlbhijkhkgkaaAbVq
namespace Go.Proofs.Ytghlbhijkhkgkaa.PA
open Go.RowKit Go.Proofs.YtghlbhijkhkgkaaW.PrintWords Go.Proofs.YtghlbhijkhkgkaaW.PrintLast Go.Proofs.YtghlbhijkhkgkaaW.PrintMore
set_option linter.unusedVariables false
theorem viewOf_no {A : Option Addr} {c : Nat} (p : Int) (bs : List S87) (w : World) (hr : Kd.C k87 w A bs.length bs) (hc : bs.length ≤ c) (hg : goodB p bs = false) :
    Calls Try.prog 56 #[.agg #[.int .i64 p, .slice A bs.length c]] w fun e w' => e = .returned (.pointer none) ∧ Below w.heap.size w w' :=
  (viewOf_any p bs w hr hc).mono fun e w' h => ⟨by rcases h.2 with h2 | h2; exact h2.2; rw [hg] at h2; exact absurd h2.1 (by decide), h.1⟩
theorem viewOf_yes {A : Option Addr} {c : Nat} (p : Int) (bs : List S87) (w : World) (hr : Kd.C k87 w A bs.length bs) (hc : bs.length ≤ c) (hg : goodB p bs = true) :
    Calls Try.prog 56 #[.agg #[.int .i64 p, .slice A bs.length c]] w fun e w' => ∃ g, e = .returned (.pointer (some ⟨g, 0, none⟩)) ∧ Below w.heap.size w w' ∧ View w' g p A bs c (firstsF p bs bs.length) (blocksF p bs bs.length) (totF p bs bs.length) :=
  (viewOf_any p bs w hr hc).mono fun e w' h => by
    rcases h.2 with h2 | ⟨_, g, h2, h3⟩
    · rw [hg] at h2; exact absurd h2.1 (by decide)
    · exact ⟨g, h2, h.1, h3⟩
end Go.Proofs.Ytghlbhijkhkgkaa.PA
