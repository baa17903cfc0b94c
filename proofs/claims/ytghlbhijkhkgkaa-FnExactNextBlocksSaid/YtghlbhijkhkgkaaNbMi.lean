/- The flow seat: the blocks to which ways lead, as a rising list. -/
import Derived.Test.YtghlbhijkhkgkaaNbMd
import Derived.Test.YtghlbhijkhkgkaaNbMg
import Derived.Test.YtghlbhijkhkgkaaNbMh
namespace Go.Proofs.Ytghlbhijkhkgkaa.PA
open Go.RowKit Go.Proofs.YtghlbhijkhkgkaaW.PrintWords Go.Proofs.YtghlbhijkhkgkaaW.PrintLast Go.Proofs.YtghlbhijkhkgkaaW.PrintMore
set_option linter.unusedVariables false
/-- Blocks whose jumps stay among them. -/
structure GoodRows (bs : List S87) : Prop where
  one : 1 ≤ bs.length
  len : bs.length ≤ 8
  two : ∀ k, k < bs.length → (rd_T87 bs (k : Int)).f4.length ≤ 2
  stay : ∀ k, k < bs.length → ∀ c ∈ toL (rd_T87 bs (k : Int)), 0 ≤ c ∧ c < (bs.length : Int)
theorem rows_of_good {p : Int} {bs : List S87} (hg : goodB p bs = true) : GoodRows bs := by
  obtain ⟨_, hn, _⟩ := good_iff hg
  refine ⟨hn.1, hn.2, fun k hk => (good_at hg k hk).jumps, fun k hk c hc => ?_⟩
  obtain ⟨x, hx, rfl⟩ := List.mem_map.1 hc
  exact ((good_at hg k hk).jump x hx).1
theorem nextL_len (bs : List S87) : (nextL bs).length = bs.length := by simp [nextL]
section
variable {next : List (List Int)} {a but y : Int}
end
end Go.Proofs.Ytghlbhijkhkgkaa.PA
