/- The flow seat: the reference's ReachedBlocks in plain words. -/
import Derived.Test.YtghlbhijkhkgkaaRbMm
import Derived.Test.YtghlbhijkhkgkaaRbPAz4
namespace Go.Proofs.Ytghlbhijkhkgkaa.PA
open Go.RowKit Go.Proofs.YtghlbhijkhkgkaaW.PrintWords Go.Proofs.YtghlbhijkhkgkaaW.PrintLast Go.Proofs.YtghlbhijkhkgkaaW.PrintMore
set_option linter.unusedVariables false
theorem specReachedBlocks_f (p : Int) (bs : List S87) : spec_ReachedBlocks.f p bs = some (ansReachedBlocks p bs) := by
  unfold spec_ReachedBlocks.f spec_GoodFunc.f ansReachedBlocks
  cases hg : goodB p bs with
  | false => rfl
  | true =>
    have hgr := rows_of_good hg
    rw [spec_l13From.is hgr p 0 (-1) ⟨Int.le_refl _, by have := hgr.one; omega⟩]
    rfl
theorem specReachedBlocks_any {A : Option Addr} {c : Nat} (p : Int) (bs : List S87) (w : World) (hr : Kd.C k87 w A bs.length bs) (hc : bs.length ≤ c) :
    Calls Try.prog 31 #[.agg #[.int .i64 p, .slice A bs.length c]] w fun e w' => ∃ v0 : Value, e = .returned (.tuple #[v0, .bool (ansReachedBlocks p bs).2]) ∧ (Kd.int .i64).R 3 w' w.heap.size (fun _ => True) v0 (ansReachedBlocks p bs).1 ∧ Below w.heap.size w w' :=
  spec_ReachedBlocks.calls p A c bs _ _ w hr hc (specReachedBlocks_f p bs)
theorem ansReachedBlocks_len (p : Int) (bs : List S87) : (ansReachedBlocks p bs).1.length ≤ 1000 := by
  unfold ansReachedBlocks
  split
  · rename_i hg
    have := fromL_len (nextL bs) 0 (-1)
    have h2 := (rows_of_good hg).len
    rw [nextL_len] at this
    show (fromL (nextL bs) 0 (-1)).length ≤ 1000
    omega
  · simp
end Go.Proofs.Ytghlbhijkhkgkaa.PA
