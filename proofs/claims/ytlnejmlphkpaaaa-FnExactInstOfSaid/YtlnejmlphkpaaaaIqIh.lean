/- The graph seat: impl.AddTerm by hand (printed by gen/mkih.py). -/
import Derived.Test.YtlnejmlphkpaaaaIqIg
import Derived.Test.YtlnejmlphkpaaaaIqGt
import Derived.Test.YtlnejmlphkpaaaaIqGh
namespace Go.Proofs.Ytlnejmlphkpaaaa.PA
open Go.RowKit Go.Proofs.YtlnejmlphkpaaaaW.PrintWords Go.Proofs.YtlnejmlphkpaaaaW.PrintLast Go.Proofs.YtlnejmlphkpaaaaW.PrintMore
set_option linter.unusedVariables false
set_option linter.unusedSimpArgs false
theorem gp_new {w8 w9 w11 : World} {nodes : List S36} {parts : List Int} {v0 v1 : Value} {g : Nat} (hs : Kd.S k36 36 w9 w8.heap.size (fun k => some k ≠ v1.ownBlock) v0 nodes) (hr : (Kd.int .i64).R 3 w9 w8.heap.size (fun _ => True) v1 parts) (hb : Below w8.heap.size w8 w9) (hb2 : Below w9.heap.size w9 w11) (hg : w9.heap.size ≤ g) (hh : w11.heap[g]? = some (.cells #[v0, v1] 32 (0, 0))) :
  GP w8 (fun k => if k < w8.heap.size then 0 else if k = g then 4 else if some k = v1.ownBlock then 2 else 1) g (nodes, parts) w11 ∧ ∀ k, k < w8.heap.size → ¬ Chg (fun k => if k < w8.heap.size then 0 else if k = g then 4 else if some k = v1.ownBlock then 2 else 1) k := by
 have hz := hb.size
 refine ⟨⟨hb.trans (hb2.mono hz), by omega, ?_, v0, v1, hh, ?_, ?_⟩, fun k hk hc => ?_⟩
 ·show (if g < w8.heap.size then 0 else if g = g then 4 else _) = 4
  rw [if_neg (by omega), if_pos rfl]
 ·refine Kd.S_below (Kd.S_mono (Kd.S_bound hs) (fun k hk => ?_)) hb2
  show (if k < w8.heap.size then 0 else if k = g then 4 else if some k = v1.ownBlock then 2 else 1) = 1
  rw [if_neg (by have := hk.2.1; omega), if_neg (by have := hk.2.2.1; omega), if_neg hk.1]
 ·refine Kd.R_below (Kd.R_mono (Kd.R_tight rfl (Kd.R_bound hr)) (fun k hk => ?_)) hb2
  have h1 := (Kd.R_bound hr).1 k hk.symm
  show (if k < w8.heap.size then 0 else if k = g then 4 else if some k = v1.ownBlock then 2 else 1) = 2
  rw [if_neg (by have := h1.2.1; omega), if_neg (by have := h1.2.2.1; omega), if_pos hk]
 ·have e : (fun k => if k < w8.heap.size then 0 else if k = g then 4 else if some k = v1.ownBlock then 2 else 1) k = 0 := if_pos hk
  unfold Chg at hc
  rw [e] at hc
  omega
end Go.Proofs.Ytlnejmlphkpaaaa.PA
