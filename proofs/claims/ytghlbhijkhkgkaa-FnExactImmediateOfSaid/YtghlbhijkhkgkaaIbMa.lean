/- The flow seat: marking, by hand: what a call that writes numbers into rows of its own leaves as it was. -/
import Derived.Test.YtghlbhijkhkgkaaIbVp
namespace Go.Proofs.Ytghlbhijkhkgkaa.PA
open Go.RowKit Go.Proofs.YtghlbhijkhkgkaaW.PrintWords Go.Proofs.YtghlbhijkhkgkaaW.PrintLast Go.Proofs.YtghlbhijkhkgkaaW.PrintMore
set_option linter.unusedVariables false
/-- The cells of a block of a type that marking leaves. -/
def heldAt (t : TypeId) (j : Nat) : Bool := if t = 3 then false else if t = 89 then j % 3 == 2 else if t = 109 then j % 2 == 1 else if t = 87 then (j % 5 == 1 || j % 5 == 4) else true
/-- A world that is marked within the blocks of S. -/
structure Mk (S : Nat → Prop) (w W : World) : Prop where
  os : W.os = w.os
  tape : W.tape = w.tape
  output : W.output = w.output
  size : W.heap.size = w.heap.size
  far : ∀ k, ¬ S k → W.heap[k]? = w.heap[k]?
  near : ∀ (k : Nat) (cs : Array Value) (t : TypeId), w.heap[k]? = some (.cells cs t (0, 0)) → ∃ cs' : Array Value, W.heap[k]? = some (.cells cs' t (0, 0)) ∧ cs'.size = cs.size ∧ ∀ j : Nat, heldAt t j = true → cs'[j]? = cs[j]?
section
variable {S : Nat → Prop} {w W : World} {base e n c g i : Nat} {ok : Nat → Prop} {A : Option Addr} {cs : Array Value}
theorem Mk.below {B : Nat} (h : Mk S w W) (hB : ∀ k, S k → B ≤ k) : Below B w W := ⟨h.os, h.tape, h.output, by rw [h.size]; exact Nat.le_refl _, fun k hk => h.far k (fun hs => by have := hB k hs; omega)⟩
theorem Mk.cell {t : TypeId} (h : Mk S w W) (hb : w.heap[g]? = some (.cells cs t (0, 0))) {j : Nat} (hj : heldAt t j = true) {v : Value} (hv : cs[j]? = some v) : W.cell? ⟨g, j, none⟩ = some v := by
  obtain ⟨cs2, h1, h2, h3⟩ := h.near g cs t hb
  rw [blk_cell h1 j, h3 j hj, hv]
end
end Go.Proofs.Ytghlbhijkhkgkaa.PA
