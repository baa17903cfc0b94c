/- The graph seat: helpers of InstOf's law: a list of whole numbers of one's own. -/
import Derived.Test.YtlnejmlphkpaaaaIqIk
import Derived.Test.YtlnejmlphkpaaaaIqJf
import Derived.Test.YtlnejmlphkpaaaaIqJg
namespace Go.Proofs.Ytlnejmlphkpaaaa.PA
open Go.RowKit Go.Proofs.YtlnejmlphkpaaaaW.PrintWords Go.Proofs.YtlnejmlphkpaaaaW.PrintLast Go.Proofs.YtlnejmlphkpaaaaW.PrintMore
set_option linter.unusedVariables false
set_option linter.unusedSimpArgs false
theorem toI_any {A : Option Addr} {c : Nat} {l : List Int} (h : l.length ≤ 1048576) (W : World) (h0 : Kd.C (Kd.int .i64) W A l.length l) (l0 : l.length ≤ c) :
  Calls Try.prog 51 #[.slice A l.length c] W fun e w' => ∃ v : Value, e = .returned v ∧ Kd.R (Kd.int .i64) 3 w' W.heap.size (fun _ => True) v l ∧ Below W.heap.size W w' := by
 obtain ⟨k, hk⟩ := Ev.rounds (toI_f l h)
 exact laws_toIntS.calls k A c l _ W h0 l0 hk
def IC (W : World) (v : Value) (l : List Int) : Prop := ∃ A c, v = .slice A l.length c ∧ Kd.C (Kd.int .i64) W A l.length l ∧ l.length ≤ c
def LI (w : World) (m n : Nat) (u : Value) (l : List Int) (W : World) : Prop := Kd.R (Kd.int .i64) 3 W w.heap.size (fun k => m ≤ k ∧ k < n) u l
section
variable {w W W1 : World} {m n : Nat} {u : Value} {l : List Int} {S : Nat → Prop}
theorem LI.below (h : LI w m n u l W) (hb : Below W.heap.size W W1) : LI w m n u l W1 := Kd.R_below h hb
theorem LI.kept (h : LI w m n u l W) (hk : Kept W W1 S) (hS : ∀ k, m ≤ k → k < n → ¬ S k) : LI w m n u l W1 := Kd.R_kept h hk (fun k h => hS k h.1 h.2)
theorem LI.mk_ {w0 : World} (hr : Kd.R (Kd.int .i64) 3 W w0.heap.size (fun _ => True) u l) (hw : w.heap.size ≤ w0.heap.size) : LI w w0.heap.size W.heap.size u l W := Kd.R_lower (Kd.R_mono (Kd.R_bound hr) (fun k hk => ⟨hk.2.1, hk.2.2.1⟩)) hw
end
end Go.Proofs.Ytlnejmlphkpaaaa.PA
