/- The flow seat: what all walks of laws of lists share. -/
import Derived.Test.YtghlbhijkhkgkaaNbMf
namespace Go.Proofs.Ytghlbhijkhkgkaa.PA
open Go.RowKit Go.Proofs.YtghlbhijkhkgkaaW.PrintWords Go.Proofs.YtghlbhijkhkgkaaW.PrintLast Go.Proofs.YtghlbhijkhkgkaaW.PrintMore
set_option linter.unusedVariables false
theorem toFunc_calls (p : Int) (bs : List S95) (hs : Small bs) {A : Option Addr} {c : Nat} (W : World) (hr : Kd.C k95 W A bs.length bs) (hc : bs.length ≤ c) :
    Calls Try.prog 18 #[.agg #[.int .i64 p, .slice A bs.length c]] W fun e w' => ∃ A1 c1, e = .returned (.agg #[.int .i64 p, .slice A1 (bs.map cB).length c1]) ∧ (bs.map cB).length ≤ c1 ∧ Kd.R k87 87 w' W.heap.size (fun _ => True) (.slice A1 (bs.map cB).length c1) (bs.map cB) ∧ Below W.heap.size W w' := by
  obtain ⟨k, hk⟩ := Ev.rounds (toFunc_any p bs hs)
  refine (laws_toFunc.calls k p A c bs p (bs.map cB) W hr hc hk).mono fun e w' h => ?_
  obtain ⟨v1, rfl, hR, hb⟩ := h
  obtain ⟨A1, c1, rfl, hl, _⟩ := Kd.R_reads hR
  exact ⟨A1, c1, rfl, hl, hR, hb⟩
/-- What stands throughout the walk: the boxed argument and the reference's answer. -/
structure QW (w W : World) (p : Int) (A : Option Addr) (n c : Nat) (l : List Int) (A6 : Option Addr) (d6 n3 : Nat) : Prop where
  hb : Below w.heap.size w W
  k0 : W.cell? ⟨w.heap.size, 0, none⟩ = some (.int .i64 p)
  k1 : W.cell? ⟨w.heap.size, 1, none⟩ = some (.slice A n c)
  v6 : (Kd.int .i64).R 3 W w.heap.size (fun k => k < n3) (.slice A6 l.length d6) l
section
variable {w W W1 : World} {p : Int} {A : Option Addr} {n c : Nat} {l : List Int} {A6 : Option Addr} {d6 n3 : Nat} {S : Nat → Prop}
theorem QW.below (h : QW w W p A n c l A6 d6 n3) (hb : Below W.heap.size W W1) : QW w W1 p A n c l A6 d6 n3 := ⟨below_step h.hb hb, pw_cell_below hb h.k0, pw_cell_below hb h.k1, Kd.R_below h.v6 hb⟩
theorem QW.kept (h : QW w W p A n c l A6 d6 n3) (hb : Below w.heap.size w W1) (hk : Kept W W1 S) (hS : ∀ k, k < n3 → ¬ S k) (hw : w.heap.size < n3) : QW w W1 p A n c l A6 d6 n3 := ⟨hb, cell_kept h.k0 hk (hS _ hw), cell_kept h.k1 hk (hS _ hw), Kd.R_kept h.v6 hk hS⟩
theorem eqInt_b {A A' : Option Addr} {c c' : Nat} (hl : l.length ≤ 1000) (h1 : (Kd.int .i64).C W A l.length l) (h2 : l.length ≤ c) (h3 : (Kd.int .i64).C W A' l.length l) (h4 : l.length ≤ c') :
    Calls Try.prog 25 #[.slice A l.length c, .slice A' l.length c'] W fun e w' => e = .returned (.bool true) ∧ Below W.heap.size W w' :=
  (eqInt_any l hl h1 h2 h3 h4).mono fun e w' h => ⟨h.1, by obtain ⟨m, rfl⟩ := h.2; exact pw_below_drewN (Below.refl _ _) m⟩
theorem held_b {A : Option Addr} {c : Nat} (n : Nat) (hn : n ≤ 1000) (hr : (Kd.int .i64).C W A n (marksL n)) (hc : n ≤ c) : Calls Try.prog 28 #[.slice A n c, .int .i64 1] W fun e w' => e = .returned (.int .i64 (1 + (n : Int))) ∧ Below W.heap.size W w' :=
  (held_any n hn hr hc).mono fun e w' h => ⟨h.1, by obtain ⟨m, rfl⟩ := h.2; exact pw_below_drewN (Below.refl _ _) m⟩
end
end Go.Proofs.Ytghlbhijkhkgkaa.PA
