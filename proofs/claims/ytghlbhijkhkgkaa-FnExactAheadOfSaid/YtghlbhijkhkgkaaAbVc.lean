/- The flow seat: what a view's methods tell, by hand: valuesOK, instOK, jumpOK, blockOK. -/
import Derived.Test.YtghlbhijkhkgkaaAbVb
namespace Go.Proofs.Ytghlbhijkhkgkaa.PA
open Go.RowKit Go.Proofs.YtghlbhijkhkgkaaW.PrintWords Go.Proofs.YtghlbhijkhkgkaaW.PrintLast Go.Proofs.YtghlbhijkhkgkaaW.PrintMore
set_option linter.unusedVariables false
/-- A view in memory. -/
def View (w : World) (g : Nat) (p : Int) (A : Option Addr) (bs : List S87) (c : Nat) (fs bl : List Int) (tot : Int) : Prop :=
  ∃ A2 c2 A3 c3, w.heap[g]? = some (.cells #[.int .i64 p, .slice A bs.length c, .slice A2 fs.length c2, .slice A3 bl.length c3, .int .i64 tot] 56 (0, 0)) ∧ Kd.C k87 w A bs.length bs ∧ bs.length ≤ c ∧
    Kd.C (Kd.int .i64) w A2 fs.length fs ∧ fs.length ≤ c2 ∧ Kd.C (Kd.int .i64) w A3 bl.length bl ∧ bl.length ≤ c3
section
variable {w w1 : World} {g : Nat} {p : Int} {A : Option Addr} {bs : List S87} {c : Nat} {fs bl : List Int} {tot : Int}
theorem View.below (h : View w g p A bs c fs bl tot) (hb : Below w.heap.size w w1) : View w1 g p A bs c fs bl tot := by
  obtain ⟨A2, c2, A3, c3, hg, h1, h2, h3, h4, h5, h6⟩ := h
  exact ⟨A2, c2, A3, c3, blk_below hg hb, Kd.C_below h1 hb, h2, Kd.C_below h3 hb, h4, Kd.C_below h5 hb, h6⟩
theorem View.alloc (h : View w g p A bs c fs bl tot) (o : Obj) : View (w.alloc o) g p A bs c fs bl tot := h.below (below_alloc (Below.refl _ _) o)
theorem View.cell1 (h : View w g p A bs c fs bl tot) : w.cell? ⟨g, 1, none⟩ = some (.slice A bs.length c) := by obtain ⟨A2, c2, A3, c3, hg, _⟩ := h; exact (blk_cell hg 1).trans rfl
theorem View.cell4 (h : View w g p A bs c fs bl tot) : w.cell? ⟨g, 4, none⟩ = some (.int .i64 tot) := by obtain ⟨A2, c2, A3, c3, hg, _⟩ := h; exact (blk_cell hg 4).trans rfl
theorem View.rows (h : View w g p A bs c fs bl tot) : Kd.C k87 w A bs.length bs ∧ bs.length ≤ c := by obtain ⟨A2, c2, A3, c3, hg, h1, h2, _⟩ := h; exact ⟨h1, h2⟩
theorem View.lt (h : View w g p A bs c fs bl tot) : g < w.heap.size := by obtain ⟨A2, c2, A3, c3, hg, _⟩ := h; exact blk_lt hg

theorem vals_closure (x : Int) (h : Nat) (W : World) (hv : View W g p A bs c fs bl tot) (ht : 0 ≤ tot ∧ tot ≤ 1000) (hh : W.cell? ⟨h, 0, none⟩ = some (.pointer (some ⟨g, 0, none⟩))) :
    Calls Try.prog 99 #[.int .i64 x, .pointer (some ⟨h, 0, none⟩)] W fun e W' => e = .returned (.bool (!(within x 0 (tot - 1)))) ∧ Below W.heap.size W W' := by
  have hc4 := hv.cell4
  have HV := Aside0.mk hv
  clear hv
  obtain ⟨ht0, ht1⟩ := ht
  go_enter Try.func99, Try.ntmps99
  go_wp2_with (go_at_call 100; refine (within_any _ _ _ _).mono ?_; rintro e w' ⟨rfl, rfl⟩)
  go_ret
  exact ⟨rfl, Below.refl _ _⟩
theorem valuesOK_any {A1 : Option Addr} {c1 : Nat} (l : List Int) (hv : View w g p A bs c fs bl tot) (ht : 0 ≤ tot ∧ tot ≤ 1000) (hr : Kd.C (Kd.int .i64) w A1 l.length l) :
    Calls Try.prog 57 #[.pointer (some ⟨g, 0, none⟩), .slice A1 l.length c1] w fun e w' => e = .returned (.bool (valsB tot l)) ∧ Below w.heap.size w w' := by
  have hcall := Aside0.mk (sl_ContainsFunc_int A1 c1 l 99 #[.pointer (some ⟨w.heap.size, 0, none⟩)] (fun x => !(within x 0 (tot - 1))) (w.alloc (.cells #[.pointer (some ⟨g, 0, none⟩)] 52)) (Kd.C_below hr (below_alloc (Below.refl _ _) _))
    (enters_fn Try.func99 (by kernel_rfl) (by kernel_rfl))
    (fun W hW x hx => vals_closure x _ W ((hv.alloc _).below hW) ht (by rw [hW.cell (by simp)]; simp)))
  clear hr hv ht
  go_enter Try.func57, Try.ntmps57
  go_wp2_with (go_at_call 98; refine (hcall.out).mono ?_; rintro e w' ⟨rfl, hb'⟩; have HB' := Aside0.mk hb'; clear hb' hcall)
  go_ret
  exact ⟨rfl, below_step (below_alloc (Below.refl _ _) _) HB'.out⟩
end
end Go.Proofs.Ytghlbhijkhkgkaa.PA
