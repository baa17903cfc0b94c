/- Parts of the walk. -/
import Derived.Test.YtghlbhijkhkgkaaAb2Vb
import Derived.StillTailTactics
import Derived.Outline
import Derived.IntWalk
section
/- The flow seat: what a view's methods tell, by hand: valuesOK, instOK, jumpOK, blockOK. -/
namespace Go.Proofs.Ytghlbhijkhkgkaa.PA
open Go.RowKit Go.Proofs.YtghlbhijkhkgkaaW.PrintWords Go.Proofs.YtghlbhijkhkgkaaW.PrintLast Go.Proofs.YtghlbhijkhkgkaaW.PrintMore
set_option linter.unusedVariables false
/-- A view in memory. -/
def View (w : World) (g : Nat) (p : Int) (A : Option Addr) (bs : List S87) (c : Nat) (fs bl : List Int) (tot : Int) : Prop :=
  ∃ A2 c2 A3 c3, w.heap[g]? = some (.cells #[.int .i64 p, .slice A bs.length c, .slice A2 fs.length c2, .slice A3 bl.length c3, .int .i64 tot] 56 (0, 0)) ∧ Kd.C k87 w A bs.length bs ∧ bs.length ≤ c ∧
    Kd.C (Kd.int .i64) w A2 fs.length fs ∧ fs.length ≤ c2 ∧ Kd.C (Kd.int .i64) w A3 bl.length bl ∧ bl.length ≤ c3
section
variable {w w1 : World} {g : Nat} {p : Int} {A : Option Addr} {bs : List S87} {c : Nat} {fs bl : List Int} {tot : Int}
theorem View.below (h : View w g p A bs c fs bl tot) (hb : Below w.heap.size w w1) : View w1 g p A bs c fs bl tot := by
  obtain ⟨A2, c2, A3, c3, hg, h1, h2, h3, h4, h5, h6⟩ := h
  exact ⟨A2, c2, A3, c3, blk_below hg hb, Kd.C_below h1 hb, h2, Kd.C_below h3 hb, h4, Kd.C_below h5 hb, h6⟩
theorem View.alloc (h : View w g p A bs c fs bl tot) (o : Obj) : View (w.alloc o) g p A bs c fs bl tot := h.below (below_alloc (Below.refl _ _) o)
theorem View.cell1 (h : View w g p A bs c fs bl tot) : w.cell? ⟨g, 1, none⟩ = some (.slice A bs.length c) := by obtain ⟨A2, c2, A3, c3, hg, _⟩ := h; exact (blk_cell hg 1).trans rfl
theorem View.cell3 (h : View w g p A bs c fs bl tot) : ∃ A3 c3, w.cell? ⟨g, 3, none⟩ = some (.slice A3 bl.length c3) ∧ Kd.C (Kd.int .i64) w A3 bl.length bl ∧ bl.length ≤ c3 := by obtain ⟨A2, c2, A3, c3, hg, h1, h2, h3, h4, h5, h6⟩ := h; exact ⟨A3, c3, (blk_cell hg 3).trans rfl, h5, h6⟩
theorem View.cell4 (h : View w g p A bs c fs bl tot) : w.cell? ⟨g, 4, none⟩ = some (.int .i64 tot) := by obtain ⟨A2, c2, A3, c3, hg, _⟩ := h; exact (blk_cell hg 4).trans rfl
theorem View.rows (h : View w g p A bs c fs bl tot) : Kd.C k87 w A bs.length bs ∧ bs.length ≤ c := by obtain ⟨A2, c2, A3, c3, hg, h1, h2, _⟩ := h; exact ⟨h1, h2⟩
theorem View.lt (h : View w g p A bs c fs bl tot) : g < w.heap.size := by obtain ⟨A2, c2, A3, c3, hg, _⟩ := h; exact blk_lt hg

theorem vals_closure (x : Int) (h : Nat) (W : World) (hv : View W g p A bs c fs bl tot) (ht : 0 ≤ tot ∧ tot ≤ 1000) (hh : W.cell? ⟨h, 0, none⟩ = some (.pointer (some ⟨g, 0, none⟩))) :
    Calls Try.prog 99 #[.int .i64 x, .pointer (some ⟨h, 0, none⟩)] W fun e W' => e = .returned (.bool (!(within x 0 (tot - 1)))) ∧ Below W.heap.size W W' := by
  have hc4 := hv.cell4
  have HV := Aside0.mk hv
  clear hv
  obtain ⟨ht0, ht1⟩ := ht
  go_enter Try.func99, Try.ntmps99
  go_wp2_with (go_at_call 100; refine (within_any _ _ _ _).mono ?_; rintro e w' ⟨rfl, rfl⟩)
  go_ret
  exact ⟨rfl, Below.refl _ _⟩
theorem valuesOK_any {A1 : Option Addr} {c1 : Nat} (l : List Int) (hv : View w g p A bs c fs bl tot) (ht : 0 ≤ tot ∧ tot ≤ 1000) (hr : Kd.C (Kd.int .i64) w A1 l.length l) :
    Calls Try.prog 57 #[.pointer (some ⟨g, 0, none⟩), .slice A1 l.length c1] w fun e w' => e = .returned (.bool (valsB tot l)) ∧ Below w.heap.size w w' := by
  have hcall := Aside0.mk (sl_ContainsFunc_int A1 c1 l 99 #[.pointer (some ⟨w.heap.size, 0, none⟩)] (fun x => !(within x 0 (tot - 1))) (w.alloc (.cells #[.pointer (some ⟨g, 0, none⟩)] 52)) (Kd.C_below hr (below_alloc (Below.refl _ _) _))
    (enters_fn Try.func99 (by kernel_rfl) (by kernel_rfl))
    (fun W hW x hx => vals_closure x _ W ((hv.alloc _).below hW) ht (by rw [hW.cell (by simp)]; simp)))
  clear hr hv ht
  go_enter Try.func57, Try.ntmps57
  go_wp2_with (go_at_call 98; refine (hcall.out).mono ?_; rintro e w' ⟨rfl, hb'⟩; have HB' := Aside0.mk hb'; clear hb' hcall)
  go_ret
  exact ⟨rfl, below_step (below_alloc (Below.refl _ _) _) HB'.out⟩
end
end Go.Proofs.Ytghlbhijkhkgkaa.PA
end
section
/- The flow seat: instOK by hand. -/
namespace Go.Proofs.Ytghlbhijkhkgkaa.PA
open Go.RowKit Go.Proofs.YtghlbhijkhkgkaaW.PrintWords Go.Proofs.YtghlbhijkhkgkaaW.PrintLast Go.Proofs.YtghlbhijkhkgkaaW.PrintMore
set_option linter.unusedVariables false
open Go in
theorem region_tail {P : Program} {id : Nat} {Q : Exit → Act → World → Prop} {a : Act} {w : World} {l : List Oper} (n : Nat) (hm : P.follows .mixedOrders = true) (hB : Region.lexTailB .any l.toArray n = true)
    (h : wpStill P l.toArray w.drew (fun a' => wpList P l.toArray Q (l.drop n) a' w.drew) (l.take n) a) : (Code.region id l.toArray true).wp P Q a w := wp_region_still_tail n hm hB h
section
variable {w w1 : World} {g : Nat} {p : Int} {A : Option Addr} {bs : List S87} {c : Nat} {fs bl : List Int} {tot : Int}
set_option maxHeartbeats 4000000 in
set_option maxRecDepth 100000 in
theorem instOK_any {A1 : Option Addr} {c1 : Nat} (op n : Int) (l : List Int) (hv : View w g p A bs c fs bl tot) (ht : 0 ≤ tot ∧ tot ≤ 1000) (hr : Kd.C (Kd.int .i64) w A1 l.length l) :
    Calls Try.prog 125 #[.pointer (some ⟨g, 0, none⟩), .agg #[.int .i64 op, .int .i64 n, .slice A1 l.length c1]] w fun e w' => e = .returned (.bool (instB tot op n l)) ∧ Below w.heap.size w w' := by
  have hmax := Kd.C_max hr
  have hcall := Aside0.mk (fun W (hW : Below w.heap.size w W) => valuesOK_any (A1 := A1) (c1 := c1) l (hv.below hW) ht (Kd.C_below hr hW))
  obtain ⟨vb, hvb⟩ : ∃ b, b = valsB tot l := ⟨_, rfl⟩
  rw [← hvb] at hcall
  obtain ⟨af, haf⟩ : ∃ a, a = argF op := ⟨_, rfl⟩
  have ha := argsOf_any op
  rw [← haf] at ha
  have HA := Aside0.mk ha
  have HE := Aside0.mk (show instB tot op n l = ((((l.length : Int) == af) && ((op == 1) || (n == 0))) && vb) by rw [instB, haf, hvb])
  clear hv ht hr ha haf hvb
  have HB := Aside0.mk (Below.refl w.heap.size w)
  rcases Bool.eq_false_or_eq_true ((l.length : Int) == af) with h1 | h1
  · rcases Bool.eq_false_or_eq_true (op == 1) with h2 | h2
    · have HE2 := Aside0.mk (show instB tot op n l = vb by rw [HE.out, h1, h2]; simp)
      go_enter Try.func125, Try.ntmps125
      go_wp2
      refine region_tail 21 (by kernel_rfl) (by kernel_rfl) ?_
      simp only [List.take_succ_cons, List.take_zero, List.drop_succ_cons, List.drop_zero]
      repeat (first | still_step | still_call ((HA.out _).mono (fun _ _ h => ⟨h.1, h.2.symm⟩)))
      refine wpStill_nil ?_
      go_wp2_with (go_at_call 57; refine (hcall.out _ (by repeat (first | exact HB.out | apply below_drew1 | apply below_alloc))).mono ?_; rintro e w' ⟨rfl, hb⟩; have HB' := Aside0.mk hb; clear hb hcall)
      go_ret
      exact ⟨by rw [HE2.out]; rfl, below_step (by repeat (first | exact HB.out | apply below_drew1 | apply below_alloc)) HB'.out⟩
    · rcases Bool.eq_false_or_eq_true (n == 0) with h3 | h3
      · have HE2 := Aside0.mk (show instB tot op n l = vb by rw [HE.out, h1, h2, h3]; simp)
        go_enter Try.func125, Try.ntmps125
        go_wp2
        refine region_tail 21 (by kernel_rfl) (by kernel_rfl) ?_
        simp only [List.take_succ_cons, List.take_zero, List.drop_succ_cons, List.drop_zero]
        repeat (first | still_step | still_call ((HA.out _).mono (fun _ _ h => ⟨h.1, h.2.symm⟩)))
        refine wpStill_nil ?_
        go_wp2_with (go_at_call 57; refine (hcall.out _ (by repeat (first | exact HB.out | apply below_drew1 | apply below_alloc))).mono ?_; rintro e w' ⟨rfl, hb⟩; have HB' := Aside0.mk hb; clear hb hcall)
        go_ret
        exact ⟨by rw [HE2.out]; rfl, below_step (by repeat (first | exact HB.out | apply below_drew1 | apply below_alloc)) HB'.out⟩
      · have HE2 := Aside0.mk (show instB tot op n l = false by rw [HE.out, h1, h2, h3]; simp)
        go_enter Try.func125, Try.ntmps125
        go_wp2
        go_quiet ((go_at_call 150; exact Calls.quiet_of_same ((HA.out _).mono (fun _ _ h => ⟨h.1, h.2.symm⟩))))
        go_wp2
        go_ret
        exact ⟨by rw [HE2.out]; rfl, by repeat (first | exact HB.out | apply pw_below_drewN | apply below_drew1 | apply below_alloc)⟩
  · have HE2 := Aside0.mk (show instB tot op n l = false by rw [HE.out, h1]; simp)
    go_enter Try.func125, Try.ntmps125
    go_wp2
    go_quiet ((go_at_call 150; exact Calls.quiet_of_same ((HA.out _).mono (fun _ _ h => ⟨h.1, h.2.symm⟩))))
    go_wp2
    go_ret
    exact ⟨by rw [HE2.out]; rfl, by repeat (first | exact HB.out | apply pw_below_drewN | apply below_drew1 | apply below_alloc)⟩
end
end Go.Proofs.Ytghlbhijkhkgkaa.PA
end
section
/- The flow seat: jumpOK by hand. -/
namespace Go.Proofs.Ytghlbhijkhkgkaa.PA
open Go.RowKit Go.Proofs.YtghlbhijkhkgkaaW.PrintWords Go.Proofs.YtghlbhijkhkgkaaW.PrintLast Go.Proofs.YtghlbhijkhkgkaaW.PrintMore
set_option linter.unusedVariables false
section
variable {w w1 : World} {g : Nat} {p : Int} {A : Option Addr} {bs : List S87} {c : Nat} {fs bl : List Int} {tot : Int}
set_option maxHeartbeats 4000000 in
set_option maxRecDepth 100000 in
theorem jumpOK_any {A1 : Option Addr} {c1 : Nat} (tj : Int) (l : List Int) (hv : View w g p A bs c fs bl tot) (ht : 0 ≤ tot ∧ tot ≤ 1000) (hr : Kd.C (Kd.int .i64) w A1 l.length l) :
    Calls Try.prog 128 #[.pointer (some ⟨g, 0, none⟩), .agg #[.int .i64 tj, .slice A1 l.length c1]] w fun e w' => e = .returned (.bool (jumpB tot bs tj l)) ∧ Below w.heap.size w w' := by
  have hmax := Kd.C_max hr
  have hmaxb := Kd.C_max hv.rows.1
  have hcall := Aside0.mk (fun W (hW : Below w.heap.size w W) => valuesOK_any (A1 := A1) (c1 := c1) l (hv.below hW) ht (Kd.C_below hr hW))
  obtain ⟨vb, hvb⟩ : ∃ b, b = valsB tot l := ⟨_, rfl⟩
  rw [← hvb] at hcall
  have HB := Aside0.mk (Below.refl w.heap.size w)
  have hc1 := hv.cell1
  have hlt := hv.lt
  have hwr : IntKind.i64.wrap ((bs.length : Int) - 1) = (bs.length : Int) - 1 := IntWalk.i64_in _ (by omega)
  have HMB := Aside0.mk hmaxb
  have HW := Aside0.mk hwr
  clear hwr hmaxb
  have HR := Aside0.mk hv.rows
  clear hv ht hr
  rcases Bool.eq_false_or_eq_true (within tj 0 ((bs.length : Int) - 1)) with h1 | h1
  · have hw : ∀ w, Calls Try.prog 100 #[.int .i64 tj, .int .i64 0, .int .i64 ((bs.length : Int) - 1)] w fun e w' => e = .returned (.bool true) ∧ w = w' := fun w => by rw [← h1]; exact within_any _ _ _ _
    have HA := Aside0.mk hw
    have H1 := Aside0.mk h1
    simp only [within, Bool.and_eq_true, decide_eq_true_eq] at h1
    have q1 : tj < (bs.length : Int) := by have := HMB.out; omega
    obtain ⟨ad, B1, d1, B4, d4, e, hx0, hx1, hx2, hx3, hx4, _, _, _, _⟩ := at_T87 HR.out.1 tj h1.1 q1
    cases e
    have hltA := World.block_lt_of_cell? w _ hx0
    have p0 := eq_true h1.1
    have q0 := eq_true q1
    clear hw h1 q1 hx1 hx2 hx3 hx4
    obtain ⟨pr, hpr⟩ : ∃ x, x = (rd_T87 bs tj).f0 := ⟨_, rfl⟩
    rw [← hpr] at hx0
    have HE := Aside0.mk (show jumpB tot bs tj l = (((l.length : Int) == pr) && vb) by rw [jumpB, H1.out, hpr, hvb]; simp)
    clear hpr hvb
    rcases Bool.eq_false_or_eq_true ((l.length : Int) == pr) with h2 | h2
    · have HE2 := Aside0.mk (show jumpB tot bs tj l = vb by rw [HE.out, h2]; simp)
      have hwr := HW.out
      go_enter Try.func128, Try.ntmps128
      go_wp2
      refine region_tail 30 (by kernel_rfl) (by kernel_rfl) ?_
      simp only [List.take_succ_cons, List.take_zero, List.drop_succ_cons, List.drop_zero]
      repeat (first | still_step | still_call ((HA.out _).mono (fun _ _ h => ⟨h.1, h.2.symm⟩)))
      refine wpStill_nil ?_
      go_wp2_with (go_at_call 57; refine (hcall.out _ (by repeat (first | exact HB.out | apply below_drew1 | apply below_alloc))).mono ?_; rintro e w' ⟨rfl, hb⟩; have HB' := Aside0.mk hb; clear hb hcall)
      go_ret
      exact ⟨by rw [HE2.out]; rfl, below_step (by repeat (first | exact HB.out | apply below_drew1 | apply below_alloc)) HB'.out⟩
    · have HE2 := Aside0.mk (show jumpB tot bs tj l = false by rw [HE.out, h2]; simp)
      have hwr := HW.out
      go_enter Try.func128, Try.ntmps128
      go_wp2
      go_quiet ((go_at_call 100; exact Calls.quiet_of_same ((HA.out _).mono (fun _ _ h => ⟨h.1, h.2.symm⟩))))
      go_wp2
      go_ret
      exact ⟨by rw [HE2.out]; rfl, by repeat (first | exact HB.out | apply pw_below_drewN | apply below_drew1 | apply below_alloc)⟩
  · have hw : ∀ w, Calls Try.prog 100 #[.int .i64 tj, .int .i64 0, .int .i64 ((bs.length : Int) - 1)] w fun e w' => e = .returned (.bool false) ∧ w = w' := fun w => by rw [← h1]; exact within_any _ _ _ _
    have HA := Aside0.mk hw
    have HE2 := Aside0.mk (show jumpB tot bs tj l = false by rw [jumpB, h1]; simp)
    clear hw h1 hvb
    have hwr := HW.out
    go_enter Try.func128, Try.ntmps128
    go_wp2
    go_quiet ((go_at_call 100; exact Calls.quiet_of_same ((HA.out _).mono (fun _ _ h => ⟨h.1, h.2.symm⟩))))
    go_wp2
    go_ret
    exact ⟨by rw [HE2.out]; rfl, by repeat (first | exact HB.out | apply pw_below_drewN | apply below_drew1 | apply below_alloc)⟩
end
end Go.Proofs.Ytghlbhijkhkgkaa.PA
end
