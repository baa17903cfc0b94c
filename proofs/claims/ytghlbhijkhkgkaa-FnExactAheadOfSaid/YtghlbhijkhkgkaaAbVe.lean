/- The flow seat: jumpOK by hand. -/
import Derived.Test.YtghlbhijkhkgkaaAbVd
import Derived.IntWalk
namespace Go.Proofs.Ytghlbhijkhkgkaa.PA
open Go.RowKit Go.Proofs.YtghlbhijkhkgkaaW.PrintWords Go.Proofs.YtghlbhijkhkgkaaW.PrintLast Go.Proofs.YtghlbhijkhkgkaaW.PrintMore
set_option linter.unusedVariables false
section
variable {w w1 : World} {g : Nat} {p : Int} {A : Option Addr} {bs : List S87} {c : Nat} {fs bl : List Int} {tot : Int}
set_option maxHeartbeats 4000000 in
set_option maxRecDepth 100000 in
theorem jumpOK_any {A1 : Option Addr} {c1 : Nat} (tj : Int) (l : List Int) (hv : View w g p A bs c fs bl tot) (ht : 0 ≤ tot ∧ tot ≤ 1000) (hr : Kd.C (Kd.int .i64) w A1 l.length l) :
    Calls Try.prog 128 #[.pointer (some ⟨g, 0, none⟩), .agg #[.int .i64 tj, .slice A1 l.length c1]] w fun e w' => e = .returned (.bool (jumpB tot bs tj l)) ∧ Below w.heap.size w w' := by
  have hmax := Kd.C_max hr
  have hmaxb := Kd.C_max hv.rows.1
  have hcall := Aside0.mk (fun W (hW : Below w.heap.size w W) => valuesOK_any (A1 := A1) (c1 := c1) l (hv.below hW) ht (Kd.C_below hr hW))
  obtain ⟨vb, hvb⟩ : ∃ b, b = valsB tot l := ⟨_, rfl⟩
  rw [← hvb] at hcall
  have HB := Aside0.mk (Below.refl w.heap.size w)
  have hc1 := hv.cell1
  have hlt := hv.lt
  have hwr : IntKind.i64.wrap ((bs.length : Int) - 1) = (bs.length : Int) - 1 := IntWalk.i64_in _ (by omega)
  have HMB := Aside0.mk hmaxb
  have HW := Aside0.mk hwr
  clear hwr hmaxb
  have HR := Aside0.mk hv.rows
  clear hv ht hr
  rcases Bool.eq_false_or_eq_true (within tj 0 ((bs.length : Int) - 1)) with h1 | h1
  · have hw : ∀ w, Calls Try.prog 100 #[.int .i64 tj, .int .i64 0, .int .i64 ((bs.length : Int) - 1)] w fun e w' => e = .returned (.bool true) ∧ w = w' := fun w => by rw [← h1]; exact within_any _ _ _ _
    have HA := Aside0.mk hw
    have H1 := Aside0.mk h1
    simp only [within, Bool.and_eq_true, decide_eq_true_eq] at h1
    have q1 : tj < (bs.length : Int) := by have := HMB.out; omega
    obtain ⟨ad, B1, d1, B4, d4, e, hx0, hx1, hx2, hx3, hx4, _, _, _, _⟩ := at_T87 HR.out.1 tj h1.1 q1
    cases e
    have hltA := World.block_lt_of_cell? w _ hx0
    have p0 := eq_true h1.1
    have q0 := eq_true q1
    clear hw h1 q1 hx1 hx2 hx3 hx4
    obtain ⟨pr, hpr⟩ : ∃ x, x = (rd_T87 bs tj).f0 := ⟨_, rfl⟩
    rw [← hpr] at hx0
    have HE := Aside0.mk (show jumpB tot bs tj l = (((l.length : Int) == pr) && vb) by rw [jumpB, H1.out, hpr, hvb]; simp)
    clear hpr hvb
    rcases Bool.eq_false_or_eq_true ((l.length : Int) == pr) with h2 | h2
    · have HE2 := Aside0.mk (show jumpB tot bs tj l = vb by rw [HE.out, h2]; simp)
      have hwr := HW.out
      go_enter Try.func128, Try.ntmps128
      go_wp2
      refine region_tail 30 (by kernel_rfl) (by kernel_rfl) ?_
      simp only [List.take_succ_cons, List.take_zero, List.drop_succ_cons, List.drop_zero]
      repeat (first | still_step | still_call ((HA.out _).mono (fun _ _ h => ⟨h.1, h.2.symm⟩)))
      refine wpStill_nil ?_
      go_wp2_with (go_at_call 57; refine (hcall.out _ (by repeat (first | exact HB.out | apply below_drew1 | apply below_alloc))).mono ?_; rintro e w' ⟨rfl, hb⟩; have HB' := Aside0.mk hb; clear hb hcall)
      go_ret
      exact ⟨by rw [HE2.out]; rfl, below_step (by repeat (first | exact HB.out | apply below_drew1 | apply below_alloc)) HB'.out⟩
    · have HE2 := Aside0.mk (show jumpB tot bs tj l = false by rw [HE.out, h2]; simp)
      have hwr := HW.out
      go_enter Try.func128, Try.ntmps128
      go_wp2
      go_quiet ((go_at_call 100; exact Calls.quiet_of_same ((HA.out _).mono (fun _ _ h => ⟨h.1, h.2.symm⟩))))
      go_wp2
      go_ret
      exact ⟨by rw [HE2.out]; rfl, by repeat (first | exact HB.out | apply pw_below_drewN | apply below_drew1 | apply below_alloc)⟩
  · have hw : ∀ w, Calls Try.prog 100 #[.int .i64 tj, .int .i64 0, .int .i64 ((bs.length : Int) - 1)] w fun e w' => e = .returned (.bool false) ∧ w = w' := fun w => by rw [← h1]; exact within_any _ _ _ _
    have HA := Aside0.mk hw
    have HE2 := Aside0.mk (show jumpB tot bs tj l = false by rw [jumpB, h1]; simp)
    clear hw h1 hvb
    have hwr := HW.out
    go_enter Try.func128, Try.ntmps128
    go_wp2
    go_quiet ((go_at_call 100; exact Calls.quiet_of_same ((HA.out _).mono (fun _ _ h => ⟨h.1, h.2.symm⟩))))
    go_wp2
    go_ret
    exact ⟨by rw [HE2.out]; rfl, by repeat (first | exact HB.out | apply pw_below_drewN | apply below_drew1 | apply below_alloc)⟩
end
end Go.Proofs.Ytghlbhijkhkgkaa.PA
