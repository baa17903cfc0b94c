/- The flow seat: instOK by hand. -/
import Derived.Test.YtghlbhijkhkgkaaAbVc
import Derived.StillTailTactics
import Derived.Outline
namespace Go.Proofs.Ytghlbhijkhkgkaa.PA
open Go.RowKit Go.Proofs.YtghlbhijkhkgkaaW.PrintWords Go.Proofs.YtghlbhijkhkgkaaW.PrintLast Go.Proofs.YtghlbhijkhkgkaaW.PrintMore
set_option linter.unusedVariables false
open Go in
theorem region_tail {P : Program} {id : Nat} {Q : Exit → Act → World → Prop} {a : Act} {w : World} {l : List Oper} (n : Nat) (hm : P.follows .mixedOrders = true) (hB : Region.lexTailB .any l.toArray n = true)
    (h : wpStill P l.toArray w.drew (fun a' => wpList P l.toArray Q (l.drop n) a' w.drew) (l.take n) a) : (Code.region id l.toArray true).wp P Q a w := wp_region_still_tail n hm hB h
section
variable {w w1 : World} {g : Nat} {p : Int} {A : Option Addr} {bs : List S87} {c : Nat} {fs bl : List Int} {tot : Int}
set_option maxHeartbeats 4000000 in
set_option maxRecDepth 100000 in
theorem instOK_any {A1 : Option Addr} {c1 : Nat} (op n : Int) (l : List Int) (hv : View w g p A bs c fs bl tot) (ht : 0 ≤ tot ∧ tot ≤ 1000) (hr : Kd.C (Kd.int .i64) w A1 l.length l) :
    Calls Try.prog 125 #[.pointer (some ⟨g, 0, none⟩), .agg #[.int .i64 op, .int .i64 n, .slice A1 l.length c1]] w fun e w' => e = .returned (.bool (instB tot op n l)) ∧ Below w.heap.size w w' := by
  have hmax := Kd.C_max hr
  have hcall := Aside0.mk (fun W (hW : Below w.heap.size w W) => valuesOK_any (A1 := A1) (c1 := c1) l (hv.below hW) ht (Kd.C_below hr hW))
  obtain ⟨vb, hvb⟩ : ∃ b, b = valsB tot l := ⟨_, rfl⟩
  rw [← hvb] at hcall
  obtain ⟨af, haf⟩ : ∃ a, a = argF op := ⟨_, rfl⟩
  have ha := argsOf_any op
  rw [← haf] at ha
  have HA := Aside0.mk ha
  have HE := Aside0.mk (show instB tot op n l = ((((l.length : Int) == af) && ((op == 1) || (n == 0))) && vb) by rw [instB, haf, hvb])
  clear hv ht hr ha haf hvb
  have HB := Aside0.mk (Below.refl w.heap.size w)
  rcases Bool.eq_false_or_eq_true ((l.length : Int) == af) with h1 | h1
  · rcases Bool.eq_false_or_eq_true (op == 1) with h2 | h2
    · have HE2 := Aside0.mk (show instB tot op n l = vb by rw [HE.out, h1, h2]; simp)
      go_enter Try.func125, Try.ntmps125
      go_wp2
      refine region_tail 21 (by kernel_rfl) (by kernel_rfl) ?_
      simp only [List.take_succ_cons, List.take_zero, List.drop_succ_cons, List.drop_zero]
      repeat (first | still_step | still_call ((HA.out _).mono (fun _ _ h => ⟨h.1, h.2.symm⟩)))
      refine wpStill_nil ?_
      go_wp2_with (go_at_call 57; refine (hcall.out _ (by repeat (first | exact HB.out | apply below_drew1 | apply below_alloc))).mono ?_; rintro e w' ⟨rfl, hb⟩; have HB' := Aside0.mk hb; clear hb hcall)
      go_ret
      exact ⟨by rw [HE2.out]; rfl, below_step (by repeat (first | exact HB.out | apply below_drew1 | apply below_alloc)) HB'.out⟩
    · rcases Bool.eq_false_or_eq_true (n == 0) with h3 | h3
      · have HE2 := Aside0.mk (show instB tot op n l = vb by rw [HE.out, h1, h2, h3]; simp)
        go_enter Try.func125, Try.ntmps125
        go_wp2
        refine region_tail 21 (by kernel_rfl) (by kernel_rfl) ?_
        simp only [List.take_succ_cons, List.take_zero, List.drop_succ_cons, List.drop_zero]
        repeat (first | still_step | still_call ((HA.out _).mono (fun _ _ h => ⟨h.1, h.2.symm⟩)))
        refine wpStill_nil ?_
        go_wp2_with (go_at_call 57; refine (hcall.out _ (by repeat (first | exact HB.out | apply below_drew1 | apply below_alloc))).mono ?_; rintro e w' ⟨rfl, hb⟩; have HB' := Aside0.mk hb; clear hb hcall)
        go_ret
        exact ⟨by rw [HE2.out]; rfl, below_step (by repeat (first | exact HB.out | apply below_drew1 | apply below_alloc)) HB'.out⟩
      · have HE2 := Aside0.mk (show instB tot op n l = false by rw [HE.out, h1, h2, h3]; simp)
        go_enter Try.func125, Try.ntmps125
        go_wp2
        go_quiet ((go_at_call 150; exact Calls.quiet_of_same ((HA.out _).mono (fun _ _ h => ⟨h.1, h.2.symm⟩))))
        go_wp2
        go_ret
        exact ⟨by rw [HE2.out]; rfl, by repeat (first | exact HB.out | apply pw_below_drewN | apply below_drew1 | apply below_alloc)⟩
  · have HE2 := Aside0.mk (show instB tot op n l = false by rw [HE.out, h1]; simp)
    go_enter Try.func125, Try.ntmps125
    go_wp2
    go_quiet ((go_at_call 150; exact Calls.quiet_of_same ((HA.out _).mono (fun _ _ h => ⟨h.1, h.2.symm⟩))))
    go_wp2
    go_ret
    exact ⟨by rw [HE2.out]; rfl, by repeat (first | exact HB.out | apply pw_below_drewN | apply below_drew1 | apply below_alloc)⟩
end
end Go.Proofs.Ytghlbhijkhkgkaa.PA
