/- The flow seat: numbered by hand. -/
import Derived.Test.YtghlbhijkhkgkaaAbVh
namespace Go.Proofs.Ytghlbhijkhkgkaa.PA
open Go.RowKit Go.Proofs.YtghlbhijkhkgkaaW.PrintWords Go.Proofs.YtghlbhijkhkgkaaW.PrintLast Go.Proofs.YtghlbhijkhkgkaaW.PrintMore
set_option linter.unusedVariables false
theorem repeat_int (x n : Int) (h : Nat) (w : World) (h0 : 0 ≤ n) (h1 : n ≤ 200) (hx : w.cell? ⟨h, 0, none⟩ = some (.int .i64 x)) :
    Calls Try.prog 121 #[.slice (some ⟨h, 0, none⟩) 1 1, .int .i64 n] w fun e w' => ∃ g cap, e = .returned (.slice (some ⟨g, 0, none⟩) n.toNat cap) ∧ Kd.R (Kd.int .i64) 3 w' w.heap.size (fun _ => True) (.slice (some ⟨g, 0, none⟩) n.toNat cap) (List.replicate n.toNat x) ∧ Below w.heap.size w w' := by
  obtain ⟨N, rfl⟩ := Int.eq_ofNat_of_zero_le h0
  exact repeat_any x N h w (by omega) hx
set_option maxHeartbeats 1000000 in
set_option maxRecDepth 100000 in
theorem numbered_no {A : Option Addr} {c : Nat} (p : Int) (bs : List S87) (w : World) (hr : Kd.C k87 w A bs.length bs) (hh : headB p bs = false) :
    Calls Try.prog 94 #[.agg #[.int .i64 p, .slice A bs.length c]] w fun e w' => e = .returned (.tuple #[.pointer none, .bool false]) ∧ Below w.heap.size w w' := by
  have hmb := Kd.C_max hr
  have HR := Aside0.mk hr
  clear hr
  have HB := Aside0.mk (Below.refl w.heap.size w)
  rcases Bool.eq_false_or_eq_true (within p 0 4) with q1 | q1
  · rcases Bool.eq_false_or_eq_true (within (bs.length : Int) 1 8) with q2 | q2
    · have HL := Aside0.mk (show 0 < bs.length by simp [within] at q2; omega)
      obtain ⟨ad, B1, d1, B4, d4, e, hx0, hy1, hy2, hy3, hy4, hy5, hy6, hy7, hy8⟩ := at_T87 HR.out 0 (by omega) (by have := HL.out; omega)
      cases e
      replace hx0 : w.cell? ad = some (.int .i64 (rd_T87 bs 0).f0) := by simpa [Addr.add] using hx0
      clear hy1 hy2 hy3 hy4 hy5 hy6 hy7 hy8
      have hltA := World.block_lt_of_cell? w _ hx0
      have q0 := eq_true (show (0 : Int) < (bs.length : Int) by have := HL.out; omega)
      have hpos := eq_true HL.out
      have q3 : ((rd_T87 bs 0).f0 != 0) = true := by
        have : ((rd_T87 bs 0).f0 == 0) = false := by rw [headB, q1, q2] at hh; simpa using hh
        rw [bne, this]; rfl
      clear hh
      go_enter Try.func94, Try.ntmps94
      go_wp2_with (go_at_call 100; refine (within_any _ _ _ _).mono ?_; rintro e w' ⟨rfl, rfl⟩)
      go_ret2
      exact ⟨rfl, by repeat (first | exact HB.out | apply below_alloc)⟩
    · clear hh
      go_enter Try.func94, Try.ntmps94
      go_wp2_with (go_at_call 100; refine (within_any _ _ _ _).mono ?_; rintro e w' ⟨rfl, rfl⟩)
      go_ret2
      exact ⟨rfl, by repeat (first | exact HB.out | apply below_alloc)⟩
  · clear hh
    go_enter Try.func94, Try.ntmps94
    go_wp2_with (go_at_call 100; refine (within_any _ _ _ _).mono ?_; rintro e w' ⟨rfl, rfl⟩)
    go_ret2
    exact ⟨rfl, by repeat (first | exact HB.out | apply below_alloc)⟩
end Go.Proofs.Ytghlbhijkhkgkaa.PA
