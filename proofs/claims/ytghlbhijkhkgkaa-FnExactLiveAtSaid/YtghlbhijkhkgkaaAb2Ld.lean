/- The flow seat: LiveAt's closure by hand, handed on to used. -/
import Derived.Test.YtghlbhijkhkgkaaAb2Ml
import Derived.Test.YtghlbhijkhkgkaaAb2Vn
namespace Go.Proofs.Ytghlbhijkhkgkaa.PA
open Go.RowKit Go.Proofs.YtghlbhijkhkgkaaW.PrintWords Go.Proofs.YtghlbhijkhkgkaaW.PrintLast Go.Proofs.YtghlbhijkhkgkaaW.PrintMore
set_option linter.unusedVariables false
theorem still_off {P : Program} {ops : Array Oper} {w : World} {Q : Act → Prop} {a : Act} {o : Oper} {rest : List Oper} (hw : Region.wanted o (yielded ops a.tmps) = false) (h : wpStill P ops w Q rest (a.put o.dst undef)) : wpStill P ops w Q (o :: rest) a :=
  wpStill_step fun K hK => by rw [hw]; exact hK _ h
theorem still_on {P : Program} {ops : Array Oper} {w : World} {Q : Act → Prop} {a : Act} {o : Oper} {rest : List Oper} (hw : Region.wanted o (yielded ops a.tmps) = true) (h : ∀ K : Act → Prop, (∀ a, wpStill P ops w Q rest a → K a) → o.still P a w K) : wpStill P ops w Q (o :: rest) a :=
  wpStill_step fun K hK => by rw [hw, if_pos rfl]; exact h K hK
set_option maxHeartbeats 2000000 in
set_option maxRecDepth 100000 in
theorem note_any {b : LvAt} {next : List (List Int)} {rows : List (List Bool)} {w1 W : World} {i g9 : Nat} {p tot : Int} {A : Option Addr} {bs : List S87} {c : Nat} {fs bl : List Int}
    (hv : View w1 b.gv p A bs c fs bl tot) (h : LvW b next rows w1 W) (h9 : W.heap[g9]? = some (.cells #[.int .i64 (i : Int)] 3 (0, 0))) (hi : i < b.n) (hlen : (rows.getD i []).length = bl.length) (x : Int) (hx : 0 ≤ x ∧ x < (bl.length : Int)) (ad : Addr) (hc : W.cell? ad = some (.int .i64 x)) :
    Calls Try.prog 87 #[.pointer (some ad), .pointer (some ⟨b.g7, 0, none⟩), .pointer (some ⟨g9, 0, none⟩), .pointer (some ⟨b.g6, 0, none⟩)] W fun e W' => e = .returned (.tuple #[]) ∧ LvW b next (rows.set i ((rows.getD i []).set x.toNat (rdOf false (rows.getD i []) x || !decide (rd bl x = (i : Int))))) w1 W' ∧ W'.heap[g9]? = some (.cells #[.int .i64 (i : Int)] 3 (0, 0)) := by
  obtain ⟨xn, rfl⟩ := Int.eq_ofNat_of_zero_le hx.1
  have hxn : xn < bl.length := by omega
  obtain ⟨gr, cr, zrow, zb, fb, ⟨cellsr, hcr⟩, hput⟩ := h.at_bool (x := xn) hi (by omega)
  obtain ⟨z6, z7⟩ := h.cells
  have z9 : W.cell? ⟨g9, 0, none⟩ = some (.int .i64 (i : Int)) := by rw [blk_cell h9 0]; rfl
  obtain ⟨A3, c3, z3, hC3, hl3⟩ := (hv.below h.below).cell3
  obtain ⟨ad3, e3, zv⟩ := Kd.at_int hC3 (xn : Int) (by omega) (by omega)
  subst e3
  simp only [Int.toNat_natCast] at zv
  obtain ⟨b1, hb1⟩ : ∃ b1, b1 = rdOf false (rows.getD i []) (xn : Int) := ⟨_, rfl⟩
  obtain ⟨row, hrow⟩ : ∃ row, row = rows.getD i [] := ⟨_, rfl⟩
  obtain ⟨vb, hvb⟩ : ∃ vb, vb = rd bl (xn : Int) := ⟨_, rfl⟩
  rw [← hrow] at hlen zrow zb hput hb1 ⊢
  rw [← hb1] at zb ⊢
  rw [← hvb] at zv ⊢
  rw [hlen] at zrow
  have HFIN := Aside0.mk (show ∀ v : Bool, LvW b next (rows.set i (row.set xn v)) w1 (W.setCell ⟨gr, xn, none⟩ (.bool v)).drew ∧ (W.setCell ⟨gr, xn, none⟩ (.bool v)).drew.heap[g9]? = some (.cells #[.int .i64 (i : Int)] 3 (0, 0)) from fun v => ⟨(hput v).later (below_drew1 (Below.refl _ _)), blk_drew (blk_far h9 hcr (by decide) xn _)⟩)
  have p0 : (0 ≤ (xn : Int)) = True := eq_true (by omega)
  have p1 : ((xn : Int) < (bl.length : Int)) = True := eq_true (by omega)
  have p2 : (0 ≤ (i : Int)) = True := eq_true (by omega)
  have p3 : ((i : Int) < (b.n : Int)) = True := eq_true (by omega)
  clear hput hrow hvb hb1 hlen hx hxn hi hl3 hC3 hcr hv h h9
  cases b1 with
  | true =>
    go_enter Try.func87, Try.ntmps87
    go_wp2_with fail
    refine region_tail 30 (by kernel_rfl) (by kernel_rfl) ?_
    simp only [List.take_succ_cons, List.take_zero, List.drop_succ_cons, List.drop_zero]
    iterate 17 (with_reducible refine wpStill_step (fun K hK => ?_); go_simp; with_reducible refine hK _ ?_; clear hK K)
    iterate 11 (with_reducible refine still_off ?h1 ?_; (case h1 => kernel_rfl); simp only [Act.put, List.setIfInBounds_toArray, List.set_cons_zero, List.set_cons_succ])
    iterate 2 (with_reducible refine wpStill_step (fun K hK => ?_); go_simp; with_reducible refine hK _ ?_; clear hK K)
    with_reducible refine wpStill_nil ?_
    go_wp2_with fail
    go_end0
    exact ⟨rfl, by rw [Bool.true_or, Int.toNat_natCast]; exact HFIN.out true⟩
  | false =>
    by_cases q : vb = (i : Int)
    · have c0 : (vb != (i : Int)) = false := bne_eq_false_iff_eq.mpr q
      have HQ := Aside0.mk q
      clear q
      go_enter Try.func87, Try.ntmps87
      go_wp2_with fail
      refine region_tail 30 (by kernel_rfl) (by kernel_rfl) ?_
      simp only [List.take_succ_cons, List.take_zero, List.drop_succ_cons, List.drop_zero]
      iterate 17 (with_reducible refine wpStill_step (fun K hK => ?_); go_simp; with_reducible refine hK _ ?_; clear hK K)
      iterate 11 (with_reducible refine still_on ?h1 (fun K hK => ?_); (case h1 => kernel_rfl); go_simp; with_reducible refine hK _ ?_; clear hK K)
      iterate 2 (with_reducible refine wpStill_step (fun K hK => ?_); go_simp; with_reducible refine hK _ ?_; clear hK K)
      with_reducible refine wpStill_nil ?_
      go_wp2_with fail
      go_end0
      exact ⟨rfl, by rw [decide_eq_true HQ.out, Int.toNat_natCast]; exact HFIN.out false⟩
    · have c0 : (vb != (i : Int)) = true := bne_iff_ne.mpr q
      have HQ := Aside0.mk q
      clear q
      go_enter Try.func87, Try.ntmps87
      go_wp2_with fail
      refine region_tail 30 (by kernel_rfl) (by kernel_rfl) ?_
      simp only [List.take_succ_cons, List.take_zero, List.drop_succ_cons, List.drop_zero]
      iterate 17 (with_reducible refine wpStill_step (fun K hK => ?_); go_simp; with_reducible refine hK _ ?_; clear hK K)
      iterate 11 (with_reducible refine still_on ?h1 (fun K hK => ?_); (case h1 => kernel_rfl); go_simp; with_reducible refine hK _ ?_; clear hK K)
      iterate 2 (with_reducible refine wpStill_step (fun K hK => ?_); go_simp; with_reducible refine hK _ ?_; clear hK K)
      with_reducible refine wpStill_nil ?_
      go_wp2_with fail
      go_end0
      exact ⟨rfl, by rw [decide_eq_false HQ.out, Int.toNat_natCast]; exact HFIN.out true⟩
end Go.Proofs.Ytghlbhijkhkgkaa.PA
