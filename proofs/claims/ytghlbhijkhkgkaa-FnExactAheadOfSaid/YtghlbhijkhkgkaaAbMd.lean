/- The flow seat: hasBlock, slices.Contains and the rows of next, by hand. -/
import Derived.Test.YtghlbhijkhkgkaaAbMc
namespace Go.Proofs.Ytghlbhijkhkgkaa.PA
open Go.RowKit Go.Proofs.YtghlbhijkhkgkaaW.PrintWords Go.Proofs.YtghlbhijkhkgkaaW.PrintLast Go.Proofs.YtghlbhijkhkgkaaW.PrintMore
set_option linter.unusedVariables false
theorem hasBlock_any {w : World} {g : Nat} {p : Int} {A : Option Addr} {bs : List S87} {c : Nat} {fs bl : List Int} {tot : Int} (v : Int) (hv : View w g p A bs c fs bl tot) (hn : bs.length ≤ 8) :
    Calls Try.prog 63 #[.pointer (some ⟨g, 0, none⟩), .int .i64 v] w fun e w' => e = .returned (.bool (within v 0 ((bs.length : Int) - 1))) ∧ w' = w := by
  have y1 := hv.cell1
  have hw1 : IntKind.i64.wrap ((bs.length : Int) - 1) = (bs.length : Int) - 1 := IntWalk.i64_in _ (by omega)
  clear hv
  go_enter Try.func63, Try.ntmps63
  go_wp2_with (go_at_call 100; refine (within_any _ _ _ _).mono ?_; rintro e w' ⟨rfl, rfl⟩)
  go_ret
  exact ⟨rfl, rfl⟩
theorem index_l0 (v : Int) (l : List Int) (hl : l.length ≤ 1000) : ∀ (d i : Nat), l.length - i = d → ∃ r, Ev (fun k => slices_Index_int_int.l0 k l v (l.length : Int) (i : Int)) r ∧ (0 ≤ r ↔ v ∈ l.drop i)
  | 0, i, hd => ⟨-1, Ev.step (f := fun _ => some (-1)) (fun k => by simp only [slices_Index_int_int.l0]; rw [if_neg (by omega)]) (Ev.now _), by rw [List.drop_of_length_le (by omega)]; simp⟩
  | d + 1, i, hd => by
    have h : i < l.length := by omega
    have hr := rd_at l i h
    rw [List.drop_eq_getElem_cons h]
    by_cases e : v = l[i]
    · refine ⟨(i : Int), Ev.step (f := fun _ => some (i : Int)) (fun k => ?_) (Ev.now _), by rw [List.mem_cons]; exact ⟨fun _ => .inl e, fun _ => by omega⟩⟩
      simp only [slices_Index_int_int.l0]
      rw [if_pos (by omega), if_pos (by omega), if_pos (by omega), hr, if_pos e]
    · obtain ⟨r, e1, e2⟩ := index_l0 v l hl d (i + 1) (by omega)
      refine ⟨r, Ev.step (fun k => ?_) e1, by rw [e2, List.mem_cons]; exact ⟨.inr, fun h => h.resolve_left e⟩⟩
      simp only [slices_Index_int_int.l0]
      rw [if_pos (by omega), if_pos (by omega), if_pos (by omega), hr, if_neg e, wnext i l.length h (by unfold Max; omega)]
theorem contains_f (v : Int) (l : List Int) (hl : l.length ≤ 1000) : Ev (fun k => slices_Contains_int_int.f k l v) (decide (v ∈ l)) := by
  obtain ⟨r, e, h⟩ := index_l0 v l hl _ 0 rfl
  rw [List.drop_zero] at h
  have : decide (v ∈ l) = decide (r ≥ 0) := by rw [decide_eq_decide]; exact h.symm
  rw [this]
  exact Ev.congr (fun k => rfl) (Ev.bind (f := fun _ t => some (decide (t ≥ 0))) (Ev.congr (fun k => rfl) e) (Ev.now _))
theorem contains_any {w : World} {A : Option Addr} {c : Nat} (v : Int) (l : List Int) (hl : l.length ≤ 1000) (hr : (Kd.int .i64).C w A l.length l) (hc : l.length ≤ c) :
    Calls Try.prog 69 #[.slice A l.length c, .int .i64 v] w fun e w' => e = .returned (.bool (decide (v ∈ l))) ∧ Drawn0 w w' := by
  obtain ⟨k, hk⟩ := Ev.rounds (contains_f v l hl)
  exact slices_Contains_int_int.calls k A c l v _ w hr hc hk
theorem nextL_at (bs : List S87) (j : Nat) (hj : j < bs.length) : (nextL bs).getD j [] = toL (rd_T87 bs (j : Int)) := by
  rw [rd_nat bs j hj, nextL, List.getD_eq_getElem?_getD, List.getElem?_map, List.getElem?_eq_getElem hj]
  rfl
end Go.Proofs.Ytghlbhijkhkgkaa.PA
