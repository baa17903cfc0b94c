/- The flow seat: spec.l13Back and spec.l13Drop in plain words. -/
import Derived.Test.YtghlbhijkhkgkaaKbPAz12
import Derived.Test.YtghlbhijkhkgkaaKbPAz16
namespace Go.Proofs.Ytghlbhijkhkgkaa.PA
open Go.RowKit Go.Proofs.YtghlbhijkhkgkaaW.PrintWords Go.Proofs.YtghlbhijkhkgkaaW.PrintLast Go.Proofs.YtghlbhijkhkgkaaW.PrintMore
set_option linter.unusedVariables false
theorem back_l0 (a b : Int) (E : List (List Int)) (hE : ∀ e ∈ E, ∃ x y : Int, e = [x, y]) (hl : E.length ≤ 1000) : ∀ (d i : Nat), E.length - i = d → i ≤ E.length →
    Ev (fun k => spec_l13Back.l0 k a b E (E.length : Int) (i : Int)) (decide ([a, b] ∈ E.drop i))
  | 0, i, hd, hi => by
    rw [List.drop_of_length_le (by omega)]
    exact Ev.step (f := fun _ => some false) (fun k => by simp only [spec_l13Back.l0]; rw [if_neg (by omega)]) (Ev.now _)
  | d + 1, i, hd, hi => by
    have h : i < E.length := by omega
    have ih := back_l0 a b E hE hl d (i + 1) (by omega) (by omega)
    have hrd : rd_L1 E (i : Int) = E[i] := by simp [rd_L1, List.getD_eq_getElem?_getD, h]
    obtain ⟨x, y, e⟩ := hE _ (List.getElem_mem h)
    rw [List.drop_eq_getElem_cons h, e]
    rw [e] at hrd
    have r0 : rd [x, y] 0 = x := rfl
    have r1 : rd [x, y] 1 = y := rfl
    by_cases q1 : x = a
    · by_cases q2 : y = b
      · rw [decide_eq_true (by rw [q1, q2]; exact List.mem_cons_self)]
        refine Ev.step (f := fun _ => some true) (fun k => ?_) (Ev.now _)
        simp only [spec_l13Back.l0]
        rw [if_pos (by omega), if_pos (by omega), if_pos (by omega), hrd, if_pos (by simp), if_pos (by rw [r0]; exact q1), if_pos (by simp), if_pos (by rw [r1]; exact q2)]
      · have : decide ([a, b] ∈ [x, y] :: E.drop (i + 1)) = decide ([a, b] ∈ E.drop (i + 1)) := by
          have hn : ¬ [a, b] = [x, y] := fun h => q2 (by simp only [List.cons.injEq, and_true] at h; exact h.2.symm)
          simp only [List.mem_cons, hn, false_or]
        rw [this]
        refine Ev.step (fun k => ?_) ih
        simp only [spec_l13Back.l0]
        rw [if_pos (by omega), if_pos (by omega), if_pos (by omega), hrd, if_pos (by simp), if_pos (by rw [r0]; exact q1), if_pos (by simp), if_neg (by rw [r1]; exact q2), wnext i E.length h (by unfold Max; omega)]
    · have : decide ([a, b] ∈ [x, y] :: E.drop (i + 1)) = decide ([a, b] ∈ E.drop (i + 1)) := by
        have hn : ¬ [a, b] = [x, y] := fun h => q1 (by simp only [List.cons.injEq, and_true] at h; exact h.1.symm)
        simp only [List.mem_cons, hn, false_or]
      rw [this]
      refine Ev.step (fun k => ?_) ih
      simp only [spec_l13Back.l0]
      rw [if_pos (by omega), if_pos (by omega), if_pos (by omega), hrd, if_pos (by simp), if_neg (by rw [r0]; exact q1), wnext i E.length h (by unfold Max; omega)]
theorem drop_l0 (x : Int) (l : List Int) (hl : l.length ≤ 1000) : ∀ (d i : Nat) (acc : List Int), l.length - i = d → i ≤ l.length → acc.length ≤ i →
    Ev (fun k => spec_l13Drop.l0 k x acc l (l.length : Int) (i : Int)) (acc ++ (l.drop i).filter fun y => decide (y ≠ x))
  | 0, i, acc, hd, hi, ha => by
    rw [List.drop_of_length_le (by omega), List.filter_nil, List.append_nil]
    exact Ev.step (f := fun _ => some acc) (fun k => by simp only [spec_l13Drop.l0]; rw [if_neg (by omega)]) (Ev.now _)
  | d + 1, i, acc, hd, hi, ha => by
    have h : i < l.length := by omega
    have hrd := rd_at l i h
    rw [List.drop_eq_getElem_cons h]
    by_cases q : l[i] = x
    · rw [List.filter_cons_of_neg (by simpa using q)]
      refine Ev.step (fun k => ?_) (drop_l0 x l hl d (i + 1) acc (by omega) (by omega) (by omega))
      simp only [spec_l13Drop.l0]
      rw [if_pos (by omega), if_pos (by omega), if_pos (by omega), hrd, if_pos q, wnext i l.length h (by unfold Max; omega)]
    · rw [List.filter_cons_of_pos (by simpa using q)]
      refine Ev.step (fun k => ?_) (by have := drop_l0 x l hl d (i + 1) (acc ++ [l[i]]) (by omega) (by omega) (by rw [List.length_append, List.length_singleton]; omega); rwa [List.append_assoc, List.singleton_append] at this)
      simp only [spec_l13Drop.l0]
      rw [if_pos (by omega), if_pos (by omega), if_pos (by omega), hrd, if_neg q, if_pos (by omega), wnext i l.length h (by unfold Max; omega)]
theorem back_any {w : World} {A : Option Addr} {c : Nat} (a b : Int) (E : List (List Int)) (hE : ∀ e ∈ E, ∃ x y : Int, e = [x, y]) (hl : E.length ≤ 1000) (hr : Kd.C kR w A E.length E) (hc : E.length ≤ c) :
    Calls Try.prog 84 #[.slice A E.length c, .int .i64 a, .int .i64 b] w fun e w' => e = .returned (.bool (decide ([a, b] ∈ E))) ∧ Below w.heap.size w w' := by
  have h0 := back_l0 a b E hE hl _ 0 rfl (Nat.zero_le _)
  rw [List.drop_zero] at h0
  obtain ⟨k, hk⟩ := Ev.rounds (Ev.congr (g := fun k => spec_l13Back.f k E a b) (fun k => rfl) h0)
  exact (spec_l13Back.calls k A c E a b _ w hr hc hk).mono fun e w' h => ⟨h.1, by obtain ⟨m, rfl⟩ := h.2; exact pw_below_drewN (Below.refl _ _) m⟩
theorem drop_any {w : World} {A : Option Addr} {c : Nat} (x : Int) (l : List Int) (hl : l.length ≤ 1000) (hr : (Kd.int .i64).C w A l.length l) (hc : l.length ≤ c) :
    Calls Try.prog 85 #[.slice A l.length c, .int .i64 x] w fun e w' => ∃ v : Value, e = .returned v ∧ (Kd.int .i64).R 3 w' w.heap.size (fun _ => True) v (l.filter fun y => decide (y ≠ x)) ∧ Below w.heap.size w w' := by
  have h0 := drop_l0 x l hl _ 0 [] rfl (Nat.zero_le _) (Nat.le_refl _)
  rw [List.drop_zero, List.nil_append] at h0
  obtain ⟨k, hk⟩ := Ev.rounds (Ev.congr (g := fun k => spec_l13Drop.f k l x) (fun k => rfl) h0)
  exact spec_l13Drop.calls k A c l x _ w hr hc hk
end Go.Proofs.Ytghlbhijkhkgkaa.PA
