/- The flow seat: slices.Reverse in plain words. -/
import Derived.Test.YtghlbhijkhkgkaaBbPAz18
import Derived.Test.YtghlbhijkhkgkaaBbVp
namespace Go.Proofs.Ytghlbhijkhkgkaa.PA
open Go.RowKit Go.Proofs.YtghlbhijkhkgkaaW.PrintWords Go.Proofs.YtghlbhijkhkgkaaW.PrintLast Go.Proofs.YtghlbhijkhkgkaaW.PrintMore
set_option linter.unusedVariables false
theorem getD_at (x : List Int) (j : Nat) (h : j < x.length) : x[j] = x.getD j 0 := by rw [List.getD_eq_getElem?_getD, List.getElem?_eq_getElem h, Option.getD_some]
theorem getD_set (x : List Int) (i j : Nat) (v : Int) (hi : i < x.length) : (x.set i v).getD j 0 = if i = j then v else x.getD j 0 := by
  rw [List.getD_eq_getElem?_getD, List.getD_eq_getElem?_getD, List.getElem?_set]
  by_cases e : i = j
  · subst e; simp [hi]
  · simp [e]
theorem rev_l0 (l : List Int) (hl : l.length ≤ 1000) : ∀ (m i : Nat) (x : List Int), l.length - 2 * i ≤ m → 2 * i ≤ l.length + 1 → x.length = l.length →
    (∀ j, j < l.length → x.getD j 0 = if j < i ∨ l.length - 1 - j < i then l.getD (l.length - 1 - j) 0 else l.getD j 0) → ∀ b : Int, b = (l.length : Int) - 1 - i → Ev (fun k => slices_Reverse_int_int.l0 k x (i : Int) b) l.reverse := by
  intro m
  induction m with
  | zero =>
    intro i x hm hi hx h b hb
    have e : x = l.reverse := by
      refine List.ext_getElem (by simp [hx]) fun j h1 h2 => ?_
      have := h j (by omega)
      rw [List.getElem_reverse, getD_at x j h1, this, getD_at l _ (by omega)]
      split
      · rfl
      · congr 1; omega
    rw [← e]
    exact Ev.step (f := fun _ => some x) (fun k => by simp only [slices_Reverse_int_int.l0]; rw [if_neg (by omega)]) (Ev.now _)
  | succ m ih =>
    intro i x hm hi hx h b hb
    by_cases q : (i : Int) < b
    · obtain ⟨bn, rfl⟩ : ∃ bn : Nat, b = (bn : Int) := ⟨b.toNat, by omega⟩
      have hbn : bn < l.length := by omega
      have r1 : rd x (bn : Int) = x.getD bn 0 := rfl
      have r2 : rd x (i : Int) = x.getD i 0 := rfl
      refine Ev.step (fun k => ?_) (ih (i + 1) ((x.set i (x.getD bn 0)).set bn (x.getD i 0)) (by omega) (by omega) (by simp [hx]) (fun j hj => ?_) ((bn : Int) - 1) (by omega))
      · simp only [slices_Reverse_int_int.l0]
        rw [if_pos q, if_pos (by omega), if_pos (by omega), if_pos (by omega), if_pos (by omega), wnext i l.length (by omega) (by unfold Max; omega), r1, r2, show wrap64 ((bn : Int) - 1) = (bn : Int) - 1 by unfold wrap64; omega]
        rfl
      · rw [getD_set _ _ _ _ (by simp; omega), getD_set _ _ _ _ (by omega), h bn hbn, h i (by omega), h j hj]
        by_cases e1 : bn = j
        · subst e1
          rw [if_pos rfl, if_neg (by omega), if_pos (by omega), show l.length - 1 - bn = i by omega]
        · rw [if_neg e1]
          by_cases e2 : i = j
          · subst e2
            rw [if_pos rfl, if_neg (by omega), if_pos (by omega), show l.length - 1 - i = bn by omega]
          · rw [if_neg e2]
            by_cases e3 : j < i ∨ l.length - 1 - j < i
            · rw [if_pos e3, if_pos (by omega)]
            · rw [if_neg e3, if_neg (by omega)]
    · have e : x = l.reverse := by
        refine List.ext_getElem (by simp [hx]) fun j h1 h2 => ?_
        have := h j (by omega)
        rw [List.getElem_reverse, getD_at x j h1, this, getD_at l _ (by omega)]
        split
        · rfl
        · congr 1; omega
      rw [← e]
      exact Ev.step (f := fun _ => some x) (fun k => by simp only [slices_Reverse_int_int.l0]; rw [if_neg (by omega)]) (Ev.now _)
end Go.Proofs.Ytghlbhijkhkgkaa.PA
