/- The flow seat: the reference's AheadOf in plain words. -/
import Derived.Test.YtghlbhijkhkgkaaRbMb
import Derived.Test.YtghlbhijkhkgkaaRbPAz2
namespace Go.Proofs.Ytghlbhijkhkgkaa.PA
open Go.RowKit Go.Proofs.YtghlbhijkhkgkaaW.PrintWords Go.Proofs.YtghlbhijkhkgkaaW.PrintLast Go.Proofs.YtghlbhijkhkgkaaW.PrintMore
set_option linter.unusedVariables false
theorem rd_at (l : List Int) (i : Nat) (h : i < l.length) : rd l (i : Int) = l[i] := by simp [rd, List.getD_eq_getElem?_getD, List.getElem?_eq_getElem h]
theorem put_in (l : List Int) (x : Int) (i : Nat) : (∀ y, y ∈ ([] ++ l.take i ++ [x]) ++ l.drop i ↔ y ∈ l ∨ y = x) := by
  intro y
  conv => rhs; rw [← List.take_append_drop i l]
  simp only [List.mem_append, List.nil_append, List.mem_singleton]
  constructor
  · rintro ((h | h) | h)
    · exact .inl (.inl h)
    · exact .inr h
    · exact .inl (.inr h)
  · rintro ((h | h) | h)
    · exact .inl (.inl h)
    · exact .inr h
    · exact .inl (.inr h)
theorem put_l0 (l : List Int) (x : Int) (hl : l.length ≤ 1000) : ∀ (d i : Nat), l.length - i = d → i ≤ l.length →
    ∃ r, Ev (fun k => spec_l1Put.l0 k l x (i : Int)) r ∧ (∀ y, y ∈ r ↔ y ∈ l ∨ y = x) ∧ r.length ≤ l.length + 1
  | 0, i, hd, hi => by
    refine ⟨([] ++ l.take i ++ [x]) ++ l.drop i, Ev.step (f := fun _ => some (([] ++ l.take i ++ [x]) ++ l.drop i)) (fun k => ?_) (Ev.now _), put_in l x i, by simp; omega⟩
    simp only [spec_l1Put.l0, Option.bind_some, Int.toNat_natCast]
    rw [if_neg (by omega), if_pos (by omega), if_pos (by omega), if_pos (by simp; omega), if_pos (by simp; omega), if_pos (by simp; omega)]
  | d + 1, i, hd, hi => by
    have h : i < l.length := by omega
    by_cases h1 : l[i] < x
    · obtain ⟨r, e, h2, h3⟩ := put_l0 l x hl d (i + 1) (by omega) (by omega)
      refine ⟨r, Ev.step (fun k => ?_) e, h2, h3⟩
      simp only [spec_l1Put.l0]
      rw [if_pos (by omega), if_pos (by omega), rd_at l i h, if_pos h1, wnext i l.length h (by unfold Max; omega)]
    · by_cases h2 : l[i] = x
      · refine ⟨l, Ev.step (f := fun _ => some l) (fun k => ?_) (Ev.now _), fun y => ⟨fun hy => .inl hy, fun hy => ?_⟩, by omega⟩
        · simp only [spec_l1Put.l0]
          rw [if_pos (by omega), if_pos (by omega), rd_at l i h, if_neg h1, if_pos h2]
        · rcases hy with hy | rfl
          · exact hy
          · rw [← h2]; exact List.getElem_mem h
      · refine ⟨([] ++ l.take i ++ [x]) ++ l.drop i, Ev.step (f := fun _ => some (([] ++ l.take i ++ [x]) ++ l.drop i)) (fun k => ?_) (Ev.now _), put_in l x i, by simp; omega⟩
        simp only [spec_l1Put.l0, Option.bind_some, Int.toNat_natCast]
        rw [if_pos (by omega), if_pos (by omega), rd_at l i h, if_neg h1, if_neg h2, if_pos (by omega), if_pos (by simp; omega), if_pos (by simp; omega), if_pos (by simp; omega)]
theorem has_l0 (v : Int) (l : List Int) (hl : l.length ≤ 1000) : ∀ (d i : Nat), l.length - i = d → Ev (fun k => spec_l1Has.l0 k v l (l.length : Int) (i : Int)) (decide (v ∈ l.drop i))
  | 0, i, hd => Ev.step (f := fun _ => some (decide (v ∈ l.drop i))) (fun k => by simp only [spec_l1Has.l0]; rw [if_neg (by omega), List.drop_of_length_le (by omega)]; simp) (Ev.now _)
  | d + 1, i, hd => by
    have h : i < l.length := by omega
    have hr := rd_at l i h
    rw [List.drop_eq_getElem_cons h]
    by_cases e : l[i] = v
    · refine Ev.step (f := fun _ => some (decide (v ∈ l[i] :: l.drop (i + 1)))) (fun k => ?_) (Ev.now _)
      simp only [spec_l1Has.l0]
      rw [if_pos (by omega), if_pos (by omega), if_pos (by omega), hr, if_pos e]
      simp [e]
    · have e2 : decide (v ∈ l[i] :: l.drop (i + 1)) = decide (v ∈ l.drop (i + 1)) := by
        rw [decide_eq_decide, List.mem_cons]
        exact ⟨fun h => h.resolve_left (fun h => e h.symm), .inr⟩
      rw [e2]
      refine Ev.step (fun k => ?_) (has_l0 v l hl d (i + 1) (by omega))
      simp only [spec_l1Has.l0]
      rw [if_pos (by omega), if_pos (by omega), if_pos (by omega), hr, if_neg e, wnext i l.length h (by unfold Max; omega)]
end Go.Proofs.Ytghlbhijkhkgkaa.PA
