/- The flow seat: loops, in plain words. -/
import Derived.Test.YtghlbhijkhkgkaaHbOi
namespace Go.Proofs.Ytghlbhijkhkgkaa.PA
open Go.RowKit Go.Proofs.YtghlbhijkhkgkaaW.PrintWords Go.Proofs.YtghlbhijkhkgkaaW.PrintLast Go.Proofs.YtghlbhijkhkgkaaW.PrintMore
set_option linter.unusedVariables false
/-- Where back edges to a head begin. -/
noncomputable def startsL (next : List (List Int)) (head : Int) : List Int := numsL next.length fun b => decide (head ∈ backRow next b)
noncomputable def inLoop (next : List (List Int)) (head k : Int) : Bool := decide (k = head) || (decide (k ∈ reached next) && (startsL next head).any fun s => decide (s ∈ fromL next k head))
/-- The loop of a head. -/
noncomputable def loopL (next : List (List Int)) (head : Int) : List Int := if startsL next head = [] then [] else numsL next.length (inLoop next head)
/-- What the edges of a list to a head lead to. -/
def InE (next : List (List Int)) (head : Int) (l : List (List Int)) (y : Int) : Prop := ∃ b, [b, head] ∈ l ∧ (y = head ∨ (y ∈ reached next ∧ b ∈ fromL next y head))
section
variable {next : List (List Int)} {head y b : Int}
theorem mem_backs {n : Nat} {e : List Int} : e ∈ backsL next n ↔ ∃ (b : Nat) (t : Int), b < n ∧ t ∈ backRow next (b : Int) ∧ e = [(b : Int), t] := by
  simp only [backsL, List.mem_flatMap, List.mem_map, List.mem_range]
  exact ⟨fun ⟨b, h, t, h1, h2⟩ => ⟨b, t, h, h1, h2.symm⟩, fun ⟨b, t, h, h1, h2⟩ => ⟨b, h, t, h1, h2.symm⟩⟩
theorem mem_starts : b ∈ startsL next head ↔ [b, head] ∈ backsL next next.length := by
  rw [startsL, mem_numsL, mem_backs, decide_eq_true_iff]
  constructor
  · rintro ⟨h1, h2⟩
    obtain ⟨k, rfl⟩ := Int.eq_ofNat_of_zero_le h1.1
    exact ⟨k, head, by omega, h2, rfl⟩
  · rintro ⟨k, t, h1, h2, h3⟩
    simp only [List.cons.injEq, and_true] at h3
    obtain ⟨rfl, rfl⟩ := h3
    exact ⟨⟨by omega, by omega⟩, h2⟩
theorem mem_loopL (hh : 0 ≤ head ∧ head < (next.length : Int)) : y ∈ loopL next head ↔ InE next head (backsL next next.length) y := by
  unfold loopL
  split
  · rename_i h
    refine ⟨fun h2 => (by cases h2), fun ⟨b, h2, _⟩ => ?_⟩
    have := mem_starts.2 h2
    rw [h] at this
    cases this
  · rename_i h
    rw [mem_numsL]
    simp only [inLoop, Bool.or_eq_true, decide_eq_true_eq, Bool.and_eq_true, List.any_eq_true]
    constructor
    · rintro ⟨h1, h2 | ⟨h2, s, h3, h4⟩⟩
      · obtain ⟨s, hs⟩ := List.exists_mem_of_ne_nil _ h
        exact ⟨s, mem_starts.1 hs, .inl h2⟩
      · exact ⟨s, mem_starts.1 h3, .inr ⟨h2, h4⟩⟩
    · rintro ⟨s, hs, h2 | ⟨h2, h3⟩⟩
      · exact ⟨by rw [h2]; exact hh, .inl h2⟩
      · exact ⟨(mem_fromL.1 h2).2.1, .inr ⟨h2, s, mem_starts.2 hs, h3⟩⟩
theorem rises_loopL (next : List (List Int)) (head : Int) : Rises (loopL next head) := by
  unfold loopL
  split
  · exact List.Pairwise.nil
  · exact rises_numsL _ _
theorem loopL_len (next : List (List Int)) (head : Int) : (loopL next head).length ≤ next.length := by
  unfold loopL
  split
  · exact Nat.zero_le _
  · exact numsL_len _ _
theorem loopL_nil (hh : 0 ≤ head ∧ head < (next.length : Int)) : loopL next head = [] ↔ startsL next head = [] := by
  constructor
  · intro h
    refine List.eq_nil_iff_forall_not_mem.2 fun s hs => ?_
    have : head ∈ loopL next head := (mem_loopL hh).2 ⟨s, mem_starts.1 hs, .inl rfl⟩
    rw [h] at this
    cases this
  · intro h
    rw [loopL, if_pos h]
end
theorem put_s (l : List Int) (x : Int) (hl : l.length ≤ 1000) (hs : Rises l) : ∃ r, Ev (fun k => spec_l1Put.f k l x) r ∧ (∀ y, y ∈ r ↔ y ∈ l ∨ y = x) ∧ r.length ≤ l.length + 1 ∧ Rises r := by
  obtain ⟨r, e, h⟩ := put_l0s l x hl hs _ 0 rfl (Nat.zero_le _) (fun y hy => by simp at hy)
  exact ⟨r, Ev.congr (fun k => rfl) e, h⟩
end Go.Proofs.Ytghlbhijkhkgkaa.PA
