/- The flow seat: the order of dominators. -/
import Derived.Test.YtghlbhijkhkgkaaIbOa
namespace Go.Proofs.Ytghlbhijkhkgkaa.PA
open Go.RowKit Go.Proofs.YtghlbhijkhkgkaaW.PrintWords Go.Proofs.YtghlbhijkhkgkaaW.PrintLast Go.Proofs.YtghlbhijkhkgkaaW.PrintMore
set_option linter.unusedVariables false
section
variable {next : List (List Int)} {a b d d1 d2 k y : Int}
theorem in_from (h0 : RowsOk next) (h1 : 0 < next.length) : y ∈ fromL next 0 d ↔ (0 : Int) ≠ d ∧ Way next d 0 y := mem_fromL' h0 ⟨Int.le_refl _, by omega⟩
theorem in_reached (h0 : RowsOk next) (h1 : 0 < next.length) : y ∈ reached next ↔ Way next (-1) 0 y := by
  unfold reached
  rw [in_from h0 h1]
  exact ⟨fun h => h.2, fun h => ⟨by omega, h⟩⟩
theorem self_dom (h : b ∈ reached next) : b ∈ domsRow next b := mem_domsRow.2 ⟨h, h, not_self _ _ _⟩
/-- A way that leaves d out comes by k, or leaves k out. -/
theorem way_or (h : Way next d 0 y) : Way next d 0 k ∨ Way next k 0 y := by
  induction h with
  | here => exact .inr .here
  | on h1 h2 h3 ih =>
    rename_i x z
    rcases ih with ih | ih
    · exact .inl ih
    · by_cases e : z = k
      · subst e; exact .inl (.on h1 h2 h3)
      · exact .inr (.on ih h2 e)
theorem dom_trans (h0 : RowsOk next) (h1 : 0 < next.length) (hk : k ∈ domsRow next b) (hd : d ∈ domsRow next k) : d ∈ domsRow next b := by
  obtain ⟨k1, k2, k3⟩ := mem_domsRow.1 hk
  obtain ⟨e1, e2, e3⟩ := mem_domsRow.1 hd
  refine mem_domsRow.2 ⟨e1, k2, fun h => ?_⟩
  rw [in_from h0 h1] at h k3 e3
  rcases way_or (k := k) h.2 with h2 | h2
  · exact e3 ⟨h.1, h2⟩
  · by_cases e : (0 : Int) = k
    · rw [← e] at e3
      exact e3 ⟨h.1, .here⟩
    · exact k3 ⟨e, h2⟩
theorem dom_anti (h0 : RowsOk next) (h1 : 0 < next.length) (hk : k ∈ domsRow next b) (hb : b ∈ domsRow next k) : k = b := by
  obtain ⟨k1, k2, k3⟩ := mem_domsRow.1 hk
  obtain ⟨e1, e2, e3⟩ := mem_domsRow.1 hb
  rw [in_from h0 h1] at k3 e3
  refine Classical.byContradiction fun hne => ?_
  have h0k : (0 : Int) ≠ k := fun e => e3 ⟨fun e2 => hne (e ▸ e2), e ▸ .here⟩
  have h0b : (0 : Int) ≠ b := fun e => k3 ⟨fun e2 => hne (e ▸ e2.symm), e ▸ .here⟩
  have key : ∀ y, Way next (-1) 0 y → y ≠ b ∧ Way next k 0 y ∧ Way next b 0 y := by
    intro y hy
    induction hy with
    | here => exact ⟨h0b, .here, .here⟩
    | on h1 h2 h3 ih =>
      rename_i x z
      by_cases ek : z = k
      · exact absurd ⟨h0b, .on ih.2.2 (ek ▸ h2) hne⟩ e3
      · by_cases eb : z = b
        · exact absurd ⟨h0k, .on ih.2.1 (eb ▸ h2) (fun e => hne e.symm)⟩ k3
        · exact ⟨eb, .on ih.2.1 h2 ek, .on ih.2.2 h2 eb⟩
  exact (key b ((in_reached h0 h1).1 k2)).1 rfl
theorem dom_total (h0 : RowsOk next) (h1 : 0 < next.length) (hd1 : d1 ∈ domsRow next b) (hd2 : d2 ∈ domsRow next b) : d1 ∈ domsRow next d2 ∨ d2 ∈ domsRow next d1 := by
  obtain ⟨a1, a2, a3⟩ := mem_domsRow.1 hd1
  obtain ⟨b1, b2, b3⟩ := mem_domsRow.1 hd2
  refine Classical.byContradiction fun hne => ?_
  have n1 : d2 ∈ fromL next 0 d1 := Classical.byContradiction fun h => hne (.inl (mem_domsRow.2 ⟨a1, b1, h⟩))
  have n2 : d1 ∈ fromL next 0 d2 := Classical.byContradiction fun h => hne (.inr (mem_domsRow.2 ⟨b1, a1, h⟩))
  rw [in_from h0 h1] at a3 b3 n1 n2
  have key : ∀ y, Way next (-1) 0 y → Way next d1 0 y ∨ Way next d2 0 y := by
    intro y hy
    induction hy with
    | here => exact .inl .here
    | on h1 h2 h3 ih =>
      rename_i x z
      by_cases e1 : z = d1
      · subst e1; exact .inr n2.2
      · by_cases e2 : z = d2
        · subst e2; exact .inl n1.2
        · exact ih.elim (fun h => .inl (.on h h2 e1)) (fun h => .inr (.on h h2 e2))
  rcases key b ((in_reached h0 h1).1 a2) with h | h
  · exact a3 ⟨n1.1, h⟩
  · exact b3 ⟨n2.1, h⟩
theorem zero_dom (h0 : RowsOk next) (h1 : 0 < next.length) (hb : b ∈ reached next) : 0 ∈ domsRow next b := by
  refine mem_domsRow.2 ⟨(in_reached h0 h1).2 .here, hb, fun h => ?_⟩
  rw [in_from h0 h1] at h
  exact h.1 rfl
theorem rises_doms (next : List (List Int)) (b : Int) : Rises (domsRow next b) := rises_numsL _ _
/-- Rising lists, one within the other. -/
theorem rises_sub : ∀ (l1 l2 : List Int), Rises l1 → Rises l2 → (∀ y ∈ l1, y ∈ l2) → l1.length ≤ l2.length
  | [], _, _, _, _ => Nat.zero_le _
  | a :: l1, [], _, _, h => absurd (h a List.mem_cons_self) (by simp)
  | a :: l1, c :: l2, h1, h2, h => by
    obtain ⟨a1, a2⟩ := List.pairwise_cons.1 h1
    obtain ⟨c1, c2⟩ := List.pairwise_cons.1 h2
    have hac : c ≤ a := by
      rcases List.mem_cons.1 (h a List.mem_cons_self) with e | e
      · omega
      · have := c1 a e; omega
    have := rises_sub l1 l2 a2 c2 fun y hy => by
      rcases List.mem_cons.1 (h y (List.mem_cons_of_mem _ hy)) with e | e
      · have := a1 y hy; omega
      · exact e
    rw [List.length_cons, List.length_cons]
    omega
theorem rises_sub_eq (l1 l2 : List Int) (h1 : Rises l1) (h2 : Rises l2) (h : ∀ y ∈ l1, y ∈ l2) (hl : l1.length = l2.length) : l1 = l2 := by
  refine rises_ext _ _ h1 h2 fun y => ⟨h y, fun hy => Classical.byContradiction fun hn => ?_⟩
  have hs : Rises (l2.filter fun z => decide (z ≠ y)) := List.Pairwise.filter _ h2
  have := rises_sub l1 _ h1 hs fun z hz => List.mem_filter.2 ⟨h z hz, by simpa using fun (e : z = y) => hn (e ▸ hz)⟩
  have hlt : (l2.filter fun z => decide (z ≠ y)).length < l2.length := by
    refine Nat.lt_of_le_of_ne (List.length_filter_le _ _) fun e => ?_
    have h3 : (l2.filter fun z => decide (z ≠ y)) = l2 := List.Sublist.eq_of_length List.filter_sublist e
    have h4 : y ∈ l2.filter fun z => decide (z ≠ y) := by rw [h3]; exact hy
    have := (List.mem_filter.1 h4).2
    simp at this
  omega
/-- How many dominators a block has. -/
noncomputable def domN (next : List (List Int)) (b : Int) : Nat := (domsRow next b).length
theorem drop_self (hb : b ∈ domsRow next b) : ((domsRow next b).filter fun z => decide (z ≠ b)).length + 1 = domN next b := by
  have h : ∀ l : List Int, Rises l → b ∈ l → (l.filter fun z => decide (z ≠ b)).length + 1 = l.length := by
    intro l
    induction l with
    | nil => intro _ h; cases h
    | cons c l ih =>
      intro hs hm
      obtain ⟨c1, c2⟩ := List.pairwise_cons.1 hs
      by_cases e : c = b
      · subst e
        have hn : ∀ z ∈ l, decide (z ≠ c) = true := fun z hz => by have := c1 z hz; simp; omega
        rw [List.filter_cons_of_neg (by simp), List.filter_eq_self.2 hn, List.length_cons]
      · rw [List.filter_cons_of_pos (by simpa using e), List.length_cons, List.length_cons, ih c2 (List.mem_of_ne_of_mem (fun h => e h.symm) hm)]
  exact h _ (rises_doms _ _) hb
theorem strict_sub (h0 : RowsOk next) (h1 : 0 < next.length) (hk : k ∈ domsRow next b) (hne : k ≠ b) : ∀ y ∈ domsRow next k, y ∈ (domsRow next b).filter fun z => decide (z ≠ b) := fun y hy =>
  List.mem_filter.2 ⟨dom_trans h0 h1 hk hy, by simpa using fun (e : y = b) => hne (dom_anti h0 h1 hk (e ▸ hy))⟩
theorem strict_le (h0 : RowsOk next) (h1 : 0 < next.length) (hk : k ∈ domsRow next b) (hne : k ≠ b) : domN next k + 1 ≤ domN next b := by
  have hb := self_dom (mem_domsRow.1 hk).2.1
  have := rises_sub _ _ (rises_doms next k) (List.Pairwise.filter _ (rises_doms next b)) (strict_sub h0 h1 hk hne)
  have := drop_self hb
  unfold domN at *
  omega
theorem strict_one (h0 : RowsOk next) (h1 : 0 < next.length) (hk : k ∈ domsRow next b) (hne : k ≠ b) (hd : d ∈ domsRow next b) (hnd : d ≠ b) (e1 : domN next k + 1 = domN next b) (e2 : domN next d + 1 = domN next b) : d = k := by
  have hb := self_dom (mem_domsRow.1 hk).2.1
  have hs := drop_self hb
  have hk2 := rises_sub_eq _ _ (rises_doms next k) (List.Pairwise.filter _ (rises_doms next b)) (strict_sub h0 h1 hk hne) (by unfold domN at *; omega)
  have hd2 := rises_sub_eq _ _ (rises_doms next d) (List.Pairwise.filter _ (rises_doms next b)) (strict_sub h0 h1 hd hnd) (by unfold domN at *; omega)
  have e : domsRow next d = domsRow next k := by rw [hk2, hd2]
  have hdd := self_dom (mem_domsRow.1 hd).1
  have hkk := self_dom (mem_domsRow.1 hk).1
  rw [e] at hdd
  rw [← e] at hkk
  exact dom_anti h0 h1 hdd hkk
theorem strict_has (h0 : RowsOk next) (h1 : 0 < next.length) (hb : b ∈ reached next) (hb0 : b ≠ 0) : ∃ k, k ∈ domsRow next b ∧ k ≠ b ∧ domN next k + 1 = domN next b := by
  have hmax : ∀ (m : Nat), (∃ k, k ∈ domsRow next b ∧ k ≠ b ∧ domN next b ≤ domN next k + m) → ∃ k, k ∈ domsRow next b ∧ k ≠ b ∧ ∀ d, d ∈ domsRow next b → d ≠ b → domN next d ≤ domN next k := by
    intro m
    induction m with
    | zero =>
      rintro ⟨k, hk, hne, h⟩
      have := strict_le h0 h1 hk hne
      omega
    | succ m ih =>
      rintro ⟨k, hk, hne, h⟩
      by_cases q : ∃ d, d ∈ domsRow next b ∧ d ≠ b ∧ domN next k < domN next d
      · obtain ⟨d, hd, hnd, hlt⟩ := q
        exact ih ⟨d, hd, hnd, by omega⟩
      · exact ⟨k, hk, hne, fun d hd hnd => Nat.le_of_not_lt fun h => q ⟨d, hd, hnd, h⟩⟩
  obtain ⟨k, hk, hne, hm⟩ := hmax (domN next b) ⟨0, zero_dom h0 h1 hb, fun e => hb0 e.symm, by omega⟩
  refine ⟨k, hk, hne, ?_⟩
  have hs := drop_self (self_dom hb)
  have e : domsRow next k = (domsRow next b).filter fun z => decide (z ≠ b) := by
    refine rises_ext _ _ (rises_doms _ _) (List.Pairwise.filter _ (rises_doms _ _)) fun d => ⟨strict_sub h0 h1 hk hne d, fun h => ?_⟩
    obtain ⟨h2, h3⟩ := List.mem_filter.1 h
    have h3 : d ≠ b := by simpa using h3
    rcases dom_total h0 h1 h2 hk with h4 | h4
    · exact h4
    · by_cases e : k = d
      · subst e; exact self_dom (mem_domsRow.1 hk).1
      · have := strict_le h0 h1 h4 e
        have := hm d h2 h3
        omega
  unfold domN at *
  rw [e]
  omega
end
end Go.Proofs.Ytghlbhijkhkgkaa.PA
