/- The flow seat: the blocks to which ways lead, as a rising list. -/
import Derived.Test.YtghlbhijkhkgkaaIbPAz2
import Derived.Test.YtghlbhijkhkgkaaIbMh
namespace Go.Proofs.Ytghlbhijkhkgkaa.PA
open Go.RowKit Go.Proofs.YtghlbhijkhkgkaaW.PrintWords Go.Proofs.YtghlbhijkhkgkaaW.PrintLast Go.Proofs.YtghlbhijkhkgkaaW.PrintMore
set_option linter.unusedVariables false
/-- Blocks whose jumps stay among them. -/
structure GoodRows (bs : List S87) : Prop where
  one : 1 ≤ bs.length
  len : bs.length ≤ 8
  two : ∀ k, k < bs.length → (rd_T87 bs (k : Int)).f4.length ≤ 2
  stay : ∀ k, k < bs.length → ∀ c ∈ toL (rd_T87 bs (k : Int)), 0 ≤ c ∧ c < (bs.length : Int)
theorem rows_of_good {p : Int} {bs : List S87} (hg : goodB p bs = true) : GoodRows bs := by
  obtain ⟨_, hn, _⟩ := good_iff hg
  refine ⟨hn.1, hn.2, fun k hk => (good_at hg k hk).jumps, fun k hk c hc => ?_⟩
  obtain ⟨x, hx, rfl⟩ := List.mem_map.1 hc
  exact ((good_at hg k hk).jump x hx).1
theorem nextL_len (bs : List S87) : (nextL bs).length = bs.length := by simp [nextL]
theorem nextL_rd (bs : List S87) (k : Nat) (hk : k < bs.length) : rd_L1 (nextL bs) (k : Int) = toL (rd_T87 bs (k : Int)) := by
  rw [← nextL_at bs k hk]; rfl
theorem rows_ok {bs : List S87} (h : GoodRows bs) : RowsOk (nextL bs) := by
  refine ⟨by rw [nextL_len]; have := h.len; omega, fun b h0 h1 => ?_⟩
  rw [nextL_len] at h1 ⊢
  obtain ⟨k, rfl⟩ := Int.eq_ofNat_of_zero_le h0
  have hk : k < bs.length := by omega
  rw [nextL_rd bs k hk]
  exact ⟨by have := h.two k hk; simpa [toL] using Nat.le_trans this (by omega), h.stay k hk⟩
/-- The numbers below n that are so, rising. -/
def numsL (n : Nat) (q : Int → Bool) : List Int := ((List.range n).map fun (j : Nat) => (j : Int)).filter q
theorem mem_numsL {n : Nat} {q : Int → Bool} {y : Int} : y ∈ numsL n q ↔ (0 ≤ y ∧ y < (n : Int)) ∧ q y = true := by
  rw [numsL, List.mem_filter, List.mem_map]
  constructor
  · rintro ⟨⟨j, hj, rfl⟩, h⟩
    rw [List.mem_range] at hj
    exact ⟨by omega, h⟩
  · rintro ⟨h1, h⟩
    exact ⟨⟨y.toNat, List.mem_range.2 (by omega), by omega⟩, h⟩
theorem rises_numsL (n : Nat) (q : Int → Bool) : Rises (numsL n q) := by
  refine List.Pairwise.filter q ?_
  rw [List.pairwise_map]
  exact List.Pairwise.imp (fun h => by omega) List.pairwise_lt_range
theorem numsL_len (n : Nat) (q : Int → Bool) : (numsL n q).length ≤ n := Nat.le_trans (List.length_filter_le _ _) (by simp)
theorem numsL_ext {l : List Int} {n : Nat} {q : Int → Bool} (hs : Rises l) (h : ∀ y, y ∈ l ↔ (0 ≤ y ∧ y < (n : Int)) ∧ q y = true) : l = numsL n q :=
  rises_ext _ _ hs (rises_numsL n q) fun y => by rw [h y, mem_numsL]
theorem rises_len : ∀ (l : List Int) (lo hi : Int), Rises l → (∀ y ∈ l, lo ≤ y ∧ y < hi) → l.length ≤ (hi - lo).toNat
  | [], _, _, _, _ => Nat.zero_le _
  | a :: l, lo, hi, h, hb => by
    obtain ⟨h1, h2⟩ := List.pairwise_cons.1 h
    have ha := hb a List.mem_cons_self
    have := rises_len l (a + 1) hi h2 fun y hy => ⟨by have := h1 y hy; omega, (hb y (List.mem_cons_of_mem _ hy)).2⟩
    rw [List.length_cons]
    omega
/-- The blocks to which ways lead from a, that do not come to but. -/
noncomputable def fromL (next : List (List Int)) (a but : Int) : List Int := if a = but then [] else numsL next.length fun y => @decide (Way next but a y) (Classical.propDecidable _)
section
variable {next : List (List Int)} {a but y : Int}
theorem way_in (hn : RowsOk next) (ha : 0 ≤ a ∧ a < (next.length : Int)) (h : Way next but a y) : 0 ≤ y ∧ y < (next.length : Int) := by
  induction h with
  | here => exact ha
  | on h1 h2 h3 ih => exact (hn.2 _ ih.1 ih.2).2 _ h2
theorem way_ne (h : Way next but a y) (ha : a ≠ but) : y ≠ but := by
  cases h with
  | here => exact ha
  | on h1 h2 h3 => exact h3
theorem mem_fromL : y ∈ fromL next a but ↔ a ≠ but ∧ (0 ≤ y ∧ y < (next.length : Int)) ∧ Way next but a y := by
  unfold fromL
  split
  · rename_i h
    exact ⟨fun h => (by cases h), fun h2 => absurd h h2.1⟩
  · rename_i h
    rw [mem_numsL]
    exact ⟨fun h2 => ⟨h, h2.1, @of_decide_eq_true _ (_) h2.2⟩, fun h2 => ⟨h2.2.1, @decide_eq_true _ (_) h2.2.2⟩⟩
theorem mem_fromL' (hn : RowsOk next) (ha : 0 ≤ a ∧ a < (next.length : Int)) : y ∈ fromL next a but ↔ a ≠ but ∧ Way next but a y := by
  rw [mem_fromL]
  exact ⟨fun h => ⟨h.1, h.2.2⟩, fun h => ⟨h.1, way_in hn ha h.2, h.2⟩⟩
theorem rises_fromL (next : List (List Int)) (a but : Int) : Rises (fromL next a but) := by
  unfold fromL
  split
  · exact List.Pairwise.nil
  · exact rises_numsL _ _
theorem fromL_len (next : List (List Int)) (a but : Int) : (fromL next a but).length ≤ next.length := by
  unfold fromL
  split
  · exact Nat.zero_le _
  · exact numsL_len _ _
/-- The same, as a row of bools. -/
noncomputable def reachL (next : List (List Int)) (a but : Int) : List Bool := (List.range next.length).map fun (j : Nat) => decide ((j : Int) ∈ fromL next a but)
theorem reachL_len (next : List (List Int)) (a but : Int) : (reachL next a but).length = next.length := by simp [reachL]
theorem reachL_rd (next : List (List Int)) (a but y : Int) (h0 : 0 ≤ y) : rdOf false (reachL next a but) y = decide (y ∈ fromL next a but) := by
  obtain ⟨k, rfl⟩ := Int.eq_ofNat_of_zero_le h0
  unfold rdOf reachL
  rw [List.getD_eq_getElem?_getD, Int.toNat_natCast, List.getElem?_map]
  by_cases h : k < next.length
  · simp [h]
  · have : (k : Int) ∉ fromL next a but := fun h2 => by have := (mem_fromL.1 h2).2.1; omega
    simp [h, this]
theorem bools_ext {l1 l2 : List Bool} (hl : l1.length = l2.length) (h : ∀ k : Nat, k < l1.length → rdOf false l1 (k : Int) = rdOf false l2 (k : Int)) : l1 = l2 := by
  refine List.ext_getElem hl fun k h1 h2 => ?_
  have := h k h1
  simpa [rdOf, List.getD_eq_getElem?_getD, List.getElem?_eq_getElem h1, List.getElem?_eq_getElem h2] using this
theorem reach_is (hn : RowsOk next) (ha : 0 ≤ a ∧ a < (next.length : Int)) (but : Int) : Ev (fun k => impl_reach.f k next a but) (reachL next a but) := by
  by_cases e : a = but
  · have h0 : reachL next a but = List.replicate next.length false := by
      refine bools_ext (by rw [reachL_len, List.length_replicate]) fun k hk => ?_
      rw [reachL_rd _ _ _ _ (by omega), fromL, if_pos e]
      simp [rdOf, List.getD_eq_getElem?_getD, List.getElem?_replicate]
      split <;> rfl
    refine Ev.congr (f := fun _ => some (reachL next a but)) (fun k => ?_) (Ev.now _)
    have hn1 := hn.1
    unfold impl_reach.f
    rw [if_pos (by omega), if_pos (by omega), Int.toNat_natCast, Option.bind_some, if_pos e, h0]
  · obtain ⟨r, ev, hf⟩ := reach_f next but a hn ha e
    have : r = reachL next a but := by
      refine bools_ext (by rw [reachL_len, hf.1]) fun k hk => ?_
      have h1 := hf.2 (k : Int) (by omega) (by have := hf.1; omega)
      rw [reachL_rd _ _ _ _ (by omega), Bool.eq_iff_iff, h1, decide_eq_true_iff, mem_fromL]
      exact ⟨fun h => ⟨e, ⟨by omega, by have := hf.1; omega⟩, h⟩, fun h => h.2.2⟩
    rw [← this]
    exact ev
theorem listOf_is (l : List Bool) (hl : l.length ≤ 1000) : Ev (fun k => impl_listOf.f k l) (numsL l.length (rdOf false l)) := by
  obtain ⟨r, ev, h1, h2, h3⟩ := listOf_f l hl
  rw [← numsL_ext (n := l.length) (q := rdOf false l) h1 fun y => by rw [h3 y, and_assoc]]
  exact ev
theorem listOf_reach (next : List (List Int)) (a but : Int) : numsL (reachL next a but).length (rdOf false (reachL next a but)) = fromL next a but := by
  refine rises_ext _ _ (rises_numsL _ _) (rises_fromL _ _ _) fun y => ?_
  rw [mem_numsL, reachL_len]
  constructor
  · rintro ⟨h1, h2⟩
    rw [reachL_rd _ _ _ _ h1.1] at h2
    exact of_decide_eq_true h2
  · intro h
    have := (mem_fromL.1 h).2.1
    exact ⟨this, by rw [reachL_rd _ _ _ _ this.1]; exact decide_eq_true h⟩
end
end Go.Proofs.Ytghlbhijkhkgkaa.PA
