/- Parts of the walk. -/
import Derived.Test.YtghlbhijkhkgkaaAb2Vp
import Derived.Test.YtghlbhijkhkgkaaAb2PAz3
import Derived.Test.YtghlbhijkhkgkaaAb2PAz2
section
/- The flow seat: what impl.reach finds: the blocks to which a way leads. -/
namespace Go.Proofs.Ytghlbhijkhkgkaa.PA
open Go.RowKit Go.Proofs.YtghlbhijkhkgkaaW.PrintWords Go.Proofs.YtghlbhijkhkgkaaW.PrintLast Go.Proofs.YtghlbhijkhkgkaaW.PrintMore
set_option linter.unusedVariables false
/-- A way from a that comes to no block but. -/
inductive Way (next : List (List Int)) (but a : Int) : Int → Prop
  | here : Way next but a a
  | on {b c : Int} : Way next but a b → c ∈ rd_L1 next b → c ≠ but → Way next but a c
/-- Rows of blocks. -/
def RowsOk (next : List (List Int)) : Prop := next.length ≤ 1000 ∧ ∀ b : Int, 0 ≤ b → b < (next.length : Int) → (rd_L1 next b).length ≤ 1000 ∧ ∀ c ∈ rd_L1 next b, 0 ≤ c ∧ c < (next.length : Int)
/-- The walk under way; h: the block whose row is walked, up to i of it. -/
structure RI (next : List (List Int)) (but a : Int) (out : List Bool) (todo : List Int) (h : Int) (i : Nat) : Prop where
  len : out.length = next.length
  at_a : rdOf false out a = true
  way : ∀ y : Int, 0 ≤ y → rdOf false out y = true → Way next but a y
  todo_in : ∀ y ∈ todo, 0 ≤ y ∧ y < (next.length : Int) ∧ rdOf false out y = true
  closed : ∀ y : Int, 0 ≤ y → rdOf false out y = true → y ∉ todo → ∀ c ∈ rd_L1 next y, c ≠ but → rdOf false out c = true
  part : ∀ c ∈ (rd_L1 next h).take i, c ≠ but → rdOf false out c = true
theorem RI.way_in {next : List (List Int)} {but a : Int} {out : List Bool} {h : Int} {i : Nat} (hr : RI next but a out [] h i) (hn : RowsOk next) (ha : 0 ≤ a ∧ a < (next.length : Int)) : ∀ y, Way next but a y → (0 ≤ y ∧ y < (next.length : Int)) ∧ rdOf false out y = true := by
  intro y hy
  induction hy with
  | here => exact ⟨ha, hr.at_a⟩
  | on h1 h2 h3 ih =>
    exact ⟨(hn.2 _ ih.1.1 ih.1.2).2 _ h2, hr.closed _ ih.1.1 ih.2 (by simp) _ h2 h3⟩
theorem listOf_l0 (l : List Bool) (hl : l.length ≤ 1000) : ∀ (d i : Nat) (acc : List Int), l.length - i = d → i ≤ l.length → acc.length ≤ i → acc.Pairwise (· < ·) → (∀ y, y ∈ acc ↔ 0 ≤ y ∧ y < (i : Int) ∧ rdOf false l y = true) →
    ∃ r, Ev (fun k => impl_listOf.l0 k acc l (l.length : Int) (i : Int)) r ∧ r.Pairwise (· < ·) ∧ r.length ≤ l.length ∧ ∀ y, y ∈ r ↔ 0 ≤ y ∧ y < (l.length : Int) ∧ rdOf false l y = true
  | 0, i, acc, hd, hi, ha, hs, hm => by
    obtain rfl : i = l.length := by omega
    exact ⟨acc, Ev.step (f := fun _ => some acc) (fun k => by simp only [impl_listOf.l0]; rw [if_neg (by omega)]) (Ev.now _), hs, ha, hm⟩
  | d + 1, i, acc, hd, hi, ha, hs, hm => by
    have h : i < l.length := by omega
    by_cases q : rdOf false l (i : Int) = true
    · obtain ⟨r, e, h1, h2, h3⟩ := listOf_l0 l hl d (i + 1) (acc ++ [(i : Int)]) (by omega) (by omega) (by rw [List.length_append, List.length_singleton]; omega) (by
          rw [List.pairwise_append]
          exact ⟨hs, List.pairwise_singleton _ _, fun y hy z hz => by rw [List.mem_singleton] at hz; have := ((hm y).1 hy).2.1; omega⟩) (fun y => by
          rw [List.mem_append, hm y, List.mem_singleton]
          constructor
          · rintro (⟨a, b, c⟩ | rfl)
            · exact ⟨a, by omega, c⟩
            · exact ⟨by omega, by omega, q⟩
          · rintro ⟨a, b, c⟩
            by_cases e : y = (i : Int)
            · exact .inr e
            · exact .inl ⟨a, by omega, c⟩)
      refine ⟨r, Ev.step (fun k => ?_) e, h1, h2, h3⟩
      simp only [impl_listOf.l0]
      rw [if_pos (by omega), if_pos (by omega), if_pos (by omega), if_pos q, if_pos (by omega), wnext i _ h (by unfold Max; omega)]
    · obtain ⟨r, e, h1, h2, h3⟩ := listOf_l0 l hl d (i + 1) acc (by omega) (by omega) (by omega) hs (fun y => by
          rw [hm y]
          constructor
          · rintro ⟨a, b, c⟩
            exact ⟨a, by omega, c⟩
          · rintro ⟨a, b, c⟩
            have : y ≠ (i : Int) := fun e => q (by rw [← e]; exact c)
            exact ⟨a, by omega, c⟩)
      refine ⟨r, Ev.step (fun k => ?_) e, h1, h2, h3⟩
      simp only [impl_listOf.l0]
      rw [if_pos (by omega), if_pos (by omega), if_pos (by omega), if_neg q, wnext i _ h (by unfold Max; omega)]
theorem listOf_f (l : List Bool) (hl : l.length ≤ 1000) : ∃ r, Ev (fun k => impl_listOf.f k l) r ∧ r.Pairwise (· < ·) ∧ r.length ≤ l.length ∧ ∀ y, y ∈ r ↔ 0 ≤ y ∧ y < (l.length : Int) ∧ rdOf false l y = true := by
  obtain ⟨r, e, h⟩ := listOf_l0 l hl _ 0 [] rfl (Nat.zero_le _) (Nat.le_refl _) List.Pairwise.nil (fun y => by simp; omega)
  exact ⟨r, Ev.congr (fun k => rfl) e, h⟩
end Go.Proofs.Ytghlbhijkhkgkaa.PA
end
section
/- The flow seat: the blocks to which ways lead, as a rising list. -/
namespace Go.Proofs.Ytghlbhijkhkgkaa.PA
open Go.RowKit Go.Proofs.YtghlbhijkhkgkaaW.PrintWords Go.Proofs.YtghlbhijkhkgkaaW.PrintLast Go.Proofs.YtghlbhijkhkgkaaW.PrintMore
set_option linter.unusedVariables false
/-- Blocks whose jumps stay among them. -/
structure GoodRows (bs : List S87) : Prop where
  one : 1 ≤ bs.length
  len : bs.length ≤ 8
  two : ∀ k, k < bs.length → (rd_T87 bs (k : Int)).f4.length ≤ 2
  stay : ∀ k, k < bs.length → ∀ c ∈ toL (rd_T87 bs (k : Int)), 0 ≤ c ∧ c < (bs.length : Int)
theorem rows_of_good {p : Int} {bs : List S87} (hg : goodB p bs = true) : GoodRows bs := by
  obtain ⟨_, hn, _⟩ := good_iff hg
  refine ⟨hn.1, hn.2, fun k hk => (good_at hg k hk).jumps, fun k hk c hc => ?_⟩
  obtain ⟨x, hx, rfl⟩ := List.mem_map.1 hc
  exact ((good_at hg k hk).jump x hx).1
theorem nextL_len (bs : List S87) : (nextL bs).length = bs.length := by simp [nextL]
theorem nextL_rd (bs : List S87) (k : Nat) (hk : k < bs.length) : rd_L1 (nextL bs) (k : Int) = toL (rd_T87 bs (k : Int)) := by
  rw [← nextL_at bs k hk]; rfl
/-- The numbers below n that are so, rising. -/
def numsL (n : Nat) (q : Int → Bool) : List Int := ((List.range n).map fun (j : Nat) => (j : Int)).filter q
theorem mem_numsL {n : Nat} {q : Int → Bool} {y : Int} : y ∈ numsL n q ↔ (0 ≤ y ∧ y < (n : Int)) ∧ q y = true := by
  rw [numsL, List.mem_filter, List.mem_map]
  constructor
  · rintro ⟨⟨j, hj, rfl⟩, h⟩
    rw [List.mem_range] at hj
    exact ⟨by omega, h⟩
  · rintro ⟨h1, h⟩
    exact ⟨⟨y.toNat, List.mem_range.2 (by omega), by omega⟩, h⟩
theorem rises_numsL (n : Nat) (q : Int → Bool) : Rises (numsL n q) := by
  refine List.Pairwise.filter q ?_
  rw [List.pairwise_map]
  exact List.Pairwise.imp (fun h => by omega) List.pairwise_lt_range
theorem numsL_len (n : Nat) (q : Int → Bool) : (numsL n q).length ≤ n := Nat.le_trans (List.length_filter_le _ _) (by simp)
theorem numsL_ext {l : List Int} {n : Nat} {q : Int → Bool} (hs : Rises l) (h : ∀ y, y ∈ l ↔ (0 ≤ y ∧ y < (n : Int)) ∧ q y = true) : l = numsL n q :=
  rises_ext _ _ hs (rises_numsL n q) fun y => by rw [h y, mem_numsL]
theorem rises_len : ∀ (l : List Int) (lo hi : Int), Rises l → (∀ y ∈ l, lo ≤ y ∧ y < hi) → l.length ≤ (hi - lo).toNat
  | [], _, _, _, _ => Nat.zero_le _
  | a :: l, lo, hi, h, hb => by
    obtain ⟨h1, h2⟩ := List.pairwise_cons.1 h
    have ha := hb a List.mem_cons_self
    have := rises_len l (a + 1) hi h2 fun y hy => ⟨by have := h1 y hy; omega, (hb y (List.mem_cons_of_mem _ hy)).2⟩
    rw [List.length_cons]
    omega
/-- The blocks to which ways lead from a, that do not come to but. -/
noncomputable def fromL (next : List (List Int)) (a but : Int) : List Int := if a = but then [] else numsL next.length fun y => @decide (Way next but a y) (Classical.propDecidable _)
section
variable {next : List (List Int)} {a but y : Int}
theorem way_in (hn : RowsOk next) (ha : 0 ≤ a ∧ a < (next.length : Int)) (h : Way next but a y) : 0 ≤ y ∧ y < (next.length : Int) := by
  induction h with
  | here => exact ha
  | on h1 h2 h3 ih => exact (hn.2 _ ih.1 ih.2).2 _ h2
theorem mem_fromL : y ∈ fromL next a but ↔ a ≠ but ∧ (0 ≤ y ∧ y < (next.length : Int)) ∧ Way next but a y := by
  unfold fromL
  split
  · rename_i h
    exact ⟨fun h => (by cases h), fun h2 => absurd h h2.1⟩
  · rename_i h
    rw [mem_numsL]
    exact ⟨fun h2 => ⟨h, h2.1, @of_decide_eq_true _ (_) h2.2⟩, fun h2 => ⟨h2.2.1, @decide_eq_true _ (_) h2.2.2⟩⟩
theorem mem_fromL' (hn : RowsOk next) (ha : 0 ≤ a ∧ a < (next.length : Int)) : y ∈ fromL next a but ↔ a ≠ but ∧ Way next but a y := by
  rw [mem_fromL]
  exact ⟨fun h => ⟨h.1, h.2.2⟩, fun h => ⟨h.1, way_in hn ha h.2, h.2⟩⟩
theorem rises_fromL (next : List (List Int)) (a but : Int) : Rises (fromL next a but) := by
  unfold fromL
  split
  · exact List.Pairwise.nil
  · exact rises_numsL _ _
theorem listOf_is (l : List Bool) (hl : l.length ≤ 1000) : Ev (fun k => impl_listOf.f k l) (numsL l.length (rdOf false l)) := by
  obtain ⟨r, ev, h1, h2, h3⟩ := listOf_f l hl
  rw [← numsL_ext (n := l.length) (q := rdOf false l) h1 fun y => by rw [h3 y, and_assoc]]
  exact ev
end
end Go.Proofs.Ytghlbhijkhkgkaa.PA
end
