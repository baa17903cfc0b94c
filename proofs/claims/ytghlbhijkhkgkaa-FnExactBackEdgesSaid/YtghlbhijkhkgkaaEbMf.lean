/- Parts of the walk. -/
import Derived.Test.YtghlbhijkhkgkaaEbMa
import Derived.Test.YtghlbhijkhkgkaaEbPAz1
import Derived.Test.YtghlbhijkhkgkaaEbPAx0
section
/- The flow seat: marking a row of numbers and finding the marks again, in plain words. -/
namespace Go.Proofs.Ytghlbhijkhkgkaa.PA
open Go.RowKit Go.Proofs.YtghlbhijkhkgkaaW.PrintWords Go.Proofs.YtghlbhijkhkgkaaW.PrintLast Go.Proofs.YtghlbhijkhkgkaaW.PrintMore
set_option linter.unusedVariables false
theorem small_mark {bs : List S95} (h : Small bs) : (bs.map cB).length ≤ 1048576 ∧ ∀ x ∈ bs.map cB, (x.f1.length ≤ 1048576 ∧ ∀ y ∈ x.f1, y.f2.length ≤ 1048576) ∧ (x.f4.length ≤ 1048576 ∧ ∀ y ∈ x.f4, y.f1.length ≤ 1048576) := by
  refine ⟨by rw [List.length_map]; exact h.1, fun x hx => ?_⟩
  obtain ⟨b, hb, rfl⟩ := List.mem_map.1 hx
  obtain ⟨⟨h1, h2⟩, h3, h4⟩ := h.2 b hb
  refine ⟨⟨by simpa [cB] using h1, fun y hy => ?_⟩, by simpa [cB] using h3, fun y hy => ?_⟩
  · simp only [cB, List.mem_map] at hy
    obtain ⟨z, hz, rfl⟩ := hy
    exact h2 z hz
  · simp only [cB, List.mem_map] at hy
    obtain ⟨z, hz, rfl⟩ := hy
    exact h4 z hz
end Go.Proofs.Ytghlbhijkhkgkaa.PA
end
section
/- The flow seat: rows of rows of one's own: an element lent, grown, put back. -/
namespace Go.Proofs.Ytghlbhijkhkgkaa.PA
open Go.RowKit Go.Proofs.YtghlbhijkhkgkaaW.PrintWords Go.Proofs.YtghlbhijkhkgkaaW.PrintLast Go.Proofs.YtghlbhijkhkgkaaW.PrintMore
set_option linter.unusedVariables false
/-- Rows of numbers. -/
abbrev kR : Kd (List Int) := Kd.slice 3 (Kd.int .i64)
/-- Rows of bools. -/
abbrev kB : Kd (List Bool) := Kd.slice 4 Kd.bool
section
variable {α : Type} {d : Kd α} {ei eo : Nat} {W w1 : World} {base g n cap i : Nat} {ok oki : Nat → Prop} {rows : List (List α)} {v v1 : Value} {ys : List α}
theorem rows_lend (h : Kd.S (Kd.slice ei d) eo W base ok (.slice (some ⟨g, 0, none⟩) n cap) rows) (hi : i < n) :
    ∃ (oki : Nat → Prop) (v : Value), W.cell? ⟨g, i, none⟩ = some v ∧ W.frozen? ⟨g, i, none⟩ = false ∧ d.R ei W base oki v (rows.getD i []) ∧ (∀ k, oki k → ok k ∧ k ≠ g) ∧ Kd.H (Kd.slice ei d) eo W base ok (.slice (some ⟨g, 0, none⟩) n cap) rows (i : Int) oki [v] := by
  obtain ⟨oki, c, hcl, hM, hcc, hfr, hoki, hH⟩ := Kd.S_elem h [] (i : Int) (by omega) (by omega)
  obtain ⟨v, rfl, hR⟩ := hM
  have h1 : W.cell? ⟨g, (i : Int).toNat * 1 + 0, none⟩ = some v := hcc 0 v rfl
  have h2 : W.frozen? ⟨g, (i : Int).toNat * 1 + 0, none⟩ = false := hfr 0
  rw [Int.toNat_natCast, Nat.mul_one, Nat.add_zero] at h1 h2
  rw [Int.toNat_natCast] at hR
  exact ⟨oki, v, h1, h2, hR, hoki, hH⟩
theorem rows_back (hH : Kd.H (Kd.slice ei d) eo w1 base ok (.slice (some ⟨g, 0, none⟩) n cap) rows (i : Int) (fun k => oki k ∨ ok k ∧ W.heap.size ≤ k) [v]) (hi : i < n) (hR : d.R ei w1 base (fun k => oki k ∨ W.heap.size ≤ k) v1 ys) (hok : ∀ k, W.heap.size ≤ k → ok k) :
    Kd.S (Kd.slice ei d) eo (w1.setCell ⟨g, i, none⟩ v1) base ok (.slice (some ⟨g, 0, none⟩) n cap) (rows.set i ys) ∧ w1.grownBy (w1.setCell ⟨g, i, none⟩ v1) (some g) := by
  have h3 : Kd.H (Kd.slice ei d) eo w1 base (fun k => ok k ∧ ¬ False) (.slice (some ⟨g, 0, none⟩) n cap) rows (i : Int) (fun k => oki k ∨ ok k ∧ W.heap.size ≤ k) [v] := Kd.H_mono hH (fun k hk => ⟨hk, fun h => h⟩)
  have h4 := Kd.S_seg (okg := fun _ => False) (seg := [v1]) (j := 0) (x' := ys) (okp := fun k => oki k ∨ W.heap.size ≤ k) h3 (by omega) (by omega) (Nat.le_refl 1) ⟨v1, rfl, hR⟩ (fun k hk => .inl (hk.elim .inl (fun h => .inr ⟨hok k h, h⟩))) (fun k hk => hk.elim)
  have e : (i : Int).toNat * (Kd.slice ei d).sz + 0 = i := by show (i : Int).toNat * 1 + 0 = i; rw [Int.toNat_natCast, Nat.mul_one, Nat.add_zero]
  rw [e, Int.toNat_natCast] at h4
  exact h4
/-- The element has been appended to. -/
theorem rows_put (hH : Kd.H (Kd.slice ei d) eo W base ok (.slice (some ⟨g, 0, none⟩) n cap) rows (i : Int) oki [v]) (hi : i < n) (hR : d.R ei w1 base (fun k => oki k ∨ W.heap.size ≤ k) v1 ys) (hg : W.grownBy w1 v.ownBlock) (hrow : ∀ k, v.ownBlock = some k → oki k) (hok : ∀ k, W.heap.size ≤ k → ok k) :
    Kd.S (Kd.slice ei d) eo (w1.setCell ⟨g, i, none⟩ v1) base ok (.slice (some ⟨g, 0, none⟩) n cap) (rows.set i ys) ∧ w1.grownBy (w1.setCell ⟨g, i, none⟩ v1) (some g) :=
  rows_back (Kd.H_grown (Kd.H_widen hH) hg (fun k hk => .inl (hrow k hk))) hi hR hok
/-- The element is a new row. -/
theorem rows_new (hH : Kd.H (Kd.slice ei d) eo W base ok (.slice (some ⟨g, 0, none⟩) n cap) rows (i : Int) oki [v]) (hi : i < n) (hR : d.R ei w1 base (fun k => W.heap.size ≤ k) v1 ys) (hb : Below W.heap.size W w1) (hok : ∀ k, W.heap.size ≤ k → ok k) :
    Kd.S (Kd.slice ei d) eo (w1.setCell ⟨g, i, none⟩ v1) base ok (.slice (some ⟨g, 0, none⟩) n cap) (rows.set i ys) ∧ w1.grownBy (w1.setCell ⟨g, i, none⟩ v1) (some g) :=
  rows_back (Kd.H_below (Kd.H_widen hH) hb) hi (Kd.R_mono hR (fun k h => .inr h)) hok
theorem rows_at (h : Kd.S (Kd.slice ei d) eo W base ok (.slice (some ⟨g, 0, none⟩) n cap) rows) (hp : 0 < n) : ∃ cells, W.heap[g]? = some (.cells cells eo (0, 0)) := by
  have hn := (Kd.S_reads' h).1
  obtain ⟨g', cap', e, _, _, hc⟩ := Kd.S_form h (by omega)
  simp only [Value.slice.injEq, Option.some.injEq, Addr.mk.injEq] at e
  obtain ⟨⟨rfl, _⟩, _⟩ := e
  exact hc
end
end Go.Proofs.Ytghlbhijkhkgkaa.PA
end
