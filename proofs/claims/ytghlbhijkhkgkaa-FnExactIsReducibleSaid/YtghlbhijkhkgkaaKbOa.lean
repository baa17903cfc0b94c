/- Parts of the walk. -/
import Derived.Test.YtghlbhijkhkgkaaKbPAz5
import Derived.Test.YtghlbhijkhkgkaaKbPAx0
section
/- The flow seat: dominators, in plain words. -/
namespace Go.Proofs.Ytghlbhijkhkgkaa.PA
open Go.RowKit Go.Proofs.YtghlbhijkhkgkaaW.PrintWords Go.Proofs.YtghlbhijkhkgkaaW.PrintLast Go.Proofs.YtghlbhijkhkgkaaW.PrintMore
set_option linter.unusedVariables false
/-- The blocks that are reached. -/
noncomputable def reached (next : List (List Int)) : List Int := fromL next 0 (-1)
/-- d dominates b: both are reached, and no way to b leaves d out. -/
noncomputable def domB (next : List (List Int)) (b d : Int) : Bool := decide (d ∈ reached next) && (decide (b ∈ reached next) && !decide (b ∈ fromL next 0 d))
/-- The dominators of a block. -/
noncomputable def domsRow (next : List (List Int)) (b : Int) : List Int := numsL next.length (domB next b)
noncomputable def allDoms (next : List (List Int)) : List (List Int) := (List.range next.length).map fun (b : Nat) => domsRow next (b : Int)
/-- What l13Doms tells of a block. -/
noncomputable def isDom (next : List (List Int)) (b d : Int) : Bool := decide (d = b) || !decide (b ∈ fromL next 0 d)
section
variable {next : List (List Int)} {a b d : Int}
theorem not_self (next : List (List Int)) (a b : Int) : b ∉ fromL next a b := fun h => by
  obtain ⟨h1, _, h2⟩ := mem_fromL.1 h
  exact way_ne h2 h1 rfl
theorem domB_iff : domB next b d = true ↔ d ∈ reached next ∧ b ∈ reached next ∧ b ∉ fromL next 0 d := by simp [domB]
theorem mem_domsRow : d ∈ domsRow next b ↔ d ∈ reached next ∧ b ∈ reached next ∧ b ∉ fromL next 0 d := by
  rw [domsRow, mem_numsL, domB_iff]
  exact ⟨fun h => h.2, fun h => ⟨(mem_fromL.1 h.1).2.1, h⟩⟩
theorem domsRow_none (h : b ∉ reached next) : domsRow next b = [] := by
  have : ∀ d, d ∉ domsRow next b := fun d hd => h (mem_domsRow.1 hd).2.1
  exact List.eq_nil_iff_forall_not_mem.2 this
theorem doms_filter (h : b ∈ reached next) : (numsL next.length (isDom next b)).filter (fun d => decide (d ∈ reached next)) = domsRow next b := by
  refine rises_ext _ _ (List.Pairwise.filter _ (rises_numsL _ _)) (rises_numsL _ _) fun d => ?_
  rw [List.mem_filter, mem_numsL, decide_eq_true_iff, mem_domsRow]
  simp only [isDom, Bool.or_eq_true, decide_eq_true_eq, Bool.not_eq_true', decide_eq_false_iff_not]
  constructor
  · rintro ⟨⟨h1, h2⟩, h3⟩
    refine ⟨h3, h, ?_⟩
    rcases h2 with rfl | h2
    · exact not_self _ _ _
    · exact h2
  · rintro ⟨h1, _, h3⟩
    exact ⟨⟨(mem_fromL.1 h1).2.1, .inr h3⟩, h1⟩
theorem numsL_succ (i : Nat) (q : Int → Bool) : numsL (i + 1) q = if q (i : Int) = true then numsL i q ++ [(i : Int)] else numsL i q := by
  rw [numsL, List.range_succ, List.map_append, List.filter_append]
  by_cases h : q (i : Int) = true
  · rw [if_pos h]
    simp [numsL, h]
  · rw [if_neg h]
    simp [numsL, h]
end
theorem doms_l0 (p : Int) (bs : List S87) (hg : GoodRows bs) (b : Int) : ∀ (d i : Nat), bs.length - i = d → i ≤ bs.length →
    Ev (fun k => spec_l13Doms.l0 k b (numsL i (isDom (nextL bs) b)) (bs.length : Int) (i : Int) p bs) (numsL bs.length (isDom (nextL bs) b))
  | 0, i, hd, hi => by
    obtain rfl : i = bs.length := by omega
    exact Ev.step (f := fun _ => some (numsL bs.length (isDom (nextL bs) b))) (fun k => by simp only [spec_l13Doms.l0]; rw [if_neg (by omega)]) (Ev.now _)
  | d + 1, i, hd, hi => by
    have h : i < bs.length := by omega
    have hlen := hg.len
    have ih := doms_l0 p bs hg b d (i + 1) (by omega) (by omega)
    have hl := numsL_len i (isDom (nextL bs) b)
    rw [numsL_succ] at ih
    by_cases e : (i : Int) = b
    · have q : isDom (nextL bs) b (i : Int) = true := by simp [isDom, e]
      rw [if_pos q] at ih
      refine Ev.step (fun k => ?_) ih
      simp only [spec_l13Doms.l0]
      rw [if_pos (by omega), if_pos e, if_pos (by omega), wnext i bs.length h (by unfold Max; omega)]
    · have hf := spec_l13From.is hg p 0 (i : Int) ⟨Int.le_refl _, by omega⟩
      have hfl := fromL_len (nextL bs) 0 (i : Int)
      rw [nextL_len] at hfl
      have hh := has_l0 b (fromL (nextL bs) 0 (i : Int)) (by omega) _ 0 rfl
      rw [List.drop_zero] at hh
      refine Ev.step (f := fun k => (spec_l1Has.f k (fromL (nextL bs) 0 (i : Int)) b).bind fun u => if u = true then spec_l13Doms.l0 k b (numsL i (isDom (nextL bs) b)) (bs.length : Int) ((i + 1 : Nat) : Int) p bs else (if (numsL i (isDom (nextL bs) b)).length < 17592186044416 then spec_l13Doms.l0 k b (numsL i (isDom (nextL bs) b) ++ [(i : Int)]) (bs.length : Int) ((i + 1 : Nat) : Int) p bs else none)) (fun k => ?_) (Ev.bind (Ev.congr (fun k => rfl) hh) ?_)
      · simp only [spec_l13Doms.l0]
        rw [if_pos (by omega), if_neg e, hf, Option.bind_some, wnext i bs.length h (by unfold Max; omega)]
      · by_cases hv : b ∈ fromL (nextL bs) 0 (i : Int)
        · have q : ¬ isDom (nextL bs) b (i : Int) = true := by simp [isDom, e, hv]
          rw [if_neg q] at ih
          exact Ev.congr (fun k => if_pos (by simpa using hv)) ih
        · have q : isDom (nextL bs) b (i : Int) = true := by simp [isDom, hv]
          rw [if_pos q] at ih
          exact Ev.congr (fun k => by rw [if_neg (by simpa using hv), if_pos (by omega)]) ih
theorem doms_any {w : World} {A : Option Addr} {c : Nat} (p : Int) (bs : List S87) (b : Int) (hg : GoodRows bs) (hr : Kd.C k87 w A bs.length bs) (hc : bs.length ≤ c) :
    Calls Try.prog 115 #[.agg #[.int .i64 p, .slice A bs.length c], .int .i64 b] w fun e w' => ∃ v : Value, e = .returned v ∧ (Kd.int .i64).R 3 w' w.heap.size (fun _ => True) v (numsL bs.length (isDom (nextL bs) b)) ∧ Below w.heap.size w w' := by
  obtain ⟨k, hk⟩ := Ev.rounds (Ev.congr (g := fun k => spec_l13Doms.f k p bs b) (fun k => rfl) (doms_l0 p bs hg b _ 0 rfl (Nat.zero_le _)))
  exact spec_l13Doms.calls k p A c bs b _ w hr hc hk
end Go.Proofs.Ytghlbhijkhkgkaa.PA
end
section
/- The flow seat: the order of dominators. -/
namespace Go.Proofs.Ytghlbhijkhkgkaa.PA
open Go.RowKit Go.Proofs.YtghlbhijkhkgkaaW.PrintWords Go.Proofs.YtghlbhijkhkgkaaW.PrintLast Go.Proofs.YtghlbhijkhkgkaaW.PrintMore
set_option linter.unusedVariables false
section
variable {next : List (List Int)} {a b d d1 d2 k y : Int}
theorem in_from (h0 : RowsOk next) (h1 : 0 < next.length) : y ∈ fromL next 0 d ↔ (0 : Int) ≠ d ∧ Way next d 0 y := mem_fromL' h0 ⟨Int.le_refl _, by omega⟩
theorem in_reached (h0 : RowsOk next) (h1 : 0 < next.length) : y ∈ reached next ↔ Way next (-1) 0 y := by
  unfold reached
  rw [in_from h0 h1]
  exact ⟨fun h => h.2, fun h => ⟨by omega, h⟩⟩
/-- Rising lists, one within the other. -/
theorem rises_sub : ∀ (l1 l2 : List Int), Rises l1 → Rises l2 → (∀ y ∈ l1, y ∈ l2) → l1.length ≤ l2.length
  | [], _, _, _, _ => Nat.zero_le _
  | a :: l1, [], _, _, h => absurd (h a List.mem_cons_self) (by simp)
  | a :: l1, c :: l2, h1, h2, h => by
    obtain ⟨a1, a2⟩ := List.pairwise_cons.1 h1
    obtain ⟨c1, c2⟩ := List.pairwise_cons.1 h2
    have hac : c ≤ a := by
      rcases List.mem_cons.1 (h a List.mem_cons_self) with e | e
      · omega
      · have := c1 a e; omega
    have := rises_sub l1 l2 a2 c2 fun y hy => by
      rcases List.mem_cons.1 (h y (List.mem_cons_of_mem _ hy)) with e | e
      · have := a1 y hy; omega
      · exact e
    rw [List.length_cons, List.length_cons]
    omega
theorem rises_sub_eq (l1 l2 : List Int) (h1 : Rises l1) (h2 : Rises l2) (h : ∀ y ∈ l1, y ∈ l2) (hl : l1.length = l2.length) : l1 = l2 := by
  refine rises_ext _ _ h1 h2 fun y => ⟨h y, fun hy => Classical.byContradiction fun hn => ?_⟩
  have hs : Rises (l2.filter fun z => decide (z ≠ y)) := List.Pairwise.filter _ h2
  have := rises_sub l1 _ h1 hs fun z hz => List.mem_filter.2 ⟨h z hz, by simpa using fun (e : z = y) => hn (e ▸ hz)⟩
  have hlt : (l2.filter fun z => decide (z ≠ y)).length < l2.length := by
    refine Nat.lt_of_le_of_ne (List.length_filter_le _ _) fun e => ?_
    have h3 : (l2.filter fun z => decide (z ≠ y)) = l2 := List.Sublist.eq_of_length List.filter_sublist e
    have h4 : y ∈ l2.filter fun z => decide (z ≠ y) := by rw [h3]; exact hy
    have := (List.mem_filter.1 h4).2
    simp at this
  omega
end
end Go.Proofs.Ytghlbhijkhkgkaa.PA
end
section
/- The flow seat: rows of rows of one's own: an element lent, grown, put back. -/
namespace Go.Proofs.Ytghlbhijkhkgkaa.PA
open Go.RowKit Go.Proofs.YtghlbhijkhkgkaaW.PrintWords Go.Proofs.YtghlbhijkhkgkaaW.PrintLast Go.Proofs.YtghlbhijkhkgkaaW.PrintMore
set_option linter.unusedVariables false
/-- Rows of numbers. -/
abbrev kR : Kd (List Int) := Kd.slice 3 (Kd.int .i64)
/-- Rows of bools. -/
abbrev kB : Kd (List Bool) := Kd.slice 4 Kd.bool
section
variable {α : Type} {d : Kd α} {ei eo : Nat} {W w1 : World} {base g n cap i : Nat} {ok oki : Nat → Prop} {rows : List (List α)} {v v1 : Value} {ys : List α}
theorem rows_lend (h : Kd.S (Kd.slice ei d) eo W base ok (.slice (some ⟨g, 0, none⟩) n cap) rows) (hi : i < n) :
    ∃ (oki : Nat → Prop) (v : Value), W.cell? ⟨g, i, none⟩ = some v ∧ W.frozen? ⟨g, i, none⟩ = false ∧ d.R ei W base oki v (rows.getD i []) ∧ (∀ k, oki k → ok k ∧ k ≠ g) ∧ Kd.H (Kd.slice ei d) eo W base ok (.slice (some ⟨g, 0, none⟩) n cap) rows (i : Int) oki [v] := by
  obtain ⟨oki, c, hcl, hM, hcc, hfr, hoki, hH⟩ := Kd.S_elem h [] (i : Int) (by omega) (by omega)
  obtain ⟨v, rfl, hR⟩ := hM
  have h1 : W.cell? ⟨g, (i : Int).toNat * 1 + 0, none⟩ = some v := hcc 0 v rfl
  have h2 : W.frozen? ⟨g, (i : Int).toNat * 1 + 0, none⟩ = false := hfr 0
  rw [Int.toNat_natCast, Nat.mul_one, Nat.add_zero] at h1 h2
  rw [Int.toNat_natCast] at hR
  exact ⟨oki, v, h1, h2, hR, hoki, hH⟩
theorem rows_back (hH : Kd.H (Kd.slice ei d) eo w1 base ok (.slice (some ⟨g, 0, none⟩) n cap) rows (i : Int) (fun k => oki k ∨ ok k ∧ W.heap.size ≤ k) [v]) (hi : i < n) (hR : d.R ei w1 base (fun k => oki k ∨ W.heap.size ≤ k) v1 ys) (hok : ∀ k, W.heap.size ≤ k → ok k) :
    Kd.S (Kd.slice ei d) eo (w1.setCell ⟨g, i, none⟩ v1) base ok (.slice (some ⟨g, 0, none⟩) n cap) (rows.set i ys) ∧ w1.grownBy (w1.setCell ⟨g, i, none⟩ v1) (some g) := by
  have h3 : Kd.H (Kd.slice ei d) eo w1 base (fun k => ok k ∧ ¬ False) (.slice (some ⟨g, 0, none⟩) n cap) rows (i : Int) (fun k => oki k ∨ ok k ∧ W.heap.size ≤ k) [v] := Kd.H_mono hH (fun k hk => ⟨hk, fun h => h⟩)
  have h4 := Kd.S_seg (okg := fun _ => False) (seg := [v1]) (j := 0) (x' := ys) (okp := fun k => oki k ∨ W.heap.size ≤ k) h3 (by omega) (by omega) (Nat.le_refl 1) ⟨v1, rfl, hR⟩ (fun k hk => .inl (hk.elim .inl (fun h => .inr ⟨hok k h, h⟩))) (fun k hk => hk.elim)
  have e : (i : Int).toNat * (Kd.slice ei d).sz + 0 = i := by show (i : Int).toNat * 1 + 0 = i; rw [Int.toNat_natCast, Nat.mul_one, Nat.add_zero]
  rw [e, Int.toNat_natCast] at h4
  exact h4
/-- The element has been appended to. -/
theorem rows_put (hH : Kd.H (Kd.slice ei d) eo W base ok (.slice (some ⟨g, 0, none⟩) n cap) rows (i : Int) oki [v]) (hi : i < n) (hR : d.R ei w1 base (fun k => oki k ∨ W.heap.size ≤ k) v1 ys) (hg : W.grownBy w1 v.ownBlock) (hrow : ∀ k, v.ownBlock = some k → oki k) (hok : ∀ k, W.heap.size ≤ k → ok k) :
    Kd.S (Kd.slice ei d) eo (w1.setCell ⟨g, i, none⟩ v1) base ok (.slice (some ⟨g, 0, none⟩) n cap) (rows.set i ys) ∧ w1.grownBy (w1.setCell ⟨g, i, none⟩ v1) (some g) :=
  rows_back (Kd.H_grown (Kd.H_widen hH) hg (fun k hk => .inl (hrow k hk))) hi hR hok
/-- The element is a new row. -/
theorem rows_new (hH : Kd.H (Kd.slice ei d) eo W base ok (.slice (some ⟨g, 0, none⟩) n cap) rows (i : Int) oki [v]) (hi : i < n) (hR : d.R ei w1 base (fun k => W.heap.size ≤ k) v1 ys) (hb : Below W.heap.size W w1) (hok : ∀ k, W.heap.size ≤ k → ok k) :
    Kd.S (Kd.slice ei d) eo (w1.setCell ⟨g, i, none⟩ v1) base ok (.slice (some ⟨g, 0, none⟩) n cap) (rows.set i ys) ∧ w1.grownBy (w1.setCell ⟨g, i, none⟩ v1) (some g) :=
  rows_back (Kd.H_below (Kd.H_widen hH) hb) hi (Kd.R_mono hR (fun k h => .inr h)) hok
theorem rows_at (h : Kd.S (Kd.slice ei d) eo W base ok (.slice (some ⟨g, 0, none⟩) n cap) rows) (hp : 0 < n) : ∃ cells, W.heap[g]? = some (.cells cells eo (0, 0)) := by
  have hn := (Kd.S_reads' h).1
  obtain ⟨g', cap', e, _, _, hc⟩ := Kd.S_form h (by omega)
  simp only [Value.slice.injEq, Option.some.injEq, Addr.mk.injEq] at e
  obtain ⟨⟨rfl, _⟩, _⟩ := e
  exact hc
end
end Go.Proofs.Ytghlbhijkhkgkaa.PA
end
