/- The flow seat: the back edges, in plain words. -/
import Derived.Test.YtghlbhijkhkgkaaHbPAz11
import Derived.Test.YtghlbhijkhkgkaaHbPAz12
import Derived.Test.YtghlbhijkhkgkaaHbOd
namespace Go.Proofs.Ytghlbhijkhkgkaa.PA
open Go.RowKit Go.Proofs.YtghlbhijkhkgkaaW.PrintWords Go.Proofs.YtghlbhijkhkgkaaW.PrintLast Go.Proofs.YtghlbhijkhkgkaaW.PrintMore
set_option linter.unusedVariables false
/-- Where the back edges of a block go. -/
noncomputable def backRow (next : List (List Int)) (b : Int) : List Int := (domsRow next b).filter fun t => decide (t ∈ rd_L1 next b)
/-- The back edges of the first i blocks. -/
noncomputable def backsL (next : List (List Int)) (i : Nat) : List (List Int) := (List.range i).flatMap fun (b : Nat) => (backRow next (b : Int)).map fun t => [(b : Int), t]
section
variable {next : List (List Int)} {i : Nat}
theorem backsL_succ (next : List (List Int)) (i : Nat) : backsL next (i + 1) = backsL next i ++ (backRow next (i : Int)).map fun t => [(i : Int), t] := by simp [backsL, List.range_succ]
theorem backRow_len (next : List (List Int)) (b : Int) : (backRow next b).length ≤ next.length := Nat.le_trans (List.length_filter_le _ _) (numsL_len _ _)
theorem backsL_len (h8 : next.length ≤ 8) : ∀ i, (backsL next i).length ≤ 8 * i
  | 0 => by simp [backsL]
  | i + 1 => by
    have h1 := backsL_len h8 i
    have h2 := backRow_len next (i : Int)
    rw [backsL_succ, List.length_append, List.length_map]
    omega
theorem backRow_of {r : List Int} {b : Int} (hs : Rises r) (hm : ∀ y, y ∈ r ↔ y ∈ rd_L1 next b) : (r.filter fun t => decide (t ∈ domsRow next b)) = backRow next b := by
  refine rises_ext _ _ (List.Pairwise.filter _ hs) (List.Pairwise.filter _ (rises_numsL _ _)) fun y => ?_
  rw [backRow, List.mem_filter, List.mem_filter, decide_eq_true_iff, decide_eq_true_iff, hm y]
  exact And.comm
theorem allDoms_rd (h : i < next.length) : rd_L1 (allDoms next) (i : Int) = domsRow next (i : Int) := by simp [rd_L1, allDoms, List.getD_eq_getElem?_getD, h]
theorem allDoms_len (next : List (List Int)) : (allDoms next).length = next.length := by simp [allDoms]
end
theorem backs_l1 (p : Int) (bs : List S87) (hg : GoodRows bs) (b : Nat) (hb : b < bs.length) (r : List Int) (hr : r.length ≤ 2) (R : List (List Int)) : ∀ (d j : Nat) (acc : List (List Int)), r.length - j = d → j ≤ r.length → acc.length + d ≤ 1000 →
    Ev (fun k => spec_l13Backs.l0 k (allDoms (nextL bs)) (acc ++ ((r.drop j).filter fun t => decide (t ∈ domsRow (nextL bs) (b : Int))).map fun t => [(b : Int), t]) (bs.length : Int) ((b + 1 : Nat) : Int) p bs) R →
    Ev (fun k => spec_l13Backs.l1 k (allDoms (nextL bs)) acc (b : Int) (bs.length : Int) (b : Int) r (r.length : Int) (j : Int) p bs) R
  | 0, j, acc, hd, hj, ha, h => by
    have h8 := hg.len
    rw [List.drop_of_length_le (by omega), List.filter_nil, List.map_nil, List.append_nil] at h
    refine Ev.step (fun k => ?_) h
    simp only [spec_l13Backs.l1]
    rw [if_neg (by omega), wnext b bs.length hb (by unfold Max; omega)]
  | d + 1, j, acc, hd, hj, ha, h => by
    have hl : j < r.length := by omega
    have h8 := hg.len
    have hnl := nextL_len bs
    have hdl := numsL_len (nextL bs).length (domB (nextL bs) (b : Int))
    have hh := has_l0 r[j] (domsRow (nextL bs) (b : Int)) (by show (numsL _ _).length ≤ 1000; omega) _ 0 rfl
    rw [List.drop_zero] at hh
    have hrd := rd_at r j hl
    have hal := allDoms_len (nextL bs)
    refine Ev.step (f := fun k => (spec_l1Has.f k (domsRow (nextL bs) (b : Int)) r[j]).bind fun t => if t = true then (if acc.length < 5864062014805 then spec_l13Backs.l1 k (allDoms (nextL bs)) (acc ++ [[(b : Int), r[j]]]) (b : Int) (bs.length : Int) (b : Int) r (r.length : Int) ((j + 1 : Nat) : Int) p bs else none) else spec_l13Backs.l1 k (allDoms (nextL bs)) acc (b : Int) (bs.length : Int) (b : Int) r (r.length : Int) ((j + 1 : Nat) : Int) p bs) (fun k => ?_) (Ev.bind (Ev.congr (fun k => rfl) hh) ?_)
    · simp only [spec_l13Backs.l1]
      rw [if_pos (by omega), if_pos (by omega), if_pos (by omega), if_pos (by omega), if_pos (by omega), allDoms_rd (by omega), hrd, wnext j r.length hl (by unfold Max; omega)]
    · rw [List.drop_eq_getElem_cons hl] at h
      by_cases q : r[j] ∈ domsRow (nextL bs) (b : Int)
      · rw [List.filter_cons_of_pos (by simpa using q), List.map_cons] at h
        have ih := backs_l1 p bs hg b hb r hr R d (j + 1) (acc ++ [[(b : Int), r[j]]]) (by omega) (by omega) (by rw [List.length_append, List.length_singleton]; omega) (by rw [List.append_assoc, List.singleton_append]; exact h)
        exact Ev.congr (fun k => by rw [if_pos (by simpa using q), if_pos (by omega)]) ih
      · rw [List.filter_cons_of_neg (by simpa using q)] at h
        have ih := backs_l1 p bs hg b hb r hr R d (j + 1) acc (by omega) (by omega) (by omega) h
        exact Ev.congr (fun k => if_neg (by simpa using q)) ih
theorem backs_l0 (p : Int) (bs : List S87) (hg : GoodRows bs) : ∀ (d i : Nat), bs.length - i = d → i ≤ bs.length →
    Ev (fun k => spec_l13Backs.l0 k (allDoms (nextL bs)) (backsL (nextL bs) i) (bs.length : Int) (i : Int) p bs) (backsL (nextL bs) bs.length)
  | 0, i, hd, hi => by
    obtain rfl : i = bs.length := by omega
    exact Ev.step (f := fun _ => some (backsL (nextL bs) bs.length)) (fun k => by simp only [spec_l13Backs.l0]; rw [if_neg (by omega)]) (Ev.now _)
  | d + 1, i, hd, hi => by
    have h : i < bs.length := by omega
    have h8 := hg.len
    have hbl := backsL_len (next := nextL bs) (by rw [nextL_len]; exact h8) i
    obtain ⟨r, ev, h1, h2, h3⟩ := nexts_fs p bs i h (hg.two i h)
    have ih := backs_l0 p bs hg d (i + 1) (by omega) (by omega)
    have hrow := backRow_of (next := nextL bs) (b := (i : Int)) h3 fun y => by rw [h1 y, nextL_rd bs i h]
    refine Ev.step (fun k => ?_) (Ev.bind (f := fun k t => spec_l13Backs.l1 k (allDoms (nextL bs)) (backsL (nextL bs) i) (i : Int) (bs.length : Int) (i : Int) t (t.length : Int) 0 p bs) ev (backs_l1 p bs hg i h r h2 _ _ 0 _ rfl (Nat.zero_le _) (by omega) (by rw [List.drop_zero, hrow, ← backsL_succ]; exact ih)))
    simp only [spec_l13Backs.l0]
    rw [if_pos (by omega)]
theorem backs_f (p : Int) (bs : List S87) (hg : GoodRows bs) : Ev (fun k => spec_l13Backs.f k p bs) (backsL (nextL bs) bs.length) :=
  Ev.congr (fun k => by unfold spec_l13Backs.f; rw [spec_l13AllDoms.is hg k p, Option.bind_some]; rfl) (backs_l0 p bs hg _ 0 rfl (Nat.zero_le _))
theorem edges_l1 (next : List (List Int)) (hok : RowsOk next) (h8 : next.length ≤ 8) (b : Nat) (hb : b < next.length) (r : List Int) (hr : r.length ≤ 8) (R : List (List Int)) : ∀ (d j : Nat) (acc : List (List Int)), r.length - j = d → j ≤ r.length → acc.length + d ≤ 1000 →
    Ev (fun k => impl_backEdges.l0 k next (acc ++ ((r.drop j).filter fun t => decide (t ∈ rd_L1 next (b : Int))).map fun t => [(b : Int), t]) (domGrid next) (next.length : Int) ((b + 1 : Nat) : Int)) R →
    Ev (fun k => impl_backEdges.l1 k next acc (b : Int) (domGrid next) (next.length : Int) (b : Int) r (r.length : Int) (j : Int)) R
  | 0, j, acc, hd, hj, ha, h => by
    rw [List.drop_of_length_le (by omega), List.filter_nil, List.map_nil, List.append_nil] at h
    refine Ev.step (fun k => ?_) h
    simp only [impl_backEdges.l1]
    rw [if_neg (by omega), wnext b next.length hb (by unfold Max; omega)]
  | d + 1, j, acc, hd, hj, ha, h => by
    have hl : j < r.length := by omega
    have hh := contains_f r[j] (rd_L1 next (b : Int)) (hok.2 (b : Int) (by omega) (by omega)).1
    have hrd := rd_at r j hl
    refine Ev.step (f := fun k => (slices_Contains_int_int.f k (rd_L1 next (b : Int)) r[j]).bind fun t => if t = true then (if acc.length < 5864062014805 then impl_backEdges.l1 k next (acc ++ [[(b : Int), r[j]]]) (b : Int) (domGrid next) (next.length : Int) (b : Int) r (r.length : Int) ((j + 1 : Nat) : Int) else none) else impl_backEdges.l1 k next acc (b : Int) (domGrid next) (next.length : Int) (b : Int) r (r.length : Int) ((j + 1 : Nat) : Int)) (fun k => ?_) (Ev.bind hh ?_)
    · simp only [impl_backEdges.l1]
      rw [if_pos (by omega), if_pos (by omega), if_pos (by omega), if_pos (by omega), if_pos (by omega), hrd, wnext j r.length hl (by unfold Max; omega)]
    · rw [List.drop_eq_getElem_cons hl] at h
      by_cases q : r[j] ∈ rd_L1 next (b : Int)
      · rw [List.filter_cons_of_pos (by simpa using q), List.map_cons] at h
        have ih := edges_l1 next hok h8 b hb r hr R d (j + 1) (acc ++ [[(b : Int), r[j]]]) (by omega) (by omega) (by rw [List.length_append, List.length_singleton]; omega) (by rw [List.append_assoc, List.singleton_append]; exact h)
        exact Ev.congr (fun k => by rw [if_pos (by simpa using q), if_pos (by omega)]) ih
      · rw [List.filter_cons_of_neg (by simpa using q)] at h
        have ih := edges_l1 next hok h8 b hb r hr R d (j + 1) acc (by omega) (by omega) (by omega) h
        exact Ev.congr (fun k => if_neg (by simpa using q)) ih
theorem domGrid_rd (next : List (List Int)) (i : Nat) (h : i < next.length) : rd_L13 (domGrid next) (i : Int) = rowF next.length (domB next) (i : Int) := by
  have := grid_get (n := next.length) (f := domB next) h
  rw [rd_L13, Int.toNat_natCast, domGrid]
  exact this
theorem edges_l0 (next : List (List Int)) (hok : RowsOk next) (h8 : next.length ≤ 8) : ∀ (d i : Nat), next.length - i = d → i ≤ next.length →
    Ev (fun k => impl_backEdges.l0 k next (backsL next i) (domGrid next) (next.length : Int) (i : Int)) (backsL next next.length)
  | 0, i, hd, hi => by
    obtain rfl : i = next.length := by omega
    exact Ev.step (f := fun _ => some (backsL next next.length)) (fun k => by simp only [impl_backEdges.l0]; rw [if_neg (by omega)]) (Ev.now _)
  | d + 1, i, hd, hi => by
    have h : i < next.length := by omega
    have hbl := backsL_len h8 i
    have hdl := numsL_len next.length (domB next (i : Int))
    have ev := listOf_is (rowF next.length (domB next) (i : Int)) (by rw [rowF_len]; omega)
    rw [listOf_dom] at ev
    have ih := edges_l0 next hok h8 d (i + 1) (by omega) (by omega)
    have hgl : (domGrid next).length = next.length := by rw [domGrid, grid_len]
    refine Ev.step (fun k => ?_) (Ev.bind (f := fun k t => impl_backEdges.l1 k next (backsL next i) (i : Int) (domGrid next) (next.length : Int) (i : Int) t (t.length : Int) 0) ev (edges_l1 next hok h8 i h (domsRow next (i : Int)) (by show (numsL _ _).length ≤ 8; omega) _ _ 0 _ rfl (Nat.zero_le _) (by have : (domsRow next (i : Int)).length ≤ 8 := (by show (numsL _ _).length ≤ 8; omega); omega) (by rw [List.drop_zero]; show Ev (fun k => impl_backEdges.l0 k next (backsL next i ++ (backRow next (i : Int)).map fun t => [(i : Int), t]) (domGrid next) (next.length : Int) ((i + 1 : Nat) : Int)) _; rw [← backsL_succ]; exact ih)))
    simp only [impl_backEdges.l0]
    rw [if_pos (by omega), if_pos (by omega), if_pos (by omega), domGrid_rd next i h]
theorem edges_f (next : List (List Int)) (hok : RowsOk next) (h1 : 0 < next.length) (h8 : next.length ≤ 8) : Ev (fun k => impl_backEdges.f k next) (backsL next next.length) := by
  have hgl : (domGrid next).length = next.length := by rw [domGrid, grid_len]
  refine Ev.congr (fun k => ?_) (edges_l0 next hok h8 _ 0 rfl (Nat.zero_le _))
  unfold impl_backEdges.f
  rw [impl_dominators.is hok h1 h8 k, Option.bind_some, hgl]
  rfl
end Go.Proofs.Ytghlbhijkhkgkaa.PA
