/- Parts of the walk. -/
import Derived.Test.YtghlbhijkhkgkaaKbOc
import Derived.Test.YtghlbhijkhkgkaaKbPAz2
import Derived.Test.YtghlbhijkhkgkaaKbPAz11
import Derived.Test.YtghlbhijkhkgkaaKbOa
section
/- Printed by the kit's print over surrogate texts, turned by this session -/
namespace Go.Proofs.Ytghlbhijkhkgkaa.PA
open Go.RowKit Go.Proofs.YtghlbhijkhkgkaaW.PrintWords Go.Proofs.YtghlbhijkhkgkaaW.PrintLast Go.Proofs.YtghlbhijkhkgkaaW.PrintMore
attribute [local go_sem] max2_int min2_int max_two min_two max_three min_three max_four min_four   -- for this text's walks alone
set_option linter.unusedVariables false
set_option linter.unusedSimpArgs false

noncomputable section
/-! ### impl_backEdges: function 80 -/
mutual
def impl_backEdges.l0 : Nat → List (List Int) → List (List Int) → List (List Bool) → Int → Int → Option ((List (List Int)))
  | 0, _, _, _, _, _ => none
  | k + 1, x0, x3, x10, x11, x12 => if x12 < x11 then (if 0 ≤ x12 then (if x12 < (x10.length : Int) then ((impl_listOf.f k (rd_L13 x10 x12)).bind fun t773 => (impl_backEdges.l1 k x0 x3 x12 x10 x11 x12 t773 (t773.length : Int) 0)) else (none)) else (none)) else (some x3)
def impl_backEdges.l1 : Nat → List (List Int) → List (List Int) → Int → List (List Bool) → Int → Int → List Int → Int → Int → Option ((List (List Int)))
  | 0, _, _, _, _, _, _, _, _, _ => none
  | k + 1, x0, x3, x4, x10, x11, x12, x18, x19, x20 => if x20 < x19 then (if 0 ≤ x20 then (if x20 < (x18.length : Int) then (if 0 ≤ x4 then (if x4 < (x0.length : Int) then ((slices_Contains_int_int.f k (rd_L1 x0 x4) (rd x18 x20)).bind fun t778 => (if t778 = true then (if x3.length < 5864062014805 then (impl_backEdges.l1 k x0 (x3 ++ [(([x4, rd x18 x20] : List Int))]) x4 x10 x11 x12 x18 x19 (wrap64 (x20 + 1))) else (none)) else (impl_backEdges.l1 k x0 x3 x4 x10 x11 x12 x18 x19 (wrap64 (x20 + 1))))) else (none)) else (none)) else (none)) else (none)) else (impl_backEdges.l0 k x0 x3 x10 x11 (wrap64 (x12 + 1)))
end


end
end Go.Proofs.Ytghlbhijkhkgkaa.PA
end
section
/- The flow seat: the back edges, in plain words. -/
namespace Go.Proofs.Ytghlbhijkhkgkaa.PA
open Go.RowKit Go.Proofs.YtghlbhijkhkgkaaW.PrintWords Go.Proofs.YtghlbhijkhkgkaaW.PrintLast Go.Proofs.YtghlbhijkhkgkaaW.PrintMore
set_option linter.unusedVariables false
/-- Where the back edges of a block go. -/
noncomputable def backRow (next : List (List Int)) (b : Int) : List Int := (domsRow next b).filter fun t => decide (t ∈ rd_L1 next b)
/-- The back edges of the first i blocks. -/
noncomputable def backsL (next : List (List Int)) (i : Nat) : List (List Int) := (List.range i).flatMap fun (b : Nat) => (backRow next (b : Int)).map fun t => [(b : Int), t]
section
variable {next : List (List Int)} {i : Nat}
theorem backsL_succ (next : List (List Int)) (i : Nat) : backsL next (i + 1) = backsL next i ++ (backRow next (i : Int)).map fun t => [(i : Int), t] := by simp [backsL, List.range_succ]
theorem backRow_len (next : List (List Int)) (b : Int) : (backRow next b).length ≤ next.length := Nat.le_trans (List.length_filter_le _ _) (numsL_len _ _)
theorem backsL_len (h8 : next.length ≤ 8) : ∀ i, (backsL next i).length ≤ 8 * i
  | 0 => by simp [backsL]
  | i + 1 => by
    have h1 := backsL_len h8 i
    have h2 := backRow_len next (i : Int)
    rw [backsL_succ, List.length_append, List.length_map]
    omega
theorem backRow_of {r : List Int} {b : Int} (hs : Rises r) (hm : ∀ y, y ∈ r ↔ y ∈ rd_L1 next b) : (r.filter fun t => decide (t ∈ domsRow next b)) = backRow next b := by
  refine rises_ext _ _ (List.Pairwise.filter _ hs) (List.Pairwise.filter _ (rises_numsL _ _)) fun y => ?_
  rw [backRow, List.mem_filter, List.mem_filter, decide_eq_true_iff, decide_eq_true_iff, hm y]
  exact And.comm
theorem allDoms_rd (h : i < next.length) : rd_L1 (allDoms next) (i : Int) = domsRow next (i : Int) := by simp [rd_L1, allDoms, List.getD_eq_getElem?_getD, h]
theorem allDoms_len (next : List (List Int)) : (allDoms next).length = next.length := by simp [allDoms]
end
theorem backs_l1 (p : Int) (bs : List S87) (hg : GoodRows bs) (b : Nat) (hb : b < bs.length) (r : List Int) (hr : r.length ≤ 2) (R : List (List Int)) : ∀ (d j : Nat) (acc : List (List Int)), r.length - j = d → j ≤ r.length → acc.length + d ≤ 1000 →
    Ev (fun k => spec_l13Backs.l0 k (allDoms (nextL bs)) (acc ++ ((r.drop j).filter fun t => decide (t ∈ domsRow (nextL bs) (b : Int))).map fun t => [(b : Int), t]) (bs.length : Int) ((b + 1 : Nat) : Int) p bs) R →
    Ev (fun k => spec_l13Backs.l1 k (allDoms (nextL bs)) acc (b : Int) (bs.length : Int) (b : Int) r (r.length : Int) (j : Int) p bs) R
  | 0, j, acc, hd, hj, ha, h => by
    have h8 := hg.len
    rw [List.drop_of_length_le (by omega), List.filter_nil, List.map_nil, List.append_nil] at h
    refine Ev.step (fun k => ?_) h
    simp only [spec_l13Backs.l1]
    rw [if_neg (by omega), wnext b bs.length hb (by unfold Max; omega)]
  | d + 1, j, acc, hd, hj, ha, h => by
    have hl : j < r.length := by omega
    have h8 := hg.len
    have hnl := nextL_len bs
    have hdl := numsL_len (nextL bs).length (domB (nextL bs) (b : Int))
    have hh := has_l0 r[j] (domsRow (nextL bs) (b : Int)) (by show (numsL _ _).length ≤ 1000; omega) _ 0 rfl
    rw [List.drop_zero] at hh
    have hrd := rd_at r j hl
    have hal := allDoms_len (nextL bs)
    refine Ev.step (f := fun k => (spec_l1Has.f k (domsRow (nextL bs) (b : Int)) r[j]).bind fun t => if t = true then (if acc.length < 5864062014805 then spec_l13Backs.l1 k (allDoms (nextL bs)) (acc ++ [[(b : Int), r[j]]]) (b : Int) (bs.length : Int) (b : Int) r (r.length : Int) ((j + 1 : Nat) : Int) p bs else none) else spec_l13Backs.l1 k (allDoms (nextL bs)) acc (b : Int) (bs.length : Int) (b : Int) r (r.length : Int) ((j + 1 : Nat) : Int) p bs) (fun k => ?_) (Ev.bind (Ev.congr (fun k => rfl) hh) ?_)
    · simp only [spec_l13Backs.l1]
      rw [if_pos (by omega), if_pos (by omega), if_pos (by omega), if_pos (by omega), if_pos (by omega), allDoms_rd (by omega), hrd, wnext j r.length hl (by unfold Max; omega)]
    · rw [List.drop_eq_getElem_cons hl] at h
      by_cases q : r[j] ∈ domsRow (nextL bs) (b : Int)
      · rw [List.filter_cons_of_pos (by simpa using q), List.map_cons] at h
        have ih := backs_l1 p bs hg b hb r hr R d (j + 1) (acc ++ [[(b : Int), r[j]]]) (by omega) (by omega) (by rw [List.length_append, List.length_singleton]; omega) (by rw [List.append_assoc, List.singleton_append]; exact h)
        exact Ev.congr (fun k => by rw [if_pos (by simpa using q), if_pos (by omega)]) ih
      · rw [List.filter_cons_of_neg (by simpa using q)] at h
        have ih := backs_l1 p bs hg b hb r hr R d (j + 1) acc (by omega) (by omega) (by omega) h
        exact Ev.congr (fun k => if_neg (by simpa using q)) ih
theorem backs_l0 (p : Int) (bs : List S87) (hg : GoodRows bs) : ∀ (d i : Nat), bs.length - i = d → i ≤ bs.length →
    Ev (fun k => spec_l13Backs.l0 k (allDoms (nextL bs)) (backsL (nextL bs) i) (bs.length : Int) (i : Int) p bs) (backsL (nextL bs) bs.length)
  | 0, i, hd, hi => by
    obtain rfl : i = bs.length := by omega
    exact Ev.step (f := fun _ => some (backsL (nextL bs) bs.length)) (fun k => by simp only [spec_l13Backs.l0]; rw [if_neg (by omega)]) (Ev.now _)
  | d + 1, i, hd, hi => by
    have h : i < bs.length := by omega
    have h8 := hg.len
    have hbl := backsL_len (next := nextL bs) (by rw [nextL_len]; exact h8) i
    obtain ⟨r, ev, h1, h2, h3⟩ := nexts_fs p bs i h (hg.two i h)
    have ih := backs_l0 p bs hg d (i + 1) (by omega) (by omega)
    have hrow := backRow_of (next := nextL bs) (b := (i : Int)) h3 fun y => by rw [h1 y, nextL_rd bs i h]
    refine Ev.step (fun k => ?_) (Ev.bind (f := fun k t => spec_l13Backs.l1 k (allDoms (nextL bs)) (backsL (nextL bs) i) (i : Int) (bs.length : Int) (i : Int) t (t.length : Int) 0 p bs) ev (backs_l1 p bs hg i h r h2 _ _ 0 _ rfl (Nat.zero_le _) (by omega) (by rw [List.drop_zero, hrow, ← backsL_succ]; exact ih)))
    simp only [spec_l13Backs.l0]
    rw [if_pos (by omega)]
theorem backs_f (p : Int) (bs : List S87) (hg : GoodRows bs) : Ev (fun k => spec_l13Backs.f k p bs) (backsL (nextL bs) bs.length) :=
  Ev.congr (fun k => by unfold spec_l13Backs.f; rw [spec_l13AllDoms.is hg k p, Option.bind_some]; rfl) (backs_l0 p bs hg _ 0 rfl (Nat.zero_le _))
theorem domGrid_rd (next : List (List Int)) (i : Nat) (h : i < next.length) : rd_L13 (domGrid next) (i : Int) = rowF next.length (domB next) (i : Int) := by
  have := grid_get (n := next.length) (f := domB next) h
  rw [rd_L13, Int.toNat_natCast, domGrid]
  exact this
end Go.Proofs.Ytghlbhijkhkgkaa.PA
end
section
/- The flow seat: loops, in plain words. -/
namespace Go.Proofs.Ytghlbhijkhkgkaa.PA
open Go.RowKit Go.Proofs.YtghlbhijkhkgkaaW.PrintWords Go.Proofs.YtghlbhijkhkgkaaW.PrintLast Go.Proofs.YtghlbhijkhkgkaaW.PrintMore
set_option linter.unusedVariables false
/-- Where back edges to a head begin. -/
noncomputable def startsL (next : List (List Int)) (head : Int) : List Int := numsL next.length fun b => decide (head ∈ backRow next b)
section
variable {next : List (List Int)} {head y b : Int}
theorem mem_backs {n : Nat} {e : List Int} : e ∈ backsL next n ↔ ∃ (b : Nat) (t : Int), b < n ∧ t ∈ backRow next (b : Int) ∧ e = [(b : Int), t] := by
  simp only [backsL, List.mem_flatMap, List.mem_map, List.mem_range]
  exact ⟨fun ⟨b, h, t, h1, h2⟩ => ⟨b, t, h, h1, h2.symm⟩, fun ⟨b, t, h, h1, h2⟩ => ⟨b, h, t, h1, h2.symm⟩⟩
theorem mem_starts : b ∈ startsL next head ↔ [b, head] ∈ backsL next next.length := by
  rw [startsL, mem_numsL, mem_backs, decide_eq_true_iff]
  constructor
  · rintro ⟨h1, h2⟩
    obtain ⟨k, rfl⟩ := Int.eq_ofNat_of_zero_le h1.1
    exact ⟨k, head, by omega, h2, rfl⟩
  · rintro ⟨k, t, h1, h2, h3⟩
    simp only [List.cons.injEq, and_true] at h3
    obtain ⟨rfl, rfl⟩ := h3
    exact ⟨⟨by omega, by omega⟩, h2⟩
end
end Go.Proofs.Ytghlbhijkhkgkaa.PA
end
section
/- The flow seat: forward edges and their cycles, in plain words. -/
namespace Go.Proofs.Ytghlbhijkhkgkaa.PA
open Go.RowKit Go.Proofs.YtghlbhijkhkgkaaW.PrintWords Go.Proofs.YtghlbhijkhkgkaaW.PrintLast Go.Proofs.YtghlbhijkhkgkaaW.PrintMore
set_option linter.unusedVariables false
/-- Where the forward edges of a block go. -/
noncomputable def fwdRow (next : List (List Int)) (b : Int) : List Int := (rd_L1 next b).filter fun t => !domB next b t
noncomputable def fwdL (next : List (List Int)) : List (List Int) := (List.range next.length).map fun (b : Nat) => fwdRow next (b : Int)
/-- No forward edge of a block that is reached is on a cycle of forward edges. -/
def Acyclic (next : List (List Int)) : Prop := ∀ k ∈ reached next, ∀ t ∈ rd_L1 (fwdL next) k, k ∉ fromL (fwdL next) t (-1)
noncomputable def redB (next : List (List Int)) : Bool := @decide (Acyclic next) (Classical.propDecidable _)
/-- Someone of l goes to b. -/
def HasPred (next : List (List Int)) (l : List Int) (b : Int) : Prop := ∃ k ∈ l, b ∈ rd_L1 (fwdL next) k
/-- What is on a cycle of k is in l. -/
def Keeps (next : List (List Int)) (l : List Int) : Prop := ∀ k ∈ reached next, ∀ t ∈ rd_L1 (fwdL next) k, k ∈ fromL (fwdL next) t (-1) → ∀ x, x ∈ fromL (fwdL next) t (-1) → k ∈ fromL (fwdL next) x (-1) → x ∈ l
section
variable {next : List (List Int)} {a b t k x y z : Int} {l : List Int}
theorem fwdL_len (next : List (List Int)) : (fwdL next).length = next.length := by simp [fwdL]
theorem fwdL_rd (h : 0 ≤ b ∧ b < (next.length : Int)) : rd_L1 (fwdL next) b = fwdRow next b := by
  obtain ⟨k, rfl⟩ := Int.eq_ofNat_of_zero_le h.1
  have hk : k < next.length := by omega
  simp [rd_L1, fwdL, List.getD_eq_getElem?_getD, hk]
theorem mem_fwd (h : 0 ≤ b ∧ b < (next.length : Int)) : t ∈ rd_L1 (fwdL next) b ↔ t ∈ rd_L1 next b ∧ domB next b t = false := by
  rw [fwdL_rd h, fwdRow, List.mem_filter]
  simp
theorem fwd_ok (h : RowsOk next) : RowsOk (fwdL next) := by
  refine ⟨by rw [fwdL_len]; exact h.1, fun b h0 h1 => ?_⟩
  rw [fwdL_len] at h1
  have hb := h.2 b h0 h1
  rw [fwdL_rd ⟨h0, h1⟩, fwdL_len]
  exact ⟨Nat.le_trans (List.length_filter_le _ _) hb.1, fun c hc => hb.2 c (List.mem_filter.1 hc).1⟩
theorem way_trans {F : List (List Int)} {but : Int} (h1 : Way F but a b) (h2 : Way F but b z) : Way F but a z := by
  induction h2 with
  | here => exact h1
  | on _ h3 h4 ih => exact .on ih h3 h4
theorem in_range (h : y ∈ reached next) : 0 ≤ y ∧ y < (next.length : Int) := (mem_fromL.1 h).2.1
theorem in_fwd (h0 : RowsOk next) (ha : 0 ≤ a ∧ a < (next.length : Int)) : y ∈ fromL (fwdL next) a (-1) ↔ Way (fwdL next) (-1) a y := by
  rw [mem_fromL' (fwd_ok h0) (by rw [fwdL_len]; exact ha)]
  exact ⟨fun h => h.2, fun h => ⟨by omega, h⟩⟩
theorem fwd_in (h0 : RowsOk next) (hb : 0 ≤ b ∧ b < (next.length : Int)) (ht : t ∈ rd_L1 (fwdL next) b) : 0 ≤ t ∧ t < (next.length : Int) := (h0.2 b hb.1 hb.2).2 t ((mem_fwd hb).1 ht).1
theorem fwd_reached (h0 : RowsOk next) (h1 : 0 < next.length) (hb : b ∈ reached next) (ht : t ∈ rd_L1 (fwdL next) b) : t ∈ reached next := by
  have hr := in_range hb
  have hn := fwd_in h0 hr ht
  rw [in_reached h0 h1] at hb ⊢
  exact .on hb ((mem_fwd hr).1 ht).1 (by omega)
theorem way_reached (h0 : RowsOk next) (h1 : 0 < next.length) (ha : a ∈ reached next) (h : Way (fwdL next) (-1) a y) : y ∈ reached next := by
  induction h with
  | here => exact ha
  | on _ h2 _ ih => exact fwd_reached h0 h1 ih h2
theorem keeps_start (h0 : RowsOk next) (h1 : 0 < next.length) : Keeps next (reached next) := fun k hk t ht _ x hx _ => by
  have htr := fwd_reached h0 h1 hk ht
  rw [in_fwd h0 (in_range htr)] at hx
  exact way_reached h0 h1 htr hx
/-- A block to which nobody of l goes may leave l. -/
theorem keeps_drop (h0 : RowsOk next) (h1 : 0 < next.length) (h : Keeps next l) (hb : ¬ HasPred next l b) : Keeps next (l.filter fun y => decide (y ≠ b)) := fun k hk t ht hc x hx hx2 => by
  refine List.mem_filter.2 ⟨h k hk t ht hc x hx hx2, ?_⟩
  refine decide_eq_true fun e => hb ?_
  subst e
  have hkr := in_range hk
  have htr := fwd_reached h0 h1 hk ht
  have htn := in_range htr
  have hxw := (in_fwd h0 htn).1 hx
  have hxn := in_range (way_reached h0 h1 htr hxw)
  have hxk := (in_fwd h0 hxn).1 hx2
  have htk := (in_fwd h0 htn).1 hc
  cases hxw with
  | here => exact ⟨k, h k hk t ht hc k hc ((in_fwd h0 hkr).2 .here), ht⟩
  | on h2 h3 h4 =>
    rename_i y
    have hyn := in_range (way_reached h0 h1 htr h2)
    refine ⟨y, h k hk t ht hc y ((in_fwd h0 htn).2 h2) ((in_fwd h0 hyn).2 (way_trans (.on .here h3 h4) hxk)), h3⟩
/-- Where everyone of l has someone of l ahead of it, there is a cycle. -/
theorem stuck_cycle (h0 : RowsOk next) (h1 : 0 < next.length) (hl : ∀ y ∈ l, y ∈ reached next) (hp : ∀ y ∈ l, HasPred next l y) (hne : l ≠ []) : ¬ Acyclic next := by
  have key : ∀ (m : Nat), (∃ b ∈ l, (fwdL next).length ≤ (fromL (fwdL next) b (-1)).length + m) → ¬ Acyclic next := by
    intro m
    induction m with
    | zero =>
      rintro ⟨b, hb, hm⟩
      obtain ⟨k, hk, hkb⟩ := hp b hb
      have hbn := in_range (hl b hb)
      have hkn := in_range (hl k hk)
      have hsub : ∀ y ∈ fromL (fwdL next) b (-1), y ∈ fromL (fwdL next) k (-1) := fun y hy => (in_fwd h0 hkn).2 (way_trans (.on .here hkb (by omega)) ((in_fwd h0 hbn).1 hy))
      have h2 := rises_sub _ _ (rises_fromL _ _ _) (rises_fromL _ _ _) hsub
      have h3 := fromL_len (fwdL next) k (-1)
      have e := rises_sub_eq _ _ (rises_fromL _ _ _) (rises_fromL _ _ _) hsub (by omega)
      intro hA
      exact hA k (hl k hk) b hkb (by rw [e]; exact (in_fwd h0 hkn).2 .here)
    | succ m ih =>
      rintro ⟨b, hb, hm⟩
      obtain ⟨k, hk, hkb⟩ := hp b hb
      have hbn := in_range (hl b hb)
      have hkn := in_range (hl k hk)
      have hsub : ∀ y ∈ fromL (fwdL next) b (-1), y ∈ fromL (fwdL next) k (-1) := fun y hy => (in_fwd h0 hkn).2 (way_trans (.on .here hkb (by omega)) ((in_fwd h0 hbn).1 hy))
      have h2 := rises_sub _ _ (rises_fromL _ _ _) (rises_fromL _ _ _) hsub
      by_cases q : (fromL (fwdL next) b (-1)).length = (fromL (fwdL next) k (-1)).length
      · have e := rises_sub_eq _ _ (rises_fromL _ _ _) (rises_fromL _ _ _) hsub q
        intro hA
        exact hA k (hl k hk) b hkb (by rw [e]; exact (in_fwd h0 hkn).2 .here)
      · exact ih ⟨k, hk, by omega⟩
  obtain ⟨b, hb⟩ := List.exists_mem_of_ne_nil _ hne
  exact key (fwdL next).length ⟨b, hb, by omega⟩
theorem red_of (h0 : RowsOk next) (h1 : 0 < next.length) (hl : ∀ y ∈ l, y ∈ reached next) (hk : Keeps next l) (hp : ∀ y ∈ l, HasPred next l y) : redB next = decide (l = []) := by
  unfold redB
  by_cases e : l = []
  · subst e
    rw [decide_eq_true (p := ([] : List Int) = []) rfl]
    refine @decide_eq_true _ (_) fun k hkr t ht hc => ?_
    have := hk k hkr t ht hc k hc ((in_fwd h0 (in_range hkr)).2 .here)
    cases this
  · rw [decide_eq_false e]
    exact @decide_eq_false _ (_) (stuck_cycle h0 h1 hl hp e)
/-- An edge that is none of the back edges. -/
theorem not_back (h0 : RowsOk next) (hk : 0 ≤ k ∧ k < (next.length : Int)) (hb : b ∈ rd_L1 next k) : [k, b] ∈ backsL next next.length ↔ ¬ b ∈ rd_L1 (fwdL next) k := by
  rw [← mem_starts, startsL, mem_numsL, decide_eq_true_iff, backRow, List.mem_filter, decide_eq_true_iff, mem_fwd hk, domsRow, mem_numsL]
  have hbn := (h0.2 k hk.1 hk.2).2 b hb
  constructor
  · rintro ⟨_, ⟨_, h⟩, _⟩ ⟨_, h2⟩
    rw [h] at h2
    cases h2
  · intro h
    refine ⟨hk, ⟨hbn, ?_⟩, hb⟩
    cases q : domB next k b with
    | true => rfl
    | false => exact absurd ⟨hb, q⟩ h
/-- Leaving one out makes a list shorter. -/
theorem drop_len (h : b ∈ l) : (l.filter fun y => decide (y ≠ b)).length < l.length := by
  refine Nat.lt_of_le_of_ne (List.length_filter_le _ _) fun e => ?_
  have h3 : (l.filter fun y => decide (y ≠ b)) = l := List.Sublist.eq_of_length List.filter_sublist e
  have h4 : b ∈ l.filter fun y => decide (y ≠ b) := by rw [h3]; exact h
  have := (List.mem_filter.1 h4).2
  simp at this
end
end Go.Proofs.Ytghlbhijkhkgkaa.PA
end
