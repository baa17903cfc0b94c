/- The flow seat: impl.NextBlocks by hand. -/
import Derived.Test.YtghlbhijkhkgkaaNbMe
import Derived.Test.YtghlbhijkhkgkaaNbMi
import Derived.Test.YtghlbhijkhkgkaaNbNf
namespace Go.Proofs.Ytghlbhijkhkgkaa.PA
open Go.RowKit Go.Proofs.YtghlbhijkhkgkaaW.PrintWords Go.Proofs.YtghlbhijkhkgkaaW.PrintLast Go.Proofs.YtghlbhijkhkgkaaW.PrintMore
set_option linter.unusedVariables false
/-- What NextBlocks answers. -/
def ansNextBlocks (p : Int) (bs : List S87) (v : Int) : List Int × Bool := if goodB p bs = true then if within v 0 ((bs.length : Int) - 1) = true then (comp2 (sort2 (toL (rd_T87 bs v))), true) else ([], false) else ([], false)
theorem sort2_len : ∀ (l : List Int), (sort2 l).length = l.length
  | [] => rfl
  | [x] => rfl
  | [x, y] => by simp only [sort2]; split <;> rfl
  | x :: y :: z :: l => rfl
theorem comp2_rises : ∀ (l : List Int), l.length ≤ 2 → Rises (comp2 (sort2 l)) ∧ ∀ y, y ∈ comp2 (sort2 l) ↔ y ∈ l := by
  intro l hl
  rcases two_cases l hl with rfl | ⟨x, rfl⟩ | ⟨x, y, rfl⟩
  · exact ⟨List.Pairwise.nil, fun y => Iff.rfl⟩
  · exact ⟨List.pairwise_singleton _ _, fun y => Iff.rfl⟩
  · by_cases h : y < x
    · have e : comp2 (sort2 [x, y]) = [y, x] := by simp only [sort2]; rw [if_pos h]; simp only [comp2]; rw [if_neg (by omega)]
      rw [e]
      exact ⟨List.pairwise_cons.2 ⟨fun z hz => by rw [List.mem_singleton] at hz; omega, List.pairwise_singleton _ _⟩, fun z => by simp [or_comm]⟩
    · by_cases h2 : x = y
      · have e : comp2 (sort2 [x, y]) = [x] := by simp only [sort2]; rw [if_neg h]; simp only [comp2]; rw [if_pos h2]
        rw [e]
        exact ⟨List.pairwise_singleton _ _, fun z => by subst h2; simp⟩
      · have e : comp2 (sort2 [x, y]) = [x, y] := by simp only [sort2]; rw [if_neg h]; simp only [comp2]; rw [if_neg h2]
        rw [e]
        exact ⟨List.pairwise_cons.2 ⟨fun z hz => by rw [List.mem_singleton] at hz; omega, List.pairwise_singleton _ _⟩, fun z => Iff.rfl⟩
set_option maxHeartbeats 2000000 in
set_option maxRecDepth 100000 in
theorem implNextBlocks_any {A : Option Addr} {c : Nat} (p : Int) (bs : List S87) (v : Int) (w : World) (hr : Kd.C k87 w A bs.length bs) (hc : bs.length ≤ c) :
    Calls Try.prog 24 #[.agg #[.int .i64 p, .slice A bs.length c], .int .i64 v] w fun e w' => ∃ v0 : Value, e = .returned (.tuple #[v0, .bool (ansNextBlocks p bs v).2]) ∧ (Kd.int .i64).R 3 w' w.heap.size (fun _ => True) v0 (ansNextBlocks p bs v).1 ∧ Below w.heap.size w w' := by
  have W1 := below_alloc (Below.refl w.heap.size w) (.cells #[.int .i64 p, .slice A bs.length c] 30)
  rcases Bool.eq_false_or_eq_true (goodB p bs) with hg | hg
  · have hcall := Aside0.mk (viewOf_yes (c := c) p bs (w.alloc (.cells #[.int .i64 p, .slice A bs.length c] 30)) (Kd.C_below hr W1) hc hg)
    have hgr := rows_of_good hg
    have HGJ := Aside0.mk (show ∀ b ∈ bs, b.f4.length ≤ 2 from fun b hb => by obtain ⟨k, hk, rfl⟩ := List.getElem_of_mem hb; have := hgr.two k hk; rwa [rd_nat bs k hk] at this)
    have HN := Aside0.mk hgr.len
    have hans : ansNextBlocks p bs v = if within v 0 ((bs.length : Int) - 1) = true then (comp2 (sort2 (toL (rd_T87 bs v))), true) else ([], false) := by rw [ansNextBlocks, if_pos hg]
    have HANS := Aside0.mk hans
    have HNL := Aside0.mk (nextL_len bs)
    have HGR := Aside0.mk hgr
    clear hr hc hg hgr hans W1
    rcases Bool.eq_false_or_eq_true (within v 0 ((bs.length : Int) - 1)) with q | q
    · have hv : 0 ≤ v ∧ v < (bs.length : Int) := by simp [within] at q; omega
      have HQ := Aside0.mk (show ansNextBlocks p bs v = (comp2 (sort2 (toL (rd_T87 bs v))), true) by rw [HANS.out, if_pos q])
      have HW := Aside0.mk q
      obtain ⟨vn, rfl⟩ := Int.eq_ofNat_of_zero_le hv.1
      have hvn : vn < bs.length := by omega
      have HV := Aside0.mk hvn
      have p0 : (0 ≤ (vn : Int)) = True := eq_true (by omega)
      have p1 : ((vn : Int) < (bs.length : Int)) = True := eq_true hv.2
      clear q hv hvn
      go_enter Try.func24, Try.ntmps24
      go_wp2_with (first | (go_at_call 56; refine (hcall.out).mono ?_; rintro e w1 ⟨gv, rfl, hb, hview⟩; have HV1 := Aside0.mk hview; have HB1 := Aside0.mk (below_step (below_alloc (Below.refl w.heap.size w) _) hb); clear hb hview hcall) | (go_at_call 63; refine (hasBlock_any (vn : Int) HV1.out HN.out).mono ?_; rintro e w2 ⟨rfl, rfl⟩; rw [HW.out]))
      refine (next_any p gv bs w2 HV1.out HN.out HGJ.out).mono ?_
      rintro e w3 ⟨g, cap, H, rfl, hcap, hnx⟩
      have HB3 := Aside0.mk (below_step HB1.out hnx.below)
      have hrw := RW.of_NX hnx
      obtain ⟨A5, c5, hz, hR5⟩ := hrw.at_row (j := vn) (by rw [HNL.out]; exact HV.out)
      rw [nextL_at bs vn HV.out] at hz hR5
      have hlen : (toL (rd_T87 bs (vn : Int))).length ≤ 2 := by have := HGR.out.two vn HV.out; simpa [toL] using this
      obtain ⟨row, hrow⟩ : ∃ z, z = toL (rd_T87 bs (vn : Int)) := ⟨_, rfl⟩
      rw [← hrow] at hz hR5 hlen
      have HE := Aside0.mk hrow
      have T65 := Aside0.mk (sort_any (w0 := w) (w := w3) row hlen HB3.out (Kd.R_mono (Kd.R_lower hR5 HB1.out.size) (fun _ _ => trivial) : (Kd.int .i64).R 3 w3 w.heap.size (fun _ => True) _ _))
      have HL := Aside0.mk hlen
      clear hnx hrw hcap hrow hR5 hlen HV1
      go_wp2_with (go_at_call 65; refine (T65.out).mono ?_; rintro e w4 ⟨rfl, hR, hb⟩; have HR4 := Aside0.mk hR; have HB4 := Aside0.mk hb; clear hR hb T65)
      have hl4 := sort2_len row
      obtain ⟨r4, hr4⟩ : ∃ z, z = sort2 row := ⟨_, rfl⟩
      rw [← hr4] at HR4 hl4
      have hR4 := HR4.out
      rw [← hl4] at hR4
      have T66 := compact_any (w := w4) (base := w.heap.size) r4 (by rw [hl4]; exact HL.out) HB4.out.size hR4
      rw [hl4] at T66
      refine T66.mono ?_
      rintro e w5 ⟨v5, rfl, hR, hb⟩
      have HR5 := Aside0.mk hR
      have HB5 := Aside0.mk (HB4.out.trans hb)
      have HE4 := Aside0.mk hr4
      clear hR hb hR4 hl4 hr4
      go_wp2
      go_ret2
      exact ⟨_, by rw [HQ.out]; rfl, by rw [HQ.out, ← HE.out, ← HE4.out]; exact Kd.R_mono HR5.out (fun _ _ => trivial), HB5.out⟩
    · have HQ := Aside0.mk (show ansNextBlocks p bs v = ([], false) by rw [HANS.out, if_neg (by rw [q]; decide)])
      have HW := Aside0.mk q
      clear q
      go_enter Try.func24, Try.ntmps24
      go_wp2_with (first | (go_at_call 56; refine (hcall.out).mono ?_; rintro e w1 ⟨gv, rfl, hb, hview⟩; have HV1 := Aside0.mk hview; have HB1 := Aside0.mk (below_step (below_alloc (Below.refl w.heap.size w) _) hb); clear hb hview hcall) | (go_at_call 63; refine (hasBlock_any v HV1.out HN.out).mono ?_; rintro e w2 ⟨rfl, rfl⟩; rw [HW.out]))
      go_ret2
      exact ⟨_, by rw [HQ.out]; rfl, by rw [HQ.out]; exact Kd.R_nil _ _ _ _ _, HB1.out⟩
  · have hcall := Aside0.mk (viewOf_no (c := c) p bs (w.alloc (.cells #[.int .i64 p, .slice A bs.length c] 30)) (Kd.C_below hr W1) hc hg)
    have HA := Aside0.mk (show ansNextBlocks p bs v = ([], false) by rw [ansNextBlocks, hg]; rfl)
    clear hr hc hg W1
    go_enter Try.func24, Try.ntmps24
    go_wp2_with (go_at_call 56; refine (hcall.out).mono ?_; rintro e w1 ⟨rfl, hb⟩; have HB1 := Aside0.mk (below_step (below_alloc (Below.refl w.heap.size w) _) hb); clear hb hcall)
    go_ret2
    exact ⟨_, by rw [HA.out]; rfl, by rw [HA.out]; exact Kd.R_nil _ _ _ _ _, HB1.out⟩
end Go.Proofs.Ytghlbhijkhkgkaa.PA
