/- The flow seat: impl.Dominators by hand. -/
import Derived.Test.YtghlbhijkhkgkaaDbOc
namespace Go.Proofs.Ytghlbhijkhkgkaa.PA
open Go.RowKit Go.Proofs.YtghlbhijkhkgkaaW.PrintWords Go.Proofs.YtghlbhijkhkgkaaW.PrintLast Go.Proofs.YtghlbhijkhkgkaaW.PrintMore
set_option linter.unusedVariables false
/-- What Dominators answers. -/
noncomputable def ansDominators (p : Int) (bs : List S87) : List (List Int) × Bool := if goodB p bs = true then (allDoms (nextL bs), true) else ([], false)
/-- The first i rows, the others nil. -/
noncomputable def doneL (next : List (List Int)) (i : Nat) : List (List Int) := (List.range next.length).map fun (b : Nat) => if b < i then domsRow next (b : Int) else []
section
variable {next : List (List Int)} {i : Nat}
theorem doneL_len (next : List (List Int)) (i : Nat) : (doneL next i).length = next.length := by simp [doneL]
theorem doneL_zero (next : List (List Int)) : doneL next 0 = List.replicate next.length [] := List.ext_getElem (by simp [doneL]) fun k h1 h2 => by simp [doneL]
theorem doneL_succ : (doneL next i).set i (domsRow next (i : Int)) = doneL next (i + 1) := by
  refine List.ext_getElem (by simp [doneL]) fun k h1 h2 => ?_
  rw [List.getElem_set]
  simp only [doneL, List.getElem_map, List.getElem_range]
  by_cases e : i = k
  · subst e; rw [if_pos rfl, if_pos (by omega)]
  · rw [if_neg e]
    by_cases e2 : k < i
    · rw [if_pos e2, if_pos (by omega)]
    · rw [if_neg e2, if_neg (by omega)]
theorem doneL_end (next : List (List Int)) : doneL next next.length = allDoms next := by
  refine List.ext_getElem (by simp [doneL, allDoms]) fun k h1 h2 => ?_
  simp only [doneL, allDoms, List.getElem_map, List.getElem_range]
  rw [doneL_len] at h1
  rw [if_pos h1]
theorem listOf_dom (next : List (List Int)) (b : Nat) : numsL (rowF next.length (domB next) (b : Int)).length (rdOf false (rowF next.length (domB next) (b : Int))) = domsRow next (b : Int) := by
  rw [rowF_len]
  refine rises_ext _ _ (rises_numsL _ _) (rises_numsL _ _) fun y => ?_
  rw [mem_numsL, domsRow, mem_numsL]
  refine and_congr_right fun h => ?_
  obtain ⟨k, rfl⟩ := Int.eq_ofNat_of_zero_le h.1
  have : k < next.length := by omega
  simp [rdOf, rowF, List.getD_eq_getElem?_getD, this]
end
set_option maxHeartbeats 4000000 in
set_option maxRecDepth 100000 in
theorem implDominators_any {A : Option Addr} {c : Nat} (p : Int) (bs : List S87) (w : World) (hr : Kd.C k87 w A bs.length bs) (hc : bs.length ≤ c) :
    Calls Try.prog 36 #[.agg #[.int .i64 p, .slice A bs.length c]] w fun e w' => ∃ v0 : Value, e = .returned (.tuple #[v0, .bool (ansDominators p bs).2]) ∧ Kd.S kR 34 w' w.heap.size (fun _ => True) v0 (ansDominators p bs).1 ∧ Below w.heap.size w w' := by
  have W1 := below_alloc (Below.refl w.heap.size w) (.cells #[.int .i64 p, .slice A bs.length c] 30)
  rcases Bool.eq_false_or_eq_true (goodB p bs) with hg | hg
  · have hcall := Aside0.mk (viewOf_yes (c := c) p bs (w.alloc (.cells #[.int .i64 p, .slice A bs.length c] 30)) (Kd.C_below hr W1) hc hg)
    have hgr := rows_of_good hg
    have hm := Kd.C_max hr
    have HOK := Aside0.mk (rows_ok hgr)
    have HGJ := Aside0.mk (show ∀ b ∈ bs, b.f4.length ≤ 2 from fun b hb => by obtain ⟨k, hk, rfl⟩ := List.getElem_of_mem hb; have := hgr.two k hk; rwa [rd_nat bs k hk] at this)
    have HANS := Aside0.mk (show ansDominators p bs = (allDoms (nextL bs), true) by rw [ansDominators, if_pos hg])
    obtain ⟨next, hnx⟩ : ∃ z, z = nextL bs := ⟨_, rfl⟩
    have hnl := nextL_len bs
    have T64 := Aside0.mk (fun W gv (hv : View W gv p A bs c (firstsF p bs bs.length) (blocksF p bs bs.length) (totF p bs bs.length)) => (next_any p gv bs W hv hgr.len HGJ.out))
    rw [← hnx] at HOK HANS hnl T64
    obtain ⟨n, hn⟩ : ∃ n, n = bs.length := ⟨_, rfl⟩
    have HN := Aside0.mk hn
    have HN1 := Aside0.mk (show 0 < n by rw [hn]; exact hgr.one)
    have HN8 := Aside0.mk (show n ≤ 8 by rw [hn]; exact hgr.len)
    have HNL := Aside0.mk (show next.length = n by rw [hn]; exact hnl)
    clear hr hc hg hgr W1 hnl hnx hn HGJ
    go_enter Try.func36, Try.ntmps36
    go_wp2_with (first | (go_at_call 56; refine (hcall.out).mono ?_; rintro e w1 ⟨gv, rfl, hb, hview⟩; have HV1 := Aside0.mk hview; have y1 := hview.cell1; have HB1 := Aside0.mk (below_step (below_alloc (Below.refl w.heap.size w) _) hb); clear hb hview hcall) | ((with_reducible refine gate_dst (N := 18) rfl ?_); refine Kd.S_make kR w1.heap.size 34 rfl (N := 18) rfl 42 _ _ rfl (bs.length : Int) rfl rfl Try.underlying42 (.slice none 0 0) 24 info34 rfl (by decide) (by omega) [] (ok := fun _ => True) (okp := fun _ => True) ⟨_, rfl, Kd.R_nil _ _ _ _ _⟩ (fun _ hk => hk) trivial (by omega) (by have := HN8.out; have := HN.out; simp; omega) (Below.refl w1.heap.size w1) (Nat.le_refl _) ?_; intro v18 w2 ho hb hg_ hnew_; have HS2 := Aside0.mk ho; have HB2 := Aside0.mk hb; clear ho hb hg_ hnew_))
    refine (T64.out w2 gv (HV1.out.below HB2.out)).mono ?_
    rintro e w3 ⟨gn, capn, H, rfl, hcap, hnx⟩
    obtain ⟨g, cap, e18, hgB, hgH, cells, hcells⟩ := Kd.S_form HS2.out (by have := HN1.out; have := HN.out; simp; omega)
    rw [List.length_replicate, Int.toNat_natCast, ← HN.out] at e18
    subst e18
    have hS2 := HS2.out
    rw [Int.toNat_natCast, ← HN.out, ← HNL.out, ← doneL_zero] at hS2
    rw [HNL.out] at hS2
    obtain ⟨N1, hN1⟩ : ∃ N1, N1 = w2.heap.size := ⟨_, rfl⟩
    have HS3 := Aside0.mk (show Kd.S kR 34 w3 w.heap.size (fun k => k < N1) (.slice (some ⟨g, 0, none⟩) n cap) (doneL next 0) from Kd.S_below (Kd.S_lower (Kd.S_mono (Kd.S_bound hS2) (fun k hk => by rw [hN1]; exact hk.2.2.1)) HB1.out.size) hnx.below)
    have HGN := Aside0.mk (show g < N1 by rw [hN1]; exact hgH)
    have HGB := Aside0.mk (show w.heap.size ≤ g from Nat.le_trans HB1.out.size hgB)
    have HB3 := Aside0.mk (show Below w.heap.size w w3 from HB1.out.trans ((below_step HB2.out hnx.below).mono HB1.out.size))
    have HRW := Aside0.mk (RW.of_NX hnx)
    have HC3 := Aside0.mk (show Kd.C kR w3 (some ⟨gn, 0, none⟩) n next from by have := HRW.out.C HOK.out.1; rw [HNL.out] at this; exact this)
    have HCAP := Aside0.mk (show n ≤ capn by rw [HN.out]; exact hcap)
    have HM3 := Aside0.mk (show N1 ≤ w3.heap.size by rw [hN1]; exact hnx.below.size)
    have T78 := dominators_any (A0 := some ⟨gn, 0, none⟩) (c0 := capn) next w3 HOK.out (by rw [HNL.out]; exact HN1.out) (by rw [HNL.out]; exact HN8.out) (by rw [HNL.out]; exact HC3.out) (by rw [HNL.out]; exact HCAP.out)
    rw [HNL.out, HN.out] at T78
    have HT := Aside0.mk T78
    clear hcap hnx hgB hgH hcells HS2 hS2 hN1 HV1 HRW HC3 HB1 HB2 T64 T78 y1
    go_wp2_with (go_at_call 78; refine (HT.out).mono ?_; rintro e w4 ⟨v21, rfl, hS, hb⟩; obtain ⟨A21, c21, e21⟩ := Kd.S_slice hS; rw [show (domGrid next).length = n by rw [domGrid, grid_len, HNL.out]] at e21; subst e21; have HDM := Aside0.mk (show Kd.R kB 69 w4 w.heap.size (fun k => N1 ≤ k ∧ k < w4.heap.size) (.slice A21 n c21) (domGrid next) from Kd.R_lower (Kd.R_mono (Kd.R_bound (Kd.S_R hS)) (fun k hk => ⟨Nat.le_trans HM3.out hk.2.1, hk.2.2.1⟩)) HB3.out.size); have HS4 := Aside0.mk (Kd.S_below HS3.out hb); have HB4 := Aside0.mk (below_step HB3.out hb); have HM4 := Aside0.mk (Nat.le_trans HM3.out hb.size); clear hS hb HT HS3 HB3 HM3)
    obtain ⟨N2, hN2⟩ : ∃ N2, N2 = w4.heap.size := ⟨_, rfl⟩
    rw [← hN2] at HDM
    have HS := Aside0.mk (show Kd.S kR 34 w4 w.heap.size (fun k => k < N1 ∨ N2 ≤ k) (.slice (some ⟨g, 0, none⟩) n cap) (doneL next 0) from Kd.S_mono HS4.out (fun k hk => .inl hk))
    have HM := Aside0.mk (show N2 ≤ w4.heap.size by rw [hN2]; exact Nat.le_refl _)
    clear HS4 HM4 hN2
    have hm8 := HN8.out
    go_loopg [23] n (fun gg s23 wr => ∃ i : Nat, s23 = .int .i64 (i : Int) ∧ Aside0 (i ≤ n ∧ n - i ≤ gg) ∧ Aside0 (Kd.S kR 34 wr w.heap.size (fun k => k < N1 ∨ N2 ≤ k) (.slice (some ⟨g, 0, none⟩) n cap) (doneL next i)) ∧ Aside0 (Kd.R kB 69 wr w.heap.size (fun k => N1 ≤ k ∧ k < N2) (.slice A21 n c21) (domGrid next)) ∧ Aside0 (Below w.heap.size w wr) ∧ Aside0 (N2 ≤ wr.heap.size))
    case atStart => exact ⟨0, rfl, ⟨by omega, by omega⟩, HS, HDM, HB4, HM⟩
    case round =>
      clear HS HDM HB4 HM
      obtain ⟨i, rfl, HA, HS, HDM, HB, HM⟩ := hrel
      obtain ⟨wo, rfl⟩ : ∃ wo : World, wo = wr := ⟨_, rfl⟩
      by_cases hlt : i < n
      · have hdl : (domGrid next).length = n := by rw [domGrid, grid_len, HNL.out]
        obtain ⟨ad, A7, c7, e7, z7, hl7, hC7⟩ := at_L13 (Kd.R_reads' HDM.out).2.2 (i : Int) (by omega) (by rw [hdl]; omega)
        cases e7
        simp only [Int.toNat_natCast] at z7
        have hrow : rd_L13 (domGrid next) (i : Int) = rowF n (domB next) (i : Int) := by
          have := grid_get (n := n) (f := domB next) hlt
          rw [rd_L13, Int.toNat_natCast, domGrid, HNL.out]
          exact this
        rw [hrow, rowF_len] at z7 hl7 hC7
        have T72 := listOf_any (w := wo) (A := A7) (c := c7) (rowF n (domB next) (i : Int)) (by rw [rowF_len]; omega) (by rw [rowF_len]; exact hC7) (by rw [rowF_len]; exact hl7)
        have hld := listOf_dom next i
        rw [HNL.out] at hld
        rw [hld, rowF_len] at T72
        obtain ⟨oki, v6, z6, f6, hR6, hok6, hH6⟩ := rows_lend HS.out hlt
        obtain ⟨cells6, hg6⟩ := rows_at HS.out HN1.out
        have HT := Aside0.mk T72
        have HH6 := Aside0.mk hH6
        have HL := Aside0.mk hlt
        have p0 : (0 ≤ (i : Int)) = True := eq_true (by omega)
        have p1 : ((i : Int) < (n : Int)) = True := eq_true (by omega)
        clear T72 hld hR6 hok6 hH6 f6 hrow hl7 hC7 hdl
        go_wp2_with (go_at_call 72; refine (HT.out).mono ?_; rintro e w31 ⟨v31, rfl, hR, hb⟩; obtain ⟨A31, c31, rfl⟩ := Kd.R_slice hR; have z31 := pw_cell_below hb z6; have hg31 := blk_below hg6 hb; have f31 := blk_frozen hg31 i; have HO31 := Aside0.mk hR; have HB31 := Aside0.mk hb; have HG31 := Aside0.mk hg31; clear hR hb z6 hg6 hg31 HT)
        have hput := rows_new HH6.out HL.out (Kd.R_lower (Kd.R_mono (Kd.R_bound HO31.out) (fun k hk => hk.2.1)) HB.out.size) HB31.out (fun k hk => .inr (Nat.le_trans HM.out hk))
        rw [doneL_succ] at hput
        have HPUT := Aside0.mk hput.1
        have HDM2 := Aside0.mk (Kd.R_set (Kd.R_below HDM.out HB31.out) HG31.out (by decide) i (.slice A31 (domsRow next (i : Int)).length c31))
        have HM2 := Aside0.mk (show N2 ≤ (w31.setCell ⟨g, i, none⟩ (.slice A31 (domsRow next (i : Int)).length c31)).heap.size from Nat.le_trans (Nat.le_trans HM.out HB31.out.size) hput.2.size)
        clear hput
        go_roundg (n - (i + 1))
        case measure => have := HA.out; have := HL.out; omega
        case rel => exact ⟨i + 1, by go_num, ⟨by have := HL.out; omega, by omega⟩, HPUT, HDM2, ⟨(below_step HB.out HB31.out).setCell (p := ⟨g, i, none⟩) HGB.out _⟩, HM2⟩
      · have e : i = n := by have := HA.out; omega
        have HSE := Aside0.mk (show Kd.S kR 34 wo w.heap.size (fun _ => True) (.slice (some ⟨g, 0, none⟩) n cap) (allDoms next) from by have h := HS.out; rw [e, ← HNL.out, doneL_end, HNL.out] at h; exact Kd.S_mono h (fun _ _ => trivial))
        have p1 : ((i : Int) < (n : Int)) = False := eq_false (by omega)
        clear e
        go_wp2
        go_ret2
        exact ⟨_, by rw [HANS.out]; rfl, by rw [HANS.out]; exact HSE.out, HB.out⟩
  · have hcall := Aside0.mk (viewOf_no (c := c) p bs (w.alloc (.cells #[.int .i64 p, .slice A bs.length c] 30)) (Kd.C_below hr W1) hc hg)
    have HA := Aside0.mk (show ansDominators p bs = ([], false) by rw [ansDominators, hg]; rfl)
    clear hr hc hg W1
    go_enter Try.func36, Try.ntmps36
    go_wp2_with (go_at_call 56; refine (hcall.out).mono ?_; rintro e w1 ⟨rfl, hb⟩; have HB1 := Aside0.mk (below_step (below_alloc (Below.refl w.heap.size w) _) hb); clear hb hcall)
    go_ret2
    exact ⟨_, by rw [HA.out]; rfl, by rw [HA.out]; exact Kd.S_nil _ _ _ _ _, HB1.out⟩
end Go.Proofs.Ytghlbhijkhkgkaa.PA
