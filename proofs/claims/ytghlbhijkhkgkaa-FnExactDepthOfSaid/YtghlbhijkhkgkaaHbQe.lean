/- The flow seat: DepthOf: the program by hand, the reference in plain words. -/
import Derived.Test.YtghlbhijkhkgkaaHbQb
import Derived.Test.YtghlbhijkhkgkaaHbPAz14
namespace Go.Proofs.Ytghlbhijkhkgkaa.PA
open Go.RowKit Go.Proofs.YtghlbhijkhkgkaaW.PrintWords Go.Proofs.YtghlbhijkhkgkaaW.PrintLast Go.Proofs.YtghlbhijkhkgkaaW.PrintMore
set_option linter.unusedVariables false
/-- How many of the loops of the first i heads hold a block. -/
noncomputable def depthP (next : List (List Int)) (v : Int) : Nat → Nat
  | 0 => 0
  | i + 1 => if v ∈ loopL next (i : Int) then depthP next v i + 1 else depthP next v i
theorem depthP_succ (next : List (List Int)) (v : Int) (i : Nat) : depthP next v (i + 1) = if v ∈ loopL next (i : Int) then depthP next v i + 1 else depthP next v i := rfl
theorem depthP_le (next : List (List Int)) (v : Int) : ∀ i, depthP next v i ≤ i
  | 0 => Nat.le_refl _
  | i + 1 => by
    have := depthP_le next v i
    rw [depthP_succ]
    split <;> omega
/-- What DepthOf answers. -/
noncomputable def ansDepthOf (p : Int) (bs : List S87) (v : Int) : Int × Bool := if goodB p bs = true then if within v 0 ((bs.length : Int) - 1) = true then if v ∈ reached (nextL bs) then ((depthP (nextL bs) v bs.length : Int), true) else (0, false) else (0, false) else (0, false)
theorem loop_reads {A0 : Option Addr} {c0 : Nat} (next : List (List Int)) (w : World) (hok : RowsOk next) (h1 : 0 < next.length) (h8 : next.length ≤ 8) (head : Nat) (hh : head < next.length) (hr0 : Kd.C kR w A0 next.length next) (hc0 : next.length ≤ c0) :
    Calls Try.prog 82 #[.slice A0 next.length c0, .int .i64 (head : Int)] w fun e w' => ∃ A c, e = .returned (.slice A (loopL next (head : Int)).length c) ∧ (Kd.int .i64).C w' A (loopL next (head : Int)).length (loopL next (head : Int)) ∧ (loopL next (head : Int)).length ≤ c ∧ Below w.heap.size w w' := by
  refine (loop_any next w hok h1 h8 head hh hr0 hc0).mono fun e w' h => ?_
  obtain ⟨h | ⟨_, v, rfl, hR⟩, hb⟩ := h
  · have e0 : loopL next (head : Int) = [] := (loopL_nil ⟨by omega, by omega⟩).2 h.1
    rw [e0]
    exact ⟨none, 0, h.2, ⟨rfl, by simp, fun h => absurd h (by simp)⟩, Nat.le_refl _, hb⟩
  · obtain ⟨A, c, rfl, h1, h2⟩ := Kd.R_reads hR
    exact ⟨A, c, rfl, h2, h1, hb⟩
set_option maxHeartbeats 4000000 in
set_option maxRecDepth 100000 in
theorem implDepthOf_any {A : Option Addr} {c : Nat} (p : Int) (bs : List S87) (v : Int) (w : World) (hr : Kd.C k87 w A bs.length bs) (hc : bs.length ≤ c) :
    Calls Try.prog 49 #[.agg #[.int .i64 p, .slice A bs.length c], .int .i64 v] w fun e w' => e = .returned (.tuple #[.int .i64 (ansDepthOf p bs v).1, .bool (ansDepthOf p bs v).2]) ∧ Below w.heap.size w w' := by
  have W1 := below_alloc (Below.refl w.heap.size w) (.cells #[.int .i64 p, .slice A bs.length c] 30)
  rcases Bool.eq_false_or_eq_true (goodB p bs) with hg | hg
  · have hcall := Aside0.mk (viewOf_yes (c := c) p bs (w.alloc (.cells #[.int .i64 p, .slice A bs.length c] 30)) (Kd.C_below hr W1) hc hg)
    have hgr := rows_of_good hg
    have HGJ := Aside0.mk (show ∀ b ∈ bs, b.f4.length ≤ 2 from fun b hb => by obtain ⟨k, hk, rfl⟩ := List.getElem_of_mem hb; have := hgr.two k hk; rwa [rd_nat bs k hk] at this)
    have HN := Aside0.mk hgr.len
    have HN1 := Aside0.mk hgr.one
    have HOK := Aside0.mk (rows_ok hgr)
    have hmx := Kd.C_max hr
    have hans : ansDepthOf p bs v = if within v 0 ((bs.length : Int) - 1) = true then if v ∈ reached (nextL bs) then ((depthP (nextL bs) v bs.length : Int), true) else (0, false) else (0, false) := by rw [ansDepthOf, if_pos hg]
    have HANS := Aside0.mk hans
    have HNL := Aside0.mk (nextL_len bs)
    clear hr hc hg hgr hans W1
    rcases Bool.eq_false_or_eq_true (within v 0 ((bs.length : Int) - 1)) with q | q
    · have hv : 0 ≤ v ∧ v < (bs.length : Int) := by simp [within] at q; omega
      have HQ := Aside0.mk (show ansDepthOf p bs v = if v ∈ reached (nextL bs) then ((depthP (nextL bs) v bs.length : Int), true) else (0, false) by rw [HANS.out, if_pos q])
      have HW := Aside0.mk q
      have p0 : (0 ≤ v) = True := eq_true hv.1
      have p1 : (v < (bs.length : Int)) = True := eq_true hv.2
      have HV := Aside0.mk hv
      obtain ⟨bq, hbq⟩ : ∃ bq, bq = decide (v ∈ reached (nextL bs)) := ⟨_, rfl⟩
      have HBQ := Aside0.mk hbq
      clear q hv hbq
      have HT64 := Aside0.mk (fun gv W (hv : View W gv p A bs c (firstsF p bs bs.length) (blocksF p bs bs.length) (totF p bs bs.length)) => next_any p gv bs W hv HN.out HGJ.out)
      cases bq with
      | false =>
        have HE := Aside0.mk (show ansDepthOf p bs v = (0, false) by rw [HQ.out, if_neg (by have := HBQ.out; simpa using this.symm)])
        go_enter Try.func49, Try.ntmps49
        go_wp2_with (first | (go_at_call 56; refine (hcall.out).mono ?_; rintro e w1 ⟨gv, rfl, hb, hview⟩; have HV1 := Aside0.mk hview; have HB1 := Aside0.mk (below_step (below_alloc (Below.refl w.heap.size w) _) hb); clear hb hview hcall) | (go_at_call 63; refine (hasBlock_any v HV1.out HN.out).mono ?_; rintro e w2 ⟨rfl, rfl⟩; rw [HW.out]) | (go_at_call 64; refine (HT64.out gv _ HV1.out).mono ?_; rintro e w3 ⟨g, cap, H, rfl, hcap, hnx⟩; have HRW := Aside0.mk (RW.of_NX hnx); have HB3 := Aside0.mk (below_step HB1.out hnx.below); have T73 := reach_any (c := cap) (RW.of_NX hnx) HOK.out (by rw [HNL.out]; exact hcap) 0 (-1) ⟨Int.le_refl _, by rw [HNL.out]; have := HN1.out; omega⟩; rw [HNL.out] at T73; have HT73 := Aside0.mk T73; clear hcap hnx T73) | (go_at_call 73; refine (HT73.out).mono ?_; rintro e w4 ⟨v4, rfl, hR, hb⟩; obtain ⟨A4, c4, e4⟩ := Kd.R_slice hR; rw [reachL_len, HNL.out] at e4; subst e4; have HB4 := Aside0.mk (below_step HB3.out hb); obtain ⟨ad, e4, hz⟩ := Kd.at_bool (Kd.R_reads' hR).2.2 v HV.out.1 (by rw [reachL_len, HNL.out]; exact HV.out.2); cases e4; rw [reachL_rd _ _ _ _ HV.out.1, show decide (v ∈ fromL (nextL bs) 0 (-1)) = false from HBQ.out.symm] at hz; clear hR hb HT73))
        go_ret2
        exact ⟨by rw [HE.out]; rfl, HB4.out⟩
      | true =>
        have HE := Aside0.mk (show ansDepthOf p bs v = ((depthP (nextL bs) v bs.length : Int), true) by rw [HQ.out, if_pos (by have := HBQ.out; simpa using this.symm)])
        go_enter Try.func49, Try.ntmps49
        go_wp2_with (first | (go_at_call 56; refine (hcall.out).mono ?_; rintro e w1 ⟨gv, rfl, hb, hview⟩; have HV1 := Aside0.mk hview; have HB1 := Aside0.mk (below_step (below_alloc (Below.refl w.heap.size w) _) hb); clear hb hview hcall) | (go_at_call 63; refine (hasBlock_any v HV1.out HN.out).mono ?_; rintro e w2 ⟨rfl, rfl⟩; rw [HW.out]) | (go_at_call 64; refine (HT64.out gv _ HV1.out).mono ?_; rintro e w3 ⟨g, cap, H, rfl, hcap, hnx⟩; have HRW := Aside0.mk (RW.of_NX hnx); have HB3 := Aside0.mk (below_step HB1.out hnx.below); have HV3 := Aside0.mk (HV1.out.below hnx.below); have T73 := reach_any (c := cap) (RW.of_NX hnx) HOK.out (by rw [HNL.out]; exact hcap) 0 (-1) ⟨Int.le_refl _, by rw [HNL.out]; have := HN1.out; omega⟩; rw [HNL.out] at T73; have HT73 := Aside0.mk T73; clear hcap hnx T73) | (go_at_call 73; refine (HT73.out).mono ?_; rintro e w4 ⟨v4, rfl, hR, hb⟩; obtain ⟨A4, c4, e4⟩ := Kd.R_slice hR; rw [reachL_len, HNL.out] at e4; subst e4; have HB4 := Aside0.mk (below_step HB3.out hb); have HV4 := Aside0.mk (HV3.out.below hb); have y1 := HV4.out.cell1; obtain ⟨ad, e4, hz⟩ := Kd.at_bool (Kd.R_reads' hR).2.2 v HV.out.1 (by rw [reachL_len, HNL.out]; exact HV.out.2); cases e4; rw [reachL_rd _ _ _ _ HV.out.1, show decide (v ∈ fromL (nextL bs) 0 (-1)) = true from HBQ.out.symm] at hz; clear hR hb HT73))
        clear HV1 HV3 HB1 HB3 HRW hz y1
        have hn8 := HN.out
        go_loopg [7, 34] bs.length (fun gg s7 s34 wr => ∃ i : Nat, s34 = .int .i64 (i : Int) ∧ s7 = .int .i64 (depthP (nextL bs) v i : Int) ∧ Aside0 (i ≤ bs.length ∧ bs.length - i ≤ gg) ∧ Aside0 (View wr gv p A bs c (firstsF p bs bs.length) (blocksF p bs bs.length) (totF p bs bs.length)) ∧ Aside0 (Below w.heap.size w wr))
        case atStart => exact ⟨0, rfl, rfl, ⟨by omega, by omega⟩, HV4, HB4⟩
        case round =>
          clear HV4 HB4
          obtain ⟨i, rfl, rfl, HA, HV4, HB4⟩ := hrel
          obtain ⟨wo, rfl⟩ : ∃ wo : World, wo = wr := ⟨_, rfl⟩
          by_cases hlt : i < bs.length
          · have HL := Aside0.mk hlt
            have hdl := depthP_le (nextL bs) v i
            have HDS := Aside0.mk (depthP_succ (nextL bs) v i)
            have p2 : ((i : Int) < (bs.length : Int)) = True := eq_true (by omega)
            go_wp2_with fail
            refine (HT64.out gv _ HV4.out).mono ?_
            rintro e w3 ⟨g, cap, H, rfl, hcap, hnx⟩
            have HB5 := Aside0.mk (below_step HB4.out hnx.below)
            have HV5 := Aside0.mk (HV4.out.below hnx.below)
            have T82 := loop_reads (A0 := some ⟨g, 0, none⟩) (c0 := cap) (nextL bs) w3 HOK.out (by rw [HNL.out]; exact HN1.out) (by rw [HNL.out]; exact HN.out) i (by rw [HNL.out]; exact HL.out) ((RW.of_NX hnx).C HOK.out.1) (by rw [HNL.out]; exact hcap)
            rw [HNL.out] at T82
            have HT82 := Aside0.mk T82
            clear hcap hnx T82 HV4 HB4
            go_wp2_with fail
            refine (HT82.out).mono ?_
            rintro e w5 ⟨A5, c5, rfl, hC5, hl5, hb⟩
            have HB6 := Aside0.mk (below_step HB5.out hb)
            have HV6 := Aside0.mk (HV5.out.below hb)
            have T69 := contains_any v (loopL (nextL bs) (i : Int)) (by have := loopL_len (nextL bs) (i : Int); rw [HNL.out] at this; omega) hC5 hl5
            clear hb hC5 hl5 HT82 HB5 HV5
            by_cases q : v ∈ loopL (nextL bs) (i : Int)
            · rw [decide_eq_true q] at T69
              have HT69 := Aside0.mk T69
              have HDQ := Aside0.mk (show depthP (nextL bs) v (i + 1) = depthP (nextL bs) v i + 1 by rw [HDS.out, if_pos q])
              clear T69 q
              go_wp2_with (go_at_call 69; refine (HT69.out).mono ?_; rintro e w6 ⟨rfl, nq, rfl⟩)
              go_roundg (bs.length - (i + 1))
              case measure => have := HA.out; have := HL.out; omega
              case rel => exact ⟨i + 1, by go_num, by rw [HDQ.out]; go_num, ⟨by have := HL.out; omega, by omega⟩, ⟨HV6.out.drewN nq⟩, ⟨pw_below_drewN HB6.out nq⟩⟩
            · rw [decide_eq_false q] at T69
              have HT69 := Aside0.mk T69
              have HDQ := Aside0.mk (show depthP (nextL bs) v (i + 1) = depthP (nextL bs) v i by rw [HDS.out, if_neg q])
              clear T69 q
              go_wp2_with (go_at_call 69; refine (HT69.out).mono ?_; rintro e w6 ⟨rfl, nq, rfl⟩)
              go_roundg (bs.length - (i + 1))
              case measure => have := HA.out; have := HL.out; omega
              case rel => exact ⟨i + 1, by go_num, by rw [HDQ.out], ⟨by have := HL.out; omega, by omega⟩, ⟨HV6.out.drewN nq⟩, ⟨pw_below_drewN HB6.out nq⟩⟩
          · have e : i = bs.length := by have := HA.out; omega
            have p2 : ((i : Int) < (bs.length : Int)) = False := eq_false (by omega)
            have HF := Aside0.mk e
            clear e
            go_wp2
            go_ret2
            exact ⟨by rw [HE.out, HF.out]; rfl, HB4.out⟩
    · have HQ := Aside0.mk (show ansDepthOf p bs v = (0, false) by rw [HANS.out, if_neg (by rw [q]; decide)])
      have HW := Aside0.mk q
      clear q
      go_enter Try.func49, Try.ntmps49
      go_wp2_with (first | (go_at_call 56; refine (hcall.out).mono ?_; rintro e w1 ⟨gv, rfl, hb, hview⟩; have HV1 := Aside0.mk hview; have HB1 := Aside0.mk (below_step (below_alloc (Below.refl w.heap.size w) _) hb); clear hb hview hcall) | (go_at_call 63; refine (hasBlock_any v HV1.out HN.out).mono ?_; rintro e w2 ⟨rfl, rfl⟩; rw [HW.out]))
      go_ret2
      exact ⟨by rw [HQ.out]; rfl, HB1.out⟩
  · have hcall := Aside0.mk (viewOf_no (c := c) p bs (w.alloc (.cells #[.int .i64 p, .slice A bs.length c] 30)) (Kd.C_below hr W1) hc hg)
    have HA := Aside0.mk (show ansDepthOf p bs v = (0, false) by rw [ansDepthOf, hg]; rfl)
    clear hr hc hg W1
    go_enter Try.func49, Try.ntmps49
    go_wp2_with (go_at_call 56; refine (hcall.out).mono ?_; rintro e w1 ⟨rfl, hb⟩; have HB1 := Aside0.mk (below_step (below_alloc (Below.refl w.heap.size w) _) hb); clear hb hcall)
    go_ret2
    exact ⟨by rw [HA.out]; rfl, HB1.out⟩
theorem depth_l0 (p : Int) (bs : List S87) (hg : GoodRows bs) (v : Int) : ∀ (d i : Nat), bs.length - i = d → i ≤ bs.length → Ev (fun k => spec_DepthOf.l0 k v (depthP (nextL bs) v i : Int) (bs.length : Int) (i : Int) p bs) ((depthP (nextL bs) v bs.length : Int), true)
  | 0, i, hd, hi => by
    obtain rfl : i = bs.length := by omega
    exact Ev.step (f := fun _ => some ((depthP (nextL bs) v bs.length : Int), true)) (fun k => by simp only [spec_DepthOf.l0]; rw [if_neg (by omega)]) (Ev.now _)
  | d + 1, i, hd, hi => by
    have h : i < bs.length := by omega
    have h8 := hg.len
    have hll := loopL_len (nextL bs) (i : Int)
    rw [nextL_len] at hll
    have hdl := depthP_le (nextL bs) v i
    have ih := depth_l0 p bs hg v d (i + 1) (by omega) (by omega)
    have hh := has_l0 v (loopL (nextL bs) (i : Int)) (by omega) _ 0 rfl
    rw [List.drop_zero] at hh
    refine Ev.step (f := fun k => (spec_l1Has.f k (loopL (nextL bs) (i : Int)) v).bind fun t => if t = true then spec_DepthOf.l0 k v (wrap64 ((depthP (nextL bs) v i : Int) + 1)) (bs.length : Int) ((i + 1 : Nat) : Int) p bs else spec_DepthOf.l0 k v (depthP (nextL bs) v i : Int) (bs.length : Int) ((i + 1 : Nat) : Int) p bs) (fun k => ?_) (Ev.bind (Ev.congr (fun k => rfl) hh) ?_)
    · simp only [spec_DepthOf.l0]
      rw [if_pos (by omega), spec_l13Loop.is hg k p (i : Int) ⟨by omega, by omega⟩, Option.bind_some, wnext i bs.length h (by unfold Max; omega)]
    · rw [depthP_succ] at ih
      by_cases q : v ∈ loopL (nextL bs) (i : Int)
      · rw [if_pos q] at ih
        exact Ev.congr (fun k => by rw [if_pos (by simpa using q), show wrap64 ((depthP (nextL bs) v i : Int) + 1) = ((depthP (nextL bs) v i + 1 : Nat) : Int) by unfold wrap64; omega]) ih
      · rw [if_neg q] at ih
        exact Ev.congr (fun k => if_neg (by simpa using q)) ih
theorem specDepthOf_f (p : Int) (bs : List S87) (v : Int) : Ev (fun k => spec_DepthOf.f k p bs v) (ansDepthOf p bs v) := by
  unfold ansDepthOf
  have h0 := l13Is_f p bs v
  have hj : Ev (fun k => spec_DepthOf.j0 k v true p bs) (0, false) := Ev.step (f := fun _ => some (0, false)) (fun k => by simp [spec_DepthOf.j0]) (Ev.now _)
  cases hg : goodB p bs with
  | false =>
    rw [hg, Bool.false_and] at h0
    exact Ev.congr (fun k => rfl) (Ev.bind h0 (Ev.congr (fun k => if_neg (by decide)) hj))
  | true =>
    have hgr := rows_of_good hg
    rw [hg, Bool.true_and] at h0
    rw [if_pos rfl]
    cases hw : within v 0 ((bs.length : Int) - 1) with
    | false =>
      rw [hw] at h0
      exact Ev.congr (fun k => rfl) (Ev.bind h0 (Ev.congr (fun k => if_neg (by decide)) hj))
    | true =>
      rw [hw] at h0
      rw [if_pos rfl]
      have hfl := fromL_len (nextL bs) 0 (-1)
      rw [nextL_len] at hfl
      have h8 := hgr.len
      have hh := has_l0 v (reached (nextL bs)) (by show (fromL _ _ _).length ≤ 1000; omega) _ 0 rfl
      rw [List.drop_zero] at hh
      have hf := spec_l13From.is hgr p 0 (-1) ⟨Int.le_refl _, by have := hgr.one; omega⟩
      by_cases q : v ∈ reached (nextL bs)
      · rw [if_pos q]
        rw [decide_eq_true q] at hh
        have hj2 : Ev (fun k => spec_DepthOf.j0 k v false p bs) ((depthP (nextL bs) v bs.length : Int), true) := Ev.step (fun k => by simp only [spec_DepthOf.j0]; rw [if_neg (by decide)]; rfl) (depth_l0 p bs hgr v _ 0 rfl (Nat.zero_le _))
        exact Ev.congr (fun k => rfl) (Ev.bind h0 (Ev.congr (f := fun k => (spec_l1Has.f k (reached (nextL bs)) v).bind fun t => spec_DepthOf.j0 k v (!t) p bs) (fun k => by rw [if_pos rfl, hf, Option.bind_some]; rfl) (Ev.bind (Ev.congr (fun k => rfl) hh) hj2)))
      · rw [if_neg q]
        rw [decide_eq_false q] at hh
        exact Ev.congr (fun k => rfl) (Ev.bind h0 (Ev.congr (f := fun k => (spec_l1Has.f k (reached (nextL bs)) v).bind fun t => spec_DepthOf.j0 k v (!t) p bs) (fun k => by rw [if_pos rfl, hf, Option.bind_some]; rfl) (Ev.bind (Ev.congr (fun k => rfl) hh) hj)))
theorem specDepthOf_any {A : Option Addr} {c : Nat} (p : Int) (bs : List S87) (v : Int) (w : World) (hr : Kd.C k87 w A bs.length bs) (hc : bs.length ≤ c) :
    Calls Try.prog 48 #[.agg #[.int .i64 p, .slice A bs.length c], .int .i64 v] w fun e w' => e = .returned (.tuple #[.int .i64 (ansDepthOf p bs v).1, .bool (ansDepthOf p bs v).2]) ∧ Below w.heap.size w w' := by
  obtain ⟨k, hk⟩ := Ev.rounds (specDepthOf_f p bs v)
  exact spec_DepthOf.calls k p A c bs v _ _ w hr hc hk
end Go.Proofs.Ytghlbhijkhkgkaa.PA
