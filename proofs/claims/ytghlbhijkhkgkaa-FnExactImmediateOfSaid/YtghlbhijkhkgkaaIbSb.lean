/- The flow seat: ImmediateOf: the program by hand, the reference in plain words. -/
import Derived.Test.YtghlbhijkhkgkaaIbSa
import Derived.Test.YtghlbhijkhkgkaaIbOd
import Derived.Test.YtghlbhijkhkgkaaIbPAz11
import Derived.Test.YtghlbhijkhkgkaaIbPAz15
namespace Go.Proofs.Ytghlbhijkhkgkaa.PA
open Go.RowKit Go.Proofs.YtghlbhijkhkgkaaW.PrintWords Go.Proofs.YtghlbhijkhkgkaaW.PrintLast Go.Proofs.YtghlbhijkhkgkaaW.PrintMore
set_option linter.unusedVariables false
/-- One block looked at: the best so far, and how many dominators it has. -/
noncomputable def immStep (next : List (List Int)) (v : Int) (st : Int × Nat) (k : Int) : Int × Nat := if k ≠ v ∧ st.2 < domN next k then (k, domN next k) else st
noncomputable def immAt (next : List (List Int)) (v : Int) (i : Nat) : Int × Nat := ((domsRow next v).take i).foldl (immStep next v) (0, 0)
theorem immAt_succ (next : List (List Int)) (v : Int) (i : Nat) (hi : i < (domsRow next v).length) : immAt next v (i + 1) = immStep next v (immAt next v i) (domsRow next v)[i] := by
  unfold immAt
  rw [List.take_succ_eq_append_getElem hi, List.foldl_append]
  rfl
/-- What ImmediateOf answers. -/
noncomputable def ansImmediateOf (p : Int) (bs : List S87) (v : Int) : Int × Bool := if goodB p bs = true then if within v 0 ((bs.length : Int) - 1) = true then if v = 0 then (0, false) else ((immAt (nextL bs) v (domsRow (nextL bs) v).length).1, decide (0 < (immAt (nextL bs) v (domsRow (nextL bs) v).length).2)) else (0, false) else (0, false)
theorem domN_le (next : List (List Int)) (b : Int) : domN next b ≤ next.length := numsL_len _ _
theorem immAt_le (next : List (List Int)) (v : Int) : ∀ (l : List Int) (st : Int × Nat), st.2 ≤ next.length → (l.foldl (immStep next v) st).2 ≤ next.length
  | [], st, h => h
  | k :: l, st, h => by
    rw [List.foldl_cons]
    refine immAt_le next v l _ ?_
    unfold immStep
    split
    · exact domN_le _ _
    · exact h
set_option maxHeartbeats 4000000 in
set_option maxRecDepth 100000 in
theorem implImmediateOf_any {A : Option Addr} {c : Nat} (p : Int) (bs : List S87) (v : Int) (w : World) (hr : Kd.C k87 w A bs.length bs) (hc : bs.length ≤ c) :
    Calls Try.prog 41 #[.agg #[.int .i64 p, .slice A bs.length c], .int .i64 v] w fun e w' => e = .returned (.tuple #[.int .i64 (ansImmediateOf p bs v).1, .bool (ansImmediateOf p bs v).2]) ∧ Below w.heap.size w w' := by
  have W1 := below_alloc (Below.refl w.heap.size w) (.cells #[.int .i64 p, .slice A bs.length c] 30)
  rcases Bool.eq_false_or_eq_true (goodB p bs) with hg | hg
  · have hcall := Aside0.mk (viewOf_yes (c := c) p bs (w.alloc (.cells #[.int .i64 p, .slice A bs.length c] 30)) (Kd.C_below hr W1) hc hg)
    have hgr := rows_of_good hg
    have HGJ := Aside0.mk (show ∀ b ∈ bs, b.f4.length ≤ 2 from fun b hb => by obtain ⟨k, hk, rfl⟩ := List.getElem_of_mem hb; have := hgr.two k hk; rwa [rd_nat bs k hk] at this)
    have HN := Aside0.mk hgr.len
    have HN1 := Aside0.mk hgr.one
    have HOK := Aside0.mk (rows_ok hgr)
    have hans : ansImmediateOf p bs v = if within v 0 ((bs.length : Int) - 1) = true then if v = 0 then (0, false) else ((immAt (nextL bs) v (domsRow (nextL bs) v).length).1, decide (0 < (immAt (nextL bs) v (domsRow (nextL bs) v).length).2)) else (0, false) := by rw [ansImmediateOf, if_pos hg]
    have HANS := Aside0.mk hans
    have HNL := Aside0.mk (nextL_len bs)
    clear hr hc hg hgr hans W1
    rcases Bool.eq_false_or_eq_true (within v 0 ((bs.length : Int) - 1)) with q | q
    · have hv : 0 ≤ v ∧ v < (bs.length : Int) := by simp [within] at q; omega
      have HQ := Aside0.mk (show ansImmediateOf p bs v = if v = 0 then (0, false) else ((immAt (nextL bs) v (domsRow (nextL bs) v).length).1, decide (0 < (immAt (nextL bs) v (domsRow (nextL bs) v).length).2)) by rw [HANS.out, if_pos q])
      have HW := Aside0.mk q
      by_cases q0 : v = 0
      · have d0 : (v == 0) = true := beq_iff_eq.mpr q0
        have HE := Aside0.mk (show ansImmediateOf p bs v = (0, false) by rw [HQ.out, if_pos q0])
        clear q hv q0
        go_enter Try.func41, Try.ntmps41
        go_wp2_with (first | (go_at_call 56; refine (hcall.out).mono ?_; rintro e w1 ⟨gv, rfl, hb, hview⟩; have HV1 := Aside0.mk hview; have HB1 := Aside0.mk (below_step (below_alloc (Below.refl w.heap.size w) _) hb); clear hb hview hcall) | (go_at_call 63; refine (hasBlock_any v HV1.out HN.out).mono ?_; rintro e w2 ⟨rfl, rfl⟩; rw [HW.out]))
        go_ret2
        exact ⟨by rw [HE.out]; rfl, HB1.out⟩
      · have d0 : (v == 0) = false := beq_eq_false_iff_ne.mpr q0
        have HE := Aside0.mk (show ansImmediateOf p bs v = ((immAt (nextL bs) v (domsRow (nextL bs) v).length).1, decide (0 < (immAt (nextL bs) v (domsRow (nextL bs) v).length).2)) by rw [HQ.out, if_neg q0])
        obtain ⟨vn, rfl⟩ := Int.eq_ofNat_of_zero_le hv.1
        obtain ⟨n, hn⟩ : ∃ n, n = bs.length := ⟨_, rfl⟩
        have HEN := Aside0.mk hn
        have HVN := Aside0.mk (show vn < n by omega)
        have hn8 : n ≤ 8 := by rw [hn]; exact HN.out
        have hnl : (nextL bs).length = n := by rw [hn]; exact HNL.out
        have HNX := Aside0.mk hnl
        have p0 : (0 ≤ (vn : Int)) = True := eq_true (by omega)
        have p1 : ((vn : Int) < (n : Int)) = True := eq_true (by omega)
        clear q hv q0 hn hnl
        go_enter Try.func41, Try.ntmps41
        go_wp2_with (first | (go_at_call 56; refine (hcall.out).mono ?_; rintro e w1 ⟨gv, rfl, hb, hview⟩; have HV1 := Aside0.mk hview; have HB1 := Aside0.mk (below_step (below_alloc (Below.refl w.heap.size w) _) hb); clear hb hview hcall) | (go_at_call 63; refine (hasBlock_any (vn : Int) HV1.out HN.out).mono ?_; rintro e w2 ⟨rfl, rfl⟩; rw [HW.out]))
        refine (next_any p gv bs w2 HV1.out HN.out HGJ.out).mono ?_
        rintro e w3 ⟨g, cap, H, rfl, hcap, hnx⟩
        have HB3 := Aside0.mk (below_step HB1.out hnx.below)
        have T78 := dominators_any (A0 := some ⟨g, 0, none⟩) (c0 := cap) (nextL bs) w3 HOK.out (by rw [HNL.out]; exact HN1.out) (by rw [HNL.out]; exact HN.out) ((RW.of_NX hnx).C HOK.out.1) (by rw [HNL.out]; exact hcap)
        rw [HNX.out] at T78
        rw [← HEN.out]
        have HT := Aside0.mk T78
        clear hcap hnx HV1 T78 HB1
        have hdl : (domGrid (nextL bs)).length = n := by rw [domGrid, grid_len, HNX.out]
        have HROW := Aside0.mk (show ∀ (W : World) (kn : Nat) A7 c7, kn < n → Kd.bool.C W A7 n (rowF n (domB (nextL bs)) (kn : Int)) → n ≤ c7 → Calls Try.prog 72 #[.slice A7 n c7] W fun e w' => ∃ v : Value, e = .returned v ∧ (Kd.int .i64).R 3 w' W.heap.size (fun _ => True) v (domsRow (nextL bs) (kn : Int)) ∧ Below W.heap.size W w' from fun W kn A7 c7 hk hC hl => by
          have T72 := listOf_any (w := W) (A := A7) (c := c7) (rowF n (domB (nextL bs)) (kn : Int)) (by rw [rowF_len]; omega) (by rw [rowF_len]; exact hC) (by rw [rowF_len]; exact hl)
          have hld := listOf_dom (nextL bs) kn
          rw [HNX.out] at hld
          rw [hld, rowF_len] at T72
          exact T72)
        have HGET := Aside0.mk (show ∀ (W : World) (kn : Nat) (A21 : Option Addr), kn < n → Kd.C kB W A21 n (domGrid (nextL bs)) → ∃ ad A7 c7, A21 = some ad ∧ W.cell? (ad.add kn) = some (.slice A7 n c7) ∧ n ≤ c7 ∧ Kd.bool.C W A7 n (rowF n (domB (nextL bs)) (kn : Int)) from fun W kn A21 hk hC => by
          obtain ⟨ad, A7, c7, e7, z7, hl7, hC7⟩ := at_L13 hC (kn : Int) (by omega) (by omega)
          have hrow := domGrid_rd (nextL bs) kn (by rw [HNX.out]; exact hk)
          rw [HNX.out] at hrow
          rw [hrow, rowF_len] at z7 hl7 hC7
          exact ⟨ad, A7, c7, e7, z7, hl7, hC7⟩)
        go_wp2_with (first | (go_at_call 78; refine (HT.out).mono ?_; rintro e w4 ⟨v29, rfl, hS, hb⟩; obtain ⟨A29, c29, e29⟩ := Kd.S_slice hS; rw [hdl] at e29; subst e29; have HC4 := Aside0.mk (show Kd.C kB w4 A29 n (domGrid (nextL bs)) from by have := (Kd.S_reads' hS).2.2; rwa [hdl] at this); have HB4 := Aside0.mk (below_step HB3.out hb); obtain ⟨ad, A7, c7, e7, z7, hl7, hC7⟩ := HGET.out w4 vn A29 HVN.out HC4.out; cases e7; have HCR := Aside0.mk (And.intro hl7 hC7); clear hS hb hl7 hC7 HT) | (go_at_call 72; refine (HROW.out w4 vn A7 c7 HVN.out HCR.out.2 HCR.out.1).mono ?_; rintro e w5 ⟨v34, rfl, hR, hb⟩; obtain ⟨A34, c34, rfl⟩ := Kd.R_slice hR; have HD := Aside0.mk (Kd.R_reads' hR).2.2; have HC5 := Aside0.mk (Kd.C_below HC4.out hb); have HB5 := Aside0.mk (below_step HB4.out hb); clear hR hb z7))
        obtain ⟨D, hD⟩ : ∃ D, D = domsRow (nextL bs) (vn : Int) := ⟨_, rfl⟩
        have hDE : domsRow (nextL bs) (vn : Int) = D := hD.symm
        rw [hDE] at HD ⊢
        have HED := Aside0.mk hD
        have hdm := Kd.C_max HD.out
        have HDL := Aside0.mk (show D.length ≤ 8 by have := domN_le (nextL bs) (vn : Int); rw [HNX.out] at this; rw [hD]; show domN (nextL bs) (vn : Int) ≤ 8; omega)
        clear hD hDE HC4 HB4 HCR
        go_loopg [8, 9, 36] D.length (fun gg s8 s9 s36 wr => ∃ i : Nat, s36 = .int .i64 (i : Int) ∧ s8 = .int .i64 (immAt (nextL bs) (vn : Int) i).1 ∧ s9 = .int .i64 ((immAt (nextL bs) (vn : Int) i).2 : Int) ∧ Aside0 (i ≤ D.length ∧ D.length - i ≤ gg) ∧ Aside0 ((Kd.int .i64).C wr A34 D.length D) ∧ Aside0 (Kd.C kB wr (some ad) n (domGrid (nextL bs))) ∧ Aside0 (Below w.heap.size w wr))
        case atStart => exact ⟨0, rfl, rfl, rfl, ⟨by omega, by omega⟩, HD, HC5, HB5⟩
        case round =>
          clear HD HC5 HB5
          obtain ⟨i, rfl, rfl, rfl, HA, HD, HC5, HB5⟩ := hrel
          obtain ⟨wo, rfl⟩ : ∃ wo : World, wo = wr := ⟨_, rfl⟩
          have hile := immAt_le (nextL bs) (vn : Int) ((domsRow (nextL bs) (vn : Int)).take i) (0, 0) (Nat.zero_le _)
          have hile : (immAt (nextL bs) (vn : Int) i).2 ≤ n := by rw [← HNX.out]; exact hile
          by_cases hlt : i < D.length
          · obtain ⟨ad2, e, hz⟩ := Kd.at_int HD.out (i : Int) (by omega) (by omega)
            cases e
            simp only [Int.toNat_natCast] at hz
            rw [rd_at D i hlt] at hz
            have hsu := immAt_succ (nextL bs) (vn : Int) i (by rw [← HED.out]; exact hlt)
            have hmem : D[i] ∈ domsRow (nextL bs) (vn : Int) := by rw [← HED.out]; exact List.getElem_mem hlt
            have hxi : (domsRow (nextL bs) (vn : Int))[i]'(by rw [← HED.out]; exact hlt) = D[i] := by simp only [HED.out]
            rw [hxi] at hsu
            have hbd := (mem_numsL.1 hmem).1
            obtain ⟨x, hx⟩ : ∃ x, x = D[i] := ⟨_, rfl⟩
            rw [← hx] at hz hbd hsu
            obtain ⟨xn, rfl⟩ := Int.eq_ofNat_of_zero_le hbd.1
            have HXN := Aside0.mk (show xn < n by have := hbd.2; have := HNX.out; omega)
            obtain ⟨st, hst⟩ : ∃ st, st = immAt (nextL bs) (vn : Int) i := ⟨_, rfl⟩
            rw [← hst] at hsu hile ⊢
            obtain ⟨best, most⟩ := st
            have HSU := Aside0.mk hsu
            obtain ⟨ad3, A7, c7, e7, z7, hl7, hC7⟩ := HGET.out wo xn (some ad) HXN.out HC5.out
            cases e7
            have HT72 := Aside0.mk (HROW.out wo xn A7 c7 HXN.out hC7 hl7)
            have hdn := domN_le (nextL bs) (xn : Int)
            rw [HNX.out] at hdn
            obtain ⟨dn, hdn2⟩ : ∃ dn, dn = domN (nextL bs) (xn : Int) := ⟨_, rfl⟩
            have HDN := Aside0.mk hdn2
            rw [← hdn2] at hdn
            have HL := Aside0.mk hlt
            have p2 : (0 ≤ (i : Int)) = True := eq_true (by omega)
            have p3 : ((i : Int) < (D.length : Int)) = True := eq_true (by omega)
            have p4 : (0 ≤ (xn : Int)) = True := eq_true (by omega)
            have p5 : ((xn : Int) < (n : Int)) = True := eq_true (by have := HXN.out; omega)
            clear hsu hmem hxi hbd hx hst hl7 hC7 hdn2
            by_cases q1 : (xn : Int) = (vn : Int)
            · have d1 : ((xn : Int) != (vn : Int)) = false := bne_eq_false_iff_eq.mpr q1
              have HST := Aside0.mk (show immAt (nextL bs) (vn : Int) (i + 1) = (best, most) by rw [HSU.out, immStep, if_neg (fun h => h.1 q1)])
              clear q1
              go_wp2_with (go_at_call 72; refine (HT72.out).mono ?_; rintro e w44 ⟨v44, rfl, hR, hb⟩; obtain ⟨A44, c44, rfl⟩ := Kd.R_slice hR; rw [show (domsRow (nextL bs) (xn : Int)).length = dn from HDN.out.symm]; have HB44 := Aside0.mk hb; clear hR hb HT72 z7 hz)
              go_roundg (D.length - (i + 1))
              case measure => have := HA.out; have := HL.out; omega
              case rel => exact ⟨i + 1, by go_num, by rw [HST.out], by rw [HST.out], ⟨by have := HL.out; omega, by omega⟩, ⟨Kd.C_below HD.out HB44.out⟩, ⟨Kd.C_below HC5.out HB44.out⟩, ⟨below_step HB5.out HB44.out⟩⟩
            · have d1 : ((xn : Int) != (vn : Int)) = true := bne_iff_ne.mpr q1
              by_cases q2 : most < dn
              · have c2 : ((most : Int) < (dn : Int)) = True := eq_true (by omega)
                have c3 : decide ((dn : Int) > (most : Int)) = true := decide_eq_true (by omega)
                have HST := Aside0.mk (show immAt (nextL bs) (vn : Int) (i + 1) = ((xn : Int), dn) by rw [HSU.out, immStep, if_pos ⟨q1, by rw [← HDN.out]; exact q2⟩, ← HDN.out])
                clear q1 q2
                go_wp2_with (go_at_call 72; refine (HT72.out).mono ?_; rintro e w44 ⟨v44, rfl, hR, hb⟩; obtain ⟨A44, c44, rfl⟩ := Kd.R_slice hR; rw [show (domsRow (nextL bs) (xn : Int)).length = dn from HDN.out.symm]; have HB44 := Aside0.mk hb; clear hR hb HT72 z7 hz)
                go_roundg (D.length - (i + 1))
                case measure => have := HA.out; have := HL.out; omega
                case rel => exact ⟨i + 1, by go_num, by rw [HST.out], by rw [HST.out], ⟨by have := HL.out; omega, by omega⟩, ⟨Kd.C_below HD.out HB44.out⟩, ⟨Kd.C_below HC5.out HB44.out⟩, ⟨below_step HB5.out HB44.out⟩⟩
              · have c2 : ((most : Int) < (dn : Int)) = False := eq_false (by omega)
                have c3 : decide ((dn : Int) > (most : Int)) = false := decide_eq_false (by omega)
                have HST := Aside0.mk (show immAt (nextL bs) (vn : Int) (i + 1) = (best, most) by rw [HSU.out, immStep, if_neg (fun h => q2 (by have := h.2; rw [← HDN.out] at this; exact this))])
                clear q1 q2
                go_wp2_with (go_at_call 72; refine (HT72.out).mono ?_; rintro e w44 ⟨v44, rfl, hR, hb⟩; obtain ⟨A44, c44, rfl⟩ := Kd.R_slice hR; rw [show (domsRow (nextL bs) (xn : Int)).length = dn from HDN.out.symm]; have HB44 := Aside0.mk hb; clear hR hb HT72 z7 hz)
                go_roundg (D.length - (i + 1))
                case measure => have := HA.out; have := HL.out; omega
                case rel => exact ⟨i + 1, by go_num, by rw [HST.out], by rw [HST.out], ⟨by have := HL.out; omega, by omega⟩, ⟨Kd.C_below HD.out HB44.out⟩, ⟨Kd.C_below HC5.out HB44.out⟩, ⟨below_step HB5.out HB44.out⟩⟩
          · have e : i = D.length := by have := HA.out; omega
            have p3 : ((i : Int) < (D.length : Int)) = False := eq_false (by omega)
            have HF := Aside0.mk e
            clear e
            go_wp2
            go_ret2
            exact ⟨by rw [HE.out, HF.out, HED.out]; rfl, HB5.out⟩
    · have HQ := Aside0.mk (show ansImmediateOf p bs v = (0, false) by rw [HANS.out, if_neg (by rw [q]; decide)])
      have HW := Aside0.mk q
      clear q
      go_enter Try.func41, Try.ntmps41
      go_wp2_with (first | (go_at_call 56; refine (hcall.out).mono ?_; rintro e w1 ⟨gv, rfl, hb, hview⟩; have HV1 := Aside0.mk hview; have HB1 := Aside0.mk (below_step (below_alloc (Below.refl w.heap.size w) _) hb); clear hb hview hcall) | (go_at_call 63; refine (hasBlock_any v HV1.out HN.out).mono ?_; rintro e w2 ⟨rfl, rfl⟩; rw [HW.out]))
      go_ret2
      exact ⟨by rw [HQ.out]; rfl, HB1.out⟩
  · have hcall := Aside0.mk (viewOf_no (c := c) p bs (w.alloc (.cells #[.int .i64 p, .slice A bs.length c] 30)) (Kd.C_below hr W1) hc hg)
    have HA := Aside0.mk (show ansImmediateOf p bs v = (0, false) by rw [ansImmediateOf, hg]; rfl)
    clear hr hc hg W1
    go_enter Try.func41, Try.ntmps41
    go_wp2_with (go_at_call 56; refine (hcall.out).mono ?_; rintro e w1 ⟨rfl, hb⟩; have HB1 := Aside0.mk (below_step (below_alloc (Below.refl w.heap.size w) _) hb); clear hb hcall)
    go_ret2
    exact ⟨by rw [HA.out]; rfl, HB1.out⟩
section
variable {next : List (List Int)} {v k : Int} {M : Nat}
theorem fold_best (h0 : RowsOk next) (h1 : 0 < next.length) (hk : k ∈ domsRow next v) (hne : k ≠ v) (hM : domN next k = M) (hM1 : M + 1 = domN next v) : ∀ (l : List Int) (st : Int × Nat), (∀ x ∈ l, x ∈ domsRow next v) → (st = (k, M) ∨ (st.2 < M ∧ k ∈ l)) → l.foldl (immStep next v) st = (k, M)
  | [], st, _, h => h.elim id fun h => absurd h.2 (by simp)
  | x :: l, st, hl, h => by
    rw [List.foldl_cons]
    have hx := hl x List.mem_cons_self
    refine fold_best h0 h1 hk hne hM hM1 l _ (fun y hy => hl y (List.mem_cons_of_mem _ hy)) ?_
    rcases h with rfl | ⟨h2, h3⟩
    · refine .inl ?_
      rw [immStep, if_neg]
      rintro ⟨a1, a2⟩
      have := strict_le h0 h1 hx a1
      have a3 : M < domN next x := a2
      omega
    · by_cases e : x = k
      · subst e
        refine .inl ?_
        rw [immStep, if_pos ⟨hne, by omega⟩, hM]
      · refine .inr ⟨?_, List.mem_of_ne_of_mem (fun h => e h.symm) h3⟩
        unfold immStep
        split
        · rename_i h4
          have h5 := strict_le h0 h1 hx h4.1
          have h6 : domN next x ≠ M := fun h => e (strict_one h0 h1 hk hne hx h4.1 (by omega) (by omega))
          show domN next x < M
          omega
        · exact h2
end
theorem imm_l0 (next : List (List Int)) (h0 : RowsOk next) (h1 : 0 < next.length) (h8 : next.length ≤ 8) (v : Nat) (hv : v < next.length) (k : Int) (hk : k ∈ domsRow next (v : Int)) (hne : k ≠ (v : Int)) (hM : domN next k + 1 = domN next (v : Int)) : ∀ (d i : Nat), (domsRow next (v : Int)).length - i = d → k ∈ (domsRow next (v : Int)).drop i →
    Ev (fun f => spec_ImmediateOf.l0 f (v : Int) (allDoms next) (domsRow next (v : Int)) ((domsRow next (v : Int)).length : Int) (i : Int)) (k, true)
  | 0, i, hd, hm => by rw [List.drop_of_length_le (by omega)] at hm; cases hm
  | d + 1, i, hd, hm => by
    have hl : i < (domsRow next (v : Int)).length := by omega
    have hrd := rd_at (domsRow next (v : Int)) i hl
    have hxm : (domsRow next (v : Int))[i] ∈ domsRow next (v : Int) := List.getElem_mem hl
    have hal := allDoms_len next
    have hdl : (domsRow next (v : Int)).length ≤ next.length := domN_le next (v : Int)
    rw [List.drop_eq_getElem_cons hl, List.mem_cons] at hm
    obtain ⟨x, hx⟩ : ∃ x, x = (domsRow next (v : Int))[i] := ⟨_, rfl⟩
    rw [← hx] at hrd hxm hm
    have hxb := (mem_numsL.1 hxm).1
    obtain ⟨xn, rfl⟩ := Int.eq_ofNat_of_zero_le hxb.1
    have hrx := allDoms_rd (next := next) (i := xn) (by omega)
    have hrv := allDoms_rd (next := next) (i := v) hv
    by_cases q : (xn : Int) = (v : Int)
    · have ih := imm_l0 next h0 h1 h8 v hv k hk hne hM d (i + 1) (by omega) (hm.resolve_left (fun e => hne (e.trans q)))
      refine Ev.step (fun f => ?_) ih
      simp only [spec_ImmediateOf.l0]
      rw [if_pos (by omega), if_pos (by omega), if_pos (by omega), hrd, if_pos q, wnext i _ hl (by unfold Max; omega)]
    · have hw : wrap64 (((domsRow next (v : Int)).length : Int) - 1) = ((domsRow next (v : Int)).length : Int) - 1 := by unfold wrap64; omega
      by_cases q2 : domN next (xn : Int) + 1 = domN next (v : Int)
      · have e := strict_one h0 h1 hk hne hxm q hM q2
        refine Ev.step (f := fun _ => some ((xn : Int), true)) (fun f => ?_) (e ▸ Ev.now _)
        simp only [spec_ImmediateOf.l0]
        rw [if_pos (by omega), if_pos (by omega), if_pos (by omega), hrd, if_neg q, if_pos (by omega), if_pos (by omega), if_pos (by omega), if_pos (by omega), hrx, hrv, hw, if_pos (by unfold domN at q2; omega)]
      · have ih := imm_l0 next h0 h1 h8 v hv k hk hne hM d (i + 1) (by omega) (hm.resolve_left (fun e => q2 (e ▸ hM)))
        refine Ev.step (fun f => ?_) ih
        simp only [spec_ImmediateOf.l0]
        rw [if_pos (by omega), if_pos (by omega), if_pos (by omega), hrd, if_neg q, if_pos (by omega), if_pos (by omega), if_pos (by omega), if_pos (by omega), hrx, hrv, hw, if_neg (by unfold domN at q2; omega), wnext i _ hl (by unfold Max; omega)]
theorem specImmediateOf_f (p : Int) (bs : List S87) (v : Int) : Ev (fun k => spec_ImmediateOf.f k p bs v) (ansImmediateOf p bs v) := by
  unfold ansImmediateOf
  have h0 := l13Is_f p bs v
  have hj : Ev (fun k => spec_ImmediateOf.j0 k v true p bs) (0, false) := Ev.step (f := fun _ => some (0, false)) (fun k => by simp [spec_ImmediateOf.j0]) (Ev.now _)
  cases hg : goodB p bs with
  | false =>
    rw [hg, Bool.false_and] at h0
    exact Ev.congr (fun k => rfl) (Ev.bind h0 (Ev.congr (fun k => if_neg (by decide)) hj))
  | true =>
    have hgr := rows_of_good hg
    rw [hg, Bool.true_and] at h0
    rw [if_pos rfl]
    cases hw : within v 0 ((bs.length : Int) - 1) with
    | false =>
      rw [hw] at h0
      exact Ev.congr (fun k => rfl) (Ev.bind h0 (Ev.congr (fun k => if_neg (by decide)) hj))
    | true =>
      rw [hw] at h0
      rw [if_pos rfl]
      have hv : 0 ≤ v ∧ v < (bs.length : Int) := by simp [within] at hw; omega
      by_cases q : v = 0
      · rw [if_pos q]
        exact Ev.congr (fun k => rfl) (Ev.bind h0 (Ev.congr (fun k => by rw [if_pos rfl, beq_iff_eq.mpr q]) hj))
      · rw [if_neg q]
        obtain ⟨vn, rfl⟩ := Int.eq_ofNat_of_zero_le hv.1
        have hok := rows_ok hgr
        have hnl := nextL_len bs
        have h8 := hgr.len
        have h1 := hgr.one
        have hal := allDoms_len (nextL bs)
        have hrv := allDoms_rd (next := nextL bs) (i := vn) (by omega)
        have key : Ev (fun k => spec_ImmediateOf.l0 k (vn : Int) (allDoms (nextL bs)) (domsRow (nextL bs) (vn : Int)) ((domsRow (nextL bs) (vn : Int)).length : Int) 0) ((immAt (nextL bs) (vn : Int) (domsRow (nextL bs) (vn : Int)).length).1, decide (0 < (immAt (nextL bs) (vn : Int) (domsRow (nextL bs) (vn : Int)).length).2)) := by
          by_cases hr : (vn : Int) ∈ reached (nextL bs)
          · obtain ⟨k, hk, hne, hM⟩ := strict_has hok (by omega) hr q
            have hf := fold_best hok (by omega) hk hne rfl hM (domsRow (nextL bs) (vn : Int)) (0, 0) (fun _ h => h) (.inr ⟨by
              have := self_dom (mem_domsRow.1 hk).1
              exact List.length_pos_of_mem this, hk⟩)
            have hi : immAt (nextL bs) (vn : Int) (domsRow (nextL bs) (vn : Int)).length = (k, domN (nextL bs) k) := by
              unfold immAt
              rw [List.take_length]
              exact hf
            have hp : 0 < domN (nextL bs) k := List.length_pos_of_mem (self_dom (mem_domsRow.1 hk).1)
            rw [hi]
            show Ev _ (k, decide (0 < domN (nextL bs) k))
            rw [decide_eq_true hp]
            exact imm_l0 (nextL bs) hok (by omega) (by omega) vn (by omega) k hk hne hM _ 0 rfl (by rw [List.drop_zero]; exact hk)
          · have e := domsRow_none hr
            unfold immAt
            rw [e]
            exact Ev.step (f := fun _ => some (0, false)) (fun k => by simp [spec_ImmediateOf.l0]) (Ev.now _)
        refine Ev.congr (fun k => rfl) (Ev.bind h0 (Ev.congr (f := fun k => spec_ImmediateOf.j0 k (vn : Int) false p bs) (fun k => by rw [if_pos rfl, beq_eq_false_iff_ne.mpr q]) (Ev.step (fun k => ?_) key)))
        simp only [spec_ImmediateOf.j0]
        rw [if_neg (by decide), spec_l13AllDoms.is hgr k p, Option.bind_some, if_pos (by omega), if_pos (by omega), hrv]
theorem specImmediateOf_any {A : Option Addr} {c : Nat} (p : Int) (bs : List S87) (v : Int) (w : World) (hr : Kd.C k87 w A bs.length bs) (hc : bs.length ≤ c) :
    Calls Try.prog 40 #[.agg #[.int .i64 p, .slice A bs.length c], .int .i64 v] w fun e w' => e = .returned (.tuple #[.int .i64 (ansImmediateOf p bs v).1, .bool (ansImmediateOf p bs v).2]) ∧ Below w.heap.size w w' := by
  obtain ⟨k, hk⟩ := Ev.rounds (specImmediateOf_f p bs v)
  exact spec_ImmediateOf.calls k p A c bs v _ _ w hr hc hk
end Go.Proofs.Ytghlbhijkhkgkaa.PA
