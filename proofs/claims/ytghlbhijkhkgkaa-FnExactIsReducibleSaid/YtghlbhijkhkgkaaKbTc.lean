/- The flow seat: spec.IsReducible by hand. -/
import Derived.Test.YtghlbhijkhkgkaaKbTb
namespace Go.Proofs.Ytghlbhijkhkgkaa.PA
open Go.RowKit Go.Proofs.YtghlbhijkhkgkaaW.PrintWords Go.Proofs.YtghlbhijkhkgkaaW.PrintLast Go.Proofs.YtghlbhijkhkgkaaW.PrintMore
set_option linter.unusedVariables false
/-- What IsReducible answers. -/
noncomputable def ansIsReducible (p : Int) (bs : List S87) : Bool × Bool := if goodB p bs = true then (redB (nextL bs), true) else (false, false)
theorem pred_snoc {next : List (List Int)} {l : List Int} {k b : Int} : HasPred next (l ++ [k]) b ↔ HasPred next l b ∨ b ∈ rd_L1 (fwdL next) k := by
  constructor
  · rintro ⟨y, hy, h⟩
    rcases List.mem_append.1 hy with hy | hy
    · exact .inl ⟨y, hy, h⟩
    · rw [List.mem_singleton] at hy
      exact .inr (hy ▸ h)
  · rintro (⟨y, hy, h⟩ | h)
    · exact ⟨y, List.mem_append_left _ hy, h⟩
    · exact ⟨k, by simp, h⟩
set_option maxHeartbeats 8000000 in
set_option maxRecDepth 100000 in
theorem specIsReducible_any {A : Option Addr} {c : Nat} (p : Int) (bs : List S87) (w : World) (hr : Kd.C k87 w A bs.length bs) (hc : bs.length ≤ c) :
    Calls Try.prog 46 #[.agg #[.int .i64 p, .slice A bs.length c]] w fun e w' => e = .returned (.tuple #[.bool (ansIsReducible p bs).1, .bool (ansIsReducible p bs).2]) ∧ Below w.heap.size w w' := by
  have T70 := Aside0.mk (fun W (hW : Below w.heap.size w W) => goodFunc_any (A := A) (c := c) p bs W (Kd.C_below hr hW) hc)
  have HB0 := Aside0.mk (below_alloc (Below.refl w.heap.size w) (.cells #[.int .i64 p, .slice A bs.length c] 30))
  rcases Bool.eq_false_or_eq_true (goodB p bs) with hg | hg
  · have hgr := rows_of_good hg
    have HANS := Aside0.mk (show ansIsReducible p bs = (redB (nextL bs), true) by rw [ansIsReducible, if_pos hg])
    have HG := Aside0.mk hg
    obtain ⟨next, hnx⟩ : ∃ z, z = nextL bs := ⟨_, rfl⟩
    have hnl := nextL_len bs
    have hok := rows_ok hgr
    have T71 := Aside0.mk (fun W (hW : Below w.heap.size w W) => from_any (A := A) (c := c) p bs 0 (-1) W (Kd.C_below hr hW) hc hgr ⟨Int.le_refl _, by have := hgr.one; omega⟩)
    have T62 := Aside0.mk (fun W (hW : Below w.heap.size w W) i hi => nexts_any (A := A) (c := c) p bs i hi hgr (Kd.C_below hr hW) hc)
    have T79 := Aside0.mk (fun W (hW : Below w.heap.size w W) => (show Calls Try.prog 79 #[.agg #[.int .i64 p, .slice A bs.length c]] W fun e w' => ∃ v : Value, e = .returned v ∧ Kd.S kR 34 w' W.heap.size (fun _ => True) v (backsL (nextL bs) bs.length) ∧ Below W.heap.size W w' from by
      obtain ⟨k, hk⟩ := Ev.rounds (backs_f p bs hgr)
      exact spec_l13Backs.calls k p A c bs _ W (Kd.C_below hr hW) hc hk))
    have HEL := backsL_len (next := nextL bs) (by rw [hnl]; exact hgr.len) bs.length
    rw [← hnx] at hnl hok T71 T62 T79 HEL HANS
    have HNL := Aside0.mk hnl
    have HOK := Aside0.mk hok
    have HN8 := Aside0.mk (show next.length ≤ 8 by rw [hnl]; exact hgr.len)
    have HN1 := Aside0.mk (show 0 < next.length by rw [hnl]; exact hgr.one)
    obtain ⟨E, hE⟩ : ∃ E, E = backsL next bs.length := ⟨_, rfl⟩
    rw [← hE] at T79 HEL
    have HEM := Aside0.mk (show E.length ≤ 64 by have := hgr.len; omega)
    have HE := Aside0.mk (show E = backsL next next.length by rw [hE, hnl])
    have HPAIR := Aside0.mk (show ∀ e ∈ E, ∃ x y : Int, e = [x, y] from fun e he => by
      rw [hE] at he
      obtain ⟨b, t, _, _, e2⟩ := mem_backs.1 he
      exact ⟨_, _, e2⟩)
    obtain ⟨D, hD⟩ : ∃ D, D = reached next := ⟨_, rfl⟩
    have HED := Aside0.mk hD
    have HDL := Aside0.mk (show D.length ≤ 8 from by have h2 := fromL_len next 0 (-1); have := HN8.out; rw [hD]; show (fromL next 0 (-1)).length ≤ 8; omega)
    rw [show fromL next 0 (-1) = D from hD.symm] at T71
    have hm := Kd.C_max hr
    clear hr hc hg hgr hnl hok hnx HEL hE hD
    go_enter Try.func46, Try.ntmps46
    go_wp2_with (first
      | (go_at_call 70; refine (T70.out _ HB0.out).mono ?_; rintro e w0 ⟨rfl, hb⟩; rw [HG.out]; have HBa := Aside0.mk (below_step HB0.out hb); have k0 : w0.cell? ⟨w.heap.size, 0, none⟩ = some (.int .i64 p) := pw_cell_below hb (by simp); have k1 : w0.cell? ⟨w.heap.size, 1, none⟩ = some (.slice A bs.length c) := pw_cell_below hb (by simp); clear hb T70)
      | (go_at_call 71; refine (T71.out _ HBa.out).mono ?_; rintro e w1 ⟨v16, rfl, hR, hb⟩; obtain ⟨A16, c16, rfl⟩ := Kd.R_slice hR; have HC1 := Aside0.mk (Kd.R_reads' hR).2; have HBb := Aside0.mk (below_step HBa.out hb); replace k0 := pw_cell_below hb k0; replace k1 := pw_cell_below hb k1; clear hR hb T71)
      | (go_at_call 79; refine (T79.out _ HBb.out).mono ?_; rintro e w2 ⟨v18, rfl, hS, hb⟩; obtain ⟨A18, c18, rfl⟩ := Kd.S_slice hS; have HCE := Aside0.mk (Kd.S_reads' hS).2; have HC2 := Aside0.mk (And.intro (Kd.C_below HC1.out.2 hb) HC1.out.1); have HBc := Aside0.mk (below_step HBb.out hb); replace k0 := pw_cell_below hb k0; replace k1 := pw_cell_below hb k1; clear hS hb T79))
    have HK := Aside0.mk (And.intro k0 k1)
    have HI := Aside0.mk (show (∀ y ∈ D, y ∈ reached next) ∧ Keeps next D ∧ (true = false → ∀ y ∈ D, HasPred next D y) ∧ D.length ≤ 8 from ⟨fun y hy => by rw [← HED.out]; exact hy, by rw [HED.out]; exact keeps_start HOK.out HN1.out, fun h => (by cases h), HDL.out⟩)
    clear k0 k1 HC1 HBa HBb
    go_loopg [4, 6] (2 * D.length + 1) (fun gg s4 s6 wr => ∃ (A4 : Option Addr) (c4 : Nat) (L : List Int) (moved : Bool), s4 = .slice A4 L.length c4 ∧ s6 = .bool moved ∧ Aside0 (2 * L.length + (if moved then 1 else 0) ≤ gg) ∧ Aside0 ((∀ y ∈ L, y ∈ reached next) ∧ Keeps next L ∧ (moved = false → ∀ y ∈ L, HasPred next L y) ∧ L.length ≤ 8) ∧ Aside0 ((Kd.int .i64).C wr A4 L.length L ∧ L.length ≤ c4) ∧ Aside0 (Below w2.heap.size w2 wr))
    case atStart => exact ⟨A16, c16, D, true, rfl, rfl, ⟨by simp⟩, HI, HC2, ⟨Below.refl _ _⟩⟩
    case round =>
      clear HI HC2
      obtain ⟨A4, c4, L, moved, rfl, rfl, HM, HI, HC, HB⟩ := hrel
      cases moved with
      | false =>
        have HR := Aside0.mk (red_of HOK.out HN1.out HI.out.1 HI.out.2.1 (HI.out.2.2.1 rfl))
        by_cases q : L = []
        · have d0 : (((L.length : Nat) : Int) == 0) = true := beq_iff_eq.mpr (by rw [q]; rfl)
          have HQ := Aside0.mk q
          clear q
          go_wp2
          go_ret2
          exact ⟨by rw [HANS.out, HR.out, decide_eq_true HQ.out]; rfl, HBc.out.trans (HB.out.mono HBc.out.size)⟩
        · have d0 : (((L.length : Nat) : Int) == 0) = false := beq_eq_false_iff_ne.mpr (fun h => q (List.length_eq_zero_iff.1 (by omega)))
          have HQ := Aside0.mk q
          clear q
          go_wp2
          go_ret2
          exact ⟨by rw [HANS.out, HR.out, decide_eq_false HQ.out]; rfl, HBc.out.trans (HB.out.mono HBc.out.size)⟩
      | true =>
        obtain ⟨ws, hws⟩ : ∃ z, z = wr := ⟨_, rfl⟩
        rw [← hws] at HC HB ⊢
        have HP := Aside0.mk (show ∀ y ∈ L.take 0, HasPred next L y from fun y hy => by simp at hy)
        have hm2 := Kd.C_max HC.out.1
        clear hws
        go_wp2
        go_loopg [4, 6, 22] L.length (fun gg s4 s6 s22 wr => ∃ i : Nat, s4 = .slice A4 L.length c4 ∧ s6 = .bool false ∧ s22 = .int .i64 (i : Int) ∧ Aside0 (i ≤ L.length ∧ L.length - i ≤ gg) ∧ Aside0 (∀ y ∈ L.take i, HasPred next L y) ∧ Aside0 (Below ws.heap.size ws wr))
        case atStart => exact ⟨0, rfl, rfl, rfl, ⟨by omega, by omega⟩, HP, ⟨Below.refl _ _⟩⟩
        case round =>
          clear HP
          obtain ⟨i, rfl, rfl, rfl, HA, HP, HBS⟩ := hrel
          obtain ⟨wo, rfl⟩ : ∃ wo : World, wo = wr := ⟨_, rfl⟩
          by_cases hlt : i < L.length
          · obtain ⟨ad, e, hz⟩ := Kd.at_int (Kd.C_below HC.out.1 HBS.out) (i : Int) (by omega) (by omega)
            cases e
            simp only [Int.toNat_natCast] at hz
            rw [rd_at L i hlt] at hz
            obtain ⟨b, hb⟩ : ∃ b, b = L[i] := ⟨_, rfl⟩
            have HTK := Aside0.mk (show L.take (i + 1) = L.take i ++ [b] by rw [List.take_succ_eq_append_getElem hlt, hb])
            have HBM := Aside0.mk (show b ∈ L by rw [hb]; exact List.getElem_mem hlt)
            rw [← hb] at hz
            have HL := Aside0.mk hlt
            have p0 : (0 ≤ (i : Int)) = True := eq_true (by omega)
            have p1 : ((i : Int) < (L.length : Int)) = True := eq_true (by omega)
            clear hb
            go_wp2
            have HP0 := Aside0.mk (show false = true ↔ HasPred next (L.take 0) b from ⟨fun h => (by cases h), fun ⟨k, hk, _⟩ => by simp at hk⟩)
            clear hz
            go_loopg [9, 28] L.length (fun gg s9 s28 wr => ∃ (j : Nat) (inb : Bool), s28 = .int .i64 (j : Int) ∧ s9 = .bool inb ∧ Aside0 (j ≤ L.length ∧ L.length - j ≤ gg) ∧ Aside0 (inb = true ↔ HasPred next (L.take j) b) ∧ Aside0 (Below ws.heap.size ws wr))
            case atStart => exact ⟨0, false, rfl, rfl, ⟨by omega, by omega⟩, HP0, HBS⟩
            case round =>
              clear HP0 HBS
              obtain ⟨j, inb, rfl, rfl, HAj, HPj, HBS⟩ := hrel
              obtain ⟨wi, rfl⟩ : ∃ wi : World, wi = wr := ⟨_, rfl⟩
              by_cases hltj : j < L.length
              · obtain ⟨ad2, e, hz⟩ := Kd.at_int (Kd.C_below HC.out.1 HBS.out) (j : Int) (by omega) (by omega)
                cases e
                simp only [Int.toNat_natCast] at hz
                rw [rd_at L j hltj] at hz
                obtain ⟨k, hk⟩ : ∃ k, k = L[j] := ⟨_, rfl⟩
                have HTJ := Aside0.mk (show L.take (j + 1) = L.take j ++ [k] by rw [List.take_succ_eq_append_getElem hltj, hk])
                have hkm : k ∈ L := by rw [hk]; exact List.getElem_mem hltj
                have hkn := in_range (HI.out.1 k hkm)
                rw [← hk] at hz
                obtain ⟨kn, rfl⟩ := Int.eq_ofNat_of_zero_le hkn.1
                have HKN := Aside0.mk hkn
                have HBX := Aside0.mk (HBc.out.trans ((below_step HB.out HBS.out).mono HBc.out.size))
                have T := Aside0.mk (T62.out wi HBX.out kn (by have := HNL.out; omega))
                have k0 := pw_cell_below (below_step HB.out HBS.out) HK.out.1
                have k1 := pw_cell_below (below_step HB.out HBS.out) HK.out.2
                have HLJ := Aside0.mk hltj
                have p2 : (0 ≤ (j : Int)) = True := eq_true (by omega)
                have p3 : ((j : Int) < (L.length : Int)) = True := eq_true (by omega)
                clear hk hkm hkn
                by_cases q1 : b ∈ rd_L1 next (kn : Int)
                · have HQ1 := Aside0.mk q1
                  by_cases q2 : [(kn : Int), b] ∈ E
                  · have HF := Aside0.mk (show b ∉ rd_L1 (fwdL next) (kn : Int) from (not_back HOK.out HKN.out q1).1 (by rw [← HE.out]; exact q2))
                    have HQ2 := Aside0.mk q2
                    clear q1 q2
                    go_wp2_with (first
                      | (go_at_call 62; refine (T.out).mono ?_; rintro e w5 ⟨v34, R, rfl, hR, hb, hmem, hl2, hrs⟩; obtain ⟨A34, c34, rfl⟩ := Kd.R_slice hR; have HCR := Aside0.mk (Kd.R_reads' hR).2; have HB5 := Aside0.mk hb; have HME := Aside0.mk (And.intro hmem hl2); clear hR hb hmem hl2 hrs T)
                      | (go_at_call 83; refine (has_any b R (by have := HME.out.2; omega) HCR.out.2 HCR.out.1).mono ?_; rintro e w6 ⟨rfl, hb⟩; rw [decide_eq_true ((HME.out.1 b).2 HQ1.out)]; have HB6 := Aside0.mk (below_step HB5.out hb); clear hb)
                      | (go_at_call 84; refine (back_any (kn : Int) b E HPAIR.out (by have := HEM.out; omega) (Kd.C_below HCE.out.2 (below_step (below_step HB.out HBS.out) HB6.out)) HCE.out.1).mono ?_; rintro e w7 ⟨rfl, hb⟩; rw [decide_eq_true HQ2.out]; have HB7 := Aside0.mk (below_step HB6.out hb); clear hb))
                    go_roundg (L.length - (j + 1))
                    case measure => have := HAj.out; have := HLJ.out; omega
                    case rel => exact ⟨j + 1, inb, by go_num, rfl, ⟨by have := HLJ.out; omega, by omega⟩, ⟨by rw [HPj.out, HTJ.out, pred_snoc]; exact ⟨.inl, fun h => h.resolve_right HF.out⟩⟩, ⟨below_step HBS.out HB7.out⟩⟩
                  · have HF := Aside0.mk (show b ∈ rd_L1 (fwdL next) (kn : Int) from Classical.byContradiction fun h => q2 (by rw [HE.out]; exact (not_back HOK.out HKN.out q1).2 h))
                    have HQ2 := Aside0.mk q2
                    clear q1 q2
                    go_wp2_with (first
                      | (go_at_call 62; refine (T.out).mono ?_; rintro e w5 ⟨v34, R, rfl, hR, hb, hmem, hl2, hrs⟩; obtain ⟨A34, c34, rfl⟩ := Kd.R_slice hR; have HCR := Aside0.mk (Kd.R_reads' hR).2; have HB5 := Aside0.mk hb; have HME := Aside0.mk (And.intro hmem hl2); clear hR hb hmem hl2 hrs T)
                      | (go_at_call 83; refine (has_any b R (by have := HME.out.2; omega) HCR.out.2 HCR.out.1).mono ?_; rintro e w6 ⟨rfl, hb⟩; rw [decide_eq_true ((HME.out.1 b).2 HQ1.out)]; have HB6 := Aside0.mk (below_step HB5.out hb); clear hb)
                      | (go_at_call 84; refine (back_any (kn : Int) b E HPAIR.out (by have := HEM.out; omega) (Kd.C_below HCE.out.2 (below_step (below_step HB.out HBS.out) HB6.out)) HCE.out.1).mono ?_; rintro e w7 ⟨rfl, hb⟩; rw [decide_eq_false HQ2.out]; have HB7 := Aside0.mk (below_step HB6.out hb); clear hb))
                    go_roundg (L.length - (j + 1))
                    case measure => have := HAj.out; have := HLJ.out; omega
                    case rel => exact ⟨j + 1, true, by go_num, rfl, ⟨by have := HLJ.out; omega, by omega⟩, ⟨by rw [HTJ.out, pred_snoc]; exact ⟨fun _ => .inr HF.out, fun _ => rfl⟩⟩, ⟨below_step HBS.out HB7.out⟩⟩
                · have HF := Aside0.mk (show b ∉ rd_L1 (fwdL next) (kn : Int) from fun h => q1 ((mem_fwd HKN.out).1 h).1)
                  have HQ1 := Aside0.mk q1
                  clear q1
                  go_wp2_with (first
                    | (go_at_call 62; refine (T.out).mono ?_; rintro e w5 ⟨v34, R, rfl, hR, hb, hmem, hl2, hrs⟩; obtain ⟨A34, c34, rfl⟩ := Kd.R_slice hR; have HCR := Aside0.mk (Kd.R_reads' hR).2; have HB5 := Aside0.mk hb; have HME := Aside0.mk (And.intro hmem hl2); clear hR hb hmem hl2 hrs T)
                    | (go_at_call 83; refine (has_any b R (by have := HME.out.2; omega) HCR.out.2 HCR.out.1).mono ?_; rintro e w6 ⟨rfl, hb⟩; rw [decide_eq_false (fun h => HQ1.out ((HME.out.1 b).1 h))]; have HB6 := Aside0.mk (below_step HB5.out hb); clear hb))
                  go_roundg (L.length - (j + 1))
                  case measure => have := HAj.out; have := HLJ.out; omega
                  case rel => exact ⟨j + 1, inb, by go_num, rfl, ⟨by have := HLJ.out; omega, by omega⟩, ⟨by rw [HPj.out, HTJ.out, pred_snoc]; exact ⟨.inl, fun h => h.resolve_right HF.out⟩⟩, ⟨below_step HBS.out HB6.out⟩⟩
              · have e : j = L.length := by have := HAj.out; omega
                have HPL := Aside0.mk (show inb = true ↔ HasPred next L b by have := HPj.out; rw [e, List.take_length] at this; exact this)
                have p3 : ((j : Int) < (L.length : Int)) = False := eq_false (by omega)
                clear e
                cases inb with
                | true =>
                  go_wp2
                  go_roundg (L.length - (i + 1))
                  case measure => have := HA.out; have := HL.out; omega
                  case rel => exact ⟨i + 1, rfl, rfl, by go_num, ⟨by have := HL.out; omega, by omega⟩, ⟨fun y hy => by rw [HTK.out, List.mem_append, List.mem_singleton] at hy; rcases hy with hy | hy; exact HP.out y hy; rw [hy]; exact HPL.out.1 (by trivial)⟩, HBS⟩
                | false =>
                  have HNP := Aside0.mk (show ¬ HasPred next L b from fun h => by have := HPL.out.2 h; cases this)
                  have T85 := drop_any b L (by have := HI.out.2.2.2; omega) (Kd.C_below HC.out.1 HBS.out) HC.out.2
                  have hdr := drop_len HBM.out
                  have hkd := keeps_drop HOK.out HN1.out HI.out.2.1 HNP.out
                  have hsu : ∀ y ∈ (L.filter fun y => decide (y ≠ b)), y ∈ reached next := fun y hy => HI.out.1 y (List.mem_filter.1 hy).1
                  obtain ⟨L2, hL2⟩ : ∃ L2, L2 = L.filter fun y => decide (y ≠ b) := ⟨_, rfl⟩
                  rw [← hL2] at T85 hdr hkd hsu
                  have HM2 := Aside0.mk (show 2 * L2.length + 1 < _ from by have := HM.out; rw [if_pos (by trivial)] at this; exact Nat.lt_of_lt_of_le (by omega) this)
                  have HT := Aside0.mk T85
                  have HX := Aside0.mk (And.intro hsu (And.intro hkd (show L2.length ≤ 8 by have := HI.out.2.2.2; omega)))
                  clear T85 hdr hkd hsu hL2
                  go_wp2_with (go_at_call 85; refine (HT.out).mono ?_; rintro e w7 ⟨v49, rfl, hR, hb⟩; obtain ⟨A49, c49, rfl⟩ := Kd.R_slice hR; have HC7 := Aside0.mk (Kd.R_reads' hR).2; have HB7 := Aside0.mk hb; clear hR hb HT)
                  go_roundg (2 * L2.length + 1)
                  case measure => exact HM2.out
                  case rel => exact ⟨A49, c49, L2, true, rfl, rfl, ⟨by simp⟩, ⟨HX.out.1, HX.out.2.1, fun h => (by cases h), HX.out.2.2⟩, ⟨HC7.out.2, HC7.out.1⟩, ⟨below_step (below_step HB.out HBS.out) HB7.out⟩⟩
          · have e : i = L.length := by have := HA.out; omega
            have HPA := Aside0.mk (show ∀ y ∈ L, HasPred next L y by have := HP.out; rw [e, List.take_length] at this; exact this)
            have p1 : ((i : Int) < (L.length : Int)) = False := eq_false (by omega)
            clear e
            go_wp2
            go_roundg (2 * L.length)
            case measure => have := HM.out; simp at this; omega
            case rel => exact ⟨A4, c4, L, false, rfl, rfl, ⟨by simp⟩, ⟨HI.out.1, HI.out.2.1, fun _ => HPA.out, HI.out.2.2.2⟩, ⟨Kd.C_below HC.out.1 HBS.out, HC.out.2⟩, ⟨below_step HB.out HBS.out⟩⟩
  · have HANS := Aside0.mk (show ansIsReducible p bs = (false, false) by rw [ansIsReducible, if_neg (by rw [hg]; decide)])
    have HG := Aside0.mk hg
    clear hr hc hg
    go_enter Try.func46, Try.ntmps46
    go_wp2_with (go_at_call 70; refine (T70.out _ HB0.out).mono ?_; rintro e w0 ⟨rfl, hb⟩; rw [HG.out]; have HBa := Aside0.mk (below_step HB0.out hb); clear hb T70)
    go_ret2
    exact ⟨by rw [HANS.out]; rfl, HBa.out⟩
end Go.Proofs.Ytghlbhijkhkgkaa.PA
