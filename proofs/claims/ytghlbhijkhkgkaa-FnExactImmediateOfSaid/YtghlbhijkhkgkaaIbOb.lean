/- The flow seat: spec.l13AllDoms by hand. -/
import Derived.Test.YtghlbhijkhkgkaaIbOa
import Derived.Test.YtghlbhijkhkgkaaIbNa
namespace Go.Proofs.Ytghlbhijkhkgkaa.PA
open Go.RowKit Go.Proofs.YtghlbhijkhkgkaaW.PrintWords Go.Proofs.YtghlbhijkhkgkaaW.PrintLast Go.Proofs.YtghlbhijkhkgkaaW.PrintMore
set_option linter.unusedVariables false
/-- The rows when i of the blocks that are reached have theirs. -/
noncomputable def rowsAt (next : List (List Int)) (i : Nat) : List (List Int) := (List.range next.length).map fun (b : Nat) => if (b : Int) ∈ (reached next).take i then domsRow next (b : Int) else []
section
variable {next : List (List Int)} {i bn : Nat}
theorem rowsAt_len (next : List (List Int)) (i : Nat) : (rowsAt next i).length = next.length := by simp [rowsAt]
theorem rowsAt_zero (next : List (List Int)) : rowsAt next 0 = List.replicate next.length [] := by
  refine List.ext_getElem (by simp [rowsAt]) fun k h1 h2 => by simp [rowsAt]
theorem rowsAt_end (next : List (List Int)) : rowsAt next (reached next).length = allDoms next := by
  refine List.ext_getElem (by simp [rowsAt, allDoms]) fun k h1 h2 => ?_
  simp only [rowsAt, allDoms, List.getElem_map, List.getElem_range, List.take_length]
  split
  · rfl
  · rename_i h
    rw [domsRow_none h]
theorem reached_at (hi : i < (reached next).length) (hb : (reached next)[i] = (bn : Int)) : bn < next.length ∧ (bn : Int) ∉ (reached next).take i := by
  have hm : (bn : Int) ∈ reached next := by rw [← hb]; exact List.getElem_mem hi
  have h1 := (mem_fromL.1 hm).2.1
  refine ⟨by omega, fun h => ?_⟩
  obtain ⟨j, hj, e⟩ := List.getElem_of_mem h
  rw [List.length_take] at hj
  rw [List.getElem_take] at e
  have hs := rises_fromL next 0 (-1)
  have := List.pairwise_iff_getElem.1 hs j i (by have := hi; unfold reached at this; omega) (by have := hi; unfold reached at this; omega) (by omega)
  have e2 : (fromL next 0 (-1))[j]'(by have := hi; unfold reached at this; omega) = (bn : Int) := e
  have e3 : (fromL next 0 (-1))[i]'(by have := hi; unfold reached at this; omega) = (bn : Int) := hb
  omega
theorem rowsAt_get (hi : i < (reached next).length) (hb : (reached next)[i] = (bn : Int)) : (rowsAt next i).getD bn [] = [] := by
  obtain ⟨h1, h2⟩ := reached_at hi hb
  simp only [rowsAt, List.getD_eq_getElem?_getD, List.getElem?_map, List.getElem?_range h1, Option.map_some, Option.getD_some]
  rw [if_neg h2]
theorem rowsAt_succ (hi : i < (reached next).length) (hb : (reached next)[i] = (bn : Int)) : rowsAt next (i + 1) = (rowsAt next i).set bn (domsRow next (bn : Int)) := by
  obtain ⟨h1, h2⟩ := reached_at hi hb
  refine List.ext_getElem (by simp [rowsAt]) fun k h3 h4 => ?_
  rw [List.getElem_set]
  simp only [rowsAt, List.getElem_map, List.getElem_range]
  rw [List.take_succ_eq_append_getElem hi, hb]
  by_cases e : bn = k
  · subst e
    rw [if_pos (by simp), if_pos rfl]
  · rw [if_neg e]
    have : ((k : Int) ∈ (reached next).take i ++ [(bn : Int)]) ↔ (k : Int) ∈ (reached next).take i := by
      rw [List.mem_append, List.mem_singleton]
      exact ⟨fun h => h.resolve_right (by omega), .inl⟩
    simp only [this]
end
set_option maxHeartbeats 4000000 in
set_option maxRecDepth 100000 in
theorem allDoms_any {A : Option Addr} {c : Nat} (p : Int) (bs : List S87) (w : World) (hr : Kd.C k87 w A bs.length bs) (hc : bs.length ≤ c) (hg : GoodRows bs) :
    Calls Try.prog 77 #[.agg #[.int .i64 p, .slice A bs.length c]] w fun e w' => ∃ v : Value, e = .returned v ∧ Kd.S kR 34 w' w.heap.size (fun _ => True) v (allDoms (nextL bs)) ∧ Below w.heap.size w w' := by
  obtain ⟨next, hnx⟩ : ∃ z, z = nextL bs := ⟨_, rfl⟩
  have hnl := nextL_len bs
  have T71 := Aside0.mk (fun W (hW : Below w.heap.size w W) => from_any (A := A) (c := c) p bs 0 (-1) W (Kd.C_below hr hW) hc hg ⟨Int.le_refl _, by have := hg.one; omega⟩)
  have T115 := Aside0.mk (fun W (hW : Below w.heap.size w W) (b : Int) => doms_any (A := A) (c := c) p bs b hg (Kd.C_below hr hW) hc)
  rw [← hnx] at hnl T71 T115 ⊢
  have HNL := Aside0.mk hnl
  have HN1 := Aside0.mk hg.one
  have HN8 := Aside0.mk hg.len
  have hm := Kd.C_max hr
  have HB0 := Aside0.mk (below_alloc (Below.refl w.heap.size w) (.cells #[.int .i64 p, .slice A bs.length c] 30))
  clear hr hc hg hnl hnx
  go_enter Try.func77, Try.ntmps77
  go_wp2_with (first | (go_at_call 71; refine (T71.out _ HB0.out).mono ?_; rintro e w1 ⟨v3, rfl, hR, hb⟩; obtain ⟨A3, c3, rfl⟩ := Kd.R_slice hR; have HD0 := Aside0.mk hR; have HB1 := Aside0.mk (below_step HB0.out hb); have k0 : w1.cell? ⟨w.heap.size, 0, none⟩ = some (.int .i64 p) := pw_cell_below hb (by simp); have k1 : w1.cell? ⟨w.heap.size, 1, none⟩ = some (.slice A bs.length c) := pw_cell_below hb (by simp); clear hR hb HB0 T71) | ((with_reducible refine gate_dst (N := 14) rfl ?_); refine Kd.S_make kR w1.heap.size 34 rfl (N := 14) rfl 42 _ _ rfl (bs.length : Int) rfl rfl Try.underlying42 (.slice none 0 0) 24 info34 rfl (by decide) (by omega) [] (ok := fun _ => True) (okp := fun _ => True) ⟨_, rfl, Kd.R_nil _ _ _ _ _⟩ (fun _ hk => hk) trivial (by omega) (by have := HN8.out; simp; omega) (Below.refl w1.heap.size w1) (Nat.le_refl _) ?_; intro v14 w2 ho hb hg_ hnew_; have HS2 := Aside0.mk ho; have HB2 := Aside0.mk hb; clear ho hb hg_ hnew_))
  obtain ⟨g, cap, e14, hgB, hgH, cells, hcells⟩ := Kd.S_form HS2.out (by have := HN1.out; simp; omega)
  rw [List.length_replicate, Int.toNat_natCast] at e14
  subst e14
  have HS := Aside0.mk (show Kd.S kR 34 w2 w1.heap.size (fun _ => True) (.slice (some ⟨g, 0, none⟩) bs.length cap) (rowsAt next 0) from by have := HS2.out; rw [Int.toNat_natCast, ← HNL.out, ← rowsAt_zero] at this; rwa [HNL.out] at this)
  have HGB := Aside0.mk hgB
  obtain ⟨D, hD⟩ : ∃ D, D = reached next := ⟨_, rfl⟩
  have HD := Aside0.mk (show (Kd.int .i64).R 3 w1 (w.alloc (.cells #[.int .i64 p, .slice A bs.length c] 30)).heap.size (fun _ => True) (.slice A3 D.length c3) D from by rw [hD]; exact HD0.out)
  rw [show fromL next 0 (-1) = D from hD.symm]
  have HED := Aside0.mk hD
  have HDL := Aside0.mk (show D.length ≤ 8 from by have := fromL_len next 0 (-1); have := HN8.out; have := HNL.out; rw [hD]; show (fromL next 0 (-1)).length ≤ 8; omega)
  have HDM := Aside0.mk (Kd.C_max (Kd.R_reads' HD.out).2.2)
  have hdm := HDM.out
  clear hgB hgH hcells HS2 HD0 hD
  go_loopg [17] D.length (fun gg s17 wr => ∃ i : Nat, s17 = .int .i64 (i : Int) ∧ Aside0 (i ≤ D.length ∧ D.length - i ≤ gg) ∧ Aside0 (Kd.S kR 34 wr w1.heap.size (fun _ => True) (.slice (some ⟨g, 0, none⟩) bs.length cap) (rowsAt next i)) ∧ Aside0 (Below w1.heap.size w1 wr))
  case atStart => exact ⟨0, rfl, ⟨by omega, by omega⟩, HS, HB2⟩
  case round =>
    clear HS HB2
    obtain ⟨i, rfl, HA, HS, HB⟩ := hrel
    obtain ⟨wo, rfl⟩ : ∃ wo : World, wo = wr := ⟨_, rfl⟩
    by_cases hlt : i < D.length
    · obtain ⟨ad, e, hz⟩ := Kd.at_int (Kd.C_below (Kd.R_reads' HD.out).2.2 HB.out) (i : Int) (by omega) (by omega)
      cases e
      simp only [Int.toNat_natCast] at hz
      rw [rd_at D i hlt] at hz
      have hmem : D[i] ∈ reached next := by rw [← HED.out]; exact List.getElem_mem hlt
      have hbd := (mem_fromL.1 hmem).2.1
      obtain ⟨b, hb⟩ : ∃ b, b = D[i] := ⟨_, rfl⟩
      rw [← hb] at hz hbd hmem
      obtain ⟨bn, rfl⟩ := Int.eq_ofNat_of_zero_le hbd.1
      have hiR : i < (reached next).length := by rw [← HED.out]; exact hlt
      have hbR : (reached next)[i] = (bn : Int) := by rw [hb]; simp only [HED.out]
      have HBN := Aside0.mk (reached_at hiR hbR)
      have HGET := Aside0.mk (rowsAt_get hiR hbR)
      have HSUC := Aside0.mk (rowsAt_succ hiR hbR)
      have HMEM := Aside0.mk hmem
      have x0 := pw_cell_below HB.out k0
      have x1 := pw_cell_below HB.out k1
      have HL := Aside0.mk hlt
      have p0 : (0 ≤ (i : Int)) = True := eq_true (by omega)
      have p1 : ((i : Int) < (D.length : Int)) = True := eq_true (by omega)
      clear hbd hb hmem hiR hbR
      go_wp2_with (go_at_call 115; refine (T115.out _ (HB1.out.trans (HB.out.mono HB1.out.size)) (bn : Int)).mono ?_; rintro e w5 ⟨v23, rfl, hR, hbel⟩; obtain ⟨A23, c23, rfl⟩ := Kd.R_slice hR; have HL5 := Aside0.mk hR; have HB5 := Aside0.mk hbel; clear hR hbel x0 x1 hz)
      obtain ⟨L, hL⟩ : ∃ L, L = numsL bs.length (isDom next (bn : Int)) := ⟨_, rfl⟩
      rw [← hL] at HL5 ⊢
      have HEL := Aside0.mk hL
      have HLL := Aside0.mk (show L.length ≤ 8 from by rw [hL]; exact Nat.le_trans (numsL_len _ _) HN8.out)
      obtain ⟨N1, hN1⟩ : ∃ N1, N1 = wo.heap.size := ⟨_, rfl⟩
      obtain ⟨N2, hN2⟩ : ∃ N2, N2 = w5.heap.size := ⟨_, rfl⟩
      have HROW := Aside0.mk (show (Kd.int .i64).R 3 w5 w1.heap.size (fun k => N1 ≤ k ∧ k < N2) (.slice A23 L.length c23) L from Kd.R_lower (Kd.R_mono (Kd.R_bound HL5.out) (fun k hk => ⟨by rw [hN1]; exact hk.2.1, by rw [hN2]; exact hk.2.2.1⟩)) HB.out.size)
      have HS5 := Aside0.mk (show Kd.S kR 34 w5 w1.heap.size (fun k => k < N1 ∨ N2 ≤ k) (.slice (some ⟨g, 0, none⟩) bs.length cap) ((rowsAt next i).set bn ((L.take 0).filter (fun d => decide (d ∈ reached next)))) from by
        have e : (rowsAt next i).set bn ((L.take 0).filter (fun d => decide (d ∈ reached next))) = rowsAt next i := by
          rw [List.take_zero, List.filter_nil]
          have hl := rowsAt_len next i
          have := HGET.out
          have hbl := HBN.out.1
          rw [List.getD_eq_getElem?_getD, List.getElem?_eq_getElem (by omega), Option.getD_some] at this
          rw [← this]
          exact List.set_getElem_self _
        rw [e]
        exact Kd.S_below (Kd.S_mono (Kd.S_bound HS.out) (fun k hk => .inl (by rw [hN1]; exact hk.2.2.1))) HB5.out)
      have HBW := Aside0.mk (below_step HB.out HB5.out)
      have HGN := Aside0.mk (show g < N1 from by have := Kd.S_lt HS.out g rfl; rw [hN1]; exact this)
      have HN2S := Aside0.mk (show N2 ≤ w5.heap.size from by rw [hN2]; exact Nat.le_refl _)
      have hlm := Kd.C_max (Kd.R_reads' HL5.out).2.2
      clear HL5 hL hN1 hN2 HS HB5
      go_loopg [25] L.length (fun gg s25 wr => ∃ j : Nat, s25 = .int .i64 (j : Int) ∧ Aside0 (j ≤ L.length ∧ L.length - j ≤ gg) ∧ Aside0 (Kd.S kR 34 wr w1.heap.size (fun k => k < N1 ∨ N2 ≤ k) (.slice (some ⟨g, 0, none⟩) bs.length cap) ((rowsAt next i).set bn ((L.take j).filter (fun d => decide (d ∈ reached next))))) ∧ Aside0 ((Kd.int .i64).R 3 wr w1.heap.size (fun k => N1 ≤ k ∧ k < N2) (.slice A23 L.length c23) L) ∧ Aside0 (Below w1.heap.size w1 wr) ∧ Aside0 (N2 ≤ wr.heap.size))
      case atStart => exact ⟨0, rfl, ⟨by omega, by omega⟩, HS5, HROW, HBW, HN2S⟩
      case round =>
        clear HS5 HROW HBW HN2S
        obtain ⟨j, rfl, HAj, HS5, HROW, HBW, HN2S⟩ := hrel
        obtain ⟨wi, rfl⟩ : ∃ wi : World, wi = wr := ⟨_, rfl⟩
        by_cases hltj : j < L.length
        · obtain ⟨ad2, e, hz⟩ := Kd.at_int (Kd.R_reads' HROW.out).2.2 (j : Int) (by omega) (by omega)
          cases e
          simp only [Int.toNat_natCast] at hz
          rw [rd_at L j hltj] at hz
          obtain ⟨dd, hdd⟩ : ∃ z, z = L[j] := ⟨_, rfl⟩
          have HTJ := Aside0.mk (show (L.take (j + 1)).filter (fun d => decide (d ∈ reached next)) = if dd ∈ reached next then (L.take j).filter (fun d => decide (d ∈ reached next)) ++ [dd] else (L.take j).filter (fun d => decide (d ∈ reached next)) from by
            rw [List.take_succ_eq_append_getElem hltj, List.filter_append, ← hdd]
            by_cases q : dd ∈ reached next
            · rw [if_pos q]; simp [q]
            · rw [if_neg q]; simp [q])
          rw [← hdd] at hz
          have HLJ := Aside0.mk hltj
          have p2 : (0 ≤ (j : Int)) = True := eq_true (by omega)
          have p3 : ((j : Int) < (L.length : Int)) = True := eq_true (by omega)
          have T83 := has_any (w := wi) dd D (by have := HDL.out; omega) (Kd.C_below (Kd.R_reads' HD.out).2.2 HBW.out) (Kd.R_reads' HD.out).2.1
          clear hdd
          by_cases q : dd ∈ reached next
          · have q2 := q
            rw [← HED.out] at q2
            rw [decide_eq_true q2] at T83
            have HT := Aside0.mk T83
            have HQ := Aside0.mk q
            clear T83 q q2
            obtain ⟨F, hF⟩ : ∃ F, F = (L.take j).filter (fun d => decide (d ∈ reached next)) := ⟨_, rfl⟩
            rw [← hF] at HS5 HTJ
            have HFL := Aside0.mk (show F.length ≤ 8 from by rw [hF]; exact Nat.le_trans (List.length_filter_le _ _) (by rw [List.length_take]; have := HLL.out; omega))
            have HBS := Aside0.mk (show bn < bs.length from by have := HBN.out.1; have := HNL.out; omega)
            have HFG := Aside0.mk (show ((rowsAt next i).set bn F).getD bn [] = F from by rw [List.getD_eq_getElem?_getD, List.getElem?_set_self (by rw [rowsAt_len]; exact HBN.out.1)]; rfl)
            have q0 : (0 ≤ (bn : Int)) = True := eq_true (by omega)
            have q1 : ((bn : Int) < (bs.length : Int)) = True := eq_true (by have := HBS.out; omega)
            clear hF
            go_wp2_with (first | (go_at_call 83; refine (HT.out).mono ?_; rintro e w6 ⟨rfl, hb⟩; have HB6 := Aside0.mk hb; obtain ⟨oki, v6, z6, f6, hR6, hok6, hH6⟩ := rows_lend (Kd.S_below HS5.out hb) HBS.out; rw [HFG.out] at hR6; obtain ⟨Av, cv, rfl⟩ := Kd.R_slice hR6; obtain ⟨cells6, hg6⟩ := rows_at (Kd.S_below HS5.out hb) (Nat.lt_of_le_of_lt (Nat.zero_le _) HBS.out); have HR6 := Aside0.mk hR6; have HOK6 := Aside0.mk hok6; have HH6 := Aside0.mk hH6; clear hb hR6 hok6 hH6) | ((with_reducible refine gate_dst (N := 40) rfl ?_); refine Kd.R_append (Kd.int .i64) (w0 := w1) w1.heap.size rfl (.tmp 37) (.tmp 39) 34 3 (.int .i64 0) 8 rfl Try.underlying34 info3 rfl (by decide) (by omega) (.slice Av F.length cv) F dd [.int .i64 dd] (fun k => oki k ∨ w6.heap.size ≤ k) (fun _ => False) rfl rfl rfl (fun _ hk => hk.elim) (fun k hk => .inr hk) (Kd.R_mono HR6.out (fun _ h => .inl h)) (below_step HBW.out HB6.out) (below_step HBW.out HB6.out).size (by have := HFL.out; omega) ?_; intro v40 w8 ho hb hgr hat; obtain ⟨A40, c40, e40⟩ := Kd.R_slice ho; rw [List.length_append, List.length_singleton] at e40; subst e40; have hg8 := blk_grown hg6 hgr (Kd.R_ne HR6.out hg6 (by decide)); have z8 : w8.cell? ⟨g, bn, none⟩ = some (.slice Av F.length cv) := (by rw [blk_cell hg8 bn, ← blk_cell hg6 bn]; exact z6); have f8 := blk_frozen hg8 bn; have HO8 := Aside0.mk ho; have HB8 := Aside0.mk hb; have HGR := Aside0.mk hgr; have HG8 := Aside0.mk hg8; clear ho hb hgr hat hg6 hg8 z6 f6))
            have hput := rows_put HH6.out HBS.out HO8.out HGR.out HR6.out.1 (fun k hk => .inr (Nat.le_trans (Nat.le_trans HN2S.out HB6.out.size) hk))
            rw [List.set_set] at hput
            have HPUT := Aside0.mk hput.1
            have HROW8 := Aside0.mk (Kd.R_set (Kd.R_grown (Kd.R_below HROW.out HB6.out) HGR.out (fun k hk e => by have := (HOK6.out k (HR6.out.1 k e.symm)).1; omega)) HG8.out (by decide) bn (.slice A40 (F.length + 1) c40))
            clear hput
            go_roundg (L.length - (j + 1))
            case measure => have := HAj.out; have := HLJ.out; omega
            case rel => exact ⟨j + 1, by go_num, ⟨by have := HLJ.out; omega, by omega⟩, ⟨by rw [HTJ.out, if_pos HQ.out]; exact HPUT.out⟩, HROW8, ⟨HB8.out.setCell (p := ⟨g, bn, none⟩) HGB.out _⟩, ⟨by have h1 := HGR.out.size; have h2 := HB6.out.size; have h3 := HN2S.out; simpa [World.setCell] using Nat.le_trans h3 (Nat.le_trans h2 h1)⟩⟩
          · have q2 := q
            rw [← HED.out] at q2
            rw [decide_eq_false q2] at T83
            have HT := Aside0.mk T83
            have HQ := Aside0.mk q
            clear T83 q q2
            go_wp2_with (go_at_call 83; refine (HT.out).mono ?_; rintro e w6 ⟨rfl, hb⟩; have HB6 := Aside0.mk hb; clear hb)
            go_roundg (L.length - (j + 1))
            case measure => have := HAj.out; have := HLJ.out; omega
            case rel => exact ⟨j + 1, by go_num, ⟨by have := HLJ.out; omega, by omega⟩, ⟨by rw [HTJ.out, if_neg HQ.out]; exact Kd.S_below HS5.out HB6.out⟩, ⟨Kd.R_below HROW.out HB6.out⟩, ⟨below_step HBW.out HB6.out⟩, ⟨Nat.le_trans HN2S.out HB6.out.size⟩⟩
        · have e : j = L.length := by have := HAj.out; omega
          have HSE := Aside0.mk (show Kd.S kR 34 wi w1.heap.size (fun _ => True) (.slice (some ⟨g, 0, none⟩) bs.length cap) (rowsAt next (i + 1)) from by
            have h := HS5.out
            rw [e, List.take_length, HEL.out, ← HNL.out, doms_filter HMEM.out, ← HSUC.out, HNL.out] at h
            exact Kd.S_mono h (fun _ _ => trivial))
          have p3 : ((j : Int) < (L.length : Int)) = False := eq_false (by omega)
          clear e
          go_wp2
          go_roundg (D.length - (i + 1))
          case measure => have := HA.out; have := HL.out; omega
          case rel => exact ⟨i + 1, by go_num, ⟨by have := HL.out; omega, by omega⟩, HSE, HBW⟩
    · have e : i = D.length := by have := HA.out; omega
      have HSE := Aside0.mk (show Kd.S kR 34 wo w1.heap.size (fun _ => True) (.slice (some ⟨g, 0, none⟩) bs.length cap) (allDoms next) from by have h := HS.out; rw [e, HED.out, rowsAt_end] at h; exact h)
      have p1 : ((i : Int) < (D.length : Int)) = False := eq_false (by omega)
      clear e
      go_wp2
      go_ret
      exact ⟨_, rfl, Kd.S_lower HSE.out HB1.out.size, HB1.out.trans (HB.out.mono HB1.out.size)⟩
/-- l13AllDoms as a function of its arguments; none where it is not spoken of. -/
noncomputable def spec_l13AllDoms.f (k : Nat) (a0_0 : Int) (l0_1 : List S87) : Option (List (List Int)) := @ite _ (GoodRows l0_1) (Classical.propDecidable _) (some (allDoms (nextL l0_1))) none
theorem spec_l13AllDoms.calls (k : Nat) (a0_0 : Int) (A0_1 : Option Addr) (c0_1 : Nat) (l0_1 : List (S87)) (r : List (List Int)) (w : World) (hr0_1 : Kd.C k87 w A0_1 l0_1.length l0_1) (hc0_1 : l0_1.length ≤ c0_1) (h : spec_l13AllDoms.f k a0_0 l0_1 = some r) :
    Calls Try.prog 77 #[.agg #[.int .i64 a0_0, .slice A0_1 l0_1.length c0_1]] w fun e w' => ∃ v0_ : Value, e = .returned (v0_) ∧ Kd.S (Kd.slice 3 (Kd.int .i64)) 34 w' w.heap.size (fun _ => True) v0_ r ∧ Below w.heap.size w w' := by
  unfold spec_l13AllDoms.f at h
  split at h
  · rename_i hg
    obtain rfl := Option.some.inj h
    exact allDoms_any a0_0 l0_1 w hr0_1 hc0_1 hg
  · cases h
theorem spec_l13AllDoms.is {bs : List S87} (hg : GoodRows bs) (k : Nat) (p : Int) : spec_l13AllDoms.f k p bs = some (allDoms (nextL bs)) := if_pos hg
end Go.Proofs.Ytghlbhijkhkgkaa.PA
