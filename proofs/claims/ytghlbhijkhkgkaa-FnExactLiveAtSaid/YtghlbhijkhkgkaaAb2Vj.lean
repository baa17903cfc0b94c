/- The flow seat: numbered by hand, where the head is right. -/
import Derived.Test.YtghlbhijkhkgkaaAb2Vh
import Derived.IntWalk
namespace Go.Proofs.Ytghlbhijkhkgkaa.PA
open Go.RowKit Go.Proofs.YtghlbhijkhkgkaaW.PrintWords Go.Proofs.YtghlbhijkhkgkaaW.PrintLast Go.Proofs.YtghlbhijkhkgkaaW.PrintMore
set_option linter.unusedVariables false
theorem row_cells {w : World} {base g m cap : Nat} {ok : Nat → Prop} {ys : List Int} (h : Kd.R (Kd.int .i64) 3 w base ok (.slice (some ⟨g, 0, none⟩) m cap) ys) (j : Nat) (hj : j < ys.length) : w.cell? ((⟨g, 0, none⟩ : Addr).add j) = some (.int .i64 (ys.getD j 0)) := by
  have hl := (Kd.R_reads' h).1
  have := (Kd.R_celln 0 h (j : Int) (by omega) (by omega)).1
  rw [add_plain]
  simpa [rdOf] using this
theorem NI.view {B : Nat} {w : World} {g : Nat} {p : Int} {A : Option Addr} {bs : List S87} {c : Nat} {v2 v3 : Value} {fs bl : List Int} {tot : Int} (h : NI B w g p A bs.length c v2 v3 fs bl tot) (hC : Kd.C k87 w A bs.length bs) (hc : bs.length ≤ c) : View w g p A bs c fs bl tot := by
  obtain ⟨A2, c2, e2, l2, C2⟩ := Kd.R_reads h.r2
  obtain ⟨A3, c3, e3, l3, C3⟩ := Kd.R_reads h.r3
  subst e2; subst e3
  exact ⟨A2, c2, A3, c3, h.hg, hC, hc, C2, l2, C3, l3⟩
/-- What numbered answers. -/
def Numbered (p : Int) (A : Option Addr) (bs : List S87) (c : Nat) (w : World) (e : Ending) (w' : World) : Prop :=
  Below w.heap.size w w' ∧ ((¬ Fine bs bs.length ∧ e = .returned (.tuple #[.pointer none, .bool false])) ∨
    (Fine bs bs.length ∧ ∃ g, e = .returned (.tuple #[.pointer (some ⟨g, 0, none⟩), .bool (decide (totF p bs bs.length ≤ 80))]) ∧ View w' g p A bs c (firstsF p bs bs.length) (blocksF p bs bs.length) (totF p bs bs.length)))
set_option maxHeartbeats 4000000 in
set_option maxRecDepth 100000 in
theorem numbered_yes {A : Option Addr} {c : Nat} (p : Int) (bs : List S87) (w : World) (hr : Kd.C k87 w A bs.length bs) (hc : bs.length ≤ c) (hh : headB p bs = true) :
    Calls Try.prog 94 #[.agg #[.int .i64 p, .slice A bs.length c]] w (Numbered p A bs c w) := by
  have hmb := Kd.C_max hr
  have HR := Aside0.mk hr
  have HC := Aside0.mk hc
  have HH := Aside0.mk ((headB_iff p bs).1 hh)
  have HB := Aside0.mk (Below.refl w.heap.size w)
  have q1 : within p 0 4 = true := by simp [within]; have := HH.out; omega
  have q2 : within (bs.length : Int) 1 8 = true := by simp [within]; have := HH.out; omega
  obtain ⟨ad, B1, d1, B4, d4, e, hx0, hy1, hy2, hy3, hy4, hy5, hy6, hy7, hy8⟩ := at_T87 HR.out 0 (by omega) (by have := HH.out; omega)
  cases e
  replace hx0 : w.cell? ad = some (.int .i64 (rd_T87 bs 0).f0) := by simpa [Addr.add] using hx0
  clear hy1 hy2 hy3 hy4 hy5 hy6 hy7 hy8
  have hltA := World.block_lt_of_cell? w _ hx0
  have q0 := eq_true (show (0 : Int) < (bs.length : Int) by have := HH.out; omega)
  have hpos := eq_true (show 0 < bs.length by have := HH.out; omega)
  have q3 : ((rd_T87 bs 0).f0 != 0) = false := by rw [HH.out.2.2.2.2]; rfl
  clear hr hc hh
  go_enter Try.func94, Try.ntmps94
  go_wp2_with (go_at_call 100; refine (within_any _ _ _ _).mono ?_; rintro e w' ⟨rfl, rfl⟩)
  clear q1 q2 q3 hx0 hltA hpos q0
  obtain ⟨N, hN⟩ : ∃ N : Nat, (N : Int) = p := ⟨p.toNat, by have := HH.out; omega⟩
  have HN := Aside0.mk hN
  subst hN
  go_region_held3 (fun w' => w'.cell? ⟨w.heap.size, 0, none⟩ = some (.int .i64 (N : Int)) ∧ w'.cell? ⟨w.heap.size, 1, none⟩ = some (.slice (some ad) bs.length c))
    (first
      | go_keep
      | (go_split_ands
         refine ⟨?_, ?_⟩
         · (rw [hbr.cell (by simp <;> omega)]; assumption)
         · (rw [hbr.cell (by simp <;> omega)]; assumption)))
    ((go_at_call 121; refine (repeat_any (-1) N _ _ (by have := HH.out; omega) (by simp)).mono ?_; rintro e w1 ⟨gr, cv, rfl, hR, hbr⟩))
  have HBw := Aside0.mk (show Below w.heap.size w w1 from below_step (by repeat (first | exact HB.out | apply below_drew1 | apply below_alloc)) hbr)
  obtain ⟨gv, hgv⟩ : ∃ gv, gv = w1.heap.size := ⟨_, rfl⟩
  have HG := Aside0.mk hgv
  have HNI := Aside0.mk (show NI w.heap.size (w1.alloc (.cells #[.int .i64 (N : Int), .slice (some ad) bs.length c, .slice none 0 0, .slice (some ⟨gr, 0, none⟩) N cv, .int .i64 (N : Int)] 56)) gv (N : Int) (some ad) bs.length c (.slice none 0 0) (.slice (some ⟨gr, 0, none⟩) N cv) (firstsF (N : Int) bs 0) (blocksF (N : Int) bs 0) (totF (N : Int) bs 0) from
    ⟨by rw [hgv]; simpa [totF] using heap_alloc_new w1 _, by rw [hgv]; exact HBw.out.size, Kd.R_nil _ _ _ _ _, by simpa [blocksF, Value.ownBlock] using Kd.R_mono (ok' := fun k => True ∧ some k ≠ (Value.slice none 0 0).ownBlock) (Kd.R_alloc (Kd.R_lower hR (below_size (by repeat (first | exact HB.out | apply below_drew1 | apply below_alloc)))) _) (fun k _ => ⟨trivial, by simp [Value.ownBlock]⟩)⟩)
  rw [← hgv]
  clear hR hbr hgv
  go_wp2
  have Hmb := Aside0.mk hmb
  clear hmb
  go_loopg [38] bs.length (fun gg s38 wr => ∃ (k : Nat) (v2 v3 : Value), s38 = .int .i64 (k : Int) ∧ Aside0 (k ≤ bs.length ∧ bs.length - k ≤ gg ∧ Fine bs k) ∧ Aside0 (NI w.heap.size wr gv (N : Int) (some ad) bs.length c v2 v3 (firstsF (N : Int) bs k) (blocksF (N : Int) bs k) (totF (N : Int) bs k)) ∧ Aside0 (Below w.heap.size w wr))
  case atStart => exact ⟨0, _, _, rfl, ⟨by omega, by omega, fun j hj => absurd hj (by omega)⟩, HNI, ⟨below_alloc HBw.out _⟩⟩
  case round =>
    clear HNI
    obtain ⟨k, v2, v3, rfl, HA, HN1, HB1⟩ := hrel
    by_cases hlt : k < bs.length
    · obtain ⟨ad2, B1, d1, B4, d4, e, hx0, hx1, hx2, hx3, hx4, _, _, _, _⟩ := at_T87 (Kd.C_below HR.out HB1.out) (k : Int) (by omega) (by omega)
      cases e
      simp only [Int.toNat_natCast] at hx0 hx1 hx2 hx3 hx4
      obtain ⟨b, hb⟩ : ∃ b, b = rd_T87 bs (k : Int) := ⟨_, rfl⟩
      have HBB := Aside0.mk hb
      rw [← hb] at hx0 hx1 hx2 hx3 hx4
      clear hb
      have HL := Aside0.mk hlt
      rcases Bool.eq_false_or_eq_true (within b.f0 0 4) with q1 | q1
      · by_cases q2 : b.f1.length ≤ 80
        · go_wp2_with (go_at_call 100; refine (within_any _ _ _ _).mono ?_; rintro e w' ⟨rfl, rfl⟩)
          have hmem := totF_bound (N : Int) bs ⟨by omega, by have := HH.out; omega⟩ k (by omega) HA.out.2.2
          have hfl : (firstsF (N : Int) bs k).length = k := by simp [firstsF]
          have hbl : ((blocksF (N : Int) bs k).length : Int) = totF (N : Int) bs k := blocksF_length (N : Int) bs ⟨by omega, by have := HH.out; omega⟩ k (by omega)
          obtain ⟨fs, hfs⟩ : ∃ fs, fs = firstsF (N : Int) bs k := ⟨_, rfl⟩
          obtain ⟨bl, hbl2⟩ : ∃ bl, bl = blocksF (N : Int) bs k := ⟨_, rfl⟩
          obtain ⟨tot, htot⟩ : ∃ tot, tot = totF (N : Int) bs k := ⟨_, rfl⟩
          rw [← hfs, ← hbl2, ← htot] at HN1
          rw [← hfs] at hfl
          rw [← hbl2, ← htot] at hbl
          rw [← htot] at hmem
          have HEQ := Aside0.mk (And.intro hfs (And.intro hbl2 htot))
          have HM := Aside0.mk (And.intro hmem (And.intro hfl (And.intro hbl (show bs.length ≤ 8 from HH.out.2.2.2.1))))
          clear hfs hbl2 htot hmem hfl hbl
          obtain ⟨A2, c2, rfl⟩ := Kd.R_slice HN1.out.r2
          obtain ⟨A3, c3, rfl⟩ := Kd.R_slice HN1.out.r3
          have z2 : wr.cell? ⟨gv, 2, none⟩ = some (.slice A2 fs.length c2) := (HN1.out.cell 2).trans rfl
          have z4 : wr.cell? ⟨gv, 4, none⟩ = some (.int .i64 tot) := (HN1.out.cell 4).trans rfl
          have hgl : gv < wr.heap.size := blk_lt HN1.out.hg
          have hsz : w.heap.size ≤ wr.heap.size := HB1.out.size
          have HNW := Aside0.mk (show NI w.heap.size ((wr.alloc (.cells #[.int .i64 b.f0, .slice B1 b.f1.length d1, .int .i64 b.f2, .int .i64 b.f3, .slice B4 b.f4.length d4] 87)).alloc (.cells #[.int .i64 tot] 3)).drew gv (N : Int) (some ad) bs.length c (.slice A2 fs.length c2) (.slice A3 bl.length c3) fs bl tot from HN1.out.below (by repeat (first | exact Below.refl _ _ | apply below_drew1 | apply below_alloc)))
          have H6W := Aside0.mk (show (((wr.alloc (.cells #[.int .i64 b.f0, .slice B1 b.f1.length d1, .int .i64 b.f2, .int .i64 b.f3, .slice B4 b.f4.length d4] 87)).alloc (.cells #[.int .i64 tot] 3)).drew).heap[wr.heap.size]? = some (.cells #[.int .i64 b.f0, .slice B1 b.f1.length d1, .int .i64 b.f2, .int .i64 b.f3, .slice B4 b.f4.length d4] 87 (0, 0)) from (by refine blk_drew ?_; refine blk_alloc ?_ _; exact heap_alloc_new wr _))
          have HBW := Aside0.mk (show Below w.heap.size w (((wr.alloc (.cells #[.int .i64 b.f0, .slice B1 b.f1.length d1, .int .i64 b.f2, .int .i64 b.f3, .slice B4 b.f4.length d4] 87)).alloc (.cells #[.int .i64 tot] 3)).drew) from (by repeat (first | exact HB1.out | apply below_drew1 | apply below_alloc)))
          have hnew0 := Aside0.mk (show ∀ k, (((wr.alloc (.cells #[.int .i64 b.f0, .slice B1 b.f1.length d1, .int .i64 b.f2, .int .i64 b.f3, .slice B4 b.f4.length d4] 87)).alloc (.cells #[.int .i64 tot] 3)).drew).heap.size ≤ k → True ∧ some k ≠ (Value.slice A3 bl.length c3).ownBlock from fun k hk => ⟨trivial, fun e => by have := Kd.R_lt HNW.out.r3 k e.symm; omega⟩)
          go_cut [] (fun wx => ∃ v2', Aside0 (NI w.heap.size wx gv (N : Int) (some ad) bs.length c v2' (.slice A3 bl.length c3) (fs ++ [tot]) bl tot) ∧ Aside0 (Below w.heap.size w wx) ∧ Aside0 (wx.heap[wr.heap.size]? = some (.cells #[.int .i64 b.f0, .slice B1 b.f1.length d1, .int .i64 b.f2, .int .i64 b.f3, .slice B4 b.f4.length d4] 87 (0, 0))) ∧ Aside0 (wr.heap.size < wx.heap.size))
          case first =>
            go_region_law (first | ((with_reducible refine gate_stepd (N := 63) rfl ?_); refine step_appN (base := w.heap.size) rfl (.tmp 57) (.tmp 62) rfl (v := (.slice A2 fs.length c2)) (xs := fs) (ys := [tot]) (ok := fun k => True ∧ some k ≠ (Value.slice A3 bl.length c3).ownBlock) (by go_simp) HNW.out.r2 (ad := ⟨wr.heap.size + 1, 0, none⟩) (n := 1) (c := 1) (by go_simp) rfl (fun j hj => by have e : j = 0 := (by simpa using hj); rw [e, add_plain]; show _ = some (Value.int .i64 tot); simp) (by have := HM.out; simp only [List.length_singleton]; omega) (HBW.out.size) hnew0.out ?_; intro v1 w2 hR hgr hat; obtain ⟨A1', c1', e1⟩ := Kd.R_slice hR; rw [List.length_append, List.length_singleton] at e1; subst e1; have hg2 := blk_grown HNW.out.hg hgr (Kd.R_ne HNW.out.r2 HNW.out.hg (by decide)); have hb6 := blk_grown H6W.out hgr (Kd.R_ne HNW.out.r2 H6W.out (by decide)); have y2 : w2.cell? ⟨gv, 2, none⟩ = some (.slice A2 fs.length c2) := (blk_cell hg2 2).trans rfl; have y2f := blk_frozen hg2 2; have HX := Aside0.mk (And.intro hR (And.intro hgr (And.intro hat hb6))); clear hR hgr hat hg2 hb6))
            all_goals (go_wp2_with fail; go_meet; exact ⟨_, ⟨HNW.out.put2 HX.out.1 HX.out.2.1 HX.out.2.2.1⟩, ⟨below_set (HBW.out.grown HX.out.2.1 HBW.out.size (Kd.R_base HNW.out.r2)) HNW.out.hB⟩, ⟨blk_far HX.out.2.2.2 (by simp; omega) _⟩, ⟨by have := blk_lt HX.out.2.2.2; simpa using this⟩⟩)
          case rest =>
            clear HNW H6W HBW hnew0
            obtain ⟨v2', HN2, HB2, H6, HZ⟩ := hcut
            have g2 := HM.out
            have hbk := (blkB_iff b).2
            have hb3 : 0 ≤ b.f0 ∧ b.f0 ≤ 4 := by simp [within] at q1; exact q1
            have y4 : wc.cell? ⟨gv, 4, none⟩ = some (.int .i64 tot) := (HN2.out.cell 4).trans rfl
            have y4f := blk_frozen HN2.out.hg 4
            have y60 : wc.cell? ⟨wr.heap.size, 0, none⟩ = some (.int .i64 b.f0) := (blk_cell H6.out 0).trans rfl
            have y61 : wc.cell? ⟨wr.heap.size, 1, none⟩ = some (.slice B1 b.f1.length d1) := (blk_cell H6.out 1).trans rfl
            have hw1 : IntKind.i64.wrap (b.f0 + (b.f1.length : Int)) = b.f0 + (b.f1.length : Int) := IntWalk.i64_in _ (by omega)
            have hw2 : IntKind.i64.wrap (tot + (b.f0 + (b.f1.length : Int))) = tot + (b.f0 + (b.f1.length : Int)) := IntWalk.i64_in _ (by omega)
            have HB3 := Aside0.mk hb3
            clear g2 hbk hb3
            go_upto_region 10 with fail
            go_cut [] (fun wx => Aside0 (NI w.heap.size wx gv (N : Int) (some ad) bs.length c v2' (.slice A3 bl.length c3) (fs ++ [tot]) bl (tot + (b.f0 + (b.f1.length : Int)))) ∧ Aside0 (Below w.heap.size w wx) ∧ Aside0 (wx.heap[wr.heap.size]? = some (.cells #[.int .i64 b.f0, .slice B1 b.f1.length d1, .int .i64 b.f2, .int .i64 b.f3, .slice B4 b.f4.length d4] 87 (0, 0))) ∧ Aside0 (wr.heap.size < wx.heap.size))
            case first =>
              refine region_tail 13 (by kernel_rfl) (by kernel_rfl) ?_
              simp only [List.take_succ_cons, List.take_zero, List.drop_succ_cons, List.drop_zero]
              repeat still_step
              refine wpStill_nil ?_
              go_wp2_with fail
              go_meet
              exact ⟨⟨(NI.put4 (w := wc) HN2.out _).below (below_drew1 (Below.refl _ _))⟩, ⟨below_drew1 (below_set HB2.out HN2.out.hB)⟩, ⟨blk_drew (blk_far H6.out (by simp; omega) _)⟩, ⟨by have := HZ.out; simpa using this⟩⟩
            case rest =>
              clear y4 y4f y60 y61 hw2 HN2 HB2 H6 HZ
              obtain ⟨HN2, HB2, H6, HZ⟩ := hcut
              have hn : 0 ≤ b.f0 + (b.f1.length : Int) ∧ b.f0 + (b.f1.length : Int) ≤ 200 := by have := HB3.out; omega
              have HK1 := Aside0.mk (show ((wc.alloc (.cells #[.int .i64 (k : Int)] 3)).drew).cell? ⟨wc.heap.size, 0, none⟩ = some (.int .i64 (k : Int)) by simp)
              have HBK := Aside0.mk (show Below wc.heap.size wc ((wc.alloc (.cells #[.int .i64 (k : Int)] 3)).drew) from (by repeat (first | exact Below.refl _ _ | apply below_drew1 | apply below_alloc)))
              have HNN := Aside0.mk hn
              have HLN := Aside0.mk (show bl.length + (List.replicate (b.f0 + (b.f1.length : Int)).toNat (k : Int)).length ≤ 1000 by have := HM.out; rw [List.length_replicate]; omega)
              clear hn
              have y3 : wc.cell? ⟨gv, 3, none⟩ = some (.slice A3 bl.length c3) := (HN2.out.cell 3).trans rfl
              have y60 : wc.cell? ⟨wr.heap.size, 0, none⟩ = some (.int .i64 b.f0) := (blk_cell H6.out 0).trans rfl
              have y61 : wc.cell? ⟨wr.heap.size, 1, none⟩ = some (.slice B1 b.f1.length d1) := (blk_cell H6.out 1).trans rfl
              have hz2 := HZ.out
              have hgl2 : gv < wc.heap.size := blk_lt HN2.out.hg
              have HST := Aside0.mk (show ∀ wx v3', NI w.heap.size wx gv (N : Int) (some ad) bs.length c v2' v3' (fs ++ [tot]) (bl ++ List.replicate (b.f0 + (b.f1.length : Int)).toNat (k : Int)) (tot + (b.f0 + (b.f1.length : Int))) → NI w.heap.size wx gv (N : Int) (some ad) bs.length c v2' v3' (firstsF (N : Int) bs (k + 1)) (blocksF (N : Int) bs (k + 1)) (totF (N : Int) bs (k + 1)) from fun wx v3' h => by
                have hbn : blkN b = (b.f0 + (b.f1.length : Int)).toNat := by unfold blkN; have := HB3.out; omega
                rw [firstsF_succ, blocksF_succ, totF_succ _ _ _ HL.out, ← HEQ.out.1, ← HEQ.out.2.1, ← HEQ.out.2.2, ← HBB.out, hbn]
                have e2 : (((b.f0 + (b.f1.length : Int)).toNat : Nat) : Int) = (b.f0 + (b.f1.length : Int)) := by have := HB3.out; omega
                rw [e2]; exact h)
              have hfree := Aside0.mk (show ∀ j, wc.heap.size ≤ j → True ∧ some j ≠ v2'.ownBlock from fun j hj => ⟨trivial, fun e => by have := Kd.R_lt HN2.out.r2 j e.symm; omega⟩)
              go_wp2
              go_region_law (first | ((with_reducible refine gate_stepd (N := 92) rfl ?_); go_simp; go_at_call 121; refine (repeat_int (k : Int) (b.f0 + (b.f1.length : Int)) wc.heap.size _ HNN.out.1 HNN.out.2 HK1.out).mono ?_; rintro e w3 ⟨gr3, cr3, rfl, hR3, hb3⟩; have HC3 := Aside0.mk (row_cells hR3); have HB3' := Aside0.mk (below_step HBK.out hb3); have HN3 := Aside0.mk (HN2.out.below HB3'.out); have y3w : w3.cell? ⟨gv, 3, none⟩ = some (.slice A3 bl.length c3) := (HN3.out.cell 3).trans rfl; have HF3 := Aside0.mk (show ∀ j, w3.heap.size ≤ j → True ∧ some j ≠ v2'.ownBlock from fun j hj => hfree.out j (Nat.le_trans HB3'.out.size hj)); have HS3 := Aside0.mk (below_step HB2.out HB3'.out); clear hR3 hb3) | ((with_reducible refine gate_stepd (N := 93) rfl ?_); refine step_appN (base := w.heap.size) rfl (.tmp 83) (.tmp 92) rfl (v := (.slice A3 bl.length c3)) (xs := bl) (ys := List.replicate (b.f0 + (b.f1.length : Int)).toNat (k : Int)) (ok := fun j => True ∧ some j ≠ v2'.ownBlock) (by go_simp) HN3.out.r3 (ad := ⟨gr3, 0, none⟩) (n := (b.f0 + (b.f1.length : Int)).toNat) (c := cr3) (by go_simp) (by simp) HC3.out HLN.out HS3.out.size HF3.out ?_; intro v1 w4 hR hgr hat; obtain ⟨A1', c1', e1⟩ := Kd.R_slice hR; rw [List.length_append, List.length_replicate] at e1; subst e1; have hg2 := blk_grown HN3.out.hg hgr (Kd.R_ne HN3.out.r3 HN3.out.hg (by decide)); have y3 : w4.cell? ⟨gv, 3, none⟩ = some (.slice A3 bl.length c3) := (blk_cell hg2 3).trans rfl; have y3f := blk_frozen hg2 3; have HX := Aside0.mk (And.intro hR (And.intro hgr hat)); clear hR hgr hat hg2))
              all_goals
                have hk8 : k ≤ 8 := by have := HM.out; have := HL.out; omega
                go_wp2
                go_roundg (bs.length - (k + 1))
                case measure => have := HA.out; have := HL.out; omega
                case rel => exact ⟨k + 1, _, _, by go_num, ⟨by have := HL.out; omega, by omega, fun j hj => by rcases Nat.lt_succ_iff_lt_or_eq.1 hj with h | h; exact HA.out.2.2 j h; rw [h, ← HBB.out]; exact (blkB_iff b).2 ⟨HB3.out.1, HB3.out.2, by omega⟩⟩, ⟨HST.out _ _ (HN3.out.put3 HX.out.1 HX.out.2.1 HX.out.2.2)⟩, ⟨below_set (HS3.out.grown HX.out.2.1 HS3.out.size (Kd.R_base HN3.out.r3)) HN3.out.hB⟩⟩
        · go_wp2_with (go_at_call 100; refine (within_any _ _ _ _).mono ?_; rintro e w' ⟨rfl, rfl⟩)
          go_ret2
          exact ⟨by repeat (first | exact HB1.out | apply below_alloc), .inl ⟨fun h => by have := (blkB_iff _).1 (h k HL.out); rw [← HBB.out] at this; omega, rfl⟩⟩
      · go_wp2_with (go_at_call 100; refine (within_any _ _ _ _).mono ?_; rintro e w' ⟨rfl, rfl⟩)
        go_ret2
        exact ⟨by repeat (first | exact HB1.out | apply below_alloc), .inl ⟨fun h => by have := (h k HL.out); rw [← HBB.out, blkB, q1] at this; simp at this, rfl⟩⟩
    · have e : k = bs.length := by have := HA.out; omega
      have hF : Fine bs bs.length := e ▸ HA.out.2.2
      have HV := Aside0.mk (HN1.out.view (Kd.C_below HR.out HB1.out) HC.out)
      rw [e] at HV
      obtain ⟨tot, htot⟩ : ∃ t, t = totF (N : Int) bs bs.length := ⟨_, rfl⟩
      have HF := Aside0.mk hF
      have z4 : wr.cell? ⟨gv, 4, none⟩ = some (.int .i64 tot) := by rw [htot, ← e]; exact (HN1.out.cell 4).trans rfl
      have HT := Aside0.mk htot
      clear hF htot
      go_wp2
      go_quiet (fail)
      go_wp2
      go_ret2
      exact ⟨by repeat (first | exact HB1.out | apply pw_below_drewN | apply below_drew1), .inr ⟨HF.out, gv, by rw [← HT.out]; rfl, by first | exact HV.out | exact HV.out.drewN _⟩⟩
end Go.Proofs.Ytghlbhijkhkgkaa.PA
