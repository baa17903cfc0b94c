/- The flow seat: the reference's GoodFunc by hand. -/
import Derived.Test.YtghlbhijkhkgkaaAb2Vu0
namespace Go.Proofs.Ytghlbhijkhkgkaa.PA
open Go.RowKit Go.Proofs.YtghlbhijkhkgkaaW.PrintWords Go.Proofs.YtghlbhijkhkgkaaW.PrintLast Go.Proofs.YtghlbhijkhkgkaaW.PrintMore
set_option linter.unusedVariables false
theorem insts_hit {tot : Int} {l : List S89} (x : Int) (h0 : 0 ≤ x) (h1 : x < l.length) (h : instB tot (rd_T89 l x).f0 (rd_T89 l x).f1 (rd_T89 l x).f2 = false) : instsB tot l = true :=
  all_hit z89 x h0 h1 (by show (!(instB tot (rd_T89 l x).f0 (rd_T89 l x).f1 (rd_T89 l x).f2)) = true; rw [h]; rfl)
set_option maxHeartbeats 1000000 in
set_option maxRecDepth 100000 in
theorem goodFunc_no {A : Option Addr} {c : Nat} (p : Int) (bs : List S87) (w : World) (hr : Kd.C k87 w A bs.length bs) (hh : headB p bs = false) :
    Calls Try.prog 70 #[.agg #[.int .i64 p, .slice A bs.length c]] w fun e w' => e = .returned (.bool (goodB p bs)) ∧ Below w.heap.size w w' := by
  have hmb := Kd.C_max hr
  have HR := Aside0.mk hr
  have HG := Aside0.mk (good_head hh)
  clear hr
  have HB := Aside0.mk (Below.refl w.heap.size w)
  rcases Bool.eq_false_or_eq_true (within p 0 4) with q1 | q1
  · rcases Bool.eq_false_or_eq_true (within (bs.length : Int) 1 8) with q2 | q2
    · have HL := Aside0.mk (show 0 < bs.length by simp [within] at q2; omega)
      obtain ⟨ad, B1, d1, B4, d4, e, hx0, hy1, hy2, hy3, hy4, hy5, hy6, hy7, hy8⟩ := at_T87 HR.out 0 (by omega) (by have := HL.out; omega)
      cases e
      replace hx0 : w.cell? ad = some (.int .i64 (rd_T87 bs 0).f0) := by simpa [Addr.add] using hx0
      clear hy1 hy2 hy3 hy4 hy5 hy6 hy7 hy8
      have hltA := World.block_lt_of_cell? w _ hx0
      have q0 := eq_true (show (0 : Int) < (bs.length : Int) by have := HL.out; omega)
      have hpos := eq_true HL.out
      have q3 : ((rd_T87 bs 0).f0 != 0) = true := by
        have : ((rd_T87 bs 0).f0 == 0) = false := by rw [headB, q1, q2] at hh; simpa using hh
        rw [bne, this]; rfl
      clear hh
      go_enter Try.func70, Try.ntmps70
      go_wp2_with (go_at_call 90; refine (l1In_any _ _ _ _).mono ?_; rintro e w' ⟨rfl, rfl⟩)
      go_ret
      exact ⟨by rw [HG.out]; rfl, by repeat (first | exact HB.out | apply below_alloc)⟩
    · clear hh
      go_enter Try.func70, Try.ntmps70
      go_wp2_with (go_at_call 90; refine (l1In_any _ _ _ _).mono ?_; rintro e w' ⟨rfl, rfl⟩)
      go_ret
      exact ⟨by rw [HG.out]; rfl, by repeat (first | exact HB.out | apply below_alloc)⟩
  · clear hh
    go_enter Try.func70, Try.ntmps70
    go_wp2_with (go_at_call 90; refine (l1In_any _ _ _ _).mono ?_; rintro e w' ⟨rfl, rfl⟩)
    go_ret
    exact ⟨by rw [HG.out]; rfl, by repeat (first | exact HB.out | apply below_alloc)⟩
set_option maxHeartbeats 8000000 in
set_option maxRecDepth 100000 in
theorem goodFunc_yes {A : Option Addr} {c : Nat} (p : Int) (bs : List S87) (w : World) (hr : Kd.C k87 w A bs.length bs) (hc : bs.length ≤ c) (hh : headB p bs = true) :
    Calls Try.prog 70 #[.agg #[.int .i64 p, .slice A bs.length c]] w fun e w' => e = .returned (.bool (goodB p bs)) ∧ Below w.heap.size w w' := by
  have hmb := Kd.C_max hr
  have HR := Aside0.mk hr
  have HHB := Aside0.mk hh
  have HH := Aside0.mk ((headB_iff p bs).1 hh)
  have HB := Aside0.mk (Below.refl w.heap.size w)
  have q1 : within p 0 4 = true := by simp [within]; have := HH.out; omega
  have q2 : within (bs.length : Int) 1 8 = true := by simp [within]; have := HH.out; omega
  obtain ⟨ad, B1, d1, B4, d4, e, hx0, hy1, hy2, hy3, hy4, hy5, hy6, hy7, hy8⟩ := at_T87 HR.out 0 (by omega) (by have := HH.out; omega)
  cases e
  replace hx0 : w.cell? ad = some (.int .i64 (rd_T87 bs 0).f0) := by simpa [Addr.add] using hx0
  clear hy1 hy2 hy3 hy4 hy5 hy6 hy7 hy8
  have hltA := World.block_lt_of_cell? w _ hx0
  have q0 := eq_true (show (0 : Int) < (bs.length : Int) by have := HH.out; omega)
  have hpos := eq_true (show 0 < bs.length by have := HH.out; omega)
  have q3 : ((rd_T87 bs 0).f0 != 0) = false := by rw [HH.out.2.2.2.2]; rfl
  have hn8 : bs.length ≤ 8 := HH.out.2.2.2.1
  clear hr hc hh
  go_enter Try.func70, Try.ntmps70
  go_wp2_with (go_at_call 90; refine (l1In_any _ _ _ _).mono ?_; rintro e w' ⟨rfl, rfl⟩)
  clear q1 q2 q3 hx0 hltA hpos q0
  go_loopg [32] bs.length (fun gg s32 wr => ∃ k : Nat, s32 = .int .i64 (k : Int) ∧ Aside0 (k ≤ bs.length ∧ bs.length - k ≤ gg ∧ Fine bs k) ∧ Aside0 (Below w.heap.size w wr) ∧ Aside0 (wr.cell? ⟨w.heap.size, 0, none⟩ = some (.int .i64 p) ∧ wr.cell? ⟨w.heap.size, 1, none⟩ = some (.slice (some ad) bs.length c)))
  case atStart => exact ⟨0, rfl, ⟨by omega, by omega, fun j hj => absurd hj (by omega)⟩, ⟨by repeat (first | exact HB.out | apply below_alloc)⟩, ⟨by simp, by simp⟩⟩
  case round =>
    obtain ⟨k, rfl, HA, HB1, HC1⟩ := hrel
    by_cases hlt : k < bs.length
    · obtain ⟨ad2, E1, d1, E4, d4, e, hx0, hx1, hx2, hx3, hx4, _, _, _, _⟩ := at_T87 (Kd.C_below HR.out HB1.out) (k : Int) (by omega) (by omega)
      cases e
      simp only [Int.toNat_natCast] at hx0 hx1 hx2 hx3 hx4
      obtain ⟨b, hb⟩ : ∃ b, b = rd_T87 bs (k : Int) := ⟨_, rfl⟩
      have HBB := Aside0.mk hb
      rw [← hb] at hx0 hx1 hx2 hx3 hx4
      clear hb
      have HL := Aside0.mk hlt
      rcases Bool.eq_false_or_eq_true (within b.f0 0 4) with q1 | q1
      · have Q1 := Aside0.mk q1
        by_cases q2 : b.f1.length ≤ 80
        · have Q2 := Aside0.mk q2
          go_wp2_with (go_at_call 90; refine (l1In_any _ _ _ _).mono ?_; rintro e w' ⟨rfl, rfl⟩)
          go_roundg (bs.length - (k + 1))
          case measure => have := HA.out; have := HL.out; omega
          case rel => exact ⟨k + 1, by go_num, ⟨by have := HL.out; omega, by omega, fun j hj => by rcases Nat.lt_succ_iff_lt_or_eq.1 hj with h | h; exact HA.out.2.2 j h; rw [h, ← HBB.out, blkB, Q1.out]; simp; have := Q2.out; omega⟩, ⟨by repeat (first | exact HB1.out | apply below_alloc)⟩, ⟨pw_cell_below (by repeat (first | exact Below.refl _ _ | apply below_alloc)) HC1.out.1, pw_cell_below (by repeat (first | exact Below.refl _ _ | apply below_alloc)) HC1.out.2⟩⟩
        · go_wp2_with (go_at_call 90; refine (l1In_any _ _ _ _).mono ?_; rintro e w' ⟨rfl, rfl⟩)
          go_ret
          exact ⟨by rw [good_fine (fun h => by have := (blkB_iff _).1 (h k HL.out); rw [← HBB.out] at this; omega)]; rfl, by repeat (first | exact HB1.out | apply below_alloc)⟩
      · go_wp2_with (go_at_call 90; refine (l1In_any _ _ _ _).mono ?_; rintro e w' ⟨rfl, rfl⟩)
        go_ret
        exact ⟨by rw [good_fine (fun h => by have := (h k HL.out); rw [← HBB.out, blkB, q1] at this; simp at this)]; rfl, by repeat (first | exact HB1.out | apply below_alloc)⟩
    · have e : k = bs.length := by have := HA.out; omega
      have HF := Aside0.mk (show Fine bs bs.length from e ▸ HA.out.2.2)
      have hc0 := HC1.out.1
      have hc1 := HC1.out.2
      have HCNT := Aside0.mk (l12Count_any (A := some ad) (c := c) p bs wr (Kd.C_below HR.out HB1.out) ⟨HH.out.1, HH.out.2.1⟩ hn8 HF.out)
      have htb := totF_bound p bs ⟨HH.out.1, HH.out.2.1⟩ bs.length (Nat.le_refl _) HF.out
      obtain ⟨tot, htot⟩ : ∃ t, t = totF p bs bs.length := ⟨_, rfl⟩
      rw [← htot] at HCNT htb
      have HT := Aside0.mk htot
      clear htot
      by_cases h80 : tot ≤ 80
      · go_wp2_with (go_at_call 91; refine (HCNT.out).mono ?_; rintro e w2 ⟨rfl, hb⟩; have hc0 := pw_cell_below hb HC1.out.1; have hc1 := pw_cell_below hb HC1.out.2; have HB2 := Aside0.mk (below_step HB1.out hb); have HC2 := Aside0.mk (And.intro hc0 hc1); clear hb HCNT)
        clear hc0 hc1
        go_loopg [54] bs.length (fun gg s54 wr => ∃ k : Nat, s54 = .int .i64 (k : Int) ∧ Aside0 (k ≤ bs.length ∧ bs.length - k ≤ gg ∧ ∀ j, j < k → blockB tot bs (rd_T87 bs (j : Int)).f1 (rd_T87 bs (j : Int)).f2 (rd_T87 bs (j : Int)).f3 (rd_T87 bs (j : Int)).f4 = true) ∧ Aside0 (Below w.heap.size w wr) ∧ Aside0 (wr.cell? ⟨w.heap.size, 0, none⟩ = some (.int .i64 p) ∧ wr.cell? ⟨w.heap.size, 1, none⟩ = some (.slice (some ad) bs.length c)))
        case atStart => exact ⟨0, rfl, ⟨by omega, by omega, fun j hj => absurd hj (by omega)⟩, HB2, HC2⟩
        case round =>
          clear HB2 HC2
          obtain ⟨k2, rfl, HA2, HB3, HC3⟩ := hrel
          by_cases hlt2 : k2 < bs.length
          · obtain ⟨wo, rfl⟩ : ∃ wo : World, wo = wr := ⟨_, rfl⟩
            obtain ⟨ad2, E1, d1, E4, d4, e2, hx0, hx1, hx2, hx3, hx4, hl1, hi1, hl4, hi4⟩ := at_T87 (Kd.C_below HR.out HB3.out) (k2 : Int) (by omega) (by omega)
            cases e2
            simp only [Int.toNat_natCast] at hx0 hx1 hx2 hx3 hx4
            obtain ⟨b, hb⟩ : ∃ b, b = rd_T87 bs (k2 : Int) := ⟨_, rfl⟩
            have HBB2 := Aside0.mk hb
            rw [← hb] at hx0 hx1 hx2 hx3 hx4 hl1 hi1 hl4 hi4
            clear hb
            have HL2 := Aside0.mk hlt2
            have hm1 := Kd.C_max hi1
            have HI1 := Aside0.mk hi1
            have HI4 := Aside0.mk hi4
            have hc3 := HC3.out.1
            have hc4 := HC3.out.2
            have hlB := World.block_lt_of_cell? wo _ hc3
            clear hi1 hi4
            go_wp2
            clear hx0 hx1 hx2 hx3 hx4 hc3 hc4
            go_loopg [61] b.f1.length (fun gg s61 wi => ∃ x : Int, s61 = .int .i64 x ∧ Aside0 (0 ≤ x ∧ x ≤ b.f1.length ∧ b.f1.length - x.toNat ≤ gg ∧ ∀ j, j < x.toNat → (!(instB tot (b.f1.getD j z89).f0 (b.f1.getD j z89).f1 (b.f1.getD j z89).f2)) = false) ∧ Aside0 (Below w.heap.size w wi) ∧ Aside0 (wi.cell? ⟨w.heap.size, 0, none⟩ = some (.int .i64 p) ∧ wi.cell? ⟨w.heap.size, 1, none⟩ = some (.slice (some ad) bs.length c)) ∧ Aside0 (Below (wo.alloc (.cells #[.int .i64 b.f0, .slice E1 b.f1.length d1, .int .i64 b.f2, .int .i64 b.f3, .slice E4 b.f4.length d4] 87)).heap.size (wo.alloc (.cells #[.int .i64 b.f0, .slice E1 b.f1.length d1, .int .i64 b.f2, .int .i64 b.f3, .slice E4 b.f4.length d4] 87)) wi))
            case atStart => exact ⟨0, rfl, ⟨by omega, by omega, by simp, fun j hj => absurd hj (by simp)⟩, ⟨below_alloc HB3.out _⟩, ⟨pw_cell_below (below_alloc (Below.refl _ _) _) HC3.out.1, pw_cell_below (below_alloc (Below.refl _ _) _) HC3.out.2⟩, ⟨Below.refl _ _⟩⟩
            case round =>
              obtain ⟨x, rfl, HAi, HBi, HCi, HBo⟩ := hrel
              by_cases hlti : x < b.f1.length
              · have c0 : decide (x < (b.f1.length : Int)) = true := decide_eq_true hlti
                obtain ⟨ad3, D2, d2, e3, hy0, hy1, hy2, hl5, hi5⟩ := at_T89 (Kd.C_below (Kd.C_below HI1.out (below_alloc (Below.refl _ _) (.cells #[.int .i64 b.f0, .slice E1 b.f1.length d1, .int .i64 b.f2, .int .i64 b.f3, .slice E4 b.f4.length d4] 87))) HBo.out) x HAi.out.1 hlti
                cases e3
                have hltA := World.block_lt_of_cell? wr _ hy0
                have p0 := eq_true HAi.out.1
                have q0 := eq_true hlti
                have HLi := Aside0.mk hlti
                have hmj := Kd.C_max hi5
                obtain ⟨jt, hjt⟩ : ∃ z, z = rd_T89 b.f1 x := ⟨_, rfl⟩
                rw [← hjt] at hy0 hy1 hy2 hmj hi5
                have HJ := Aside0.mk hjt
                have HRJ := Aside0.mk (show ∀ n, Kd.C (Kd.int .i64) ((wr.alloc (.cells #[.int .i64 jt.f0, .int .i64 jt.f1, .slice D2 jt.f2.length d2] 89)).drewN n) D2 jt.f2.length jt.f2 from fun n => Kd.C_below hi5 (by repeat (first | exact Below.refl _ _ | apply pw_below_drewN | apply below_alloc)))
                have hwr2 : IntKind.i64.wrap (tot - 1) = tot - 1 := IntWalk.i64_in _ (by omega)
                obtain ⟨af, haf⟩ : ∃ a, a = argF jt.f0 := ⟨_, rfl⟩
                have HAF := Aside0.mk (l12Arity_any jt.f0)
                rw [← haf] at HAF
                have HE := Aside0.mk haf
                clear hlti hi5 hl5 hjt haf
                rcases Bool.eq_false_or_eq_true (decide (af < 0)) with q1 | q1
                · have HQ1 := Aside0.mk (show ((jt.f2.length : Int) == argF jt.f0) = false by rw [← HE.out]; have := of_decide_eq_true q1; simp; omega)
                  go_wp2
                  go_quiet ((first | (go_at_call 90; exact Calls.quiet_of_same (same_w (l1In_any _ _ _ _))) | (go_at_call 111; exact Calls.quiet_of_same (same_w (HAF.out _))) | (go_at_call 112; exact Calls.quiet_of_same (same_w (l1All_any _ _ _ _ (HRJ.out _))))))
                  go_wp2
                  go_ret
                  exact ⟨by rw [good_block k2 HL2.out (by rw [← HT.out, ← HBB2.out, block_ends, insts_hit x HAi.out.1 HLi.out (by rw [← HJ.out]; simp [instB, HQ1.out])]; rfl)]; rfl, (by repeat (first | exact HBi.out | apply pw_below_drewN | apply below_drew1 | apply below_alloc))⟩
                · rcases Bool.eq_false_or_eq_true ((jt.f2.length : Int) != af) with q2 | q2
                  · have HQ1 := Aside0.mk (show ((jt.f2.length : Int) == argF jt.f0) = false by rw [← HE.out]; rw [bne] at q2; simpa using q2)
                    go_wp2
                    go_quiet ((first | (go_at_call 90; exact Calls.quiet_of_same (same_w (l1In_any _ _ _ _))) | (go_at_call 111; exact Calls.quiet_of_same (same_w (HAF.out _))) | (go_at_call 112; exact Calls.quiet_of_same (same_w (l1All_any _ _ _ _ (HRJ.out _))))))
                    go_wp2
                    go_ret
                    exact ⟨by rw [good_block k2 HL2.out (by rw [← HT.out, ← HBB2.out, block_ends, insts_hit x HAi.out.1 HLi.out (by rw [← HJ.out]; simp [instB, HQ1.out])]; rfl)]; rfl, (by repeat (first | exact HBi.out | apply pw_below_drewN | apply below_drew1 | apply below_alloc))⟩
                  · have HQ2 := Aside0.mk (show ((jt.f2.length : Int) == argF jt.f0) = true by rw [← HE.out]; rw [bne] at q2; simpa using q2)
                    rcases Bool.eq_false_or_eq_true (jt.f2.any fun x => !(within x 0 (tot - 1))) with q3 | q3
                    · have HQ3 := Aside0.mk (show valsB tot jt.f2 = false by rw [valsB, q3]; rfl)
                      go_wp2
                      go_quiet ((first | (go_at_call 90; exact Calls.quiet_of_same (same_w (l1In_any _ _ _ _))) | (go_at_call 111; exact Calls.quiet_of_same (same_w (HAF.out _))) | (go_at_call 112; exact Calls.quiet_of_same (same_w (l1All_any _ _ _ _ (HRJ.out _))))))
                      go_wp2
                      go_ret
                      exact ⟨by rw [good_block k2 HL2.out (by rw [← HT.out, ← HBB2.out, block_ends, insts_hit x HAi.out.1 HLi.out (by rw [← HJ.out]; simp [instB, HQ3.out])]; rfl)]; rfl, (by repeat (first | exact HBi.out | apply pw_below_drewN | apply below_drew1 | apply below_alloc))⟩
                    · have HQ3 := Aside0.mk (show valsB tot jt.f2 = true by rw [valsB, q3]; rfl)
                      rcases Bool.eq_false_or_eq_true (jt.f0 != 1) with q4 | q4
                      · rcases Bool.eq_false_or_eq_true (jt.f1 != 0) with q5 | q5
                        · have HQ4 := Aside0.mk (show ((jt.f0 == 1) || (jt.f1 == 0)) = false by rw [bne] at q4 q5; simp at q4 q5 ⊢; exact ⟨q4, q5⟩)
                          go_wp2
                          go_quiet ((first | (go_at_call 90; exact Calls.quiet_of_same (same_w (l1In_any _ _ _ _))) | (go_at_call 111; exact Calls.quiet_of_same (same_w (HAF.out _))) | (go_at_call 112; exact Calls.quiet_of_same (same_w (l1All_any _ _ _ _ (HRJ.out _))))))
                          go_wp2
                          go_ret
                          exact ⟨by rw [good_block k2 HL2.out (by rw [← HT.out, ← HBB2.out, block_ends, insts_hit x HAi.out.1 HLi.out (by rw [← HJ.out]; simp [instB, HQ4.out])]; rfl)]; rfl, (by repeat (first | exact HBi.out | apply pw_below_drewN | apply below_drew1 | apply below_alloc))⟩
                        · have HQ4 := Aside0.mk (show ((jt.f0 == 1) || (jt.f1 == 0)) = true by rw [bne] at q5; simp at q5 ⊢; exact .inr q5)
                          go_wp2
                          go_quiet ((first | (go_at_call 90; exact Calls.quiet_of_same (same_w (l1In_any _ _ _ _))) | (go_at_call 111; exact Calls.quiet_of_same (same_w (HAF.out _))) | (go_at_call 112; exact Calls.quiet_of_same (same_w (l1All_any _ _ _ _ (HRJ.out _))))))
                          clear hwr2
                          go_wp2
                          go_roundg (b.f1.length - (x + 1).toNat)
                          case measure => have := HAi.out; have := HLi.out; omega
                          case rel =>
                            have hw : wrap64 (x + 1) = x + 1 := by have := HLi.out; have := HAi.out.1; unfold wrap64; omega
                            refine ⟨wrap64 (x + 1), by first | rfl | (rw [hw]; rfl) | (rw [hw]), ⟨by rw [hw]; have := HAi.out.1; omega, by rw [hw]; have := HLi.out; omega, by rw [hw]; omega, fun j hj => ?_⟩, ⟨(by repeat (first | exact HBi.out | apply pw_below_drewN | apply below_drew1 | apply below_alloc))⟩, ⟨pw_cell_below (by repeat (first | exact Below.refl _ _ | apply pw_below_drewN | apply below_drew1 | apply below_alloc)) HCi.out.1, pw_cell_below (by repeat (first | exact Below.refl _ _ | apply pw_below_drewN | apply below_drew1 | apply below_alloc)) HCi.out.2⟩, ⟨by repeat (first | exact HBo.out | apply pw_below_drewN | apply below_drew1 | apply below_alloc)⟩⟩
                            rw [hw] at hj
                            by_cases e : j = x.toNat
                            · subst e; show (!(instB tot (rd_T89 b.f1 x).f0 (rd_T89 b.f1 x).f1 (rd_T89 b.f1 x).f2)) = false; rw [← HJ.out]; simp [instB, HQ2.out, HQ3.out, HQ4.out]
                            · exact HAi.out.2.2.2 j (by have := HAi.out.1; omega)
                      · have HQ4 := Aside0.mk (show ((jt.f0 == 1) || (jt.f1 == 0)) = true by rw [bne] at q4; simp at q4 ⊢; exact .inl q4)
                        go_wp2
                        go_quiet ((first | (go_at_call 90; exact Calls.quiet_of_same (same_w (l1In_any _ _ _ _))) | (go_at_call 111; exact Calls.quiet_of_same (same_w (HAF.out _))) | (go_at_call 112; exact Calls.quiet_of_same (same_w (l1All_any _ _ _ _ (HRJ.out _))))))
                        clear hwr2
                        go_wp2
                        go_roundg (b.f1.length - (x + 1).toNat)
                        case measure => have := HAi.out; have := HLi.out; omega
                        case rel =>
                          have hw : wrap64 (x + 1) = x + 1 := by have := HLi.out; have := HAi.out.1; unfold wrap64; omega
                          refine ⟨wrap64 (x + 1), by first | rfl | (rw [hw]; rfl) | (rw [hw]), ⟨by rw [hw]; have := HAi.out.1; omega, by rw [hw]; have := HLi.out; omega, by rw [hw]; omega, fun j hj => ?_⟩, ⟨(by repeat (first | exact HBi.out | apply pw_below_drewN | apply below_drew1 | apply below_alloc))⟩, ⟨pw_cell_below (by repeat (first | exact Below.refl _ _ | apply pw_below_drewN | apply below_drew1 | apply below_alloc)) HCi.out.1, pw_cell_below (by repeat (first | exact Below.refl _ _ | apply pw_below_drewN | apply below_drew1 | apply below_alloc)) HCi.out.2⟩, ⟨by repeat (first | exact HBo.out | apply pw_below_drewN | apply below_drew1 | apply below_alloc)⟩⟩
                          rw [hw] at hj
                          by_cases e : j = x.toNat
                          · subst e; show (!(instB tot (rd_T89 b.f1 x).f0 (rd_T89 b.f1 x).f1 (rd_T89 b.f1 x).f2)) = false; rw [← HJ.out]; simp [instB, HQ2.out, HQ3.out, HQ4.out]
                          · exact HAi.out.2.2.2 j (by have := HAi.out.1; omega)
              · have c0 : decide (x < (b.f1.length : Int)) = false := decide_eq_false hlti
                have HIN := Aside0.mk (show instsB tot b.f1 = false from all_miss z89 (fun j hj => HAi.out.2.2.2 j (by omega)))
                have hd0 := HCi.out.1
                have hd1 := HCi.out.2
                have hz0 : wr.cell? ⟨wo.heap.size, 0, none⟩ = some (.int .i64 b.f0) := pw_cell_below HBo.out (by simp)
                have hz1 : wr.cell? ⟨wo.heap.size, 1, none⟩ = some (.slice E1 b.f1.length d1) := pw_cell_below HBo.out (by simp)
                have hz2 : wr.cell? ⟨wo.heap.size, 2, none⟩ = some (.int .i64 b.f2) := pw_cell_below HBo.out (by simp)
                have hz3 : wr.cell? ⟨wo.heap.size, 3, none⟩ = some (.int .i64 b.f3) := pw_cell_below HBo.out (by simp)
                have hz4 : wr.cell? ⟨wo.heap.size, 4, none⟩ = some (.slice E4 b.f4.length d4) := pw_cell_below HBo.out (by simp)
                have HEN := Aside0.mk (l12Ends_any (A := some ad) (A1 := E1) (A4 := E4) (c := c) (c1 := d1) (c4 := d4) p b.f0 b.f2 b.f3 tot bs b.f1.length b.f4 wr (Kd.C_below HR.out HBi.out) (Kd.C_below (Kd.C_below HI4.out (below_alloc (Below.refl _ _) (.cells #[.int .i64 b.f0, .slice E1 b.f1.length d1, .int .i64 b.f2, .int .i64 b.f3, .slice E4 b.f4.length d4] 87))) HBo.out) ⟨htb.1, by omega⟩)
                clear hlti
                rcases Bool.eq_false_or_eq_true (endsB tot bs b.f2 b.f3 b.f4) with q6 | q6
                · have HQ6 := Aside0.mk q6
                  rw [q6] at HEN
                  go_wp2_with (go_at_call 113; refine (HEN.out).mono ?_; rintro e w5 ⟨rfl, hb⟩; have HB5 := Aside0.mk (below_step HBi.out hb); have HC5 := Aside0.mk (And.intro (pw_cell_below hb HCi.out.1) (pw_cell_below hb HCi.out.2)); clear hb HEN)
                  go_roundg (bs.length - (k2 + 1))
                  case measure => have := HA2.out; have := HL2.out; omega
                  case rel => exact ⟨k2 + 1, by go_num, ⟨by have := HL2.out; omega, by omega, fun j hj => by rcases Nat.lt_succ_iff_lt_or_eq.1 hj with h | h; exact HA2.out.2.2 j h; rw [h, ← HBB2.out, block_ends, HIN.out, HQ6.out]; rfl⟩, HB5, HC5⟩
                · have HQ6 := Aside0.mk q6
                  rw [q6] at HEN
                  go_wp2_with (go_at_call 113; refine (HEN.out).mono ?_; rintro e w5 ⟨rfl, hb⟩; have HB5 := Aside0.mk (below_step HBi.out hb); clear hb HEN)
                  go_ret
                  exact ⟨by rw [good_block k2 HL2.out (by rw [← HT.out, ← HBB2.out, block_ends, HQ6.out]; simp)]; rfl, HB5.out⟩
          · have e2 : k2 = bs.length := by have := HA2.out; omega
            have HGT := Aside0.mk (good_true HHB.out HF.out (by rw [← HT.out]; exact h80) (fun j hj => by rw [← HT.out]; exact HA2.out.2.2 j (by omega)))
            go_wp2
            go_ret
            exact ⟨by rw [HGT.out]; rfl, HB3.out⟩
      · go_wp2_with (go_at_call 91; refine (HCNT.out).mono ?_; rintro e w2 ⟨rfl, hb⟩; have HB2 := Aside0.mk (below_step HB1.out hb); clear hb HCNT)
        go_ret
        exact ⟨by rw [good_tot (by rw [← HT.out]; omega)]; rfl, HB2.out⟩
theorem goodFunc_any {A : Option Addr} {c : Nat} (p : Int) (bs : List S87) (w : World) (hr : Kd.C k87 w A bs.length bs) (hc : bs.length ≤ c) :
    Calls Try.prog 70 #[.agg #[.int .i64 p, .slice A bs.length c]] w fun e w' => e = .returned (.bool (goodB p bs)) ∧ Below w.heap.size w w' := by
  rcases Bool.eq_false_or_eq_true (headB p bs) with h | h
  · exact goodFunc_yes p bs w hr hc h
  · exact goodFunc_no p bs w hr h
end Go.Proofs.Ytghlbhijkhkgkaa.PA
