/- The flow seat: the walk of laws.FnExactLiveAt. -/
import Derived.Test.YtghlbhijkhkgkaaAb2Mf
import Derived.Test.YtghlbhijkhkgkaaAb2Lb
import Derived.Test.YtghlbhijkhkgkaaAb2Lf
namespace Go.Proofs.Ytghlbhijkhkgkaa.PA
open Go.RowKit Go.Proofs.YtghlbhijkhkgkaaW.PrintWords Go.Proofs.YtghlbhijkhkgkaaW.PrintLast Go.Proofs.YtghlbhijkhkgkaaW.PrintMore
set_option linter.unusedVariables false
set_option maxHeartbeats 2000000 in
set_option maxRecDepth 100000 in
theorem law_LiveAt (p : Int) (bs : List S95) (v : Int) {A : Option Addr} {c : Nat} (w : World) (hr : Kd.C k95 w A bs.length bs) (hc : bs.length ≤ c) (hf : Fit bs) :
    Calls Try.prog 15 #[.agg #[.int .i64 p, .slice A bs.length c], .int .i64 v] w fun e w' => e = .returned (.bool true) ∧ Below w.heap.size w w' := by
  have HB := Aside0.mk (Below.refl w.heap.size w)
  obtain ⟨r, hev, hsm⟩ := szFunc_any p bs hf
  obtain ⟨kz, hkz⟩ := Ev.rounds hev
  have T16 := Aside0.mk (fun W (hW : Below w.heap.size w W) => laws_szFunc.calls kz p A c bs 1048576 r W (Kd.C_below hr hW) hc hkz)
  by_cases h0 : r < 0
  · have c0 : decide (r < 0) = true := decide_eq_true h0
    clear hr hc hf hev hsm hkz h0
    go_enter Try.func15, Try.ntmps15
    go_wp2_with (go_at_call 16; refine (T16.out _ (by repeat (first | exact HB.out | apply below_alloc))).mono ?_; rintro e w1 ⟨rfl, hb⟩; have HB1 := Aside0.mk (below_step (below_alloc (Below.refl w.heap.size w) _) hb); clear hb T16)
    go_ret
    exact ⟨rfl, HB1.out⟩
  · have hs : Small bs := by rcases hsm with h | h; exact absurd h h0; exact h.2
    have c0 : decide (r < 0) = false := decide_eq_false h0
    obtain ⟨hL1, hL2⟩ := small_ok hs
    have T18 := fun W (hW : Below w.heap.size w W) => toFunc_calls p bs hs W (Kd.C_below hr hW) hc
    have hsm2 := small_mark hs
    obtain ⟨L, hL⟩ : ∃ L, L = bs.map cB := ⟨_, rfl⟩
    rw [← hL] at T18 hL1 hL2 hsm2
    have HT18 := Aside0.mk T18
    have hal := ansLiveAt_len p L v
    obtain ⟨a1, ha1⟩ : ∃ x, x = (ansLiveAt p L v).1 := ⟨_, rfl⟩
    obtain ⟨a2, ha2⟩ : ∃ x, x = (ansLiveAt p L v).2 := ⟨_, rfl⟩
    have T29 := Aside0.mk (fun W A1 c1 (h1 : Kd.C k87 W A1 L.length L) (h2 : L.length ≤ c1) => (by have := specLiveAt_any (A := A1) (c := c1) p L v W h1 h2; rw [← ha1, ← ha2] at this; exact this : Calls Try.prog 50 #[.agg #[.int .i64 p, .slice A1 L.length c1], .int .i64 v] W fun e w' => ∃ v0 : Value, e = .returned (.tuple #[v0, .bool a2]) ∧ (Kd.int .i64).R 3 w' W.heap.size (fun _ => True) v0 a1 ∧ Below W.heap.size W w'))
    have T30 := Aside0.mk (fun W A1 c1 (h1 : Kd.C k87 W A1 L.length L) (h2 : L.length ≤ c1) => (by have := implLiveAt_any (A := A1) (c := c1) p L v W h1 h2; rw [← ha1, ← ha2] at this; exact this : Calls Try.prog 51 #[.agg #[.int .i64 p, .slice A1 L.length c1], .int .i64 v] W fun e w' => ∃ v0 : Value, e = .returned (.tuple #[v0, .bool a2]) ∧ (Kd.int .i64).R 3 w' W.heap.size (fun _ => True) v0 a1 ∧ Below W.heap.size W w'))
    obtain ⟨ke, hke⟩ := Ev.rounds (eqFunc_any p L hL1 hL2)
    have T20 := Aside0.mk (fun W A1 c1 A2 c2 (h1 : Kd.C k87 W A1 L.length L) (h2 : L.length ≤ c1) (h3 : Kd.C k87 W A2 L.length L) (h4 : L.length ≤ c2) => laws_eqFunc.calls ke p A1 c1 L p A2 c2 L true W h1 h2 h3 h4 hke)
    have e2 : (a2 != a2) = false := by simp
    rw [← ha1] at hal
    have HAL := Aside0.mk hal
    have HSM := Aside0.mk hsm2
    have e3 : (1 + (a1.length : Int) < 0) = False := eq_false (by omega)
    clear hr hc hf hev hsm hkz h0 hs hL1 hL2 T18 hL ha1 ha2 hke hal hsm2
    go_enter Try.func15, Try.ntmps15
    go_wp2_with (first | (go_at_call 16; refine (T16.out _ (by repeat (first | exact HB.out | apply below_alloc))).mono ?_; rintro e w1 ⟨rfl, hb⟩; obtain ⟨hc1, hf1⟩ := bcell hb; simp only [asz] at hc1 hf1; have HB1 := Aside0.mk (below_step (below_alloc (Below.refl w.heap.size w) _) hb); have k0 : w1.cell? ⟨w.heap.size, 0, none⟩ = some (.int .i64 p) := (by rw [hc1 _ _ (by omega)]; simp); have k1 : w1.cell? ⟨w.heap.size, 1, none⟩ = some (.slice A bs.length c) := (by rw [hc1 _ _ (by omega)]; simp); clear hb T16 hc1 hf1))
    refine (HT18.out _ HB1.out).mono ?_
    rintro e w2 ⟨A1, d1, rfl, hl1, hR1, hb⟩
    have k0' := pw_cell_below hb k0
    have k1' := pw_cell_below hb k1
    have HB2 := Aside0.mk (below_step HB1.out hb)
    have HR1 := Aside0.mk (Kd.R_reads' hR1).2.2
    have HL1 := Aside0.mk hl1
    clear hb hR1 hl1 k0 k1 HB1
    go_wp2_with fail
    refine (T29.out _ _ _ HR1.out HL1.out).mono ?_
    rintro e w3 ⟨v6, rfl, hR6, hb⟩
    obtain ⟨A6, d6, rfl⟩ := Kd.R_slice hR6
    have hlt3 : w.heap.size < w3.heap.size := World.block_lt_of_cell? w3 _ (pw_cell_below hb k0')
    have HLT := Aside0.mk hlt3
    have HQ3 := Aside0.mk (show QW w w3 p A bs.length c a1 A6 d6 w3.heap.size from ⟨below_step HB2.out hb, pw_cell_below hb k0', pw_cell_below hb k1', Kd.R_mono (Kd.R_lower (Kd.R_bound hR6) HB2.out.size) (fun k hk => hk.2.2.1)⟩)
    have k0 := HQ3.out.k0
    have k1 := HQ3.out.k1
    clear hb k0' k1' HB2 HR1 HL1 hR6 hlt3
    go_wp2_with fail
    refine (HT18.out _ HQ3.out.hb).mono ?_
    rintro e w4 ⟨A2, d2, rfl, hl2, hR2, hb⟩
    have HQ4 := Aside0.mk (HQ3.out.below hb)
    have HX4 := Aside0.mk (show k87.R 87 w4 w3.heap.size (fun k => w3.heap.size ≤ k ∧ k < w4.heap.size) (.slice A2 L.length d2) L from Kd.R_mono (Kd.R_bound hR2) (fun k hk => ⟨hk.2.1, hk.2.2.1⟩))
    have HL2 := Aside0.mk hl2
    have k0' := HQ4.out.k0
    have k1' := HQ4.out.k1
    have h34 := hb.size
    have H34 := Aside0.mk h34
    clear hb hR2 hl2 k0 k1 HQ3 h34
    have hlt := World.block_lt_of_cell? w4 _ k0'
    go_wp2_with fail
    refine (T30.out _ _ _ (Kd.C_below (Kd.R_reads' HX4.out).2.2 (below_alloc (Below.refl _ _) _)) HL2.out).mono ?_
    rintro e w5 ⟨v9, rfl, hR9, hb⟩
    obtain ⟨A9, d9, rfl⟩ := Kd.R_slice hR9
    have hb45 := (below_alloc (Below.refl w4.heap.size w4) (.cells #[.int .i64 p, .slice A2 L.length d2] 30)).trans (hb.mono (by simp))
    have HQ5 := Aside0.mk (HQ4.out.below hb45)
    have HX5 := Aside0.mk (Kd.R_below HX4.out hb45)
    have HG5 := Aside0.mk (show (Kd.int .i64).R 3 w5 w.heap.size (fun k => w4.heap.size ≤ k) (.slice A9 a1.length d9) a1 from Kd.R_mono (Kd.R_lower (Kd.R_bound hR9) (Nat.le_trans HQ4.out.hb.size (by simp))) (fun k hk => Nat.le_trans (by simp) hk.2.1))
    have m0 : w5.cell? ⟨w4.heap.size, 0, none⟩ = some (.int .i64 p) := pw_cell_below hb (by simp)
    have m1 : w5.cell? ⟨w4.heap.size, 1, none⟩ = some (.slice A2 L.length d2) := pw_cell_below hb (by simp)
    have k0 := HQ5.out.k0
    have k1 := HQ5.out.k1
    clear hb k0' k1' hlt HQ4 HX4 hR9 hb45
    go_wp2_with (go_at_call 25; refine (eqInt_b HAL.out (Kd.R_reads' HG5.out).2.2 (Kd.R_reads' HG5.out).2.1 (Kd.R_reads' HQ5.out.v6).2.2 (Kd.R_reads' HQ5.out.v6).2.1).mono ?_; rintro e w6 ⟨rfl, hb⟩; have HQ6 := Aside0.mk (HQ5.out.below hb); have HX6 := Aside0.mk (Kd.R_below HX5.out hb); have HG6 := Aside0.mk (Kd.R_below HG5.out hb); have m0' := pw_cell_below hb m0; have m1' := pw_cell_below hb m1; have k0' := HQ6.out.k0; have k1' := HQ6.out.k1; clear hb m0 m1 k0 k1 HQ5 HX5 HG5)
    go_region_held3 (fun w' => w'.cell? ⟨w.heap.size, 0, none⟩ = some (.int .i64 p) ∧ w'.cell? ⟨w.heap.size, 1, none⟩ = some (.slice A bs.length c) ∧ w'.cell? ⟨w4.heap.size, 0, none⟩ = some (.int .i64 p) ∧ w'.cell? ⟨w4.heap.size, 1, none⟩ = some (.slice A2 L.length d2))
      (first
        | go_keep
        | (go_split_ands
           refine ⟨?_, ?_, ?_, ?_⟩ <;> (exact pw_cell_below hbr (by assumption))))
      (first | (go_at_call 18; refine (HT18.out _ (below_drew1 HQ6.out.hb)).mono ?_; rintro e w7 ⟨A3, d3, rfl, hl3, hR3, hbr⟩; have HB7 := Aside0.mk (below_step (below_drew1 (Below.refl w6.heap.size w6)) hbr); have HR7 := Aside0.mk (Kd.R_reads' hR3).2.2; have HL3 := Aside0.mk hl3) | (go_at_call 20; refine (T20.out _ _ _ _ _ (Kd.C_below (Kd.R_reads' HX6.out).2.2 HB7.out) HL2.out HR7.out HL3.out).mono ?_; rintro e w8 ⟨rfl, hbr⟩; have HB8 := Aside0.mk (below_step HB7.out hbr)))
    have HQ8 := Aside0.mk (HQ6.out.below HB8.out)
    have HX8 := Aside0.mk (Kd.R_below HX6.out HB8.out)
    have HG8 := Aside0.mk (Kd.R_below HG6.out HB8.out)
    have m0 := pw_cell_below HB8.out m0'
    have m1 := pw_cell_below HB8.out m1'
    clear HQ6 HX6 HG6 m0' m1' k0' k1'
    go_wp2_with (go_at_call 26; refine (markFunc_any p HX8.out (fun _ h => h) HSM.out.1 HSM.out.2).mono ?_; rintro e w9 ⟨kk, rfl, hkk, hkept, hbel⟩; have hb9 := hbel w.heap.size HQ8.out.hb.size (fun k hk => Nat.le_trans (Nat.le_of_lt HLT.out) hk.1); have HQ9 := Aside0.mk (HQ8.out.kept (HQ8.out.hb.trans hb9) hkept (fun k hk h => absurd h.1 (Nat.not_le.2 hk)) HLT.out); have HG9 := Aside0.mk (Kd.R_kept HG8.out hkept (fun k hk h => absurd h.2 (Nat.not_lt.2 hk))); have e4 : (kk < 0) = False := eq_false (Int.not_lt.2 hkk); clear hkept hbel hb9 hkk HQ8 HX8 HG8 m0 m1)
    refine (eqInt_b HAL.out (Kd.R_reads' HG9.out).2.2 (Kd.R_reads' HG9.out).2.1 (Kd.R_reads' HQ9.out.v6).2.2 (Kd.R_reads' HQ9.out.v6).2.1).mono ?_
    rintro e w10 ⟨rfl, hb⟩
    have HQ10 := Aside0.mk (HQ9.out.below hb)
    have HG10 := Aside0.mk (Kd.R_below HG9.out hb)
    clear hb HQ9 HG9
    go_wp2_with fail
    refine (mark_any a1 HAL.out HQ10.out.hb HG10.out).mono ?_
    rintro e w11 ⟨rfl, hR, hb, hkept⟩
    have HQ11 := Aside0.mk (HQ10.out.kept hb hkept (fun k hk h => by have := H34.out; omega) HLT.out)
    have HG11 := Aside0.mk hR
    have hR2 := (Kd.R_reads' hR).2.2
    rw [marksL_len] at hR2
    have T28 := Aside0.mk (fun W (hW : Below w11.heap.size w11 W) => held_b a1.length HAL.out (Kd.C_below hR2 hW) (Kd.R_reads' HG10.out).2.1)
    clear hR hb hkept HQ10 HG10 hR2 HG11
    go_wp2_with fail
    refine (T28.out _ (Below.refl _ _)).mono ?_
    rintro e w12 ⟨rfl, hb⟩
    have HQ12 := Aside0.mk (HQ11.out.below hb)
    have HB12 := Aside0.mk hb
    have k0 := HQ12.out.k0
    have k1 := HQ12.out.k1
    clear hb HQ11
    go_wp2_with fail
    refine (HT18.out _ HQ12.out.hb).mono ?_
    rintro e w13 ⟨A4, d4, rfl, hl4, hR4, hb⟩
    have HQ13 := Aside0.mk (HQ12.out.below hb)
    have HB13 := Aside0.mk (below_step HB12.out hb)
    have HR13 := Aside0.mk (Kd.R_reads' hR4).2.2
    have HL4 := Aside0.mk hl4
    clear hb hR4 hl4 HQ12 HB12 k0 k1
    go_wp2_with fail
    refine (T30.out _ _ _ HR13.out HL4.out).mono ?_
    rintro e w14 ⟨v14, rfl, hR14, hb⟩
    obtain ⟨A14, d14, rfl⟩ := Kd.R_slice hR14
    have HQ14 := Aside0.mk (HQ13.out.below hb)
    have HB14 := Aside0.mk (below_step HB13.out hb)
    have HR14 := Aside0.mk (Kd.R_reads' hR14)
    clear hb hR14 HQ13 HB13
    go_wp2_with (first | (go_at_call 25; refine (eqInt_b HAL.out HR14.out.2.2 HR14.out.2.1 (Kd.R_reads' HQ14.out.v6).2.2 (Kd.R_reads' HQ14.out.v6).2.1).mono ?_; rintro e w15 ⟨rfl, hb⟩; have HQ15 := Aside0.mk (HQ14.out.below hb); have HB15 := Aside0.mk (below_step HB14.out hb); clear hb HQ14 HB14) | (go_at_call 28; refine (T28.out _ HB15.out).mono ?_; rintro e w16 ⟨rfl, hb⟩; have HQ16 := Aside0.mk (HQ15.out.below hb); clear hb HQ15))
    go_ret
    exact ⟨rfl, HQ16.out.hb⟩
end Go.Proofs.Ytghlbhijkhkgkaa.PA
