/- The flow seat: the walk of laws.FnExactUsesOf. -/
import Derived.Test.YtghlbhijkhkgkaaVx
namespace Go.Proofs.Ytghlbhijkhkgkaa.PA
open Go.RowKit Go.Proofs.YtghlbhijkhkgkaaW.PrintWords Go.Proofs.YtghlbhijkhkgkaaW.PrintLast Go.Proofs.YtghlbhijkhkgkaaW.PrintMore
set_option linter.unusedVariables false
theorem toFunc_calls (p : Int) (bs : List S95) (hs : Small bs) {A : Option Addr} {c : Nat} (W : World) (hr : Kd.C k95 W A bs.length bs) (hc : bs.length ≤ c) :
    Calls Try.prog 18 #[.agg #[.int .i64 p, .slice A bs.length c]] W fun e w' => ∃ A1 c1, e = .returned (.agg #[.int .i64 p, .slice A1 (bs.map cB).length c1]) ∧ (bs.map cB).length ≤ c1 ∧ Kd.R k87 87 w' W.heap.size (fun _ => True) (.slice A1 (bs.map cB).length c1) (bs.map cB) ∧ Below W.heap.size W w' := by
  obtain ⟨k, hk⟩ := Ev.rounds (toFunc_any p bs hs)
  refine (laws_toFunc.calls k p A c bs p (bs.map cB) W hr hc hk).mono fun e w' h => ?_
  obtain ⟨v1, rfl, hR, hb⟩ := h
  obtain ⟨A1, c1, rfl, hl, _⟩ := Kd.R_reads hR
  exact ⟨A1, c1, rfl, hl, hR, hb⟩
set_option maxHeartbeats 2000000 in
set_option maxRecDepth 100000 in
theorem law_UsesOf (p : Int) (bs : List S95) (v : Int) {A : Option Addr} {c : Nat} (w : World) (hr : Kd.C k95 w A bs.length bs) (hc : bs.length ≤ c) (hf : Fit bs) :
    Calls Try.prog 4 #[.agg #[.int .i64 p, .slice A bs.length c], .int .i64 v] w fun e w' => e = .returned (.bool true) ∧ Below w.heap.size w w' := by
  have HB := Aside0.mk (Below.refl w.heap.size w)
  obtain ⟨r, hev, hsm⟩ := szFunc_any p bs hf
  obtain ⟨kz, hkz⟩ := Ev.rounds hev
  have T16 := Aside0.mk (fun W (hW : Below w.heap.size w W) => laws_szFunc.calls kz p A c bs 1048576 r W (Kd.C_below hr hW) hc hkz)
  by_cases h0 : r < 0
  · have c0 : decide (r < 0) = true := decide_eq_true h0
    clear hr hc hf hev hsm hkz h0
    go_enter Try.func4, Try.ntmps4
    go_wp2_with (go_at_call 16; refine (T16.out _ (by repeat (first | exact HB.out | apply below_alloc))).mono ?_; rintro e w1 ⟨rfl, hb⟩; have HB1 := Aside0.mk (below_step (below_alloc (Below.refl w.heap.size w) _) hb); clear hb T16)
    go_ret
    exact ⟨rfl, HB1.out⟩
  · have hs : Small bs := by rcases hsm with h | h; exact absurd h h0; exact h.2
    have c0 : decide (r < 0) = false := decide_eq_false h0
    obtain ⟨hL1, hL2⟩ := small_ok hs
    have T18 := fun W (hW : Below w.heap.size w W) => toFunc_calls p bs hs W (Kd.C_below hr hW) hc
    obtain ⟨L, hL⟩ : ∃ L, L = bs.map cB := ⟨_, rfl⟩
    rw [← hL] at T18 hL1 hL2
    have HT18 := Aside0.mk T18
    obtain ⟨a1, ha1⟩ : ∃ x, x = (ansUsesOf p L v).1 := ⟨_, rfl⟩
    obtain ⟨a2, ha2⟩ : ∃ x, x = (ansUsesOf p L v).2 := ⟨_, rfl⟩
    obtain ⟨ks, hks⟩ := Ev.rounds (specUsesOf_f p L v)
    have T17 := Aside0.mk (fun W A1 c1 (h1 : Kd.C k87 W A1 L.length L) (h2 : L.length ≤ c1) => spec_UsesOf.calls ks p A1 c1 L v a1 a2 W h1 h2 (by rw [hks, ha1, ha2]))
    have T19 := Aside0.mk (fun W A1 c1 (h1 : Kd.C k87 W A1 L.length L) (h2 : L.length ≤ c1) => (by have := implUsesOf_any (A := A1) (c := c1) p L v W h1 h2; rw [← ha1, ← ha2] at this; exact this : Calls Try.prog 22 #[.agg #[.int .i64 p, .slice A1 L.length c1], .int .i64 v] W fun e w' => e = .returned (.tuple #[.int .i64 a1, .bool a2]) ∧ Below W.heap.size W w'))
    obtain ⟨ke, hke⟩ := Ev.rounds (eqFunc_any p L hL1 hL2)
    have T20 := Aside0.mk (fun W A1 c1 A2 c2 (h1 : Kd.C k87 W A1 L.length L) (h2 : L.length ≤ c1) (h3 : Kd.C k87 W A2 L.length L) (h4 : L.length ≤ c2) => laws_eqFunc.calls ke p A1 c1 L p A2 c2 L true W h1 h2 h3 h4 hke)
    have e1 : (a1 != a1) = false := by simp
    have e2 : (a2 != a2) = false := by simp
    clear hr hc hf hev hsm hkz h0 hs hL1 hL2 T18 hL ha1 ha2 hks hke
    go_enter Try.func4, Try.ntmps4
    go_wp2_with (first | (go_at_call 16; refine (T16.out _ (by repeat (first | exact HB.out | apply below_alloc))).mono ?_; rintro e w1 ⟨rfl, hb⟩; obtain ⟨hc1, hf1⟩ := bcell hb; simp only [asz] at hc1 hf1; have HB1 := Aside0.mk (below_step (below_alloc (Below.refl w.heap.size w) _) hb); have k0 : w1.cell? ⟨w.heap.size, 0, none⟩ = some (.int .i64 p) := (by rw [hc1 _ _ (by omega)]; simp); have k1 : w1.cell? ⟨w.heap.size, 1, none⟩ = some (.slice A bs.length c) := (by rw [hc1 _ _ (by omega)]; simp); clear hb T16 hc1 hf1))
    refine (HT18.out _ HB1.out).mono ?_
    rintro e w2 ⟨A1, d1, rfl, hl1, hR1, hb⟩
    have k0' := pw_cell_below hb k0
    have k1' := pw_cell_below hb k1
    have HB2 := Aside0.mk (below_step HB1.out hb)
    have HR1 := Aside0.mk (Kd.R_reads' hR1).2.2
    have HL1 := Aside0.mk hl1
    clear hb hR1 hl1 k0 k1 HB1
    go_wp2_with fail
    refine (T17.out _ _ _ HR1.out HL1.out).mono ?_
    rintro e w3 ⟨rfl, hb⟩
    have k0 := pw_cell_below hb k0'
    have k1 := pw_cell_below hb k1'
    have HB3 := Aside0.mk (below_step HB2.out hb)
    clear hb k0' k1' HB2 HR1 HL1
    go_wp2_with fail
    refine (HT18.out _ HB3.out).mono ?_
    rintro e w4 ⟨A2, d2, rfl, hl2, hR2, hb⟩
    have k0' := pw_cell_below hb k0
    have k1' := pw_cell_below hb k1
    have HB4 := Aside0.mk (below_step HB3.out hb)
    have HR2 := Aside0.mk (Kd.R_reads' hR2).2.2
    have HL2 := Aside0.mk hl2
    have hlt := World.block_lt_of_cell? w4 _ k0'
    clear hb hR2 hl2 k0 k1 HB3
    go_wp2_with fail
    refine (T19.out _ _ _ (Kd.C_below HR2.out (below_alloc (Below.refl _ _) _)) HL2.out).mono ?_
    rintro e w5 ⟨rfl, hb⟩
    have k0 := pw_cell_below ((below_alloc (Below.refl w4.heap.size w4) _).trans (hb.mono (by simp))) k0'
    have k1 := pw_cell_below ((below_alloc (Below.refl w4.heap.size w4) _).trans (hb.mono (by simp))) k1'
    have m0 : w5.cell? ⟨w4.heap.size, 0, none⟩ = some (.int .i64 p) := pw_cell_below hb (by simp)
    have m1 : w5.cell? ⟨w4.heap.size, 1, none⟩ = some (.slice A2 L.length d2) := pw_cell_below hb (by simp)
    have HB5 := Aside0.mk (below_step (below_alloc HB4.out _) hb)
    have HR5 := Aside0.mk (Kd.C_below HR2.out ((below_alloc (Below.refl w4.heap.size w4) _).trans (hb.mono (by simp))))
    clear hb k0' k1' HB4 HR2 hlt
    go_wp2_with fail
    go_region_held3 (fun w' => w'.cell? ⟨w.heap.size, 0, none⟩ = some (.int .i64 p) ∧ w'.cell? ⟨w.heap.size, 1, none⟩ = some (.slice A bs.length c) ∧ w'.cell? ⟨w4.heap.size, 0, none⟩ = some (.int .i64 p) ∧ w'.cell? ⟨w4.heap.size, 1, none⟩ = some (.slice A2 L.length d2))
      (first
        | go_keep
        | (go_split_ands
           refine ⟨?_, ?_, ?_, ?_⟩ <;> (exact pw_cell_below hbr (by assumption))))
      (first | (go_at_call 18; refine (HT18.out _ (below_drew1 HB5.out)).mono ?_; rintro e w6 ⟨A3, d3, rfl, hl3, hR3, hbr⟩; have HB6 := Aside0.mk (below_step (below_drew1 HB5.out) hbr); have HR6 := Aside0.mk (Kd.C_below HR5.out (below_step (below_drew1 (Below.refl _ _)) hbr)); have HR7 := Aside0.mk (Kd.R_reads' hR3).2.2; have HL3 := Aside0.mk hl3) | (go_at_call 20; refine (T20.out _ _ _ _ _ HR6.out HL2.out HR7.out HL3.out).mono ?_; rintro e w7 ⟨rfl, hbr⟩; have HB7 := Aside0.mk (below_step HB6.out hbr)))
    go_wp2
    go_ret
    exact ⟨rfl, HB7.out⟩
end Go.Proofs.Ytghlbhijkhkgkaa.PA
