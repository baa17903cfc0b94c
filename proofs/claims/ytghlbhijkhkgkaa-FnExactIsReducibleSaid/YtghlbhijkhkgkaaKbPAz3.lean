/- Printed by the kit's print over surrogate texts, turned by this session -/
import Derived.Test.YtghlbhijkhkgkaaKbPAx0
namespace Go.Proofs.Ytghlbhijkhkgkaa.PA
open Go.RowKit Go.Proofs.YtghlbhijkhkgkaaW.PrintWords Go.Proofs.YtghlbhijkhkgkaaW.PrintLast Go.Proofs.YtghlbhijkhkgkaaW.PrintMore
attribute [local go_sem] max2_int min2_int max_two min_two max_three min_three max_four min_four   -- for this text's walks alone
set_option linter.unusedVariables false
set_option linter.unusedSimpArgs false

/-! ### impl_reach: function 73 -/
mutual
def impl_reach.l0 : Nat → List (List Int) → Int → List Bool → List Int → Option (List Bool)
  | 0, _, _, _, _ => none
  | k + 1, x0, x2, x7, x8 => if (x8.length : Int) > 0 then (if 0 < (x8.length : Int) then (if 0 ≤ (rd x8 0) then (if (rd x8 0) < (x0.length : Int) then (impl_reach.l1 k x0 x2 x7 x8 (rd_L1 x0 (rd x8 0)) ((rd_L1 x0 (rd x8 0)).length : Int) 0) else (none)) else (none)) else (none)) else (some x7)
def impl_reach.l1 : Nat → List (List Int) → Int → List Bool → List Int → List Int → Int → Int → Option (List Bool)
  | 0, _, _, _, _, _, _, _ => none
  | k + 1, x0, x2, x7, x8, x33, x34, x35 => if x35 < x34 then (if 0 ≤ x35 then (if x35 < (x33.length : Int) then (if 0 ≤ (rd x33 x35) then (if (rd x33 x35) < (x7.length : Int) then (if (rdOf false x7 (rd x33 x35) = true) then (impl_reach.l1 k x0 x2 x7 x8 x33 x34 (wrap64 (x35 + 1))) else (if (rd x33 x35) = x2 then (impl_reach.l1 k x0 x2 x7 x8 x33 x34 (wrap64 (x35 + 1))) else (if x8.length < 17592186044416 then (impl_reach.l1 k x0 x2 (x7.set ((rd x33 x35) : Int).toNat true) (x8 ++ [rd x33 x35]) x33 x34 (wrap64 (x35 + 1))) else (none)))) else (none)) else (none)) else (none)) else (none)) else (if 1 ≤ (x8.length : Int) then (impl_reach.l0 k x0 x2 x7 (x8.drop (1 : Int).toNat)) else (none))
end
def impl_reach.f (k : Nat) (l0 : List (List Int)) (a1 : Int) (a2 : Int) : Option (List Bool) := if 0 ≤ (l0.length : Int) then (if ((l0.length : Int) : Int).toNat ≤ 281474976710656 then ((some (List.replicate ((l0.length : Int) : Int).toNat false : List Bool)).bind fun y549 => (if a1 = a2 then (some y549) else (if 0 ≤ a1 then (if a1 < (y549.length : Int) then (impl_reach.l0 k l0 a2 (y549.set (a1 : Int).toNat true) (([a1] : List Int))) else (none)) else (none)))) else (none)) else (none)
set_option maxHeartbeats 8000000 in
set_option maxRecDepth 100000 in
theorem impl_reach.calls (k : Nat) (A0 : Option Addr) (c0 : Nat) (l0 : List (List Int)) (a1 : Int) (a2 : Int) (r : List Bool) (w : World) (hr0 : Kd.C (Kd.slice 3 (Kd.int .i64)) w A0 l0.length l0) (hc0 : l0.length ≤ c0) (h : impl_reach.f k l0 a1 a2 = some r) :
    Calls Try.prog 73 #[.slice A0 l0.length c0, .int .i64 a1, .int .i64 a2] w fun e w' => ∃ v0_ : Value, e = .returned (v0_) ∧ Kd.R Kd.bool 4 w' w.heap.size (fun _ => True) v0_ r ∧ Below w.heap.size w w' := by
  have HR0 := Aside0.mk hr0
  have HC0 := Aside0.mk hc0
  clear hr0 hc0
  have HB := Aside0.mk (Below.refl w.heap.size w)
  have H : (if 0 ≤ (l0.length : Int) then (if ((l0.length : Int) : Int).toNat ≤ 281474976710656 then ((some (List.replicate ((l0.length : Int) : Int).toNat false : List Bool)).bind fun y549 => (if a1 = a2 then (some y549) else (if 0 ≤ a1 then (if a1 < (y549.length : Int) then (impl_reach.l0 k l0 a2 (y549.set (a1 : Int).toNat true) (([a1] : List Int))) else (none)) else (none)))) else (none)) else (none)) = some r := h
  clear h
  by_cases c4 : 0 ≤ (l0.length : Int)
  · rw [if_pos c4] at H
    have c4b0 := eq_true c4
    have c4b1 : decide (0 ≤ (l0.length : Int)) = true := decide_eq_true c4
    clear c4
    by_cases c5 : ((l0.length : Int) : Int).toNat ≤ 281474976710656
    · rw [if_pos c5] at H
      have c5b0 := eq_true c5
      have c5b1 : decide (((l0.length : Int) : Int).toNat ≤ 281474976710656) = true := decide_eq_true c5
      clear c5
      obtain ⟨y549, hy549⟩ : ∃ y_ : List Bool, y_ = (List.replicate ((l0.length : Int) : Int).toNat false) := ⟨_, rfl⟩
      replace H : (if a1 = a2 then (some y549) else (if 0 ≤ a1 then (if a1 < (y549.length : Int) then (impl_reach.l0 k l0 a2 (y549.set (a1 : Int).toNat true) (([a1] : List Int))) else (none)) else (none))) = some r := by first | (rw [hy549]; with_reducible exact H) | (have H2_ := (Option.bind_some _ _).symm.trans H; rw [hy549]; with_reducible exact H2_) | (have H2_ := (Option.bind_some _ _).symm.trans H; with_reducible exact H2_) | with_reducible exact H | (rw [hy549]; exact H) | exact H
      have Ny549 := Aside0.mk hy549
      clear hy549
      by_cases c6 : a1 = a2
      · rw [if_pos c6] at H
        have c6b0 : (a1 == a2) = true := beq_iff_eq.mpr c6
        have c6b1 : (a1 != a2) = false := bne_eq_false_iff_eq.mpr c6
        clear c6
        obtain rfl := Option.some.inj H
        go_enter Try.func73, Try.ntmps73
        go_wp2_with (first | ((with_reducible refine gate_dst (N := 13) rfl ?_); refine Kd.R_make Kd.bool _ 4 rfl (N := 13) rfl 69 _ _ rfl (l0.length : Int) rfl rfl Try.underlying69 (.bool false) 1 info4 rfl (by decide) (by omega) false (ok := fun _ => True) (okp := fun _ => True) rfl (fun _ hk => hk) trivial (of_decide_eq_true (by first | (with_reducible assumption) | assumption)) (Nat.le_trans (Nat.mul_le_mul_right _ (of_decide_eq_true (by first | (with_reducible assumption) | assumption) : (l0.length : Int).toNat ≤ 281474976710656)) (by omega)) (Below.refl _ _) (Nat.le_refl _) ?_; intro v550 w7 ho8 hb hg_ hnew_; clear hg_ hnew_; (first | rw [← Ny549.out] at ho8 | (simp only [Int.reduceToNat] at ho8; rw [← Ny549.out] at ho8)); have n0_ := Aside0.mk (Kd.R_lower ho8 (below_size (by repeat (first | (with_reducible first | exact HB.out | apply below_alloc | apply pw_below_drewN | apply below_drew1) | exact HB.out)))); have n1_ := Aside0.mk (below_step (by repeat (first | (with_reducible first | exact HB.out | apply below_alloc | apply pw_below_drewN | apply below_drew1) | exact HB.out)) hb); clear HB; have HO551 := n0_; have HB := n1_; clear n0_ n1_; clear hb ho8))
        go_ret
        exact ⟨_, by first | rfl | (simp [errW_none, errW_some] <;> rfl) | (simp [*, errW_none, errW_some] <;> rfl), by (with_reducible repeat (first | apply Kd.R_alloc | apply Kd.R_drewN | apply Kd.R_drew)); exact HO551.out, by repeat (first | (with_reducible first | exact HB.out | apply below_alloc | apply pw_below_drewN | apply below_drew1) | exact HB.out)⟩
      · rw [if_neg c6] at H
        have c6b0 : (a1 == a2) = false := beq_eq_false_iff_ne.mpr c6
        have c6b1 : (a1 != a2) = true := bne_iff_ne.mpr c6
        by_cases c9 : 0 ≤ a1
        · rw [if_pos c9] at H
          have c9b0 : decide (0 ≤ a1) = true := decide_eq_true c9
          clear c9
          by_cases c10 : a1 < (y549.length : Int)
          · rw [if_pos c10] at H
            have c10b0 : decide (a1 < (y549.length : Int)) = true := decide_eq_true c10
            clear c10
            obtain ⟨y552, hy552⟩ : ∃ y_ : List Bool, y_ = (y549.set (a1 : Int).toNat true) := ⟨_, rfl⟩
            replace H : (impl_reach.l0 k l0 a2 y552 (([a1] : List Int))) = some r := by first | (rw [hy552]; with_reducible exact H) | (have H2_ := (Option.bind_some _ _).symm.trans H; rw [hy552]; with_reducible exact H2_) | (have H2_ := (Option.bind_some _ _).symm.trans H; with_reducible exact H2_) | with_reducible exact H | (rw [hy552]; exact H) | exact H
            have Ny552 := Aside0.mk hy552
            clear hy552
            obtain ⟨y553, hy553⟩ : ∃ y_ : List Int, y_ = (([a1] : List Int)) := ⟨_, rfl⟩
            replace H : (impl_reach.l0 k l0 a2 y552 y553) = some r := by first | (rw [hy553]; with_reducible exact H) | (have H2_ := (Option.bind_some _ _).symm.trans H; rw [hy553]; with_reducible exact H2_) | (have H2_ := (Option.bind_some _ _).symm.trans H; with_reducible exact H2_) | with_reducible exact H | (rw [hy553]; exact H) | exact H
            have Ny553 := Aside0.mk hy553
            clear hy553
            have H' := Aside0.mk H
            clear H
            go_enter Try.func73, Try.ntmps73
            go_wp2_with (first | ((with_reducible refine gate_dst (N := 13) rfl ?_); refine Kd.R_make Kd.bool _ 4 rfl (N := 13) rfl 69 _ _ rfl (l0.length : Int) rfl rfl Try.underlying69 (.bool false) 1 info4 rfl (by decide) (by omega) false (ok := fun _ => True) (okp := fun _ => True) rfl (fun _ hk => hk) trivial (of_decide_eq_true (by first | (with_reducible assumption) | assumption)) (Nat.le_trans (Nat.mul_le_mul_right _ (of_decide_eq_true (by first | (with_reducible assumption) | assumption) : (l0.length : Int).toNat ≤ 281474976710656)) (by omega)) (Below.refl _ _) (Nat.le_refl _) ?_; intro v550 w12 ho13 hb hg_ hnew_; clear hg_ hnew_; (first | rw [← Ny549.out] at ho13 | (simp only [Int.reduceToNat] at ho13; rw [← Ny549.out] at ho13)); have n0_ := Aside0.mk (Kd.R_lower ho13 (below_size (by repeat (first | (with_reducible first | exact HB.out | apply below_alloc | apply pw_below_drewN | apply below_drew1) | exact HB.out)))); have n1_ := Aside0.mk (below_step (by repeat (first | (with_reducible first | exact HB.out | apply below_alloc | apply pw_below_drewN | apply below_drew1) | exact HB.out)) hb); clear HB; have HO551 := n0_; have HB := n1_; clear n0_ n1_; clear hb ho13; have p11 : 0 ≤ (a1 : Int) := of_decide_eq_true (by first | (with_reducible assumption) | assumption); have q11 : (a1 : Int) < ((y549.length : Int) : Int) := of_decide_eq_true (by first | (with_reducible assumption) | assumption); obtain ⟨go11, co11, eo11, gb11, gl11, cl11, HG11⟩ := Kd.R_form HO551.out (by omega); (first | cases eo11 | (injection eo11 with ea_ en_ ec_; (first | subst ea_ | (injection ea_ with ea_; subst ea_)); subst ec_; clear en_)); have GB11 := Aside0.mk gb11; have GG11 := Aside0.mk HG11; clear gb11 gl11 HG11; obtain ⟨hx11_0, hf11_0⟩ := Kd.R_celln false HO551.out (a1 : Int) p11 q11; replace p11 := eq_true p11; replace q11 := eq_true q11; obtain ⟨hy14_, hz14_⟩ := Kd.R_celln false HO551.out (a1 : Int) (of_decide_eq_true (by first | (with_reducible assumption) | assumption)) (of_decide_eq_true (by first | (with_reducible assumption) | assumption)); have HP14 := Kd.R_putg HO551.out (a1 : Int) true) | ((with_reducible refine gate_store (t := 4) (p := 20) rfl ?_); refine store_event (t := 4) (p := 20) (v := ?vo_w15) (w1 := (w12.setCell ⟨go11, (a1 : Int).toNat, none⟩ (.bool true))) ?hg ?ho ?hn ?hr ?_; (case ho => rfl); (case hg => rfl); (case hn => rfl); (case hr => first | (go_simp; done) | (go_simp; rfl)); intro w15 hw; have hg : w12.grownBy w15 (some go11) := (by rw [hw]; exact HP14.2); have hp_ : Kd.R Kd.bool 4 w15 w.heap.size (fun _ => True) (.slice (some ⟨go11, 0, none⟩) y549.length co11) y552 := (by rw [hw, Ny552.out]; exact HP14.1); clear HP14; have n0_ := Aside0.mk (hp_); have n1_ := Aside0.mk ((by rw [hw]; exact below_set (HB.out) GB11.out : Below w.heap.size w w15)); clear HO551; clear HB; have HO551 := n0_; have HB := n1_; clear n0_ n1_; clear hg hw hp_) | ((with_reducible refine gate_dst (N := 22) rfl ?_); refine Kd.R_lit (Kd.int .i64) _ 3 ?hg (N := 22) ?hd (xs := ([a1] : List Int)) (inner := [.int .i64 a1]) (ok := fun _ => True) (okp := fun _ => True) ?hr ?hp (fun _ hk => hk) trivial (Below.refl _ _) (Nat.le_refl _) (by simp) ?_; (case hd => rfl); (case hg => rfl); (case hr => first | (go_simp; done) | (go_simp; rfl)); (case hp => exact (Reps.one (show Kd.M (Kd.int .i64) _ _ _ a1 [.int .i64 a1] from rfl) (Reps.none _ _))); intro v554 w16 ho17 hb hg_ hnew_; clear hg_ hnew_; (first | rw [← Ny553.out] at ho17 | (simp only [Int.reduceToNat] at ho17; rw [← Ny553.out] at ho17)); have n0_ := Aside0.mk (Kd.R_below (by (with_reducible repeat (first | apply Kd.R_alloc | apply Kd.R_drewN | apply Kd.R_drew)); exact HO551.out) hb); have n1_ := Aside0.mk (Kd.R_lower ho17 (below_size (by repeat (first | (with_reducible first | exact HB.out | apply below_alloc | apply pw_below_drewN | apply below_drew1) | exact HB.out)))); have n2_ := Aside0.mk (below_step (by repeat (first | (with_reducible first | exact HB.out | apply below_alloc | apply pw_below_drewN | apply below_drew1) | exact HB.out)) hb); clear HO551; clear HB; have HO551 := n0_; have HO555 := n1_; have HB := n2_; clear n0_ n1_ n2_; clear hb ho17))
            go_loopg [8] k (fun kq v8 w' => ∃ (x7_1 : List Bool) (x8_1 : List Int), Aside0 (impl_reach.l0 kq l0 a2 x7_1 x8_1 = some r) ∧ Aside0 (kq ≤ k) ∧ Aside0 (Kd.R Kd.bool 4 w' w.heap.size (fun _ => True) (.slice (some ⟨go11, 0, none⟩) y549.length co11) x7_1) ∧ Aside0 (Kd.Q (Kd.int .i64) 3 w' w.heap.size (fun _ => True) v8 x8_1) ∧ Aside0 (Below w.heap.size w w'))
            case atStart => exact ⟨(y552), (y553), H', ⟨Nat.le_refl _⟩, ⟨by (with_reducible repeat (first | apply Kd.R_alloc | apply Kd.R_drewN | apply Kd.R_drew)); exact HO551.out⟩, ⟨Kd.Q_of_R (by (with_reducible repeat (first | apply Kd.R_alloc | apply Kd.R_drewN | apply Kd.R_drew)); exact HO555.out)⟩, ⟨by repeat (first | (with_reducible first | exact HB.out | apply below_alloc | apply pw_below_drewN | apply below_drew1) | exact HB.out)⟩⟩
            case round =>
              clear H'
              try clear c1
              try clear p1
              try clear q1
              try clear hx1
              try clear p2
              try clear c4
              try clear c4b0
              try clear c4b1
              try clear c5
              try clear c5b0
              try clear c5b1
              try clear c6
              try clear c6b0
              try clear c6b1
              try clear c7
              try clear c9
              try clear c9b0
              try clear c10
              try clear c10b0
              try clear p11
              try clear q11
              try clear hx11
              try clear hf11
              try clear hx11_0
              try clear p11
              try clear q11
              obtain ⟨x7_1, x8_1, HA, HK1, HO_7, HO_8, HB⟩ := hrel
              have hl7_1 := (Kd.R_reads' HO_7.out).1
              rw [hl7_1] at HO_7
              (try simp only [hl7_1])
              (try simp only [hl7_1] at HO_8)
              cases gk with
              | zero => exact absurd HA.out (by simp [impl_reach.l0])
              | succ k1 =>
                have H := HA.out
                clear HA
                simp only [impl_reach.l0] at H
                by_cases c18 : (x8_1.length : Int) > 0
                · rw [if_pos c18] at H
                  have c18b0 : decide (0 < (x8_1.length : Int)) = true := decide_eq_true c18
                  have c18b1 : decide (0 < x8_1.length) = true := decide_eq_true (by omega)
                  clear c18
                  by_cases c19 : 0 < (x8_1.length : Int)
                  · rw [if_pos c19] at H
                    have c19b0 : decide (0 < (x8_1.length : Int)) = true := decide_eq_true c19
                    have c19b1 : decide (0 < x8_1.length) = true := decide_eq_true (by omega)
                    clear c19
                    by_cases c20 : 0 ≤ (rd x8_1 0)
                    · rw [if_pos c20] at H
                      have c20b0 : decide (0 ≤ (rd x8_1 0)) = true := decide_eq_true c20
                      clear c20
                      by_cases c21 : (rd x8_1 0) < (l0.length : Int)
                      · rw [if_pos c21] at H
                        have c21b0 : decide ((rd x8_1 0) < (l0.length : Int)) = true := decide_eq_true c21
                        clear c21
                        have H' := Aside0.mk H
                        clear H
                        obtain ⟨Ao22, co22, eo22, _⟩ := Kd.Q_slice HO_8.out
                        subst eo22
                        have p556 : 0 ≤ (0 : Int) := (by omega)
                        have q556 : 0 < (x8_1.length : Int) := of_decide_eq_true (by first | (with_reducible assumption) | assumption)
                        obtain ⟨ad556, e556, hx556_0⟩ := Kd.at_int (Kd.Q_reads' HO_8.out).2.2 0 p556 q556
                        cases e556
                        have qi556 : (0 < x8_1.length) = True := eq_true (by omega)
                        (try rw [show ((0 : Int)).toNat = 0 from rfl] at hx556_0)
                        (try rw [Addr.add_zero'] at hx556_0)
                        replace p556 := eq_true p556
                        replace q556 := eq_true q556
                        have p557 : 0 ≤ ((rd x8_1 0) : Int) := of_decide_eq_true (by first | (with_reducible assumption) | assumption)
                        have q557 : (rd x8_1 0) < (l0.length : Int) := of_decide_eq_true (by first | (with_reducible assumption) | assumption)
                        obtain ⟨ad557, A557_0, c557_0, e557, hx557_0, hl557_0, hi557_0⟩ := at_L1 HR0.out (rd x8_1 0) p557 q557
                        cases e557
                        replace hx557_0 := (HB.out.cell (World.block_lt_of_cell? w _ hx557_0)).trans hx557_0
                        have HR557_0 := Aside0.mk hi557_0
                        have HC557_0 := Aside0.mk hl557_0
                        clear hi557_0 hl557_0
                        replace p557 := eq_true p557
                        replace q557 := eq_true q557
                        go_wp2
                        go_loopg [8, 35] k1 (fun kq v8 v35 w' => ∃ (x7_2 : List Bool) (x8_2 : List Int) (x35_2 : Int), v35 = .int .i64 x35_2 ∧ Aside0 (impl_reach.l1 kq l0 a2 x7_2 x8_2 (rd_L1 l0 (rd x8_1 0)) ((rd_L1 l0 (rd x8_1 0)).length : Int) x35_2 = some r) ∧ Aside0 (kq ≤ k1) ∧ Aside0 (Kd.R Kd.bool 4 w' w.heap.size (fun _ => True) (.slice (some ⟨go11, 0, none⟩) x7_1.length co11) x7_2) ∧ Aside0 (Kd.Q (Kd.int .i64) 3 w' w.heap.size (fun _ => True) v8 x8_2) ∧ Aside0 (Below w.heap.size w w'))
                        case atStart => exact ⟨(x7_1), (x8_1), (0), (by first | rfl | (simp; done) | (simp [*]; done)), H', ⟨Nat.le_refl _⟩, ⟨by (try simp only [hl7_1]); (with_reducible repeat (first | apply Kd.R_alloc | apply Kd.R_drewN | apply Kd.R_drew)); exact HO_7.out⟩, ⟨by (try simp only [hl7_1]); (with_reducible repeat (first | apply Kd.Q_alloc | apply Kd.Q_drewN | apply Kd.Q_drew)); exact HO_8.out⟩, ⟨by repeat (first | (with_reducible first | exact HB.out | apply below_alloc | apply pw_below_drewN | apply below_drew1) | exact HB.out)⟩⟩
                        case round =>
                          clear H'
                          try clear c1
                          try clear p1
                          try clear q1
                          try clear hx1
                          try clear c2
                          try clear p2
                          try clear c4
                          try clear c4b0
                          try clear c4b1
                          try clear c5
                          try clear c5b0
                          try clear c5b1
                          try clear p5
                          try clear q5
                          try clear hx5
                          try clear qi5
                          try clear c6
                          try clear c6b0
                          try clear c6b1
                          try clear c7
                          try clear c9
                          try clear c9b0
                          try clear c10
                          try clear c10b0
                          try clear p11
                          try clear q11
                          try clear hx11
                          try clear hf11
                          try clear c18
                          try clear c18b0
                          try clear c18b1
                          try clear c19
                          try clear c19b0
                          try clear c19b1
                          try clear c20
                          try clear c20b0
                          try clear c21
                          try clear c21b0
                          try clear hx11_0
                          try clear hx556_0
                          try clear hx557_0
                          try clear p1
                          try clear p11
                          try clear p2
                          try clear p556
                          try clear p557
                          try clear q1
                          try clear q11
                          try clear q556
                          try clear q557
                          obtain ⟨x7_2, x8_2, x35_2, rfl, HA, HK2, HO_7, HO_8, HB⟩ := hrel
                          have hl7_2 := (Kd.R_reads' HO_7.out).1
                          rw [hl7_2] at HO_7
                          (try simp only [hl7_2])
                          (try simp only [hl7_2] at HO_8)
                          cases gk with
                          | zero => exact absurd HA.out (by simp [impl_reach.l1])
                          | succ k2 =>
                            have H := HA.out
                            clear HA
                            simp only [impl_reach.l1] at H
                            by_cases c23 : x35_2 < ((rd_L1 l0 (rd x8_1 0)).length : Int)
                            · rw [if_pos c23] at H
                              have c23b0 : decide (x35_2 < ((rd_L1 l0 (rd x8_1 0)).length : Int)) = true := decide_eq_true c23
                              clear c23
                              by_cases c24 : 0 ≤ x35_2
                              · rw [if_pos c24] at H
                                have c24b0 : decide (0 ≤ x35_2) = true := decide_eq_true c24
                                clear c24
                                by_cases c25 : x35_2 < ((rd_L1 l0 (rd x8_1 0)).length : Int)
                                · rw [if_pos c25] at H
                                  have c25b0 : decide (x35_2 < ((rd_L1 l0 (rd x8_1 0)).length : Int)) = true := decide_eq_true c25
                                  clear c25
                                  by_cases c26 : 0 ≤ (rd (rd_L1 l0 (rd x8_1 0)) x35_2)
                                  · rw [if_pos c26] at H
                                    have c26b0 : decide (0 ≤ (rd (rd_L1 l0 (rd x8_1 0)) x35_2)) = true := decide_eq_true c26
                                    clear c26
                                    by_cases c27 : (rd (rd_L1 l0 (rd x8_1 0)) x35_2) < (x7_2.length : Int)
                                    · rw [if_pos c27] at H
                                      have c27b0 : decide ((rd (rd_L1 l0 (rd x8_1 0)) x35_2) < (x7_2.length : Int)) = true := decide_eq_true c27
                                      clear c27
                                      obtain ⟨bq28, hbq28⟩ : ∃ b_ : Bool, b_ = (rdOf false x7_2 (rd (rd_L1 l0 (rd x8_1 0)) x35_2)) := ⟨_, rfl⟩
                                      replace H : (if (bq28 = true) then (impl_reach.l1 k2 l0 a2 x7_2 x8_2 (rd_L1 l0 (rd x8_1 0)) ((rd_L1 l0 (rd x8_1 0)).length : Int) (wrap64 (x35_2 + 1))) else (if (rd (rd_L1 l0 (rd x8_1 0)) x35_2) = a2 then (impl_reach.l1 k2 l0 a2 x7_2 x8_2 (rd_L1 l0 (rd x8_1 0)) ((rd_L1 l0 (rd x8_1 0)).length : Int) (wrap64 (x35_2 + 1))) else (if x8_2.length < 17592186044416 then (impl_reach.l1 k2 l0 a2 (x7_2.set ((rd (rd_L1 l0 (rd x8_1 0)) x35_2) : Int).toNat true) (x8_2 ++ [rd (rd_L1 l0 (rd x8_1 0)) x35_2]) (rd_L1 l0 (rd x8_1 0)) ((rd_L1 l0 (rd x8_1 0)).length : Int) (wrap64 (x35_2 + 1))) else (none)))) = some r := by rw [← hbq28] at H; exact H
                                      have Nbq28 := Aside0.mk hbq28
                                      clear hbq28
                                      by_cases c29 : (bq28 = true)
                                      · subst c29
                                        have H1 : (impl_reach.l1 k2 l0 a2 x7_2 x8_2 (rd_L1 l0 (rd x8_1 0)) ((rd_L1 l0 (rd x8_1 0)).length : Int) (wrap64 (x35_2 + 1))) = some r := by rw [if_pos rfl] at H; exact H
                                        clear H
                                        have H := H1
                                        clear H1
                                        have H' := Aside0.mk H
                                        clear H
                                        have p558 : 0 ≤ (x35_2 : Int) := of_decide_eq_true (by first | (with_reducible assumption) | assumption)
                                        have q558 : x35_2 < ((rd_L1 l0 (rd x8_1 0)).length : Int) := of_decide_eq_true (by first | (with_reducible assumption) | assumption)
                                        obtain ⟨ad558, e558, hx558_0⟩ := Kd.at_int HR557_0.out x35_2 p558 q558
                                        cases e558
                                        replace hx558_0 := (HB.out.cell (World.block_lt_of_cell? w _ hx558_0)).trans hx558_0
                                        replace p558 := eq_true p558
                                        replace q558 := eq_true q558
                                        have p559 : 0 ≤ ((rd (rd_L1 l0 (rd x8_1 0)) x35_2) : Int) := of_decide_eq_true (by first | (with_reducible assumption) | assumption)
                                        have q559 : (rd (rd_L1 l0 (rd x8_1 0)) x35_2) < (x7_2.length : Int) := of_decide_eq_true (by first | (with_reducible assumption) | assumption)
                                        obtain ⟨ad559, e559, hx559_0⟩ := Kd.at_bool (Kd.R_reads' HO_7.out).2.2 (rd (rd_L1 l0 (rd x8_1 0)) x35_2) p559 q559
                                        (try rw [← Nbq28.out] at hx559_0)
                                        obtain rfl : (⟨go11, 0, none⟩ : Addr) = ad559 := (by injection e559)
                                        (first | simp only [add_plain] at hx559_0 | simp only [add_at] at hx559_0 | simp only [Addr.add, Nat.zero_add] at hx559_0 | skip)
                                        replace p559 := eq_true p559
                                        replace q559 := eq_true q559
                                        go_wp2
                                        (try simp only [← hl7_2])
                                        go_roundg k2
                                        case measure => have := HK1.out; have := HK2.out; omega
                                        case rel => exact ⟨(x7_2), (x8_2), (wrap64 (x35_2 + 1)), (by first | rfl | (simp; done) | (simp [*]; done)), H', ⟨by have := HK1.out; have := HK2.out; omega⟩, ⟨by (try simp only [hl7_1]); (try simp only [hl7_2]); (with_reducible repeat (first | apply Kd.R_alloc | apply Kd.R_drewN | apply Kd.R_drew)); exact HO_7.out⟩, ⟨by (try simp only [hl7_1]); (try simp only [hl7_2]); (with_reducible repeat (first | apply Kd.Q_alloc | apply Kd.Q_drewN | apply Kd.Q_drew)); exact HO_8.out⟩, ⟨by repeat (first | (with_reducible first | exact HB.out | apply below_alloc | apply pw_below_drewN | apply below_drew1) | exact HB.out)⟩⟩
                                      · replace c29 := Bool.eq_false_iff.mpr c29
                                        subst c29
                                        have H1 : (if (rd (rd_L1 l0 (rd x8_1 0)) x35_2) = a2 then (impl_reach.l1 k2 l0 a2 x7_2 x8_2 (rd_L1 l0 (rd x8_1 0)) ((rd_L1 l0 (rd x8_1 0)).length : Int) (wrap64 (x35_2 + 1))) else (if x8_2.length < 17592186044416 then (impl_reach.l1 k2 l0 a2 (x7_2.set ((rd (rd_L1 l0 (rd x8_1 0)) x35_2) : Int).toNat true) (x8_2 ++ [rd (rd_L1 l0 (rd x8_1 0)) x35_2]) (rd_L1 l0 (rd x8_1 0)) ((rd_L1 l0 (rd x8_1 0)).length : Int) (wrap64 (x35_2 + 1))) else (none))) = some r := by rw [if_neg (show ¬ (false = true) by decide)] at H; exact H
                                        clear H
                                        have H := H1
                                        clear H1
                                        by_cases c30 : (rd (rd_L1 l0 (rd x8_1 0)) x35_2) = a2
                                        · rw [if_pos c30] at H
                                          have c30b0 : ((rd (rd_L1 l0 (rd x8_1 0)) x35_2) == a2) = true := beq_iff_eq.mpr c30
                                          have c30b1 : ((rd (rd_L1 l0 (rd x8_1 0)) x35_2) != a2) = false := bne_eq_false_iff_eq.mpr c30
                                          clear c30
                                          have H' := Aside0.mk H
                                          clear H
                                          have p558 : 0 ≤ (x35_2 : Int) := of_decide_eq_true (by first | (with_reducible assumption) | assumption)
                                          have q558 : x35_2 < ((rd_L1 l0 (rd x8_1 0)).length : Int) := of_decide_eq_true (by first | (with_reducible assumption) | assumption)
                                          obtain ⟨ad558, e558, hx558_0⟩ := Kd.at_int HR557_0.out x35_2 p558 q558
                                          cases e558
                                          replace hx558_0 := (HB.out.cell (World.block_lt_of_cell? w _ hx558_0)).trans hx558_0
                                          replace p558 := eq_true p558
                                          replace q558 := eq_true q558
                                          have p559 : 0 ≤ ((rd (rd_L1 l0 (rd x8_1 0)) x35_2) : Int) := of_decide_eq_true (by first | (with_reducible assumption) | assumption)
                                          have q559 : (rd (rd_L1 l0 (rd x8_1 0)) x35_2) < (x7_2.length : Int) := of_decide_eq_true (by first | (with_reducible assumption) | assumption)
                                          obtain ⟨ad559, e559, hx559_0⟩ := Kd.at_bool (Kd.R_reads' HO_7.out).2.2 (rd (rd_L1 l0 (rd x8_1 0)) x35_2) p559 q559
                                          (try rw [← Nbq28.out] at hx559_0)
                                          obtain rfl : (⟨go11, 0, none⟩ : Addr) = ad559 := (by injection e559)
                                          (first | simp only [add_plain] at hx559_0 | simp only [add_at] at hx559_0 | simp only [Addr.add, Nat.zero_add] at hx559_0 | skip)
                                          replace p559 := eq_true p559
                                          replace q559 := eq_true q559
                                          go_wp2
                                          (try simp only [← hl7_2])
                                          go_roundg k2
                                          case measure => have := HK1.out; have := HK2.out; omega
                                          case rel => exact ⟨(x7_2), (x8_2), (wrap64 (x35_2 + 1)), (by first | rfl | (simp; done) | (simp [*]; done)), H', ⟨by have := HK1.out; have := HK2.out; omega⟩, ⟨by (try simp only [hl7_1]); (try simp only [hl7_2]); (with_reducible repeat (first | apply Kd.R_alloc | apply Kd.R_drewN | apply Kd.R_drew)); exact HO_7.out⟩, ⟨by (try simp only [hl7_1]); (try simp only [hl7_2]); (with_reducible repeat (first | apply Kd.Q_alloc | apply Kd.Q_drewN | apply Kd.Q_drew)); exact HO_8.out⟩, ⟨by repeat (first | (with_reducible first | exact HB.out | apply below_alloc | apply pw_below_drewN | apply below_drew1) | exact HB.out)⟩⟩
                                        · rw [if_neg c30] at H
                                          have c30b0 : ((rd (rd_L1 l0 (rd x8_1 0)) x35_2) == a2) = false := beq_eq_false_iff_ne.mpr c30
                                          have c30b1 : ((rd (rd_L1 l0 (rd x8_1 0)) x35_2) != a2) = true := bne_iff_ne.mpr c30
                                          obtain ⟨y560, hy560⟩ : ∃ y_ : List Bool, y_ = (x7_2.set ((rd (rd_L1 l0 (rd x8_1 0)) x35_2) : Int).toNat true) := ⟨_, rfl⟩
                                          replace H : (if x8_2.length < 17592186044416 then (impl_reach.l1 k2 l0 a2 y560 (x8_2 ++ [rd (rd_L1 l0 (rd x8_1 0)) x35_2]) (rd_L1 l0 (rd x8_1 0)) ((rd_L1 l0 (rd x8_1 0)).length : Int) (wrap64 (x35_2 + 1))) else (none)) = some r := by first | (rw [hy560]; with_reducible exact H) | (have H2_ := (Option.bind_some _ _).symm.trans H; rw [hy560]; with_reducible exact H2_) | (have H2_ := (Option.bind_some _ _).symm.trans H; with_reducible exact H2_) | with_reducible exact H | (rw [hy560]; exact H) | exact H
                                          have Ny560 := Aside0.mk hy560
                                          clear hy560
                                          by_cases c32 : x8_2.length < 17592186044416
                                          · rw [if_pos c32] at H
                                            have LMc32 := Aside0.mk c32
                                            clear c32
                                            obtain ⟨y561, hy561⟩ : ∃ y_ : List Int, y_ = (x8_2 ++ [rd (rd_L1 l0 (rd x8_1 0)) x35_2]) := ⟨_, rfl⟩
                                            replace H : (impl_reach.l1 k2 l0 a2 y560 y561 (rd_L1 l0 (rd x8_1 0)) ((rd_L1 l0 (rd x8_1 0)).length : Int) (wrap64 (x35_2 + 1))) = some r := by first | (rw [hy561]; with_reducible exact H) | (have H2_ := (Option.bind_some _ _).symm.trans H; rw [hy561]; with_reducible exact H2_) | (have H2_ := (Option.bind_some _ _).symm.trans H; with_reducible exact H2_) | with_reducible exact H | (rw [hy561]; exact H) | exact H
                                            have Ny561 := Aside0.mk hy561
                                            clear hy561
                                            have H' := Aside0.mk H
                                            clear H
                                            have p558 : 0 ≤ (x35_2 : Int) := of_decide_eq_true (by first | (with_reducible assumption) | assumption)
                                            have q558 : x35_2 < ((rd_L1 l0 (rd x8_1 0)).length : Int) := of_decide_eq_true (by first | (with_reducible assumption) | assumption)
                                            obtain ⟨ad558, e558, hx558_0⟩ := Kd.at_int HR557_0.out x35_2 p558 q558
                                            cases e558
                                            replace hx558_0 := (HB.out.cell (World.block_lt_of_cell? w _ hx558_0)).trans hx558_0
                                            replace p558 := eq_true p558
                                            replace q558 := eq_true q558
                                            have p559 : 0 ≤ ((rd (rd_L1 l0 (rd x8_1 0)) x35_2) : Int) := of_decide_eq_true (by first | (with_reducible assumption) | assumption)
                                            have q559 : (rd (rd_L1 l0 (rd x8_1 0)) x35_2) < (x7_2.length : Int) := of_decide_eq_true (by first | (with_reducible assumption) | assumption)
                                            obtain ⟨ad559, e559, hx559_0⟩ := Kd.at_bool (Kd.R_reads' HO_7.out).2.2 (rd (rd_L1 l0 (rd x8_1 0)) x35_2) p559 q559
                                            (try rw [← Nbq28.out] at hx559_0)
                                            obtain rfl : (⟨go11, 0, none⟩ : Addr) = ad559 := (by injection e559)
                                            (first | simp only [add_plain] at hx559_0 | simp only [add_at] at hx559_0 | simp only [Addr.add, Nat.zero_add] at hx559_0 | skip)
                                            replace p559 := eq_true p559
                                            replace q559 := eq_true q559
                                            have p31 : 0 ≤ ((rd (rd_L1 l0 (rd x8_1 0)) x35_2) : Int) := of_decide_eq_true (by first | (with_reducible assumption) | assumption)
                                            have q31 : ((rd (rd_L1 l0 (rd x8_1 0)) x35_2) : Int) < ((x7_2.length : Int) : Int) := of_decide_eq_true (by first | (with_reducible assumption) | assumption)
                                            obtain ⟨hx31_0, hf31_0⟩ := Kd.R_celln false HO_7.out ((rd (rd_L1 l0 (rd x8_1 0)) x35_2) : Int) p31 q31
                                            replace p31 := eq_true p31
                                            replace q31 := eq_true q31
                                            have HP33 := Kd.R_putg HO_7.out ((rd (rd_L1 l0 (rd x8_1 0)) x35_2) : Int) true
                                            go_wp2_with (first | ((with_reducible refine gate_store (t := 4) (p := 51) rfl ?_); refine store_event (t := 4) (p := 51) (v := ?vo_w34) (w1 := (wr.setCell ⟨go11, ((rd (rd_L1 l0 (rd x8_1 0)) x35_2) : Int).toNat, none⟩ (.bool true))) ?hg ?ho ?hn ?hr ?_; (case ho => rfl); (case hg => rfl); (case hn => rfl); (case hr => first | (go_simp; done) | (go_simp; rfl)); intro w34 hw; have hg : wr.grownBy w34 (some go11) := (by rw [hw]; exact HP33.2); have hp_ : Kd.R Kd.bool 4 w34 w.heap.size (fun _ => True) (.slice (some ⟨go11, 0, none⟩) x7_2.length co11) y560 := (by rw [hw, Ny560.out]; exact HP33.1); clear HP33; have n0_ := Aside0.mk (hp_); have n1_ := Aside0.mk (Kd.Q_over' (v := (.slice (some ⟨go11, 0, none⟩) x7_2.length co11)) (by (with_reducible repeat (first | apply Kd.Q_alloc | apply Kd.Q_drewN | apply Kd.Q_drew)); exact HO_8.out) (Kd.R_typed HO_7.out) (by decide) hg); have n2_ := Aside0.mk ((by rw [hw]; exact below_set (HB.out) GB11.out : Below w.heap.size w w34)); clear HO_7; clear HO_8; clear HB; have HO_7 := n0_; have HO_8 := n1_; have HB := n2_; clear n0_ n1_ n2_; clear hg hw hp_) | ((with_reducible refine gate_builtin (b := .append) (xs := #[.tmp 52, .tmp 54]) rfl ?_); at_builtin; refine Kd.Q_append (Kd.int .i64) (w0 := w) w.heap.size rfl (.tmp 52) (.tmp 54) 34 3 (.int .i64 0) 8 rfl Try.underlying34 info3 rfl (by decide) (by omega) u8 x8_2 (rd (rd_L1 l0 (rd x8_1 0)) x35_2) [.int .i64 (rd (rd_L1 l0 (rd x8_1 0)) x35_2)] (fun _ => True) (fun _ => False) rfl rfl ?aP (fun _ hk => hk.elim) ?aF ?aO ?aB ?aS ?aL ?_; (case aP => exact rfl); (case aB => exact (by repeat (first | (with_reducible first | exact HB.out | apply below_alloc | apply pw_below_drewN | apply below_drew1) | exact HB.out))); (case aF => exact (fun _ _ => trivial)); (case aO => exact (by (with_reducible repeat (first | apply Kd.Q_alloc | apply Kd.Q_drewN | apply Kd.Q_drew)); exact HO_8.out)); (case aS => exact (below_size (by repeat (first | (with_reducible first | exact HB.out | apply below_alloc | apply pw_below_drewN | apply below_drew1) | exact HB.out)))); (case aL => have := LMc32.out; omega); intro v562 w35 ho hb hg hat; rw [← Ny561.out] at ho; have n0_ := Aside0.mk (Kd.R_over' (by (with_reducible repeat (first | apply Kd.R_alloc | apply Kd.R_drewN | apply Kd.R_drew)); exact HO_7.out) (Kd.Q_typed (by (with_reducible repeat (first | apply Kd.Q_alloc | apply Kd.Q_drewN | apply Kd.Q_drew)); exact HO_8.out)) (by decide) hg); have n1_ := Aside0.mk (hb); have n2_ := Aside0.mk (ho); clear HO_7; clear HB; clear HO_8; have HO_7 := n0_; have HB := n1_; have HO563 := n2_; clear n0_ n1_ n2_; clear ho hb hg hat))
                                            (try simp only [← hl7_2])
                                            go_roundg k2
                                            case measure => have := HK1.out; have := HK2.out; omega
                                            case rel => exact ⟨(y560), (y561), (wrap64 (x35_2 + 1)), (by first | rfl | (simp; done) | (simp [*]; done)), H', ⟨by have := HK1.out; have := HK2.out; omega⟩, ⟨by (try simp only [hl7_1]); (try simp only [hl7_2]); (with_reducible repeat (first | apply Kd.R_alloc | apply Kd.R_drewN | apply Kd.R_drew)); exact HO_7.out⟩, ⟨by (try simp only [hl7_1]); (try simp only [hl7_2]); (with_reducible repeat (first | apply Kd.Q_alloc | apply Kd.Q_drewN | apply Kd.Q_drew)); exact HO563.out⟩, ⟨by repeat (first | (with_reducible first | exact HB.out | apply below_alloc | apply pw_below_drewN | apply below_drew1) | exact HB.out)⟩⟩
                                          · rw [if_neg c32] at H
                                            exact absurd H (by simp)
                                    · rw [if_neg c27] at H
                                      exact absurd H (by simp)
                                  · rw [if_neg c26] at H
                                    exact absurd H (by simp)
                                · rw [if_neg c25] at H
                                  exact absurd H (by simp)
                              · rw [if_neg c24] at H
                                exact absurd H (by simp)
                            · rw [if_neg c23] at H
                              have c23b0 : decide (x35_2 < ((rd_L1 l0 (rd x8_1 0)).length : Int)) = false := decide_eq_false c23
                              clear c23
                              by_cases c36 : 1 ≤ (x8_2.length : Int)
                              · rw [if_pos c36] at H
                                have c36b0 := eq_true c36
                                have c36b1 : decide (1 ≤ (x8_2.length : Int)) = true := decide_eq_true c36
                                clear c36
                                obtain ⟨y564, hy564⟩ : ∃ y_ : List Int, y_ = (x8_2.drop (1 : Int).toNat) := ⟨_, rfl⟩
                                replace H : (impl_reach.l0 k2 l0 a2 x7_2 y564) = some r := by first | (rw [hy564]; with_reducible exact H) | (have H2_ := (Option.bind_some _ _).symm.trans H; rw [hy564]; with_reducible exact H2_) | (have H2_ := (Option.bind_some _ _).symm.trans H; with_reducible exact H2_) | with_reducible exact H | (rw [hy564]; exact H) | exact H
                                have Ny564 := Aside0.mk hy564
                                clear hy564
                                have H' := Aside0.mk H
                                clear H
                                obtain ⟨Ao37, co37, eo37, _⟩ := Kd.Q_slice HO_8.out
                                subst eo37
                                have q38 : (1 : Int) ≤ ((x8_2.length : Int) : Int) := of_decide_eq_true (by first | (with_reducible assumption) | assumption)
                                obtain ⟨i038, hi038, _, hsz38, _⟩ := info_parts info3
                                have hcut38 := cut_from (P := Try.prog) 34 3 .i64 Try.underlying34 hi038 1 hsz38 Ao37 x8_2.length co37 1 (by omega) q38
                                have hr38 := Kd.Q_drop (k := (1 : Int).toNat) HO_8.out (by omega)
                                obtain ⟨A38, hA38⟩ : ∃ A1, A1 = (if co37 = (1 : Int).toNat then Ao37 else (Ao37 : Option Addr).map (·.add ((1 : Int).toNat * 1))) := ⟨_, rfl⟩
                                obtain ⟨c38, hc38⟩ : ∃ c1, c1 = co37 - (1 : Int).toNat := ⟨_, rfl⟩
                                have hy38 : y564.length = x8_2.length - (1 : Int).toNat := (by rw [Ny564.out, List.length_drop])
                                rw [← Ny564.out] at hr38
                                rw [← hy38, ← hA38, ← hc38] at hcut38
                                replace hr38 : Kd.Q (Kd.int .i64) 3 wr w.heap.size (fun _ => True) (.slice A38 y564.length c38) y564 := (by rw [hA38, hc38, hy38]; exact hr38)
                                have HE38 : Aside0 ((Value.slice A38 y564.length c38).ownBlock = (.slice Ao37 x8_2.length co37 : Value).ownBlock) := ⟨by rw [hA38]; split <;> (cases (Ao37 : Option Addr) <;> rfl)⟩
                                clear hy38 hi038 hsz38 HO_8 hA38 hc38
                                have HO566 := Aside0.mk hr38
                                clear hr38
                                replace q38 := eq_true q38
                                go_wp2
                                (try simp only [← hl7_1, ← hl7_2])
                                go_roundg k2
                                case measure => have := HK1.out; have := HK2.out; omega
                                case rel => exact ⟨(x7_2), (y564), H', ⟨by have := HK1.out; have := HK2.out; omega⟩, ⟨by (try simp only [hl7_1]); (try simp only [hl7_2]); (with_reducible repeat (first | apply Kd.R_alloc | apply Kd.R_drewN | apply Kd.R_drew)); exact HO_7.out⟩, ⟨by (try simp only [hl7_1]); (try simp only [hl7_2]); (with_reducible repeat (first | apply Kd.Q_alloc | apply Kd.Q_drewN | apply Kd.Q_drew)); exact HO566.out⟩, ⟨by repeat (first | (with_reducible first | exact HB.out | apply below_alloc | apply pw_below_drewN | apply below_drew1) | exact HB.out)⟩⟩
                              · rw [if_neg c36] at H
                                exact absurd H (by simp)
                      · rw [if_neg c21] at H
                        exact absurd H (by simp)
                    · rw [if_neg c20] at H
                      exact absurd H (by simp)
                  · rw [if_neg c19] at H
                    exact absurd H (by simp)
                · rw [if_neg c18] at H
                  have c18b0 : decide (0 < (x8_1.length : Int)) = false := decide_eq_false c18
                  have c18b1 : decide (0 < x8_1.length) = false := decide_eq_false (by omega)
                  clear c18
                  obtain rfl := Option.some.inj H
                  obtain ⟨Ao39, co39, eo39, _⟩ := Kd.Q_slice HO_8.out
                  subst eo39
                  go_wp2
                  go_ret
                  exact ⟨_, by first | rfl | (simp [errW_none, errW_some] <;> rfl) | (simp [*, errW_none, errW_some] <;> rfl), by (with_reducible repeat (first | apply Kd.R_alloc | apply Kd.R_drewN | apply Kd.R_drew)); exact HO_7.out, by repeat (first | (with_reducible first | exact HB.out | apply below_alloc | apply pw_below_drewN | apply below_drew1) | exact HB.out)⟩
          · rw [if_neg c10] at H
            exact absurd H (by simp)
        · rw [if_neg c9] at H
          exact absurd H (by simp)
    · rw [if_neg c5] at H
      exact absurd H (by simp)
  · rw [if_neg c4] at H
    exact absurd H (by simp)



/-! ### impl_listOf: function 72 -/
def impl_listOf.l0 : Nat → List Int → List Bool → Int → Int → Option (List Int)
  | 0, _, _, _, _ => none
  | k + 1, x3, x7, x8, x9 => if x9 < x8 then (if 0 ≤ x9 then (if x9 < (x7.length : Int) then (if rdOf false x7 x9 = true then (if x3.length < 17592186044416 then (impl_listOf.l0 k (x3 ++ [x9]) x7 x8 (wrap64 (x9 + 1))) else (none)) else (impl_listOf.l0 k x3 x7 x8 (wrap64 (x9 + 1)))) else (none)) else (none)) else (some x3)
def impl_listOf.f (k : Nat) (l0 : List Bool) : Option (List Int) := impl_listOf.l0 k (([] : List Int)) l0 (l0.length : Int) 0
set_option maxHeartbeats 8000000 in
set_option maxRecDepth 100000 in
theorem impl_listOf.calls (k : Nat) (A0 : Option Addr) (c0 : Nat) (l0 : List Bool) (r : List Int) (w : World) (hr0 : Kd.C Kd.bool w A0 l0.length l0) (hc0 : l0.length ≤ c0) (h : impl_listOf.f k l0 = some r) :
    Calls Try.prog 72 #[.slice A0 l0.length c0] w fun e w' => ∃ v0_ : Value, e = .returned (v0_) ∧ Kd.R (Kd.int .i64) 3 w' w.heap.size (fun _ => True) v0_ r ∧ Below w.heap.size w w' := by
  have HR0 := Aside0.mk hr0
  have HC0 := Aside0.mk hc0
  clear hr0 hc0
  have HB := Aside0.mk (Below.refl w.heap.size w)
  have H : (impl_listOf.l0 k (([] : List Int)) l0 (l0.length : Int) 0) = some r := h
  clear h
  obtain ⟨y542, hy542⟩ : ∃ y_ : List Int, y_ = (([] : List Int)) := ⟨_, rfl⟩
  replace H : (impl_listOf.l0 k y542 l0 (l0.length : Int) 0) = some r := by first | (rw [hy542]; with_reducible exact H) | (have H2_ := (Option.bind_some _ _).symm.trans H; rw [hy542]; with_reducible exact H2_) | (have H2_ := (Option.bind_some _ _).symm.trans H; with_reducible exact H2_) | with_reducible exact H | (rw [hy542]; exact H) | exact H
  have Ny542 := Aside0.mk hy542
  clear hy542
  have H' := Aside0.mk H
  clear H
  go_enter Try.func72, Try.ntmps72
  go_wp2_with (first | ((with_reducible refine gate_dst (N := 6) rfl ?_); refine Kd.R_lit (Kd.int .i64) _ 3 ?hg (N := 6) ?hd (xs := ([] : List Int)) (inner := []) (ok := fun _ => True) (okp := fun _ => True) ?hr ?hp (fun _ hk => hk) trivial (Below.refl _ _) (Nat.le_refl _) (by simp) ?_; (case hd => rfl); (case hg => rfl); (case hr => first | (go_simp; done) | (go_simp; rfl)); (case hp => exact (Reps.none _ _)); intro v543 w2 ho3 hb hg_ hnew_; clear hg_ hnew_; (first | rw [← Ny542.out] at ho3 | (simp only [Int.reduceToNat] at ho3; rw [← Ny542.out] at ho3)); have n0_ := Aside0.mk (Kd.R_lower ho3 (below_size (by repeat (first | (with_reducible first | exact HB.out | apply below_alloc | apply pw_below_drewN | apply below_drew1) | exact HB.out)))); have n1_ := Aside0.mk (below_step (by repeat (first | (with_reducible first | exact HB.out | apply below_alloc | apply pw_below_drewN | apply below_drew1) | exact HB.out)) hb); clear HB; have HO544 := n0_; have HB := n1_; clear n0_ n1_; clear hb ho3))
  go_loopg [3, 9] k (fun kq v3 v9 w' => ∃ (x3_1 : List Int) (x9_1 : Int), v9 = .int .i64 x9_1 ∧ Aside0 (impl_listOf.l0 kq x3_1 l0 (l0.length : Int) x9_1 = some r) ∧ Aside0 (kq ≤ k) ∧ Aside0 (Kd.R (Kd.int .i64) 3 w' w.heap.size (fun _ => True) v3 x3_1) ∧ Aside0 (Below w.heap.size w w'))
  case atStart => exact ⟨(y542), (0), (by first | rfl | (simp; done) | (simp [*]; done)), H', ⟨Nat.le_refl _⟩, ⟨by (with_reducible repeat (first | apply Kd.R_alloc | apply Kd.R_drewN | apply Kd.R_drew)); exact HO544.out⟩, ⟨by repeat (first | (with_reducible first | exact HB.out | apply below_alloc | apply pw_below_drewN | apply below_drew1) | exact HB.out)⟩⟩
  case round =>
    clear H'
    try clear p2
    obtain ⟨x3_1, x9_1, rfl, HA, HK1, HO_3, HB⟩ := hrel
    cases gk with
    | zero => exact absurd HA.out (by simp [impl_listOf.l0])
    | succ k1 =>
      have H := HA.out
      clear HA
      simp only [impl_listOf.l0] at H
      by_cases c4 : x9_1 < (l0.length : Int)
      · rw [if_pos c4] at H
        have c4b0 : decide (x9_1 < (l0.length : Int)) = true := decide_eq_true c4
        clear c4
        by_cases c5 : 0 ≤ x9_1
        · rw [if_pos c5] at H
          have c5b0 : decide (0 ≤ x9_1) = true := decide_eq_true c5
          clear c5
          by_cases c6 : x9_1 < (l0.length : Int)
          · rw [if_pos c6] at H
            have c6b0 : decide (x9_1 < (l0.length : Int)) = true := decide_eq_true c6
            clear c6
            obtain ⟨bq7, hbq7⟩ : ∃ b_ : Bool, b_ = (rdOf false l0 x9_1) := ⟨_, rfl⟩
            replace H : (if bq7 = true then (if x3_1.length < 17592186044416 then (impl_listOf.l0 k1 (x3_1 ++ [x9_1]) l0 (l0.length : Int) (wrap64 (x9_1 + 1))) else (none)) else (impl_listOf.l0 k1 x3_1 l0 (l0.length : Int) (wrap64 (x9_1 + 1)))) = some r := by rw [← hbq7] at H; exact H
            have Nbq7 := Aside0.mk hbq7
            clear hbq7
            by_cases c8 : bq7 = true
            · subst c8
              have H1 : (if x3_1.length < 17592186044416 then (impl_listOf.l0 k1 (x3_1 ++ [x9_1]) l0 (l0.length : Int) (wrap64 (x9_1 + 1))) else (none)) = some r := by rw [if_pos rfl] at H; exact H
              clear H
              have H := H1
              clear H1
              by_cases c9 : x3_1.length < 17592186044416
              · rw [if_pos c9] at H
                have LMc9 := Aside0.mk c9
                clear c9
                obtain ⟨y546, hy546⟩ : ∃ y_ : List Int, y_ = (x3_1 ++ [x9_1]) := ⟨_, rfl⟩
                replace H : (impl_listOf.l0 k1 y546 l0 (l0.length : Int) (wrap64 (x9_1 + 1))) = some r := by first | (rw [hy546]; with_reducible exact H) | (have H2_ := (Option.bind_some _ _).symm.trans H; rw [hy546]; with_reducible exact H2_) | (have H2_ := (Option.bind_some _ _).symm.trans H; with_reducible exact H2_) | with_reducible exact H | (rw [hy546]; exact H) | exact H
                have Ny546 := Aside0.mk hy546
                clear hy546
                have H' := Aside0.mk H
                clear H
                have p545 : 0 ≤ (x9_1 : Int) := of_decide_eq_true (by first | (with_reducible assumption) | assumption)
                have q545 : x9_1 < (l0.length : Int) := of_decide_eq_true (by first | (with_reducible assumption) | assumption)
                obtain ⟨ad545, e545, hx545_0⟩ := Kd.at_bool HR0.out x9_1 p545 q545
                (try rw [← Nbq7.out] at hx545_0)
                cases e545
                replace hx545_0 := (HB.out.cell (World.block_lt_of_cell? w _ hx545_0)).trans hx545_0
                replace p545 := eq_true p545
                replace q545 := eq_true q545
                go_wp2_with (first | ((with_reducible refine gate_builtin (b := .append) (xs := #[.tmp 15, .tmp 17]) rfl ?_); at_builtin; refine Kd.R_append (Kd.int .i64) (w0 := w) w.heap.size rfl (.tmp 15) (.tmp 17) 34 3 (.int .i64 0) 8 rfl Try.underlying34 info3 rfl (by decide) (by omega) u3 x3_1 x9_1 [.int .i64 x9_1] (fun _ => True) (fun _ => False) rfl rfl ?aP (fun _ hk => hk.elim) ?aF ?aO ?aB ?aS ?aL ?_; (case aP => exact rfl); (case aB => exact (by repeat (first | (with_reducible first | exact HB.out | apply below_alloc | apply pw_below_drewN | apply below_drew1) | exact HB.out))); (case aF => exact (fun _ _ => trivial)); (case aO => exact (by (with_reducible repeat (first | apply Kd.R_alloc | apply Kd.R_drewN | apply Kd.R_drew)); exact HO_3.out)); (case aS => exact (below_size (by repeat (first | (with_reducible first | exact HB.out | apply below_alloc | apply pw_below_drewN | apply below_drew1) | exact HB.out)))); (case aL => have := LMc9.out; omega); intro v547 w10 ho hb hg hat; rw [← Ny546.out] at ho; have n0_ := Aside0.mk (hb); have n1_ := Aside0.mk (ho); clear HB; clear HO_3; have HB := n0_; have HO548 := n1_; clear n0_ n1_; clear ho hb hg hat))
                go_roundg k1
                case measure => have := HK1.out; omega
                case rel => exact ⟨(y546), (wrap64 (x9_1 + 1)), (by first | rfl | (simp; done) | (simp [*]; done)), H', ⟨by have := HK1.out; omega⟩, ⟨by (with_reducible repeat (first | apply Kd.R_alloc | apply Kd.R_drewN | apply Kd.R_drew)); exact HO548.out⟩, ⟨by repeat (first | (with_reducible first | exact HB.out | apply below_alloc | apply pw_below_drewN | apply below_drew1) | exact HB.out)⟩⟩
              · rw [if_neg c9] at H
                exact absurd H (by simp)
            · replace c8 := Bool.eq_false_iff.mpr c8
              subst c8
              have H1 : (impl_listOf.l0 k1 x3_1 l0 (l0.length : Int) (wrap64 (x9_1 + 1))) = some r := by rw [if_neg (show ¬ (false = true) by decide)] at H; exact H
              clear H
              have H := H1
              clear H1
              have H' := Aside0.mk H
              clear H
              have p545 : 0 ≤ (x9_1 : Int) := of_decide_eq_true (by first | (with_reducible assumption) | assumption)
              have q545 : x9_1 < (l0.length : Int) := of_decide_eq_true (by first | (with_reducible assumption) | assumption)
              obtain ⟨ad545, e545, hx545_0⟩ := Kd.at_bool HR0.out x9_1 p545 q545
              (try rw [← Nbq7.out] at hx545_0)
              cases e545
              replace hx545_0 := (HB.out.cell (World.block_lt_of_cell? w _ hx545_0)).trans hx545_0
              replace p545 := eq_true p545
              replace q545 := eq_true q545
              go_wp2
              go_roundg k1
              case measure => have := HK1.out; omega
              case rel => exact ⟨(x3_1), (wrap64 (x9_1 + 1)), (by first | rfl | (simp; done) | (simp [*]; done)), H', ⟨by have := HK1.out; omega⟩, ⟨by (with_reducible repeat (first | apply Kd.R_alloc | apply Kd.R_drewN | apply Kd.R_drew)); exact HO_3.out⟩, ⟨by repeat (first | (with_reducible first | exact HB.out | apply below_alloc | apply pw_below_drewN | apply below_drew1) | exact HB.out)⟩⟩
          · rw [if_neg c6] at H
            exact absurd H (by simp)
        · rw [if_neg c5] at H
          exact absurd H (by simp)
      · rw [if_neg c4] at H
        have c4b0 : decide (x9_1 < (l0.length : Int)) = false := decide_eq_false c4
        clear c4
        obtain rfl := Option.some.inj H
        go_wp2
        go_ret
        exact ⟨_, by first | rfl | (simp [errW_none, errW_some] <;> rfl) | (simp [*, errW_none, errW_some] <;> rfl), by (with_reducible repeat (first | apply Kd.R_alloc | apply Kd.R_drewN | apply Kd.R_drew)); exact HO_3.out, by repeat (first | (with_reducible first | exact HB.out | apply below_alloc | apply pw_below_drewN | apply below_drew1) | exact HB.out)⟩

end Go.Proofs.Ytghlbhijkhkgkaa.PA
