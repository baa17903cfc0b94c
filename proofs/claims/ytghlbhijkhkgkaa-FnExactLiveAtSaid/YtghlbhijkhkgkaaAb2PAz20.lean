/- Printed by the kit's print over surrogate texts, turned by this session -/
import Derived.Test.YtghlbhijkhkgkaaAb2PAz19
import Derived.Test.YtghlbhijkhkgkaaAb2Mj
import Derived.Test.YtghlbhijkhkgkaaAb2PAx2
import Derived.Test.YtghlbhijkhkgkaaAb2PAz1
namespace Go.Proofs.Ytghlbhijkhkgkaa.PA
open Go.RowKit Go.Proofs.YtghlbhijkhkgkaaW.PrintWords Go.Proofs.YtghlbhijkhkgkaaW.PrintLast Go.Proofs.YtghlbhijkhkgkaaW.PrintMore
attribute [local go_sem] max2_int min2_int max_two min_two max_three min_three max_four min_four   -- for this text's walks alone
set_option linter.unusedVariables false
set_option linter.unusedSimpArgs false

theorem has_not {k : Nat} {l : List Int} {v : Int} (hm : l.length ≤ 9223372036854775807) (h : spec_l1Has.f k l v = some false) : v ∉ l := by
  have key : ∀ (k i : Nat), i ≤ l.length → spec_l1Has.l0 k v l (l.length : Int) (i : Int) = some false → v ∉ l.drop i := by
    intro k
    induction k with
    | zero => intro i _ h; simp [spec_l1Has.l0] at h
    | succ k ih =>
      intro i hi h
      by_cases q : i < l.length
      · simp only [spec_l1Has.l0] at h
        rw [if_pos (by omega), if_pos (by omega), if_pos (by omega)] at h
        split at h
        · cases h
        · rename_i hne
          rw [show wrap64 ((i : Int) + 1) = ((i + 1 : Nat) : Int) by unfold wrap64; omega] at h
          have := ih (i + 1) (by omega) h
          rw [List.drop_eq_getElem_cons q, List.mem_cons]
          rintro (rfl | h2)
          · exact hne (by simp [rd, List.getD_eq_getElem?_getD, List.getElem?_eq_getElem q])
          · exact this h2
      · rw [List.drop_of_length_le (by omega)]; simp
  simpa using key k 0 (Nat.zero_le _) h
/-! ### spec_l14Live: function 86 -/
mutual
def spec_l14Live.l0 : Nat → List (List Int) → Bool → Int → List (S87) → Option ((List (List Int)))
  | 0, _, _, _, _ => none
  | k + 1, x3, x4, x301000, x301001 => if x4 = true then (spec_l14Live.l1 k x3 false x301001 (x301001.length : Int) 0 x301000 x301001) else (some x3)
def spec_l14Live.l1 : Nat → List (List Int) → Bool → List (S87) → Int → Int → Int → List (S87) → Option ((List (List Int)))
  | 0, _, _, _, _, _, _, _ => none
  | k + 1, x3, x4, x20, x21, x22, x301000, x301001 => if x22 < x21 then (if 0 ≤ x22 then (if x22 < (x20.length : Int) then ((spec_l14End.f k ((rd_T87 x20 x22).f0) ((rd_T87 x20 x22).f1) ((rd_T87 x20 x22).f2) ((rd_T87 x20 x22).f3) ((rd_T87 x20 x22).f4)).bind fun t306 => (spec_l14Live.l2 k x3 x4 x22 t306 x20 x21 x22 ((rd_T87 x20 x22).f1) (((rd_T87 x20 x22).f1).length : Int) 0 x301000 x301001)) else (none)) else (none)) else (spec_l14Live.l0 k x3 x4 x301000 x301001)
def spec_l14Live.l2 : Nat → List (List Int) → Bool → Int → List Int → List (S87) → Int → Int → List (S89) → Int → Int → Int → List (S87) → Option ((List (List Int)))
  | 0, _, _, _, _, _, _, _, _, _, _, _, _ => none
  | k + 1, x3, x4, x5, x7, x20, x21, x22, x30, x31, x32, x301000, x301001 => if x32 < x31 then (if 0 ≤ x32 then (if x32 < (x30.length : Int) then (if x7.length + ((rd_T89 x30 x32).f2).length < 17592186044416 then (spec_l14Live.l2 k x3 x4 x5 (x7 ++ ((rd_T89 x30 x32).f2)) x20 x21 x22 x30 x31 (wrap64 (x32 + 1)) x301000 x301001) else (none)) else (none)) else (none)) else ((spec_l13Next.f k x301000 x301001 x5).bind fun t314 => (spec_l14Live.l3 k x3 x4 x5 x7 x20 x21 x22 t314 (t314.length : Int) 0 x301000 x301001))
def spec_l14Live.l3 : Nat → List (List Int) → Bool → Int → List Int → List (S87) → Int → Int → List Int → Int → Int → Int → List (S87) → Option ((List (List Int)))
  | 0, _, _, _, _, _, _, _, _, _, _, _, _ => none
  | k + 1, x3, x4, x5, x7, x20, x21, x22, x43, x44, x45, x301000, x301001 => if x45 < x44 then (if 0 ≤ x45 then (if x45 < (x43.length : Int) then (if 0 ≤ (rd x43 x45) then (if (rd x43 x45) < (x3.length : Int) then (if x7.length + (rd_L1 x3 (rd x43 x45)).length < 17592186044416 then (spec_l14Live.l3 k x3 x4 x5 (x7 ++ (rd_L1 x3 (rd x43 x45))) x20 x21 x22 x43 x44 (wrap64 (x45 + 1)) x301000 x301001) else (none)) else (none)) else (none)) else (none)) else (none)) else (spec_l14Live.l4 k x3 x4 x5 x20 x21 x22 x7 (x7.length : Int) 0 x301000 x301001)
def spec_l14Live.l4 : Nat → List (List Int) → Bool → Int → List (S87) → Int → Int → List Int → Int → Int → Int → List (S87) → Option ((List (List Int)))
  | 0, _, _, _, _, _, _, _, _, _, _, _ => none
  | k + 1, x3, x4, x5, x20, x21, x22, x56, x57, x58, x301000, x301001 => if x58 < x57 then (if 0 ≤ x58 then (if x58 < (x56.length : Int) then ((spec_l14Block.f k x301000 x301001 (rd x56 x58)).bind fun t323 => (if t323 = x5 then (spec_l14Live.l4 k x3 x4 x5 x20 x21 x22 x56 x57 (wrap64 (x58 + 1)) x301000 x301001) else (if 0 ≤ x5 then (if x5 < (x3.length : Int) then ((spec_l1Has.f k (rd_L1 x3 x5) (rd x56 x58)).bind fun t325 => (if t325 = true then (spec_l14Live.l4 k x3 x4 x5 x20 x21 x22 x56 x57 (wrap64 (x58 + 1)) x301000 x301001) else ((newPut.f k (rd_L1 x3 x5) (rd x56 x58)).bind fun t327 => (spec_l14Live.l4 k (x3.set (x5 : Int).toNat t327) true x5 x20 x21 x22 x56 x57 (wrap64 (x58 + 1)) x301000 x301001)))) else (none)) else (none)))) else (none)) else (none)) else (spec_l14Live.l1 k x3 x4 x20 x21 (wrap64 (x22 + 1)) x301000 x301001)
end
def spec_l14Live.f (k : Nat) (a0_0 : Int) (l0_1 : List (S87)) : Option ((List (List Int))) := if 0 ≤ (l0_1.length : Int) then (if ((l0_1.length : Int) : Int).toNat ≤ 11728124029610 then (spec_l14Live.l0 k (List.replicate ((l0_1.length : Int) : Int).toNat []) true a0_0 l0_1) else (none)) else (none)
set_option maxHeartbeats 8000000 in
set_option maxRecDepth 100000 in
theorem spec_l14Live.calls (k : Nat) (a0_0 : Int) (A0_1 : Option Addr) (c0_1 : Nat) (l0_1 : List (S87)) (r : List (List Int)) (w : World) (hr0_1 : Kd.C k87 w A0_1 l0_1.length l0_1) (hc0_1 : l0_1.length ≤ c0_1) (h : spec_l14Live.f k a0_0 l0_1 = some r) :
    Calls Try.prog 86 #[.agg #[.int .i64 a0_0, .slice A0_1 l0_1.length c0_1]] w fun e w' => ∃ v0_ : Value, e = .returned (v0_) ∧ Kd.S (Kd.slice 3 (Kd.int .i64)) 34 w' w.heap.size (fun _ => True) v0_ r ∧ Below w.heap.size w w' := by
  have hu30 := Try.underlying30
  have hu87 := Try.underlying87
  have hu89 := Try.underlying89
  have HR0_1 := Aside0.mk hr0_1
  have HC0_1 := Aside0.mk hc0_1
  clear hr0_1 hc0_1
  have HB := Aside0.mk (Below.refl w.heap.size w)
  have H : (if 0 ≤ (l0_1.length : Int) then (if ((l0_1.length : Int) : Int).toNat ≤ 11728124029610 then (spec_l14Live.l0 k (List.replicate ((l0_1.length : Int) : Int).toNat []) true a0_0 l0_1) else (none)) else (none)) = some r := h
  clear h
  by_cases c2 : 0 ≤ (l0_1.length : Int)
  · rw [if_pos c2] at H
    have c2b0 := eq_true c2
    have c2b1 : decide (0 ≤ (l0_1.length : Int)) = true := decide_eq_true c2
    clear c2
    by_cases c3 : ((l0_1.length : Int) : Int).toNat ≤ 11728124029610
    · rw [if_pos c3] at H
      have c3b0 := eq_true c3
      have c3b1 : decide (((l0_1.length : Int) : Int).toNat ≤ 11728124029610) = true := decide_eq_true c3
      clear c3
      obtain ⟨y301, hy301⟩ : ∃ y_ : List (List Int), y_ = (List.replicate ((l0_1.length : Int) : Int).toNat []) := ⟨_, rfl⟩
      replace H : (spec_l14Live.l0 k y301 true a0_0 l0_1) = some r := by first | (rw [hy301]; with_reducible exact H) | (have H2_ := (Option.bind_some _ _).symm.trans H; rw [hy301]; with_reducible exact H2_) | (have H2_ := (Option.bind_some _ _).symm.trans H; with_reducible exact H2_) | with_reducible exact H | (rw [hy301]; exact H) | exact H
      have Ny301 := Aside0.mk hy301
      clear hy301
      have H' := Aside0.mk H
      clear H
      go_enter Try.func86, Try.ntmps86
      go_wp2_with (first | ((with_reducible refine gate_dst (N := 1) rfl ?_); refine box_event ?hg (N := 1) ?hd (cs := #[.int .i64 a0_0, .slice A0_1 l0_1.length c0_1]) (t := 30) ?hr ?_; (case hd => rfl); (case hg => rfl); (case hr => first | (go_simp; done) | (go_simp; rfl)); intro gb300 hg w4 hbox hb; have n0_ := Aside0.mk (below_step (by repeat (first | (with_reducible first | exact HB.out | apply below_alloc | apply pw_below_drewN | apply below_drew1) | exact HB.out)) hb); have n1_ := Aside0.mk (hbox); have n2_ := Aside0.mk ((by rw [hg]; exact (below_size (by repeat (first | (with_reducible first | exact HB.out | apply below_alloc | apply pw_below_drewN | apply below_drew1) | exact HB.out))) : w.heap.size ≤ gb300)); have n3_ := Aside0.mk ((by rw [hg]; exact (below_size (by repeat (first | (with_reducible first | exact HB.out | apply below_alloc | apply pw_below_drewN | apply below_drew1) | exact HB.out))) : w.heap.size ≤ gb300)); clear HB; have HB := n0_; have BK300 := n1_; have GW300 := n2_; have GE300 := n3_; clear n0_ n1_ n2_ n3_; clear hb hbox hg; have hcz5_0 : w4.cell? ⟨gb300, 0, none⟩ = some (.int .i64 a0_0) := (blk_cell BK300.out 0).trans rfl; have hcz5_1 : w4.cell? ⟨gb300, 1, none⟩ = some (.slice A0_1 l0_1.length c0_1) := (blk_cell BK300.out 1).trans rfl; have hfz5_0 := blk_frozen BK300.out 0; have hfz5_1 := blk_frozen BK300.out 1) | ((with_reducible refine gate_dst (N := 17) rfl ?_); refine Kd.S_make (Kd.slice 3 (Kd.int .i64)) _ 34 rfl (N := 17) rfl 42 _ _ rfl (l0_1.length : Int) rfl rfl Try.underlying42 (.slice none 0 0) 24 info34 rfl (by decide) (by omega) [] (ok := fun _ => True) (okp := fun _ => True) ⟨_, rfl, Kd.R_nil _ _ _ _ _⟩ (fun _ hk => hk) trivial (of_decide_eq_true (by first | (with_reducible assumption) | assumption)) (Nat.le_trans (Nat.mul_le_mul_right _ (of_decide_eq_true (by first | (with_reducible assumption) | assumption) : (l0_1.length : Int).toNat ≤ 11728124029610)) (by omega)) (Below.refl _ _) (Nat.le_refl _) ?_; intro v302 w6 ho7 hb hg_ hnew_; clear hg_ hnew_; (first | rw [← Ny301.out] at ho7 | (simp only [Int.reduceToNat] at ho7; rw [← Ny301.out] at ho7)); have n0_ := Aside0.mk (Kd.S_lower ho7 (below_size (by repeat (first | (with_reducible first | exact HB.out | apply below_alloc | apply pw_below_drewN | apply below_drew1 | refine below_set ?_ GE300.out) | exact HB.out)))); have n1_ := Aside0.mk (blk_below (g := gb300) (o := .cells #[.int .i64 a0_0, .slice A0_1 l0_1.length c0_1] 30 (0, 0)) (by (with_reducible repeat (first | refine blk_drewN ?_ _ | refine blk_drew ?_ | refine blk_alloc ?_ _)); exact BK300.out) hb); have n2_ := Aside0.mk (below_step (by repeat (first | (with_reducible first | exact HB.out | apply below_alloc | apply pw_below_drewN | apply below_drew1 | refine below_set ?_ GE300.out) | exact HB.out)) hb); clear BK300; clear HB; have HO303 := n0_; have BK300 := n1_; have HB := n2_; clear n0_ n1_ n2_; clear hb ho7))
      go_loopg [4] k (fun kq v4 w' => ∃ (x3_1 : List (List Int)) (x4_1 : Bool), v4 = .bool x4_1 ∧ Aside0 (spec_l14Live.l0 kq x3_1 x4_1 a0_0 l0_1 = some r) ∧ Aside0 (kq ≤ k) ∧ Aside0 (Kd.S (Kd.slice 3 (Kd.int .i64)) 34 w' w.heap.size (fun _ => True) v302 x3_1) ∧ Aside0 (w'.heap[gb300]? = some (.cells #[.int .i64 a0_0, (.slice A0_1 l0_1.length c0_1)] 30 (0, 0))) ∧ Aside0 (Below w.heap.size w w'))
      case atStart => exact ⟨(y301), (true), (by first | rfl | (simp; done) | (simp [*]; done)), H', ⟨Nat.le_refl _⟩, ⟨by (with_reducible repeat (first | apply Kd.S_alloc | apply Kd.S_drewN | apply Kd.S_drew)); exact HO303.out⟩, ⟨by (with_reducible repeat (first | refine blk_drewN ?_ _ | refine blk_drew ?_ | refine blk_alloc ?_ _)); exact BK300.out⟩, ⟨by repeat (first | (with_reducible first | exact HB.out | apply below_alloc | apply pw_below_drewN | apply below_drew1 | refine below_set ?_ GE300.out) | exact HB.out)⟩⟩
      case round =>
        clear H'
        try clear c2
        try clear c2b0
        try clear c2b1
        try clear p2
        try clear c3
        try clear c3b0
        try clear c3b1
        try clear hcz5_0
        try clear hcz5_1
        try clear hfz5_0
        try clear hfz5_1
        obtain ⟨x3_1, x4_1, rfl, HA, HK1, HO_3, BK300, HB⟩ := hrel
        cases gk with
        | zero => exact absurd HA.out (by simp [spec_l14Live.l0])
        | succ k1 =>
          have H := HA.out
          clear HA
          simp only [spec_l14Live.l0] at H
          by_cases c8 : x4_1 = true
          · subst c8
            have H1 : (spec_l14Live.l1 k1 x3_1 false l0_1 (l0_1.length : Int) 0 a0_0 l0_1) = some r := by rw [if_pos rfl] at H; exact H
            clear H
            have H := H1
            clear H1
            have H' := Aside0.mk H
            clear H
            have hcz9_0 : wr.cell? ⟨gb300, 0, none⟩ = some (.int .i64 a0_0) := (blk_cell BK300.out 0).trans rfl
            have hcz9_1 : wr.cell? ⟨gb300, 1, none⟩ = some (.slice A0_1 l0_1.length c0_1) := (blk_cell BK300.out 1).trans rfl
            have hfz9_0 := blk_frozen BK300.out 0
            have hfz9_1 := blk_frozen BK300.out 1
            go_wp2
            go_loopg [4, 22] k1 (fun kq v4 v22 w' => ∃ (x3_2 : List (List Int)) (x4_2 : Bool) (x22_2 : Int), v4 = .bool x4_2 ∧ v22 = .int .i64 x22_2 ∧ Aside0 (spec_l14Live.l1 kq x3_2 x4_2 l0_1 (l0_1.length : Int) x22_2 a0_0 l0_1 = some r) ∧ Aside0 (kq ≤ k1) ∧ Aside0 (Kd.S (Kd.slice 3 (Kd.int .i64)) 34 w' w.heap.size (fun _ => True) v302 x3_2) ∧ Aside0 (w'.heap[gb300]? = some (.cells #[.int .i64 a0_0, (.slice A0_1 l0_1.length c0_1)] 30 (0, 0))) ∧ Aside0 (Below w.heap.size w w'))
            case atStart => exact ⟨(x3_1), (false), (0), (by first | rfl | (simp; done) | (simp [*]; done)), (by first | rfl | (simp; done) | (simp [*]; done)), H', ⟨Nat.le_refl _⟩, ⟨by (with_reducible repeat (first | apply Kd.S_alloc | apply Kd.S_drewN | apply Kd.S_drew)); exact HO_3.out⟩, ⟨by (with_reducible repeat (first | refine blk_drewN ?_ _ | refine blk_drew ?_ | refine blk_alloc ?_ _)); exact BK300.out⟩, ⟨by repeat (first | (with_reducible first | exact HB.out | apply below_alloc | apply pw_below_drewN | apply below_drew1 | refine below_set ?_ GE300.out) | exact HB.out)⟩⟩
            case round =>
              clear H'
              try clear c2
              try clear c2b0
              try clear c2b1
              try clear p2
              try clear c3
              try clear c3b0
              try clear c3b1
              try clear c8
              try clear hcz5_0
              try clear hcz5_1
              try clear hcz9_0
              try clear hcz9_1
              try clear hfz5_0
              try clear hfz5_1
              try clear hfz9_0
              try clear hfz9_1
              try clear p2
              obtain ⟨x3_2, x4_2, x22_2, rfl, rfl, HA, HK2, HO_3, BK300, HB⟩ := hrel
              cases gk with
              | zero => exact absurd HA.out (by simp [spec_l14Live.l1])
              | succ k2 =>
                have H := HA.out
                clear HA
                simp only [spec_l14Live.l1] at H
                by_cases c10 : x22_2 < (l0_1.length : Int)
                · rw [if_pos c10] at H
                  have c10b0 : decide (x22_2 < (l0_1.length : Int)) = true := decide_eq_true c10
                  clear c10
                  by_cases c11 : 0 ≤ x22_2
                  · rw [if_pos c11] at H
                    have c11b0 : decide (0 ≤ x22_2) = true := decide_eq_true c11
                    clear c11
                    by_cases c12 : x22_2 < (l0_1.length : Int)
                    · rw [if_pos c12] at H
                      have c12b0 : decide (x22_2 < (l0_1.length : Int)) = true := decide_eq_true c12
                      clear c12
                      replace H := Option.bind_eq_some_iff.mp H
                      obtain ⟨t306, A130, H⟩ := H
                      replace H : (spec_l14Live.l2 k2 x3_2 x4_2 x22_2 t306 l0_1 (l0_1.length : Int) x22_2 ((rd_T87 l0_1 x22_2).f1) (((rd_T87 l0_1 x22_2).f1).length : Int) 0 a0_0 l0_1) = some r := H
                      have A13 := Aside0.mk A130
                      clear A130
                      have H' := Aside0.mk H
                      clear H
                      have p304 : 0 ≤ (x22_2 : Int) := of_decide_eq_true (by first | (with_reducible assumption) | assumption)
                      have q304 : x22_2 < (l0_1.length : Int) := of_decide_eq_true (by first | (with_reducible assumption) | assumption)
                      obtain ⟨ad304, A304_1, c304_1, A304_4, c304_4, e304, hx304_0, hx304_1, hx304_2, hx304_3, hx304_4, hl304_1, hi304_1, hl304_4, hi304_4⟩ := at_T87 HR0_1.out x22_2 p304 q304
                      cases e304
                      replace hx304_0 := (HB.out.cell (World.block_lt_of_cell? w _ hx304_0)).trans hx304_0
                      replace hx304_1 := (HB.out.cell (World.block_lt_of_cell? w _ hx304_1)).trans hx304_1
                      replace hx304_2 := (HB.out.cell (World.block_lt_of_cell? w _ hx304_2)).trans hx304_2
                      replace hx304_3 := (HB.out.cell (World.block_lt_of_cell? w _ hx304_3)).trans hx304_3
                      replace hx304_4 := (HB.out.cell (World.block_lt_of_cell? w _ hx304_4)).trans hx304_4
                      have HR304_1 := Aside0.mk hi304_1
                      have HC304_1 := Aside0.mk hl304_1
                      clear hi304_1 hl304_1
                      have HR304_4 := Aside0.mk hi304_4
                      have HC304_4 := Aside0.mk hl304_4
                      clear hi304_4 hl304_4
                      replace p304 := eq_true p304
                      replace q304 := eq_true q304
                      go_wp2_with (first | ((with_reducible refine gate_dst (N := 6) rfl ?_); refine box_event ?hg (N := 6) ?hd (cs := #[.int .i64 0, .slice none 0 0, .int .i64 0, .int .i64 0, .slice none 0 0]) (t := 87) ?hr ?_; (case hd => rfl); (case hg => rfl); (case hr => first | (go_simp; done) | (go_simp; rfl)); intro gb305 hg w14 hbox hb; have n0_ := Aside0.mk (Kd.S_below (by (with_reducible repeat (first | apply Kd.S_alloc | apply Kd.S_drewN | apply Kd.S_drew)); exact HO_3.out) hb); have n1_ := Aside0.mk (blk_below (g := gb300) (o := .cells #[.int .i64 a0_0, .slice (some ad304) l0_1.length c0_1] 30 (0, 0)) (by (with_reducible repeat (first | refine blk_drewN ?_ _ | refine blk_drew ?_ | refine blk_alloc ?_ _)); exact BK300.out) hb); have n2_ := Aside0.mk (below_step (by repeat (first | (with_reducible first | exact HB.out | apply below_alloc | apply pw_below_drewN | apply below_drew1 | refine below_set ?_ GE300.out) | exact HB.out)) hb); have n3_ := Aside0.mk (hbox); have n4_ := Aside0.mk ((by rw [hg]; exact (below_size (by repeat (first | (with_reducible first | exact HB.out | apply below_alloc | apply pw_below_drewN | apply below_drew1 | refine below_set ?_ GE300.out) | exact HB.out))) : w.heap.size ≤ gb305)); have n5_ := Aside0.mk ((by rw [hg]; exact (below_size (by repeat (first | (with_reducible first | exact HB.out | apply below_alloc | apply pw_below_drewN | apply below_drew1 | refine below_set ?_ GE300.out) | exact HB.out))) : w.heap.size ≤ gb305)); have n6_ := Aside0.mk ((by rw [hg]; exact Nat.ne_of_lt (blk_lt (g := gb300) (o := .cells #[.int .i64 a0_0, .slice (some ad304) l0_1.length c0_1] 30 (0, 0)) (by (with_reducible repeat (first | refine blk_drewN ?_ _ | refine blk_drew ?_ | refine blk_alloc ?_ _)); exact BK300.out)) : gb300 ≠ gb305)); have n7_ := Aside0.mk ((by rw [hg]; exact Nat.ne_of_gt (blk_lt (g := gb300) (o := .cells #[.int .i64 a0_0, .slice (some ad304) l0_1.length c0_1] 30 (0, 0)) (by (with_reducible repeat (first | refine blk_drewN ?_ _ | refine blk_drew ?_ | refine blk_alloc ?_ _)); exact BK300.out)) : gb305 ≠ gb300)); clear HO_3; clear BK300; clear HB; have HO_3 := n0_; have BK300 := n1_; have HB := n2_; have BK305 := n3_; have GW305 := n4_; have GE305 := n5_; have NB300_305 := n6_; have NB305_300 := n7_; clear n0_ n1_ n2_ n3_ n4_ n5_ n6_ n7_; clear hb hbox hg; have hnb15 := NB305_300.out; have hnc15 := NB300_305.out; have hcz16_0 : w14.cell? ⟨gb305, 0, none⟩ = some (.int .i64 0) := (blk_cell BK305.out 0).trans rfl; have hcz16_1 : w14.cell? ⟨gb305, 1, none⟩ = some (.slice none 0 0) := (blk_cell BK305.out 1).trans rfl; have hcz16_2 : w14.cell? ⟨gb305, 2, none⟩ = some (.int .i64 0) := (blk_cell BK305.out 2).trans rfl; have hcz16_3 : w14.cell? ⟨gb305, 3, none⟩ = some (.int .i64 0) := (blk_cell BK305.out 3).trans rfl; have hcz16_4 : w14.cell? ⟨gb305, 4, none⟩ = some (.slice none 0 0) := (blk_cell BK305.out 4).trans rfl; have hfz16_0 := blk_frozen BK305.out 0; have hfz16_1 := blk_frozen BK305.out 1; have hfz16_2 := blk_frozen BK305.out 2; have hfz16_3 := blk_frozen BK305.out 3; have hfz16_4 := blk_frozen BK305.out 4) | ((with_reducible refine gate_callee (f := 102) rfl ?_); refine goesL_ (some 28) rfl rfl Try.func102 (by kernel_rfl) rfl #[.agg #[.int .i64 ((rd_T87 l0_1 x22_2).f0), .slice A304_1 ((rd_T87 l0_1 x22_2).f1).length c304_1, .int .i64 ((rd_T87 l0_1 x22_2).f2), .int .i64 ((rd_T87 l0_1 x22_2).f3), .slice A304_4 ((rd_T87 l0_1 x22_2).f4).length c304_4]] rfl (by (try simp only [List.map_toArray, List.map_cons, List.map_nil]); first | done | rfl | (simp only [List.length_drop, List.length_take]; rfl)) ?_; (with_reducible refine (spec_l14End.calls k2 ((rd_T87 l0_1 x22_2).f0) _ _ ((rd_T87 l0_1 x22_2).f1) ((rd_T87 l0_1 x22_2).f2) ((rd_T87 l0_1 x22_2).f3) _ _ ((rd_T87 l0_1 x22_2).f4) t306 _ ?side1 ?side2 ?side3 ?side4 A13.out).mono ?_); (case side1 => exact Kd.C_below HR304_1.out (by repeat (first | (with_reducible first | exact HB.out | apply below_alloc | apply pw_below_drewN | apply below_drew1 | refine below_set ?_ GE300.out | refine below_set ?_ GE305.out) | exact HB.out))); (case side2 => exact HC304_1.out); (case side3 => exact Kd.C_below HR304_4.out (by repeat (first | (with_reducible first | exact HB.out | apply below_alloc | apply pw_below_drewN | apply below_drew1 | refine below_set ?_ GE300.out | refine below_set ?_ GE305.out) | exact HB.out))); (case side4 => exact HC304_4.out); rintro e w17 ⟨v307, rfl, ho0, hb⟩; refine ⟨_, rfl, ?_⟩; have n0_ := Aside0.mk (Kd.S_elder' (by (with_reducible repeat (first | apply Kd.S_alloc | apply Kd.S_drewN | apply Kd.S_drew)); exact (Kd.S_mono (Kd.S_far (p := ⟨gb305, 4, none⟩) (Kd.S_far (p := ⟨gb305, 3, none⟩) (Kd.S_far (p := ⟨gb305, 2, none⟩) (Kd.S_far (p := ⟨gb305, 1, none⟩) (Kd.S_far (p := ⟨gb305, 0, none⟩) (Kd.S_types HO_3.out BK305.out (by decide)) (fun _ hk => hk.2) (.int .i64 ((rd_T87 l0_1 x22_2).f0))) (fun _ hk => hk.2) (.slice A304_1 ((rd_T87 l0_1 x22_2).f1).length c304_1)) (fun _ hk => hk.2) (.int .i64 ((rd_T87 l0_1 x22_2).f2))) (fun _ hk => hk.2) (.int .i64 ((rd_T87 l0_1 x22_2).f3))) (fun _ hk => hk.2) (.slice A304_4 ((rd_T87 l0_1 x22_2).f4).length c304_4)) (fun _ h_ => h_.1))) (Kd.R_base ho0) hb); have n1_ := Aside0.mk (Kd.R_lower ho0 (below_size (by repeat (first | (with_reducible first | exact HB.out | apply below_alloc | apply pw_below_drewN | apply below_drew1 | refine below_set ?_ GE300.out | refine below_set ?_ GE305.out) | exact HB.out)))); have n2_ := Aside0.mk (blk_below (g := gb300) (o := .cells #[.int .i64 a0_0, .slice (some ad304) l0_1.length c0_1] 30 (0, 0)) (by (with_reducible repeat (first | refine blk_drewN ?_ _ | refine blk_drew ?_ | refine blk_alloc ?_ _)); refine blk_far ?_ NB300_305.out _; (with_reducible repeat (first | refine blk_drewN ?_ _ | refine blk_drew ?_ | refine blk_alloc ?_ _)); refine blk_far ?_ NB300_305.out _; (with_reducible repeat (first | refine blk_drewN ?_ _ | refine blk_drew ?_ | refine blk_alloc ?_ _)); refine blk_far ?_ NB300_305.out _; (with_reducible repeat (first | refine blk_drewN ?_ _ | refine blk_drew ?_ | refine blk_alloc ?_ _)); refine blk_far ?_ NB300_305.out _; (with_reducible repeat (first | refine blk_drewN ?_ _ | refine blk_drew ?_ | refine blk_alloc ?_ _)); refine blk_far ?_ NB300_305.out _; (with_reducible repeat (first | refine blk_drewN ?_ _ | refine blk_drew ?_ | refine blk_alloc ?_ _)); exact BK300.out) hb); have n3_ := Aside0.mk (blk_below (g := gb305) (o := .cells #[.int .i64 ((rd_T87 l0_1 x22_2).f0), .slice A304_1 ((rd_T87 l0_1 x22_2).f1).length c304_1, .int .i64 ((rd_T87 l0_1 x22_2).f2), .int .i64 ((rd_T87 l0_1 x22_2).f3), .slice A304_4 ((rd_T87 l0_1 x22_2).f4).length c304_4] 87 (0, 0)) (by (with_reducible repeat (first | refine blk_drewN ?_ _ | refine blk_drew ?_ | refine blk_alloc ?_ _)); refine blk_put (cs := #[.int .i64 ((rd_T87 l0_1 x22_2).f0), .slice A304_1 ((rd_T87 l0_1 x22_2).f1).length c304_1, .int .i64 ((rd_T87 l0_1 x22_2).f2), .int .i64 ((rd_T87 l0_1 x22_2).f3), .slice none 0 0]) ?_ 4 _ rfl; (with_reducible repeat (first | refine blk_drewN ?_ _ | refine blk_drew ?_ | refine blk_alloc ?_ _)); refine blk_put (cs := #[.int .i64 ((rd_T87 l0_1 x22_2).f0), .slice A304_1 ((rd_T87 l0_1 x22_2).f1).length c304_1, .int .i64 ((rd_T87 l0_1 x22_2).f2), .int .i64 0, .slice none 0 0]) ?_ 3 _ rfl; (with_reducible repeat (first | refine blk_drewN ?_ _ | refine blk_drew ?_ | refine blk_alloc ?_ _)); refine blk_put (cs := #[.int .i64 ((rd_T87 l0_1 x22_2).f0), .slice A304_1 ((rd_T87 l0_1 x22_2).f1).length c304_1, .int .i64 0, .int .i64 0, .slice none 0 0]) ?_ 2 _ rfl; (with_reducible repeat (first | refine blk_drewN ?_ _ | refine blk_drew ?_ | refine blk_alloc ?_ _)); refine blk_put (cs := #[.int .i64 ((rd_T87 l0_1 x22_2).f0), .slice none 0 0, .int .i64 0, .int .i64 0, .slice none 0 0]) ?_ 1 _ rfl; (with_reducible repeat (first | refine blk_drewN ?_ _ | refine blk_drew ?_ | refine blk_alloc ?_ _)); refine blk_put (cs := #[.int .i64 0, .slice none 0 0, .int .i64 0, .int .i64 0, .slice none 0 0]) ?_ 0 _ rfl; (with_reducible repeat (first | refine blk_drewN ?_ _ | refine blk_drew ?_ | refine blk_alloc ?_ _)); exact BK305.out) hb); have n4_ := Aside0.mk (below_step (by repeat (first | (with_reducible first | exact HB.out | apply below_alloc | apply pw_below_drewN | apply below_drew1 | refine below_set ?_ GE300.out | refine below_set ?_ GE305.out) | exact HB.out)) hb); clear HO_3; clear BK300; clear BK305; clear HB; have HO_3 := n0_; have HO308 := n1_; have BK300 := n2_; have BK305 := n3_; have HB := n4_; clear n0_ n1_ n2_ n3_ n4_; (try clear hb); (try clear hb2); (try clear hk); (try clear hi); (try clear ho0); have hcz18_0 : w17.cell? ⟨gb305, 0, none⟩ = some (.int .i64 ((rd_T87 l0_1 x22_2).f0)) := (blk_cell BK305.out 0).trans rfl; have hcz18_1 : w17.cell? ⟨gb305, 1, none⟩ = some (.slice A304_1 ((rd_T87 l0_1 x22_2).f1).length c304_1) := (blk_cell BK305.out 1).trans rfl; have hcz18_2 : w17.cell? ⟨gb305, 2, none⟩ = some (.int .i64 ((rd_T87 l0_1 x22_2).f2)) := (blk_cell BK305.out 2).trans rfl; have hcz18_3 : w17.cell? ⟨gb305, 3, none⟩ = some (.int .i64 ((rd_T87 l0_1 x22_2).f3)) := (blk_cell BK305.out 3).trans rfl; have hcz18_4 : w17.cell? ⟨gb305, 4, none⟩ = some (.slice A304_4 ((rd_T87 l0_1 x22_2).f4).length c304_4) := (blk_cell BK305.out 4).trans rfl; have hfz18_0 := blk_frozen BK305.out 0; have hfz18_1 := blk_frozen BK305.out 1; have hfz18_2 := blk_frozen BK305.out 2; have hfz18_3 := blk_frozen BK305.out 3; have hfz18_4 := blk_frozen BK305.out 4))
                      go_loopg [7, 32] k2 (fun kq v7 v32 w' => ∃ (x7_3 : List Int) (x32_3 : Int), v32 = .int .i64 x32_3 ∧ Aside0 (spec_l14Live.l2 kq x3_2 x4_2 x22_2 x7_3 l0_1 (l0_1.length : Int) x22_2 ((rd_T87 l0_1 x22_2).f1) (((rd_T87 l0_1 x22_2).f1).length : Int) x32_3 a0_0 l0_1 = some r) ∧ Aside0 (kq ≤ k2) ∧ Aside0 (Kd.S (Kd.slice 3 (Kd.int .i64)) 34 w' w.heap.size (fun k_ => some k_ ≠ (v7 : Value).ownBlock) v302 x3_2) ∧ Aside0 (Kd.R (Kd.int .i64) 3 w' w.heap.size (fun _ => True) v7 x7_3) ∧ Aside0 (w'.heap[gb300]? = some (.cells #[.int .i64 a0_0, (.slice (some ad304) l0_1.length c0_1)] 30 (0, 0))) ∧ Aside0 (w'.heap[gb305]? = some (.cells #[.int .i64 ((rd_T87 l0_1 x22_2).f0), (.slice A304_1 ((rd_T87 l0_1 x22_2).f1).length c304_1), .int .i64 ((rd_T87 l0_1 x22_2).f2), .int .i64 ((rd_T87 l0_1 x22_2).f3), (.slice A304_4 ((rd_T87 l0_1 x22_2).f4).length c304_4)] 87 (0, 0))) ∧ Aside0 (Below w.heap.size w w'))
                      case atStart => exact ⟨(t306), (0), (by first | rfl | (simp; done) | (simp [*]; done)), H', ⟨Nat.le_refl _⟩, ⟨by (with_reducible repeat (first | apply Kd.S_alloc | apply Kd.S_drewN | apply Kd.S_drew)); exact Kd.S_mono HO_3.out (fun _ hk => hk.2)⟩, ⟨by (with_reducible repeat (first | apply Kd.R_alloc | apply Kd.R_drewN | apply Kd.R_drew)); exact HO308.out⟩, ⟨by (with_reducible repeat (first | refine blk_drewN ?_ _ | refine blk_drew ?_ | refine blk_alloc ?_ _)); exact BK300.out⟩, ⟨by (with_reducible repeat (first | refine blk_drewN ?_ _ | refine blk_drew ?_ | refine blk_alloc ?_ _)); exact BK305.out⟩, ⟨by repeat (first | (with_reducible first | exact HB.out | apply below_alloc | apply pw_below_drewN | apply below_drew1 | refine below_set ?_ GE300.out | refine below_set ?_ GE305.out) | exact HB.out)⟩⟩
                      case round =>
                        clear H'
                        try clear c1
                        try clear c2
                        try clear c2b0
                        try clear c2b1
                        try clear p2
                        try clear c3
                        try clear c3b0
                        try clear c3b1
                        try clear p3
                        try clear q3
                        try clear hx3
                        try clear c8
                        try clear c10
                        try clear c10b0
                        try clear c11
                        try clear c11b0
                        try clear c12
                        try clear c12b0
                        try clear c15
                        try clear hcz16_0
                        try clear hcz16_1
                        try clear hcz16_2
                        try clear hcz16_3
                        try clear hcz16_4
                        try clear hcz18_0
                        try clear hcz18_1
                        try clear hcz18_2
                        try clear hcz18_3
                        try clear hcz18_4
                        try clear hcz5_0
                        try clear hcz5_1
                        try clear hcz9_0
                        try clear hcz9_1
                        try clear hfz16_0
                        try clear hfz16_1
                        try clear hfz16_2
                        try clear hfz16_3
                        try clear hfz16_4
                        try clear hfz18_0
                        try clear hfz18_1
                        try clear hfz18_2
                        try clear hfz18_3
                        try clear hfz18_4
                        try clear hfz5_0
                        try clear hfz5_1
                        try clear hfz9_0
                        try clear hfz9_1
                        try clear hx304_0
                        try clear hx304_1
                        try clear hx304_2
                        try clear hx304_3
                        try clear hx304_4
                        try clear p2
                        try clear p304
                        try clear q304
                        obtain ⟨x7_3, x32_3, rfl, HA, HK3, HO_3, HO_7, BK300, BK305, HB⟩ := hrel
                        cases gk with
                        | zero => exact absurd HA.out (by simp [spec_l14Live.l2])
                        | succ k3 =>
                          have H := HA.out
                          clear HA
                          simp only [spec_l14Live.l2] at H
                          by_cases c19 : x32_3 < (((rd_T87 l0_1 x22_2).f1).length : Int)
                          · rw [if_pos c19] at H
                            have c19b0 : decide (x32_3 < (((rd_T87 l0_1 x22_2).f1).length : Int)) = true := decide_eq_true c19
                            clear c19
                            by_cases c20 : 0 ≤ x32_3
                            · rw [if_pos c20] at H
                              have c20b0 : decide (0 ≤ x32_3) = true := decide_eq_true c20
                              clear c20
                              by_cases c21 : x32_3 < (((rd_T87 l0_1 x22_2).f1).length : Int)
                              · rw [if_pos c21] at H
                                have c21b0 : decide (x32_3 < (((rd_T87 l0_1 x22_2).f1).length : Int)) = true := decide_eq_true c21
                                clear c21
                                by_cases c22 : x7_3.length + ((rd_T89 ((rd_T87 l0_1 x22_2).f1) x32_3).f2).length < 17592186044416
                                · rw [if_pos c22] at H
                                  have LMc22 := Aside0.mk c22
                                  clear c22
                                  obtain ⟨y311, hy311⟩ : ∃ y_ : List Int, y_ = (x7_3 ++ ((rd_T89 ((rd_T87 l0_1 x22_2).f1) x32_3).f2)) := ⟨_, rfl⟩
                                  replace H : (spec_l14Live.l2 k3 x3_2 x4_2 x22_2 y311 l0_1 (l0_1.length : Int) x22_2 ((rd_T87 l0_1 x22_2).f1) (((rd_T87 l0_1 x22_2).f1).length : Int) (wrap64 (x32_3 + 1)) a0_0 l0_1) = some r := by first | (rw [hy311]; with_reducible exact H) | (have H2_ := (Option.bind_some _ _).symm.trans H; rw [hy311]; with_reducible exact H2_) | (have H2_ := (Option.bind_some _ _).symm.trans H; with_reducible exact H2_) | with_reducible exact H | (rw [hy311]; exact H) | exact H
                                  have Ny311 := Aside0.mk hy311
                                  clear hy311
                                  have H' := Aside0.mk H
                                  clear H
                                  have p309 : 0 ≤ (x32_3 : Int) := of_decide_eq_true (by first | (with_reducible assumption) | assumption)
                                  have q309 : x32_3 < (((rd_T87 l0_1 x22_2).f1).length : Int) := of_decide_eq_true (by first | (with_reducible assumption) | assumption)
                                  obtain ⟨ad309, A309_2, c309_2, e309, hx309_0, hx309_1, hx309_2, hl309_2, hi309_2⟩ := at_T89 HR304_1.out x32_3 p309 q309
                                  cases e309
                                  replace hx309_0 := (HB.out.cell (World.block_lt_of_cell? w _ hx309_0)).trans hx309_0
                                  replace hx309_1 := (HB.out.cell (World.block_lt_of_cell? w _ hx309_1)).trans hx309_1
                                  replace hx309_2 := (HB.out.cell (World.block_lt_of_cell? w _ hx309_2)).trans hx309_2
                                  have HR309_2 := Aside0.mk hi309_2
                                  have HC309_2 := Aside0.mk hl309_2
                                  clear hi309_2 hl309_2
                                  replace p309 := eq_true p309
                                  replace q309 := eq_true q309
                                  go_wp2_with (first | ((with_reducible refine gate_dst (N := 9) rfl ?_); refine box_event ?hg (N := 9) ?hd (cs := #[.int .i64 0, .int .i64 0, .slice none 0 0]) (t := 89) ?hr ?_; (case hd => rfl); (case hg => rfl); (case hr => first | (go_simp; done) | (go_simp; rfl)); intro gb310 hg w23 hbox hb; have n0_ := Aside0.mk (Kd.S_below (by (with_reducible repeat (first | apply Kd.S_alloc | apply Kd.S_drewN | apply Kd.S_drew)); exact HO_3.out) hb); have n1_ := Aside0.mk (Kd.R_below (by (with_reducible repeat (first | apply Kd.R_alloc | apply Kd.R_drewN | apply Kd.R_drew)); exact HO_7.out) hb); have n2_ := Aside0.mk (blk_below (g := gb300) (o := .cells #[.int .i64 a0_0, .slice (some ad304) l0_1.length c0_1] 30 (0, 0)) (by (with_reducible repeat (first | refine blk_drewN ?_ _ | refine blk_drew ?_ | refine blk_alloc ?_ _)); exact BK300.out) hb); have n3_ := Aside0.mk (blk_below (g := gb305) (o := .cells #[.int .i64 ((rd_T87 l0_1 x22_2).f0), .slice (some ad309) ((rd_T87 l0_1 x22_2).f1).length c304_1, .int .i64 ((rd_T87 l0_1 x22_2).f2), .int .i64 ((rd_T87 l0_1 x22_2).f3), .slice A304_4 ((rd_T87 l0_1 x22_2).f4).length c304_4] 87 (0, 0)) (by (with_reducible repeat (first | refine blk_drewN ?_ _ | refine blk_drew ?_ | refine blk_alloc ?_ _)); exact BK305.out) hb); have n4_ := Aside0.mk (below_step (by repeat (first | (with_reducible first | exact HB.out | apply below_alloc | apply pw_below_drewN | apply below_drew1 | refine below_set ?_ GE300.out | refine below_set ?_ GE305.out) | exact HB.out)) hb); have n5_ := Aside0.mk (hbox); have n6_ := Aside0.mk ((by rw [hg]; exact (below_size (by repeat (first | (with_reducible first | exact HB.out | apply below_alloc | apply pw_below_drewN | apply below_drew1 | refine below_set ?_ GE300.out | refine below_set ?_ GE305.out) | exact HB.out))) : w.heap.size ≤ gb310)); have n7_ := Aside0.mk ((by rw [hg]; exact (below_size (by repeat (first | (with_reducible first | exact HB.out | apply below_alloc | apply pw_below_drewN | apply below_drew1 | refine below_set ?_ GE300.out | refine below_set ?_ GE305.out) | exact HB.out))) : w.heap.size ≤ gb310)); have n8_ := Aside0.mk ((by rw [hg]; exact Nat.ne_of_lt (blk_lt (g := gb300) (o := .cells #[.int .i64 a0_0, .slice (some ad304) l0_1.length c0_1] 30 (0, 0)) (by (with_reducible repeat (first | refine blk_drewN ?_ _ | refine blk_drew ?_ | refine blk_alloc ?_ _)); exact BK300.out)) : gb300 ≠ gb310)); have n9_ := Aside0.mk ((by rw [hg]; exact Nat.ne_of_gt (blk_lt (g := gb300) (o := .cells #[.int .i64 a0_0, .slice (some ad304) l0_1.length c0_1] 30 (0, 0)) (by (with_reducible repeat (first | refine blk_drewN ?_ _ | refine blk_drew ?_ | refine blk_alloc ?_ _)); exact BK300.out)) : gb310 ≠ gb300)); have n10_ := Aside0.mk ((by rw [hg]; exact Nat.ne_of_lt (blk_lt (g := gb305) (o := .cells #[.int .i64 ((rd_T87 l0_1 x22_2).f0), .slice (some ad309) ((rd_T87 l0_1 x22_2).f1).length c304_1, .int .i64 ((rd_T87 l0_1 x22_2).f2), .int .i64 ((rd_T87 l0_1 x22_2).f3), .slice A304_4 ((rd_T87 l0_1 x22_2).f4).length c304_4] 87 (0, 0)) (by (with_reducible repeat (first | refine blk_drewN ?_ _ | refine blk_drew ?_ | refine blk_alloc ?_ _)); exact BK305.out)) : gb305 ≠ gb310)); have n11_ := Aside0.mk ((by rw [hg]; exact Nat.ne_of_gt (blk_lt (g := gb305) (o := .cells #[.int .i64 ((rd_T87 l0_1 x22_2).f0), .slice (some ad309) ((rd_T87 l0_1 x22_2).f1).length c304_1, .int .i64 ((rd_T87 l0_1 x22_2).f2), .int .i64 ((rd_T87 l0_1 x22_2).f3), .slice A304_4 ((rd_T87 l0_1 x22_2).f4).length c304_4] 87 (0, 0)) (by (with_reducible repeat (first | refine blk_drewN ?_ _ | refine blk_drew ?_ | refine blk_alloc ?_ _)); exact BK305.out)) : gb310 ≠ gb305)); clear HO_3; clear HO_7; clear BK300; clear BK305; clear HB; have HO_3 := n0_; have HO_7 := n1_; have BK300 := n2_; have BK305 := n3_; have HB := n4_; have BK310 := n5_; have GW310 := n6_; have GE310 := n7_; have NB300_310 := n8_; have NB310_300 := n9_; have NB305_310 := n10_; have NB310_305 := n11_; clear n0_ n1_ n2_ n3_ n4_ n5_ n6_ n7_ n8_ n9_ n10_ n11_; clear hb hbox hg; have hnb24 := NB310_300.out; have hnc24 := NB300_310.out; have hnb25 := NB310_305.out; have hnc25 := NB305_310.out; have hcz26_0 : w23.cell? ⟨gb310, 0, none⟩ = some (.int .i64 0) := (blk_cell BK310.out 0).trans rfl; have hcz26_1 : w23.cell? ⟨gb310, 1, none⟩ = some (.int .i64 0) := (blk_cell BK310.out 1).trans rfl; have hcz26_2 : w23.cell? ⟨gb310, 2, none⟩ = some (.slice none 0 0) := (blk_cell BK310.out 2).trans rfl; have hfz26_0 := blk_frozen BK310.out 0; have hfz26_1 := blk_frozen BK310.out 1; have hfz26_2 := blk_frozen BK310.out 2) | ((with_reducible refine gate_builtin (b := .append) (xs := #[.tmp 36, .tmp 38]) rfl ?_); at_builtin; refine Kd.R_append_rows (Kd.int .i64) (w0 := w) w.heap.size rfl (.tmp 36) (.tmp 38) 34 3 (.int .i64 0) 8 rfl Try.underlying34 info3 rfl (by decide) (by omega) u7 x7_3 ((rd_T89 ((rd_T87 l0_1 x22_2).f1) x32_3).f2) _ _ _ (fun _ => True) (fun _ => False) rfl rfl ?aO ?aR (fun _ _ h => h) (fun _ h => h.elim) ?aF ?aB ?aS ?aL ?_; (case aR => exact Kd.C_below HR309_2.out (by repeat (first | (with_reducible first | exact HB.out | apply below_alloc | apply pw_below_drewN | apply below_drew1 | refine below_set ?_ GE300.out | refine below_set ?_ GE305.out | refine below_set ?_ GE310.out) | exact HB.out))); (case aB => exact (by repeat (first | (with_reducible first | exact HB.out | apply below_alloc | apply pw_below_drewN | apply below_drew1 | refine below_set ?_ GE300.out | refine below_set ?_ GE305.out | refine below_set ?_ GE310.out) | exact HB.out))); (case aF => exact (fun _ _ => trivial)); (case aO => exact (by (with_reducible repeat (first | apply Kd.R_alloc | apply Kd.R_drewN | apply Kd.R_drew)); exact Kd.R_mono (Kd.R_far (p := ⟨gb310, 2, none⟩) (Kd.R_far (p := ⟨gb310, 1, none⟩) (Kd.R_far (p := ⟨gb310, 0, none⟩) (Kd.R_types HO_7.out BK310.out (by decide)) (fun _ hk => hk.2) (.int .i64 ((rd_T89 ((rd_T87 l0_1 x22_2).f1) x32_3).f0))) (fun _ hk => hk.2) (.int .i64 ((rd_T89 ((rd_T87 l0_1 x22_2).f1) x32_3).f1))) (fun _ hk => hk.2) (.slice A309_2 ((rd_T89 ((rd_T87 l0_1 x22_2).f1) x32_3).f2).length c309_2)) (fun _ hk => trivial))); (case aS => exact (below_size (by repeat (first | (with_reducible first | exact HB.out | apply below_alloc | apply pw_below_drewN | apply below_drew1 | refine below_set ?_ GE300.out | refine below_set ?_ GE305.out | refine below_set ?_ GE310.out) | exact HB.out)))); (case aL => have := LMc22.out; omega); intro v312 w27 ho hb hg hat; rw [← Ny311.out] at ho; have n0_ := Aside0.mk (Kd.S_after (ok := (fun _ => True)) (by (with_reducible repeat (first | apply Kd.S_alloc | apply Kd.S_drewN | apply Kd.S_drew)); exact Kd.S_mono (Kd.S_far (p := ⟨gb310, 2, none⟩) (Kd.S_far (p := ⟨gb310, 1, none⟩) (Kd.S_far (p := ⟨gb310, 0, none⟩) (Kd.S_types HO_3.out BK310.out (by decide)) (fun _ hk => hk.2) (.int .i64 ((rd_T89 ((rd_T87 l0_1 x22_2).f1) x32_3).f0))) (fun _ hk => hk.2) (.int .i64 ((rd_T89 ((rd_T87 l0_1 x22_2).f1) x32_3).f1))) (fun _ hk => hk.2) (.slice A309_2 ((rd_T89 ((rd_T87 l0_1 x22_2).f1) x32_3).f2).length c309_2)) (fun _ hk => ⟨trivial, hk.1⟩)) hg hat); have n1_ := Aside0.mk (blk_grown (g := gb300) (o := .cells #[.int .i64 a0_0, .slice (some ad304) l0_1.length c0_1] 30 (0, 0)) (by (with_reducible repeat (first | refine blk_drewN ?_ _ | refine blk_drew ?_ | refine blk_alloc ?_ _)); refine blk_far ?_ NB300_310.out _; (with_reducible repeat (first | refine blk_drewN ?_ _ | refine blk_drew ?_ | refine blk_alloc ?_ _)); refine blk_far ?_ NB300_310.out _; (with_reducible repeat (first | refine blk_drewN ?_ _ | refine blk_drew ?_ | refine blk_alloc ?_ _)); refine blk_far ?_ NB300_310.out _; (with_reducible repeat (first | refine blk_drewN ?_ _ | refine blk_drew ?_ | refine blk_alloc ?_ _)); exact BK300.out) hg (Kd.R_ne HO_7.out BK300.out (by decide))); have n2_ := Aside0.mk (blk_grown (g := gb305) (o := .cells #[.int .i64 ((rd_T87 l0_1 x22_2).f0), .slice (some ad309) ((rd_T87 l0_1 x22_2).f1).length c304_1, .int .i64 ((rd_T87 l0_1 x22_2).f2), .int .i64 ((rd_T87 l0_1 x22_2).f3), .slice A304_4 ((rd_T87 l0_1 x22_2).f4).length c304_4] 87 (0, 0)) (by (with_reducible repeat (first | refine blk_drewN ?_ _ | refine blk_drew ?_ | refine blk_alloc ?_ _)); refine blk_far ?_ NB305_310.out _; (with_reducible repeat (first | refine blk_drewN ?_ _ | refine blk_drew ?_ | refine blk_alloc ?_ _)); refine blk_far ?_ NB305_310.out _; (with_reducible repeat (first | refine blk_drewN ?_ _ | refine blk_drew ?_ | refine blk_alloc ?_ _)); refine blk_far ?_ NB305_310.out _; (with_reducible repeat (first | refine blk_drewN ?_ _ | refine blk_drew ?_ | refine blk_alloc ?_ _)); exact BK305.out) hg (Kd.R_ne HO_7.out BK305.out (by decide))); have n3_ := Aside0.mk (blk_grown (g := gb310) (o := .cells #[.int .i64 ((rd_T89 ((rd_T87 l0_1 x22_2).f1) x32_3).f0), .int .i64 ((rd_T89 ((rd_T87 l0_1 x22_2).f1) x32_3).f1), .slice A309_2 ((rd_T89 ((rd_T87 l0_1 x22_2).f1) x32_3).f2).length c309_2] 89 (0, 0)) (by (with_reducible repeat (first | refine blk_drewN ?_ _ | refine blk_drew ?_ | refine blk_alloc ?_ _)); refine blk_put (cs := #[.int .i64 ((rd_T89 ((rd_T87 l0_1 x22_2).f1) x32_3).f0), .int .i64 ((rd_T89 ((rd_T87 l0_1 x22_2).f1) x32_3).f1), .slice none 0 0]) ?_ 2 _ rfl; (with_reducible repeat (first | refine blk_drewN ?_ _ | refine blk_drew ?_ | refine blk_alloc ?_ _)); refine blk_put (cs := #[.int .i64 ((rd_T89 ((rd_T87 l0_1 x22_2).f1) x32_3).f0), .int .i64 0, .slice none 0 0]) ?_ 1 _ rfl; (with_reducible repeat (first | refine blk_drewN ?_ _ | refine blk_drew ?_ | refine blk_alloc ?_ _)); refine blk_put (cs := #[.int .i64 0, .int .i64 0, .slice none 0 0]) ?_ 0 _ rfl; (with_reducible repeat (first | refine blk_drewN ?_ _ | refine blk_drew ?_ | refine blk_alloc ?_ _)); exact BK310.out) hg (Kd.R_ne HO_7.out BK310.out (by decide))); have n4_ := Aside0.mk (hb); have n5_ := Aside0.mk (ho); clear HO_3; clear BK300; clear BK305; clear BK310; clear HB; clear HO_7; have HO_3 := n0_; have BK300 := n1_; have BK305 := n2_; have BK310 := n3_; have HB := n4_; have HO313 := n5_; clear n0_ n1_ n2_ n3_ n4_ n5_; clear ho hb hg hat))
                                  go_roundg k3
                                  case measure => have := HK1.out; have := HK2.out; have := HK3.out; omega
                                  case rel => exact ⟨(y311), (wrap64 (x32_3 + 1)), (by first | rfl | (simp; done) | (simp [*]; done)), H', ⟨by have := HK1.out; have := HK2.out; have := HK3.out; omega⟩, ⟨by (with_reducible repeat (first | apply Kd.S_alloc | apply Kd.S_drewN | apply Kd.S_drew)); exact Kd.S_mono HO_3.out (fun _ hk => hk.2)⟩, ⟨by (with_reducible repeat (first | apply Kd.R_alloc | apply Kd.R_drewN | apply Kd.R_drew)); exact HO313.out⟩, ⟨by (with_reducible repeat (first | refine blk_drewN ?_ _ | refine blk_drew ?_ | refine blk_alloc ?_ _)); exact BK300.out⟩, ⟨by (with_reducible repeat (first | refine blk_drewN ?_ _ | refine blk_drew ?_ | refine blk_alloc ?_ _)); exact BK305.out⟩, ⟨by repeat (first | (with_reducible first | exact HB.out | apply below_alloc | apply pw_below_drewN | apply below_drew1 | refine below_set ?_ GE300.out | refine below_set ?_ GE305.out | refine below_set ?_ GE310.out) | exact HB.out)⟩⟩
                                · rw [if_neg c22] at H
                                  exact absurd H (by simp)
                              · rw [if_neg c21] at H
                                exact absurd H (by simp)
                            · rw [if_neg c20] at H
                              exact absurd H (by simp)
                          · rw [if_neg c19] at H
                            have c19b0 : decide (x32_3 < (((rd_T87 l0_1 x22_2).f1).length : Int)) = false := decide_eq_false c19
                            clear c19
                            replace H := Option.bind_eq_some_iff.mp H
                            obtain ⟨t314, A280, H⟩ := H
                            replace H : (spec_l14Live.l3 k3 x3_2 x4_2 x22_2 x7_3 l0_1 (l0_1.length : Int) x22_2 t314 (t314.length : Int) 0 a0_0 l0_1) = some r := H
                            have A28 := Aside0.mk A280
                            clear A280
                            have H' := Aside0.mk H
                            clear H
                            have hnb29 := NB300_305.out
                            have hnc29 := NB305_300.out
                            have hcz30_0 : wr.cell? ⟨gb300, 0, none⟩ = some (.int .i64 a0_0) := (blk_cell BK300.out 0).trans rfl
                            have hcz30_1 : wr.cell? ⟨gb300, 1, none⟩ = some (.slice (some ad304) l0_1.length c0_1) := (blk_cell BK300.out 1).trans rfl
                            have hfz30_0 := blk_frozen BK300.out 0
                            have hfz30_1 := blk_frozen BK300.out 1
                            go_wp2_with (first | ((with_reducible refine gate_callee (f := 62) rfl ?_); refine goesL_ (some 43) rfl rfl Try.func62 (by kernel_rfl) rfl #[.agg #[.int .i64 a0_0, .slice (some ad304) l0_1.length c0_1], .int .i64 x22_2] rfl (by (try simp only [List.map_toArray, List.map_cons, List.map_nil]); first | done | rfl | (simp only [List.length_drop, List.length_take]; rfl)) ?_; (with_reducible refine (spec_l13Next.calls k3 a0_0 _ _ l0_1 x22_2 t314 _ ?side1 ?side2 A28.out).mono ?_); (case side1 => repeat (first | exact (Kd.C_below HR0_1.out HB.out) | (with_reducible refine Kd.C_alloc ?_ _) | (with_reducible refine Kd.C_drewN ?_ _) | (with_reducible refine Kd.C_drew ?_))); (case side2 => exact HC0_1.out); rintro e w31 ⟨v315, rfl, ho0, hb⟩; refine ⟨_, rfl, ?_⟩; have n0_ := Aside0.mk (Kd.S_elder' (by (with_reducible repeat (first | apply Kd.S_alloc | apply Kd.S_drewN | apply Kd.S_drew)); exact HO_3.out) (Kd.R_base ho0) hb); have n1_ := Aside0.mk (Kd.R_elder' (by (with_reducible repeat (first | apply Kd.R_alloc | apply Kd.R_drewN | apply Kd.R_drew)); exact HO_7.out) (Kd.R_base ho0) hb); have n2_ := Aside0.mk (Kd.R_lower (Kd.R_new' ho0 (Kd.R_lt (by (with_reducible repeat (first | apply Kd.R_alloc | apply Kd.R_drewN | apply Kd.R_drew)); exact HO_7.out))) (below_size (by repeat (first | (with_reducible first | exact HB.out | apply below_alloc | apply pw_below_drewN | apply below_drew1 | refine below_set ?_ GE300.out | refine below_set ?_ GE305.out) | exact HB.out)))); have n3_ := Aside0.mk (blk_below (g := gb300) (o := .cells #[.int .i64 a0_0, .slice (some ad304) l0_1.length c0_1] 30 (0, 0)) (by (with_reducible repeat (first | refine blk_drewN ?_ _ | refine blk_drew ?_ | refine blk_alloc ?_ _)); exact BK300.out) hb); have n4_ := Aside0.mk (blk_below (g := gb305) (o := .cells #[.int .i64 ((rd_T87 l0_1 x22_2).f0), .slice A304_1 ((rd_T87 l0_1 x22_2).f1).length c304_1, .int .i64 ((rd_T87 l0_1 x22_2).f2), .int .i64 ((rd_T87 l0_1 x22_2).f3), .slice A304_4 ((rd_T87 l0_1 x22_2).f4).length c304_4] 87 (0, 0)) (by (with_reducible repeat (first | refine blk_drewN ?_ _ | refine blk_drew ?_ | refine blk_alloc ?_ _)); exact BK305.out) hb); have n5_ := Aside0.mk (below_step (by repeat (first | (with_reducible first | exact HB.out | apply below_alloc | apply pw_below_drewN | apply below_drew1 | refine below_set ?_ GE300.out | refine below_set ?_ GE305.out) | exact HB.out)) hb); clear HO_3; clear HO_7; clear BK300; clear BK305; clear HB; have HO_3 := n0_; have HO_7 := n1_; have HO316 := n2_; have BK300 := n3_; have BK305 := n4_; have HB := n5_; clear n0_ n1_ n2_ n3_ n4_ n5_; (try clear hb); (try clear hb2); (try clear hk); (try clear hi); (try clear ho0); obtain ⟨Ao32, co32, eo32⟩ := Kd.R_slice HO316.out; subst eo32))
                            go_loopg [7, 45] k3 (fun kq v7 v45 w' => ∃ (x7_4 : List Int) (x45_4 : Int), v45 = .int .i64 x45_4 ∧ Aside0 (spec_l14Live.l3 kq x3_2 x4_2 x22_2 x7_4 l0_1 (l0_1.length : Int) x22_2 t314 (t314.length : Int) x45_4 a0_0 l0_1 = some r) ∧ Aside0 (kq ≤ k3) ∧ Aside0 (Kd.S (Kd.slice 3 (Kd.int .i64)) 34 w' w.heap.size (fun k_ => some k_ ≠ (v7 : Value).ownBlock ∧ some k_ ≠ ((.slice Ao32 t314.length co32) : Value).ownBlock) v302 x3_2) ∧ Aside0 (Kd.R (Kd.int .i64) 3 w' w.heap.size (fun k_ => some k_ ≠ ((.slice Ao32 t314.length co32) : Value).ownBlock) v7 x7_4) ∧ Aside0 (Kd.R (Kd.int .i64) 3 w' w.heap.size (fun k_ => some k_ ≠ (v7 : Value).ownBlock) (.slice Ao32 t314.length co32) t314) ∧ Aside0 (w'.heap[gb300]? = some (.cells #[.int .i64 a0_0, (.slice (some ad304) l0_1.length c0_1)] 30 (0, 0))) ∧ Aside0 (w'.heap[gb305]? = some (.cells #[.int .i64 ((rd_T87 l0_1 x22_2).f0), (.slice A304_1 ((rd_T87 l0_1 x22_2).f1).length c304_1), .int .i64 ((rd_T87 l0_1 x22_2).f2), .int .i64 ((rd_T87 l0_1 x22_2).f3), (.slice A304_4 ((rd_T87 l0_1 x22_2).f4).length c304_4)] 87 (0, 0))) ∧ Aside0 (Below w.heap.size w w'))
                            case atStart => exact ⟨(x7_3), (0), (by first | rfl | (simp; done) | (simp [*]; done)), H', ⟨Nat.le_refl _⟩, ⟨by (with_reducible repeat (first | apply Kd.S_alloc | apply Kd.S_drewN | apply Kd.S_drew)); exact HO_3.out⟩, ⟨by (with_reducible repeat (first | apply Kd.R_alloc | apply Kd.R_drewN | apply Kd.R_drew)); exact Kd.R_mono HO_7.out (fun _ hk => hk.2)⟩, ⟨by (with_reducible repeat (first | apply Kd.R_alloc | apply Kd.R_drewN | apply Kd.R_drew)); exact Kd.R_mono HO316.out (fun _ hk => hk.2)⟩, ⟨by (with_reducible repeat (first | refine blk_drewN ?_ _ | refine blk_drew ?_ | refine blk_alloc ?_ _)); exact BK300.out⟩, ⟨by (with_reducible repeat (first | refine blk_drewN ?_ _ | refine blk_drew ?_ | refine blk_alloc ?_ _)); exact BK305.out⟩, ⟨by repeat (first | (with_reducible first | exact HB.out | apply below_alloc | apply pw_below_drewN | apply below_drew1 | refine below_set ?_ GE300.out | refine below_set ?_ GE305.out) | exact HB.out)⟩⟩
                            case round =>
                              clear H'
                              try clear c1
                              try clear c2
                              try clear c2b0
                              try clear c2b1
                              try clear p2
                              try clear c3
                              try clear c3b0
                              try clear c3b1
                              try clear p3
                              try clear q3
                              try clear hx3
                              try clear c6
                              try clear p6
                              try clear c8
                              try clear c10
                              try clear c10b0
                              try clear c11
                              try clear c11b0
                              try clear c12
                              try clear c12b0
                              try clear c15
                              try clear c19
                              try clear c19b0
                              try clear c20
                              try clear c20b0
                              try clear c21
                              try clear c21b0
                              try clear c22
                              try clear c24
                              try clear c25
                              try clear c29
                              try clear c30
                              try clear p30
                              try clear q30
                              try clear hx30
                              try clear hcz16_0
                              try clear hcz16_1
                              try clear hcz16_2
                              try clear hcz16_3
                              try clear hcz16_4
                              try clear hcz18_0
                              try clear hcz18_1
                              try clear hcz18_2
                              try clear hcz18_3
                              try clear hcz18_4
                              try clear hcz26_0
                              try clear hcz26_1
                              try clear hcz26_2
                              try clear hcz30_0
                              try clear hcz30_1
                              try clear hcz5_0
                              try clear hcz5_1
                              try clear hcz9_0
                              try clear hcz9_1
                              try clear hfz16_0
                              try clear hfz16_1
                              try clear hfz16_2
                              try clear hfz16_3
                              try clear hfz16_4
                              try clear hfz18_0
                              try clear hfz18_1
                              try clear hfz18_2
                              try clear hfz18_3
                              try clear hfz18_4
                              try clear hfz26_0
                              try clear hfz26_1
                              try clear hfz26_2
                              try clear hfz30_0
                              try clear hfz30_1
                              try clear hfz5_0
                              try clear hfz5_1
                              try clear hfz9_0
                              try clear hfz9_1
                              try clear hx304_0
                              try clear hx304_1
                              try clear hx304_2
                              try clear hx304_3
                              try clear hx304_4
                              try clear hx309_0
                              try clear hx309_1
                              try clear hx309_2
                              try clear p2
                              try clear p3
                              try clear p304
                              try clear p309
                              try clear q3
                              try clear q304
                              try clear q309
                              obtain ⟨x7_4, x45_4, rfl, HA, HK4, HO_3, HO_7, HO_43, BK300, BK305, HB⟩ := hrel
                              cases gk with
                              | zero => exact absurd HA.out (by simp [spec_l14Live.l3])
                              | succ k4 =>
                                have H := HA.out
                                clear HA
                                simp only [spec_l14Live.l3] at H
                                by_cases c33 : x45_4 < (t314.length : Int)
                                · rw [if_pos c33] at H
                                  have c33b0 : decide (x45_4 < (t314.length : Int)) = true := decide_eq_true c33
                                  clear c33
                                  by_cases c34 : 0 ≤ x45_4
                                  · rw [if_pos c34] at H
                                    have c34b0 : decide (0 ≤ x45_4) = true := decide_eq_true c34
                                    clear c34
                                    by_cases c35 : x45_4 < (t314.length : Int)
                                    · rw [if_pos c35] at H
                                      have c35b0 : decide (x45_4 < (t314.length : Int)) = true := decide_eq_true c35
                                      clear c35
                                      by_cases c36 : 0 ≤ (rd t314 x45_4)
                                      · rw [if_pos c36] at H
                                        have c36b0 : decide (0 ≤ (rd t314 x45_4)) = true := decide_eq_true c36
                                        clear c36
                                        by_cases c37 : (rd t314 x45_4) < (x3_2.length : Int)
                                        · rw [if_pos c37] at H
                                          have c37b0 : decide ((rd t314 x45_4) < (x3_2.length : Int)) = true := decide_eq_true c37
                                          clear c37
                                          by_cases c38 : x7_4.length + (rd_L1 x3_2 (rd t314 x45_4)).length < 17592186044416
                                          · rw [if_pos c38] at H
                                            have LMc38 := Aside0.mk c38
                                            clear c38
                                            obtain ⟨y319, hy319⟩ : ∃ y_ : List Int, y_ = (x7_4 ++ (rd_L1 x3_2 (rd t314 x45_4))) := ⟨_, rfl⟩
                                            replace H : (spec_l14Live.l3 k4 x3_2 x4_2 x22_2 y319 l0_1 (l0_1.length : Int) x22_2 t314 (t314.length : Int) (wrap64 (x45_4 + 1)) a0_0 l0_1) = some r := by first | (rw [hy319]; with_reducible exact H) | (have H2_ := (Option.bind_some _ _).symm.trans H; rw [hy319]; with_reducible exact H2_) | (have H2_ := (Option.bind_some _ _).symm.trans H; with_reducible exact H2_) | with_reducible exact H | (rw [hy319]; exact H) | exact H
                                            have Ny319 := Aside0.mk hy319
                                            clear hy319
                                            have H' := Aside0.mk H
                                            clear H
                                            have p317 : 0 ≤ (x45_4 : Int) := of_decide_eq_true (by first | (with_reducible assumption) | assumption)
                                            have q317 : x45_4 < (t314.length : Int) := of_decide_eq_true (by first | (with_reducible assumption) | assumption)
                                            obtain ⟨ad317, e317, hx317_0⟩ := Kd.at_int (Kd.R_reads' HO_43.out).2.2 x45_4 p317 q317
                                            cases e317
                                            replace p317 := eq_true p317
                                            replace q317 := eq_true q317
                                            obtain ⟨Ao39, co39, eo39⟩ := Kd.S_slice HO_3.out
                                            subst eo39
                                            have p318 : 0 ≤ ((rd t314 x45_4) : Int) := of_decide_eq_true (by first | (with_reducible assumption) | assumption)
                                            have q318 : (rd t314 x45_4) < (x3_2.length : Int) := of_decide_eq_true (by first | (with_reducible assumption) | assumption)
                                            obtain ⟨ad318, A318_0, c318_0, e318, hx318_0, hl318_0, hi318_0⟩ := at_L1 (Kd.S_reads' HO_3.out).2.2 (rd t314 x45_4) p318 q318
                                            cases e318
                                            obtain ⟨ce318, hce318, hMe318, hcc318⟩ := Kd.S_get HO_3.out [] (rd t314 x45_4) p318 (by first | exact q318 | exact of_decide_eq_true (by first | (with_reducible assumption) | assumption) | (have e_ := (Kd.S_reads' HO_3.out).1; omega))
                                            obtain ⟨ve318_0, rfl, ge318_0⟩ := hMe318
                                            have hv318_0 := hcc318 0 _ rfl
                                            rw [Nat.add_zero, show ((Kd.slice 3 (Kd.int .i64))).sz = 1 from rfl, Nat.mul_one] at hv318_0
                                            replace hv318_0 := Option.some.inj (hv318_0.symm.trans hx318_0)
                                            rw [hv318_0] at ge318_0
                                            have HL318_0 := Aside0.mk (show Kd.R (Kd.int .i64) 3 _ _ _ _ (rd_L1 x3_2 (rd t314 x45_4)) from ge318_0)
                                            clear hv318_0 ge318_0
                                            clear hcc318 hce318
                                            have HR318_0 := Aside0.mk hi318_0
                                            have HC318_0 := Aside0.mk hl318_0
                                            clear hi318_0 hl318_0
                                            replace p318 := eq_true p318
                                            replace q318 := eq_true q318
                                            go_wp2_with (first | ((with_reducible refine gate_builtin (b := .append) (xs := #[.tmp 49, .tmp 53]) rfl ?_); at_builtin; refine Kd.R_append_rows (Kd.int .i64) (w0 := w) w.heap.size rfl (.tmp 49) (.tmp 53) 34 3 (.int .i64 0) 8 rfl Try.underlying34 info3 rfl (by decide) (by omega) u7 x7_4 (rd_L1 x3_2 (rd t314 x45_4)) _ _ _ (fun k_ => some k_ ≠ (.slice (some ad317) t314.length co32 : Value).ownBlock) (fun _ => False) rfl rfl ?aO ?aR (fun _ _ h => h) (fun _ h => h.elim) ?aF ?aB ?aS ?aL ?_; (case aR => repeat (first | exact (by repeat (first | (with_reducible exact HR318_0.out) | (with_reducible refine Kd.C_alloc ?_ _) | (with_reducible refine Kd.C_drewN ?_ _) | (with_reducible refine Kd.C_drew ?_) | exact HR318_0.out)) | (with_reducible refine Kd.C_alloc ?_ _) | (with_reducible refine Kd.C_drewN ?_ _) | (with_reducible refine Kd.C_drew ?_))); (case aB => exact (by repeat (first | (with_reducible first | exact HB.out | apply below_alloc | apply pw_below_drewN | apply below_drew1 | refine below_set ?_ GE300.out | refine below_set ?_ GE305.out) | exact HB.out))); (case aF => exact (fun k_ hk => Kd.fresh' (Kd.R_lt (by (with_reducible repeat (first | apply Kd.R_alloc | apply Kd.R_drewN | apply Kd.R_drew)); exact HO_43.out)) k_ hk)); (case aO => exact (by (with_reducible repeat (first | apply Kd.R_alloc | apply Kd.R_drewN | apply Kd.R_drew)); exact HO_7.out)); (case aS => exact (below_size (by repeat (first | (with_reducible first | exact HB.out | apply below_alloc | apply pw_below_drewN | apply below_drew1 | refine below_set ?_ GE300.out | refine below_set ?_ GE305.out) | exact HB.out)))); (case aL => have := LMc38.out; omega); intro v320 w40 ho hb hg hat; rw [← Ny319.out] at ho; have n0_ := Aside0.mk (Kd.S_after (ok := (fun k_ => some k_ ≠ (.slice (some ad317) t314.length co32 : Value).ownBlock)) (by (with_reducible repeat (first | apply Kd.S_alloc | apply Kd.S_drewN | apply Kd.S_drew)); exact Kd.S_mono HO_3.out (fun _ hk => ⟨hk.2, hk.1⟩)) hg hat); have n1_ := Aside0.mk (Kd.R_after (ok := (fun _ => True)) (by (with_reducible repeat (first | apply Kd.R_alloc | apply Kd.R_drewN | apply Kd.R_drew)); exact Kd.R_mono HO_43.out (fun _ hk => ⟨trivial, hk⟩)) hg hat); have n2_ := Aside0.mk (blk_grown (g := gb300) (o := .cells #[.int .i64 a0_0, .slice (some ad304) l0_1.length c0_1] 30 (0, 0)) (by (with_reducible repeat (first | refine blk_drewN ?_ _ | refine blk_drew ?_ | refine blk_alloc ?_ _)); exact BK300.out) hg (Kd.R_ne HO_7.out BK300.out (by decide))); have n3_ := Aside0.mk (blk_grown (g := gb305) (o := .cells #[.int .i64 ((rd_T87 l0_1 x22_2).f0), .slice A304_1 ((rd_T87 l0_1 x22_2).f1).length c304_1, .int .i64 ((rd_T87 l0_1 x22_2).f2), .int .i64 ((rd_T87 l0_1 x22_2).f3), .slice A304_4 ((rd_T87 l0_1 x22_2).f4).length c304_4] 87 (0, 0)) (by (with_reducible repeat (first | refine blk_drewN ?_ _ | refine blk_drew ?_ | refine blk_alloc ?_ _)); exact BK305.out) hg (Kd.R_ne HO_7.out BK305.out (by decide))); have n4_ := Aside0.mk (Kd.R_after (ok := (fun k_ => some k_ ≠ (.slice (some ad318) x3_2.length co39 : Value).ownBlock ∧ some k_ ≠ (.slice (some ad317) t314.length co32 : Value).ownBlock)) (by (with_reducible repeat (first | apply Kd.R_alloc | apply Kd.R_drewN | apply Kd.R_drew)); exact Kd.R_mono HL318_0.out (fun _ hk => ⟨⟨hk.2, hk.1.2⟩, hk.1.1⟩)) hg hat); have n5_ := Aside0.mk (hb); have n6_ := Aside0.mk (ho); clear HO_3; clear HO_43; clear BK300; clear BK305; clear HL318_0; clear HB; clear HO_7; have HO_3 := n0_; have HO_43 := n1_; have BK300 := n2_; have BK305 := n3_; have HL318_0 := n4_; have HB := n5_; have HO321 := n6_; clear n0_ n1_ n2_ n3_ n4_ n5_ n6_; clear ho hb hg hat))
                                            go_roundg k4
                                            case measure => have := HK1.out; have := HK2.out; have := HK3.out; have := HK4.out; omega
                                            case rel => exact ⟨(y319), (wrap64 (x45_4 + 1)), (by first | rfl | (simp; done) | (simp [*]; done)), H', ⟨by have := HK1.out; have := HK2.out; have := HK3.out; have := HK4.out; omega⟩, ⟨by (with_reducible repeat (first | apply Kd.S_alloc | apply Kd.S_drewN | apply Kd.S_drew)); exact Kd.S_mono HO_3.out (fun _ hk => ⟨hk.2, hk.1⟩)⟩, ⟨by (with_reducible repeat (first | apply Kd.R_alloc | apply Kd.R_drewN | apply Kd.R_drew)); exact HO321.out⟩, ⟨by (with_reducible repeat (first | apply Kd.R_alloc | apply Kd.R_drewN | apply Kd.R_drew)); exact Kd.R_mono HO_43.out (fun _ hk => hk.2)⟩, ⟨by (with_reducible repeat (first | refine blk_drewN ?_ _ | refine blk_drew ?_ | refine blk_alloc ?_ _)); exact BK300.out⟩, ⟨by (with_reducible repeat (first | refine blk_drewN ?_ _ | refine blk_drew ?_ | refine blk_alloc ?_ _)); exact BK305.out⟩, ⟨by repeat (first | (with_reducible first | exact HB.out | apply below_alloc | apply pw_below_drewN | apply below_drew1 | refine below_set ?_ GE300.out | refine below_set ?_ GE305.out) | exact HB.out)⟩⟩
                                          · rw [if_neg c38] at H
                                            exact absurd H (by simp)
                                        · rw [if_neg c37] at H
                                          exact absurd H (by simp)
                                      · rw [if_neg c36] at H
                                        exact absurd H (by simp)
                                    · rw [if_neg c35] at H
                                      exact absurd H (by simp)
                                  · rw [if_neg c34] at H
                                    exact absurd H (by simp)
                                · rw [if_neg c33] at H
                                  have c33b0 : decide (x45_4 < (t314.length : Int)) = false := decide_eq_false c33
                                  clear c33
                                  have H' := Aside0.mk H
                                  clear H
                                  obtain ⟨Ao41, co41, eo41⟩ := Kd.R_slice HO_7.out
                                  subst eo41
                                  go_wp2
                                  go_loopg [4, 58] k4 (fun kq v4 v58 w' => ∃ (x3_5 : List (List Int)) (x4_5 : Bool) (x58_5 : Int), v4 = .bool x4_5 ∧ v58 = .int .i64 x58_5 ∧ Aside0 (spec_l14Live.l4 kq x3_5 x4_5 x22_2 l0_1 (l0_1.length : Int) x22_2 x7_4 (x7_4.length : Int) x58_5 a0_0 l0_1 = some r) ∧ Aside0 (kq ≤ k4) ∧ Aside0 (Kd.S (Kd.slice 3 (Kd.int .i64)) 34 w' w.heap.size (fun k_ => some k_ ≠ ((.slice Ao41 x7_4.length co41) : Value).ownBlock) v302 x3_5) ∧ Aside0 (Kd.R (Kd.int .i64) 3 w' w.heap.size (fun _ => True) (.slice Ao41 x7_4.length co41) x7_4) ∧ Aside0 (w'.heap[gb300]? = some (.cells #[.int .i64 a0_0, (.slice (some ad304) l0_1.length c0_1)] 30 (0, 0))) ∧ Aside0 (w'.heap[gb305]? = some (.cells #[.int .i64 ((rd_T87 l0_1 x22_2).f0), (.slice A304_1 ((rd_T87 l0_1 x22_2).f1).length c304_1), .int .i64 ((rd_T87 l0_1 x22_2).f2), .int .i64 ((rd_T87 l0_1 x22_2).f3), (.slice A304_4 ((rd_T87 l0_1 x22_2).f4).length c304_4)] 87 (0, 0))) ∧ Aside0 (Below w.heap.size w w'))
                                  case atStart => exact ⟨(x3_2), (x4_2), (0), (by first | rfl | (simp; done) | (simp [*]; done)), (by first | rfl | (simp; done) | (simp [*]; done)), H', ⟨Nat.le_refl _⟩, ⟨by (with_reducible repeat (first | apply Kd.S_alloc | apply Kd.S_drewN | apply Kd.S_drew)); exact Kd.S_mono HO_3.out (fun _ hk => hk.1)⟩, ⟨by (with_reducible repeat (first | apply Kd.R_alloc | apply Kd.R_drewN | apply Kd.R_drew)); exact Kd.R_mono HO_7.out (fun _ hk => trivial)⟩, ⟨by (with_reducible repeat (first | refine blk_drewN ?_ _ | refine blk_drew ?_ | refine blk_alloc ?_ _)); exact BK300.out⟩, ⟨by (with_reducible repeat (first | refine blk_drewN ?_ _ | refine blk_drew ?_ | refine blk_alloc ?_ _)); exact BK305.out⟩, ⟨by repeat (first | (with_reducible first | exact HB.out | apply below_alloc | apply pw_below_drewN | apply below_drew1 | refine below_set ?_ GE300.out | refine below_set ?_ GE305.out) | exact HB.out)⟩⟩
                                  case round =>
                                    clear H'
                                    try clear c1
                                    try clear c2
                                    try clear c2b0
                                    try clear c2b1
                                    try clear p2
                                    try clear c3
                                    try clear c3b0
                                    try clear c3b1
                                    try clear p3
                                    try clear q3
                                    try clear hx3
                                    try clear c6
                                    try clear p6
                                    try clear c8
                                    try clear c10
                                    try clear c10b0
                                    try clear c11
                                    try clear c11b0
                                    try clear c12
                                    try clear c12b0
                                    try clear c15
                                    try clear c19
                                    try clear c19b0
                                    try clear c20
                                    try clear c20b0
                                    try clear c21
                                    try clear c21b0
                                    try clear c22
                                    try clear c24
                                    try clear c25
                                    try clear c29
                                    try clear c30
                                    try clear p30
                                    try clear q30
                                    try clear hx30
                                    try clear c31
                                    try clear p31
                                    try clear q31
                                    try clear hx31
                                    try clear c33
                                    try clear c33b0
                                    try clear c34
                                    try clear c34b0
                                    try clear c35
                                    try clear c35b0
                                    try clear c36
                                    try clear c36b0
                                    try clear c37
                                    try clear c37b0
                                    try clear c38
                                    try clear hcz16_0
                                    try clear hcz16_1
                                    try clear hcz16_2
                                    try clear hcz16_3
                                    try clear hcz16_4
                                    try clear hcz18_0
                                    try clear hcz18_1
                                    try clear hcz18_2
                                    try clear hcz18_3
                                    try clear hcz18_4
                                    try clear hcz26_0
                                    try clear hcz26_1
                                    try clear hcz26_2
                                    try clear hcz30_0
                                    try clear hcz30_1
                                    try clear hcz5_0
                                    try clear hcz5_1
                                    try clear hcz9_0
                                    try clear hcz9_1
                                    try clear hfz16_0
                                    try clear hfz16_1
                                    try clear hfz16_2
                                    try clear hfz16_3
                                    try clear hfz16_4
                                    try clear hfz18_0
                                    try clear hfz18_1
                                    try clear hfz18_2
                                    try clear hfz18_3
                                    try clear hfz18_4
                                    try clear hfz26_0
                                    try clear hfz26_1
                                    try clear hfz26_2
                                    try clear hfz30_0
                                    try clear hfz30_1
                                    try clear hfz5_0
                                    try clear hfz5_1
                                    try clear hfz9_0
                                    try clear hfz9_1
                                    try clear hx304_0
                                    try clear hx304_1
                                    try clear hx304_2
                                    try clear hx304_3
                                    try clear hx304_4
                                    try clear hx309_0
                                    try clear hx309_1
                                    try clear hx309_2
                                    try clear hx317_0
                                    try clear hx318_0
                                    try clear p2
                                    try clear p3
                                    try clear p30
                                    try clear p304
                                    try clear p309
                                    try clear p317
                                    try clear p318
                                    try clear p6
                                    try clear q3
                                    try clear q30
                                    try clear q304
                                    try clear q309
                                    try clear q317
                                    try clear q318
                                    obtain ⟨x3_5, x4_5, x58_5, rfl, rfl, HA, HK5, HO_3, HO_56, BK300, BK305, HB⟩ := hrel
                                    cases gk with
                                    | zero => exact absurd HA.out (by simp [spec_l14Live.l4])
                                    | succ k5 =>
                                      have H := HA.out
                                      clear HA
                                      simp only [spec_l14Live.l4] at H
                                      by_cases c42 : x58_5 < (x7_4.length : Int)
                                      · rw [if_pos c42] at H
                                        have c42b0 : decide (x58_5 < (x7_4.length : Int)) = true := decide_eq_true c42
                                        clear c42
                                        by_cases c43 : 0 ≤ x58_5
                                        · rw [if_pos c43] at H
                                          have c43b0 : decide (0 ≤ x58_5) = true := decide_eq_true c43
                                          clear c43
                                          by_cases c44 : x58_5 < (x7_4.length : Int)
                                          · rw [if_pos c44] at H
                                            have c44b0 : decide (x58_5 < (x7_4.length : Int)) = true := decide_eq_true c44
                                            clear c44
                                            replace H := Option.bind_eq_some_iff.mp H
                                            obtain ⟨t323, A450, H⟩ := H
                                            replace H : (if t323 = x22_2 then (spec_l14Live.l4 k5 x3_5 x4_5 x22_2 l0_1 (l0_1.length : Int) x22_2 x7_4 (x7_4.length : Int) (wrap64 (x58_5 + 1)) a0_0 l0_1) else (if 0 ≤ x22_2 then (if x22_2 < (x3_5.length : Int) then ((spec_l1Has.f k5 (rd_L1 x3_5 x22_2) (rd x7_4 x58_5)).bind fun t325 => (if t325 = true then (spec_l14Live.l4 k5 x3_5 x4_5 x22_2 l0_1 (l0_1.length : Int) x22_2 x7_4 (x7_4.length : Int) (wrap64 (x58_5 + 1)) a0_0 l0_1) else ((newPut.f k5 (rd_L1 x3_5 x22_2) (rd x7_4 x58_5)).bind fun t327 => (spec_l14Live.l4 k5 (x3_5.set (x22_2 : Int).toNat t327) true x22_2 l0_1 (l0_1.length : Int) x22_2 x7_4 (x7_4.length : Int) (wrap64 (x58_5 + 1)) a0_0 l0_1)))) else (none)) else (none))) = some r := H
                                            have A45 := Aside0.mk A450
                                            clear A450
                                            by_cases c46 : t323 = x22_2
                                            · rw [if_pos c46] at H
                                              have c46b0 : (t323 == x22_2) = true := beq_iff_eq.mpr c46
                                              have c46b1 : (t323 != x22_2) = false := bne_eq_false_iff_eq.mpr c46
                                              clear c46
                                              have H' := Aside0.mk H
                                              clear H
                                              have p322 : 0 ≤ (x58_5 : Int) := of_decide_eq_true (by first | (with_reducible assumption) | assumption)
                                              have q322 : x58_5 < (x7_4.length : Int) := of_decide_eq_true (by first | (with_reducible assumption) | assumption)
                                              obtain ⟨ad322, e322, hx322_0⟩ := Kd.at_int (Kd.R_reads' HO_56.out).2.2 x58_5 p322 q322
                                              cases e322
                                              replace p322 := eq_true p322
                                              replace q322 := eq_true q322
                                              have hnb47 := NB300_305.out
                                              have hnc47 := NB305_300.out
                                              have hcz48_0 : wr.cell? ⟨gb300, 0, none⟩ = some (.int .i64 a0_0) := (blk_cell BK300.out 0).trans rfl
                                              have hcz48_1 : wr.cell? ⟨gb300, 1, none⟩ = some (.slice (some ad304) l0_1.length c0_1) := (blk_cell BK300.out 1).trans rfl
                                              have hfz48_0 := blk_frozen BK300.out 0
                                              have hfz48_1 := blk_frozen BK300.out 1
                                              go_wp2_with (first | ((with_reducible refine gate_callee (f := 54) rfl ?_); refine goesL_ (some 64) rfl rfl Try.func54 (by kernel_rfl) rfl #[.agg #[.int .i64 a0_0, .slice (some ad304) l0_1.length c0_1], .int .i64 (rd x7_4 x58_5)] rfl (by (try simp only [List.map_toArray, List.map_cons, List.map_nil]); first | done | rfl | (simp only [List.length_drop, List.length_take]; rfl)) ?_; (with_reducible refine (spec_l14Block.calls k5 a0_0 _ _ l0_1 (rd x7_4 x58_5) t323 _ ?side1 ?side2 A45.out).mono ?_); (case side1 => repeat (first | exact (Kd.C_below HR0_1.out HB.out) | (with_reducible refine Kd.C_alloc ?_ _) | (with_reducible refine Kd.C_drewN ?_ _) | (with_reducible refine Kd.C_drew ?_))); (case side2 => exact HC0_1.out); rintro e w49 ⟨rfl, hb⟩; refine ⟨_, rfl, ?_⟩; have n0_ := Aside0.mk (Kd.S_below (by (with_reducible repeat (first | apply Kd.S_alloc | apply Kd.S_drewN | apply Kd.S_drew)); exact HO_3.out) hb); have n1_ := Aside0.mk (Kd.R_below (by (with_reducible repeat (first | apply Kd.R_alloc | apply Kd.R_drewN | apply Kd.R_drew)); exact HO_56.out) hb); have n2_ := Aside0.mk (blk_below (g := gb300) (o := .cells #[.int .i64 a0_0, .slice (some ad304) l0_1.length c0_1] 30 (0, 0)) (by (with_reducible repeat (first | refine blk_drewN ?_ _ | refine blk_drew ?_ | refine blk_alloc ?_ _)); exact BK300.out) hb); have n3_ := Aside0.mk (blk_below (g := gb305) (o := .cells #[.int .i64 ((rd_T87 l0_1 x22_2).f0), .slice A304_1 ((rd_T87 l0_1 x22_2).f1).length c304_1, .int .i64 ((rd_T87 l0_1 x22_2).f2), .int .i64 ((rd_T87 l0_1 x22_2).f3), .slice A304_4 ((rd_T87 l0_1 x22_2).f4).length c304_4] 87 (0, 0)) (by (with_reducible repeat (first | refine blk_drewN ?_ _ | refine blk_drew ?_ | refine blk_alloc ?_ _)); exact BK305.out) hb); have n4_ := Aside0.mk (below_step (by repeat (first | (with_reducible first | exact HB.out | apply below_alloc | apply pw_below_drewN | apply below_drew1 | refine below_set ?_ GE300.out | refine below_set ?_ GE305.out) | exact HB.out)) hb); clear HO_3; clear HO_56; clear BK300; clear BK305; clear HB; have HO_3 := n0_; have HO_56 := n1_; have BK300 := n2_; have BK305 := n3_; have HB := n4_; clear n0_ n1_ n2_ n3_ n4_; (try clear hb); (try clear hb2); (try clear hk); (try clear hi)))
                                              go_roundg k5
                                              case measure => have := HK1.out; have := HK2.out; have := HK3.out; have := HK4.out; have := HK5.out; omega
                                              case rel => exact ⟨(x3_5), (x4_5), (wrap64 (x58_5 + 1)), (by first | rfl | (simp; done) | (simp [*]; done)), (by first | rfl | (simp; done) | (simp [*]; done)), H', ⟨by have := HK1.out; have := HK2.out; have := HK3.out; have := HK4.out; have := HK5.out; omega⟩, ⟨by (with_reducible repeat (first | apply Kd.S_alloc | apply Kd.S_drewN | apply Kd.S_drew)); exact HO_3.out⟩, ⟨by (with_reducible repeat (first | apply Kd.R_alloc | apply Kd.R_drewN | apply Kd.R_drew)); exact HO_56.out⟩, ⟨by (with_reducible repeat (first | refine blk_drewN ?_ _ | refine blk_drew ?_ | refine blk_alloc ?_ _)); exact BK300.out⟩, ⟨by (with_reducible repeat (first | refine blk_drewN ?_ _ | refine blk_drew ?_ | refine blk_alloc ?_ _)); exact BK305.out⟩, ⟨by repeat (first | (with_reducible first | exact HB.out | apply below_alloc | apply pw_below_drewN | apply below_drew1 | refine below_set ?_ GE300.out | refine below_set ?_ GE305.out) | exact HB.out)⟩⟩
                                            · rw [if_neg c46] at H
                                              have c46b0 : (t323 == x22_2) = false := beq_eq_false_iff_ne.mpr c46
                                              have c46b1 : (t323 != x22_2) = true := bne_iff_ne.mpr c46
                                              by_cases c50 : 0 ≤ x22_2
                                              · rw [if_pos c50] at H
                                                have c50b0 : decide (0 ≤ x22_2) = true := decide_eq_true c50
                                                clear c50
                                                by_cases c51 : x22_2 < (x3_5.length : Int)
                                                · rw [if_pos c51] at H
                                                  have c51b0 : decide (x22_2 < (x3_5.length : Int)) = true := decide_eq_true c51
                                                  clear c51
                                                  replace H := Option.bind_eq_some_iff.mp H
                                                  obtain ⟨t325, A520, H⟩ := H
                                                  replace H : (if t325 = true then (spec_l14Live.l4 k5 x3_5 x4_5 x22_2 l0_1 (l0_1.length : Int) x22_2 x7_4 (x7_4.length : Int) (wrap64 (x58_5 + 1)) a0_0 l0_1) else ((newPut.f k5 (rd_L1 x3_5 x22_2) (rd x7_4 x58_5)).bind fun t327 => (spec_l14Live.l4 k5 (x3_5.set (x22_2 : Int).toNat t327) true x22_2 l0_1 (l0_1.length : Int) x22_2 x7_4 (x7_4.length : Int) (wrap64 (x58_5 + 1)) a0_0 l0_1))) = some r := H
                                                  have A52 := Aside0.mk A520
                                                  clear A520
                                                  by_cases c53 : t325 = true
                                                  · subst c53
                                                    have H1 : (spec_l14Live.l4 k5 x3_5 x4_5 x22_2 l0_1 (l0_1.length : Int) x22_2 x7_4 (x7_4.length : Int) (wrap64 (x58_5 + 1)) a0_0 l0_1) = some r := by rw [if_pos rfl] at H; exact H
                                                    clear H
                                                    have H := H1
                                                    clear H1
                                                    have H' := Aside0.mk H
                                                    clear H
                                                    have p322 : 0 ≤ (x58_5 : Int) := of_decide_eq_true (by first | (with_reducible assumption) | assumption)
                                                    have q322 : x58_5 < (x7_4.length : Int) := of_decide_eq_true (by first | (with_reducible assumption) | assumption)
                                                    obtain ⟨ad322, e322, hx322_0⟩ := Kd.at_int (Kd.R_reads' HO_56.out).2.2 x58_5 p322 q322
                                                    cases e322
                                                    replace p322 := eq_true p322
                                                    replace q322 := eq_true q322
                                                    have hnb54 := NB300_305.out
                                                    have hnc54 := NB305_300.out
                                                    have hcz55_0 : wr.cell? ⟨gb300, 0, none⟩ = some (.int .i64 a0_0) := (blk_cell BK300.out 0).trans rfl
                                                    have hcz55_1 : wr.cell? ⟨gb300, 1, none⟩ = some (.slice (some ad304) l0_1.length c0_1) := (blk_cell BK300.out 1).trans rfl
                                                    have hfz55_0 := blk_frozen BK300.out 0
                                                    have hfz55_1 := blk_frozen BK300.out 1
                                                    go_wp2_with (first | ((with_reducible refine gate_callee (f := 54) rfl ?_); refine goesL_ (some 64) rfl rfl Try.func54 (by kernel_rfl) rfl #[.agg #[.int .i64 a0_0, .slice (some ad304) l0_1.length c0_1], .int .i64 (rd x7_4 x58_5)] rfl (by (try simp only [List.map_toArray, List.map_cons, List.map_nil]); first | done | rfl | (simp only [List.length_drop, List.length_take]; rfl)) ?_; (with_reducible refine (spec_l14Block.calls k5 a0_0 _ _ l0_1 (rd x7_4 x58_5) t323 _ ?side1 ?side2 A45.out).mono ?_); (case side1 => repeat (first | exact (Kd.C_below HR0_1.out HB.out) | (with_reducible refine Kd.C_alloc ?_ _) | (with_reducible refine Kd.C_drewN ?_ _) | (with_reducible refine Kd.C_drew ?_))); (case side2 => exact HC0_1.out); rintro e w56 ⟨rfl, hb⟩; refine ⟨_, rfl, ?_⟩; have n0_ := Aside0.mk (Kd.S_below (by (with_reducible repeat (first | apply Kd.S_alloc | apply Kd.S_drewN | apply Kd.S_drew)); exact HO_3.out) hb); have n1_ := Aside0.mk (Kd.R_below (by (with_reducible repeat (first | apply Kd.R_alloc | apply Kd.R_drewN | apply Kd.R_drew)); exact HO_56.out) hb); have n2_ := Aside0.mk (blk_below (g := gb300) (o := .cells #[.int .i64 a0_0, .slice (some ad304) l0_1.length c0_1] 30 (0, 0)) (by (with_reducible repeat (first | refine blk_drewN ?_ _ | refine blk_drew ?_ | refine blk_alloc ?_ _)); exact BK300.out) hb); have n3_ := Aside0.mk (blk_below (g := gb305) (o := .cells #[.int .i64 ((rd_T87 l0_1 x22_2).f0), .slice A304_1 ((rd_T87 l0_1 x22_2).f1).length c304_1, .int .i64 ((rd_T87 l0_1 x22_2).f2), .int .i64 ((rd_T87 l0_1 x22_2).f3), .slice A304_4 ((rd_T87 l0_1 x22_2).f4).length c304_4] 87 (0, 0)) (by (with_reducible repeat (first | refine blk_drewN ?_ _ | refine blk_drew ?_ | refine blk_alloc ?_ _)); exact BK305.out) hb); have n4_ := Aside0.mk (below_step (by repeat (first | (with_reducible first | exact HB.out | apply below_alloc | apply pw_below_drewN | apply below_drew1 | refine below_set ?_ GE300.out | refine below_set ?_ GE305.out) | exact HB.out)) hb); clear HO_3; clear HO_56; clear BK300; clear BK305; clear HB; have HO_3 := n0_; have HO_56 := n1_; have BK300 := n2_; have BK305 := n3_; have HB := n4_; clear n0_ n1_ n2_ n3_ n4_; (try clear hb); (try clear hb2); (try clear hk); (try clear hi); obtain ⟨Ao57, co57, eo57⟩ := Kd.S_slice HO_3.out; subst eo57; have p324 : 0 ≤ (x22_2 : Int) := of_decide_eq_true (by first | (with_reducible assumption) | assumption); have q324 : x22_2 < (x3_5.length : Int) := of_decide_eq_true (by first | (with_reducible assumption) | assumption); obtain ⟨ad324, A324_0, c324_0, e324, hx324_0, hl324_0, hi324_0⟩ := at_L1 (Kd.S_reads' HO_3.out).2.2 x22_2 p324 q324; cases e324; obtain ⟨ce324, hce324, hMe324, hcc324⟩ := Kd.S_get HO_3.out [] x22_2 p324 (by first | exact q324 | exact of_decide_eq_true (by first | (with_reducible assumption) | assumption) | (have e_ := (Kd.S_reads' HO_3.out).1; omega)); obtain ⟨ve324_0, rfl, ge324_0⟩ := hMe324; have hv324_0 := hcc324 0 _ rfl; rw [Nat.add_zero, show ((Kd.slice 3 (Kd.int .i64))).sz = 1 from rfl, Nat.mul_one] at hv324_0; replace hv324_0 := Option.some.inj (hv324_0.symm.trans hx324_0); rw [hv324_0] at ge324_0; have HL324_0 := Aside0.mk (show Kd.R (Kd.int .i64) 3 _ _ _ _ (rd_L1 x3_5 x22_2) from ge324_0); clear hv324_0 ge324_0; clear hcc324 hce324; have HR324_0 := Aside0.mk hi324_0; have HC324_0 := Aside0.mk hl324_0; clear hi324_0 hl324_0; replace p324 := eq_true p324; replace q324 := eq_true q324) | (go_at_call 83; (with_reducible refine (spec_l1Has.calls k5 _ _ (rd_L1 x3_5 x22_2) (rd x7_4 x58_5) true _ ?side1 ?side2 A52.out).mono ?_); (case side1 => repeat (first | exact (by repeat (first | (with_reducible exact HR324_0.out) | (with_reducible refine Kd.C_alloc ?_ _) | (with_reducible refine Kd.C_drewN ?_ _) | (with_reducible refine Kd.C_drew ?_) | exact HR324_0.out)) | (with_reducible refine Kd.C_alloc ?_ _) | (with_reducible refine Kd.C_drewN ?_ _) | (with_reducible refine Kd.C_drew ?_))); (case side2 => exact HC324_0.out); rintro e w' ⟨rfl, ⟨nd, rfl⟩⟩))
                                                    go_roundg k5
                                                    case measure => have := HK1.out; have := HK2.out; have := HK3.out; have := HK4.out; have := HK5.out; omega
                                                    case rel => exact ⟨(x3_5), (x4_5), (wrap64 (x58_5 + 1)), (by first | rfl | (simp; done) | (simp [*]; done)), (by first | rfl | (simp; done) | (simp [*]; done)), H', ⟨by have := HK1.out; have := HK2.out; have := HK3.out; have := HK4.out; have := HK5.out; omega⟩, ⟨by (with_reducible repeat (first | apply Kd.S_alloc | apply Kd.S_drewN | apply Kd.S_drew)); exact HO_3.out⟩, ⟨by (with_reducible repeat (first | apply Kd.R_alloc | apply Kd.R_drewN | apply Kd.R_drew)); exact HO_56.out⟩, ⟨by (with_reducible repeat (first | refine blk_drewN ?_ _ | refine blk_drew ?_ | refine blk_alloc ?_ _)); exact BK300.out⟩, ⟨by (with_reducible repeat (first | refine blk_drewN ?_ _ | refine blk_drew ?_ | refine blk_alloc ?_ _)); exact BK305.out⟩, ⟨by repeat (first | (with_reducible first | exact HB.out | apply below_alloc | apply pw_below_drewN | apply below_drew1 | refine below_set ?_ GE300.out | refine below_set ?_ GE305.out) | exact HB.out)⟩⟩
                                                  · replace c53 := Bool.eq_false_iff.mpr c53
                                                    subst c53
                                                    have H1 : ((newPut.f k5 (rd_L1 x3_5 x22_2) (rd x7_4 x58_5)).bind fun t327 => (spec_l14Live.l4 k5 (x3_5.set (x22_2 : Int).toNat t327) true x22_2 l0_1 (l0_1.length : Int) x22_2 x7_4 (x7_4.length : Int) (wrap64 (x58_5 + 1)) a0_0 l0_1)) = some r := by rw [if_neg (show ¬ (false = true) by decide)] at H; exact H
                                                    clear H
                                                    have H := H1
                                                    clear H1
                                                    replace H := Option.bind_eq_some_iff.mp H
                                                    obtain ⟨t327, A580, H⟩ := H
                                                    replace H : (spec_l14Live.l4 k5 (x3_5.set (x22_2 : Int).toNat t327) true x22_2 l0_1 (l0_1.length : Int) x22_2 x7_4 (x7_4.length : Int) (wrap64 (x58_5 + 1)) a0_0 l0_1) = some r := H
                                                    have A58 := Aside0.mk A580
                                                    clear A580
                                                    obtain ⟨y330, hy330⟩ : ∃ y_ : List (List Int), y_ = (x3_5.set (x22_2 : Int).toNat t327) := ⟨_, rfl⟩
                                                    replace H : (spec_l14Live.l4 k5 y330 true x22_2 l0_1 (l0_1.length : Int) x22_2 x7_4 (x7_4.length : Int) (wrap64 (x58_5 + 1)) a0_0 l0_1) = some r := by first | (rw [hy330]; with_reducible exact H) | (have H2_ := (Option.bind_some _ _).symm.trans H; rw [hy330]; with_reducible exact H2_) | (have H2_ := (Option.bind_some _ _).symm.trans H; with_reducible exact H2_) | with_reducible exact H | (rw [hy330]; exact H) | exact H
                                                    have Ny330 := Aside0.mk hy330
                                                    clear hy330
                                                    have H' := Aside0.mk H
                                                    clear H
                                                    have p322 : 0 ≤ (x58_5 : Int) := of_decide_eq_true (by first | (with_reducible assumption) | assumption)
                                                    have q322 : x58_5 < (x7_4.length : Int) := of_decide_eq_true (by first | (with_reducible assumption) | assumption)
                                                    obtain ⟨ad322, e322, hx322_0⟩ := Kd.at_int (Kd.R_reads' HO_56.out).2.2 x58_5 p322 q322
                                                    cases e322
                                                    replace p322 := eq_true p322
                                                    replace q322 := eq_true q322
                                                    have hnb60 := NB300_305.out
                                                    have hnc60 := NB305_300.out
                                                    have hcz61_0 : wr.cell? ⟨gb300, 0, none⟩ = some (.int .i64 a0_0) := (blk_cell BK300.out 0).trans rfl
                                                    have hcz61_1 : wr.cell? ⟨gb300, 1, none⟩ = some (.slice (some ad304) l0_1.length c0_1) := (blk_cell BK300.out 1).trans rfl
                                                    have hfz61_0 := blk_frozen BK300.out 0
                                                    have hfz61_1 := blk_frozen BK300.out 1
                                                    go_wp2_with (first | ((with_reducible refine gate_callee (f := 54) rfl ?_); refine goesL_ (some 64) rfl rfl Try.func54 (by kernel_rfl) rfl #[.agg #[.int .i64 a0_0, .slice (some ad304) l0_1.length c0_1], .int .i64 (rd x7_4 x58_5)] rfl (by (try simp only [List.map_toArray, List.map_cons, List.map_nil]); first | done | rfl | (simp only [List.length_drop, List.length_take]; rfl)) ?_; (with_reducible refine (spec_l14Block.calls k5 a0_0 _ _ l0_1 (rd x7_4 x58_5) t323 _ ?side1 ?side2 A45.out).mono ?_); (case side1 => repeat (first | exact (Kd.C_below HR0_1.out HB.out) | (with_reducible refine Kd.C_alloc ?_ _) | (with_reducible refine Kd.C_drewN ?_ _) | (with_reducible refine Kd.C_drew ?_))); (case side2 => exact HC0_1.out); rintro e w62 ⟨rfl, hb⟩; refine ⟨_, rfl, ?_⟩; have n0_ := Aside0.mk (Kd.S_below (by (with_reducible repeat (first | apply Kd.S_alloc | apply Kd.S_drewN | apply Kd.S_drew)); exact HO_3.out) hb); have n1_ := Aside0.mk (Kd.R_below (by (with_reducible repeat (first | apply Kd.R_alloc | apply Kd.R_drewN | apply Kd.R_drew)); exact HO_56.out) hb); have n2_ := Aside0.mk (blk_below (g := gb300) (o := .cells #[.int .i64 a0_0, .slice (some ad304) l0_1.length c0_1] 30 (0, 0)) (by (with_reducible repeat (first | refine blk_drewN ?_ _ | refine blk_drew ?_ | refine blk_alloc ?_ _)); exact BK300.out) hb); have n3_ := Aside0.mk (blk_below (g := gb305) (o := .cells #[.int .i64 ((rd_T87 l0_1 x22_2).f0), .slice A304_1 ((rd_T87 l0_1 x22_2).f1).length c304_1, .int .i64 ((rd_T87 l0_1 x22_2).f2), .int .i64 ((rd_T87 l0_1 x22_2).f3), .slice A304_4 ((rd_T87 l0_1 x22_2).f4).length c304_4] 87 (0, 0)) (by (with_reducible repeat (first | refine blk_drewN ?_ _ | refine blk_drew ?_ | refine blk_alloc ?_ _)); exact BK305.out) hb); have n4_ := Aside0.mk (below_step (by repeat (first | (with_reducible first | exact HB.out | apply below_alloc | apply pw_below_drewN | apply below_drew1 | refine below_set ?_ GE300.out | refine below_set ?_ GE305.out) | exact HB.out)) hb); clear HO_3; clear HO_56; clear BK300; clear BK305; clear HB; have HO_3 := n0_; have HO_56 := n1_; have BK300 := n2_; have BK305 := n3_; have HB := n4_; clear n0_ n1_ n2_ n3_ n4_; (try clear hb); (try clear hb2); (try clear hk); (try clear hi); obtain ⟨Ao63, co63, eo63⟩ := Kd.S_slice HO_3.out; subst eo63; have p324 : 0 ≤ (x22_2 : Int) := of_decide_eq_true (by first | (with_reducible assumption) | assumption); have q324 : x22_2 < (x3_5.length : Int) := of_decide_eq_true (by first | (with_reducible assumption) | assumption); obtain ⟨ad324, A324_0, c324_0, e324, hx324_0, hl324_0, hi324_0⟩ := at_L1 (Kd.S_reads' HO_3.out).2.2 x22_2 p324 q324; cases e324; obtain ⟨ce324, hce324, hMe324, hcc324⟩ := Kd.S_get HO_3.out [] x22_2 p324 (by first | exact q324 | exact of_decide_eq_true (by first | (with_reducible assumption) | assumption) | (have e_ := (Kd.S_reads' HO_3.out).1; omega)); obtain ⟨ve324_0, rfl, ge324_0⟩ := hMe324; have hv324_0 := hcc324 0 _ rfl; rw [Nat.add_zero, show ((Kd.slice 3 (Kd.int .i64))).sz = 1 from rfl, Nat.mul_one] at hv324_0; replace hv324_0 := Option.some.inj (hv324_0.symm.trans hx324_0); rw [hv324_0] at ge324_0; have HL324_0 := Aside0.mk (show Kd.R (Kd.int .i64) 3 _ _ _ _ (rd_L1 x3_5 x22_2) from ge324_0); clear hv324_0 ge324_0; clear hcc324 hce324; have HR324_0 := Aside0.mk hi324_0; have HC324_0 := Aside0.mk hl324_0; clear hi324_0 hl324_0; replace p324 := eq_true p324; replace q324 := eq_true q324) | (go_at_call 83; (with_reducible refine (spec_l1Has.calls k5 _ _ (rd_L1 x3_5 x22_2) (rd x7_4 x58_5) false _ ?side1 ?side2 A52.out).mono ?_); (case side1 => repeat (first | exact (by repeat (first | (with_reducible exact HR324_0.out) | (with_reducible refine Kd.C_alloc ?_ _) | (with_reducible refine Kd.C_drewN ?_ _) | (with_reducible refine Kd.C_drew ?_) | exact HR324_0.out)) | (with_reducible refine Kd.C_alloc ?_ _) | (with_reducible refine Kd.C_drewN ?_ _) | (with_reducible refine Kd.C_drew ?_))); (case side2 => exact HC324_0.out); rintro e w' ⟨rfl, ⟨nd, rfl⟩⟩; (try (rw [drewN_self w62]; generalize hq_ : World.drewN w62 _ = w62; have n0_ : Aside0 (Kd.R (Kd.int .i64) 3 w62 w.heap.size (fun k_ => some k_ ≠ (.slice (some ad324) x3_5.length co63 : Value).ownBlock ∧ some k_ ≠ (.slice (some ad322) x7_4.length co41 : Value).ownBlock) (.slice A324_0 (rd_L1 x3_5 x22_2).length c324_0) (rd_L1 x3_5 x22_2)) := ⟨by rw [← hq_]; exact (by (with_reducible repeat (first | apply Kd.R_alloc | apply Kd.R_drewN | apply Kd.R_drew)); exact Kd.R_mono HL324_0.out (fun _ hk => ⟨hk.2, hk.1⟩))⟩; have n1_ : Aside0 (Kd.S (Kd.slice 3 (Kd.int .i64)) 34 w62 w.heap.size (fun k_ => some k_ ≠ (.slice (some ad322) x7_4.length co41 : Value).ownBlock) (.slice (some ad324) x3_5.length co63) x3_5) := ⟨by rw [← hq_]; exact (by (with_reducible repeat (first | apply Kd.S_alloc | apply Kd.S_drewN | apply Kd.S_drew)); exact HO_3.out)⟩; have n2_ : Aside0 (Kd.R (Kd.int .i64) 3 w62 w.heap.size (fun _ => True) (.slice (some ad322) x7_4.length co41) x7_4) := ⟨by rw [← hq_]; exact (by (with_reducible repeat (first | apply Kd.R_alloc | apply Kd.R_drewN | apply Kd.R_drew)); exact HO_56.out)⟩; have n3_ : Aside0 (w62.heap[gb300]? = some (.cells #[.int .i64 a0_0, .slice (some ad304) l0_1.length c0_1] 30 (0, 0))) := ⟨by rw [← hq_]; exact (by (with_reducible repeat (first | refine blk_drewN ?_ _ | refine blk_drew ?_ | refine blk_alloc ?_ _)); exact BK300.out)⟩; have n4_ : Aside0 (w62.heap[gb305]? = some (.cells #[.int .i64 ((rd_T87 l0_1 x22_2).f0), .slice A304_1 ((rd_T87 l0_1 x22_2).f1).length c304_1, .int .i64 ((rd_T87 l0_1 x22_2).f2), .int .i64 ((rd_T87 l0_1 x22_2).f3), .slice A304_4 ((rd_T87 l0_1 x22_2).f4).length c304_4] 87 (0, 0))) := ⟨by rw [← hq_]; exact (by (with_reducible repeat (first | refine blk_drewN ?_ _ | refine blk_drew ?_ | refine blk_alloc ?_ _)); exact BK305.out)⟩; have n5_ : Aside0 (Below w.heap.size w w62) := ⟨by rw [← hq_]; exact (by repeat (first | (with_reducible first | exact HB.out | apply below_alloc | apply pw_below_drewN | apply below_drew1 | refine below_set ?_ GE300.out | refine below_set ?_ GE305.out) | exact HB.out))⟩; have n6_ : Aside0 (Kd.C (Kd.int .i64) w62 A324_0 (rd_L1 x3_5 x22_2).length (rd_L1 x3_5 x22_2)) := ⟨by rw [← hq_]; exact (by repeat (first | (with_reducible exact HR324_0.out) | (with_reducible refine Kd.C_alloc ?_ _) | (with_reducible refine Kd.C_drewN ?_ _) | (with_reducible refine Kd.C_drew ?_) | exact HR324_0.out))⟩; have hx324_0 : w62.cell? (ad324.add x22_2.toNat) = some (.slice A324_0 (rd_L1 x3_5 x22_2).length c324_0) := (by rw [← hq_]; exact hx324_0); clear HL324_0 HO_3 HO_56 BK300 BK305 HB HR324_0 hq_; have HL324_0 := n0_; have HO_3 := n1_; have HO_56 := n2_; have BK300 := n3_; have BK305 := n4_; have HB := n5_; have HR324_0 := n6_; clear n0_ n1_ n2_ n3_ n4_ n5_ n6_)); have p326 : 0 ≤ (x22_2 : Int) := of_decide_eq_true (by first | (with_reducible assumption) | assumption); have q326 : x22_2 < (x3_5.length : Int) := of_decide_eq_true (by first | (with_reducible assumption) | assumption); obtain ⟨ad326, A326_0, c326_0, e326, hx326_0, hl326_0, hi326_0⟩ := at_L1 (Kd.S_reads' HO_3.out).2.2 x22_2 p326 q326; obtain rfl : ad324 = ad326 := (by injection e326); obtain ⟨ce326, hce326, hMe326, hcc326⟩ := Kd.S_get HO_3.out [] x22_2 p326 (by first | exact q326 | exact of_decide_eq_true (by first | (with_reducible assumption) | assumption) | (have e_ := (Kd.S_reads' HO_3.out).1; omega)); obtain ⟨ve326_0, rfl, ge326_0⟩ := hMe326; have hv326_0 := hcc326 0 _ rfl; rw [Nat.add_zero, show ((Kd.slice 3 (Kd.int .i64))).sz = 1 from rfl, Nat.mul_one] at hv326_0; replace hv326_0 := Option.some.inj (hv326_0.symm.trans hx326_0); rw [hv326_0] at ge326_0; have HL326_0 := Aside0.mk (show Kd.R (Kd.int .i64) 3 _ _ _ _ (rd_L1 x3_5 x22_2) from ge326_0); clear hv326_0 ge326_0; clear hcc326 hce326; have HR326_0 := Aside0.mk hi326_0; have HC326_0 := Aside0.mk hl326_0; clear hi326_0 hl326_0; replace p326 := eq_true p326; replace q326 := eq_true q326; have ea_ := Option.some.inj (hx324_0.symm.trans hx326_0); injection ea_ with ea_ en_ ec_; subst ea_; subst ec_; clear en_) | ((with_reducible refine gate_callee (f := 105) rfl ?_); refine goesL_ (some 83) rfl rfl Try.func105 (by kernel_rfl) rfl #[.slice A324_0 (rd_L1 x3_5 x22_2).length c324_0, .int .i64 (rd x7_4 x58_5)] rfl (by (try simp only [List.map_toArray, List.map_cons, List.map_nil]); first | done | rfl | (simp only [List.length_drop, List.length_take]; rfl)) ?_; (with_reducible refine (newPut.calls k5 _ _ (rd_L1 x3_5 x22_2) (rd x7_4 x58_5) t327 _ ?side1 ?side2 A58.out ?side3).mono ?_); (case side3 => exact has_not (Kd.C_max HR326_0.out) A52.out); (case side1 => repeat (first | exact (by repeat (first | (with_reducible exact HR326_0.out) | (with_reducible refine Kd.C_alloc ?_ _) | (with_reducible refine Kd.C_drewN ?_ _) | (with_reducible refine Kd.C_drew ?_) | exact HR326_0.out)) | (with_reducible refine Kd.C_alloc ?_ _) | (with_reducible refine Kd.C_drewN ?_ _) | (with_reducible refine Kd.C_drew ?_))); (case side2 => exact HC326_0.out); rintro e w64 ⟨v328, rfl, ho0, hb⟩; refine ⟨_, rfl, ?_⟩; have n0_ := Aside0.mk (Kd.S_elder' (by (with_reducible repeat (first | apply Kd.S_alloc | apply Kd.S_drewN | apply Kd.S_drew)); exact HO_3.out) (Kd.R_base ho0) hb); have n1_ := Aside0.mk (Kd.R_elder' (by (with_reducible repeat (first | apply Kd.R_alloc | apply Kd.R_drewN | apply Kd.R_drew)); exact HO_56.out) (Kd.R_base ho0) hb); have n2_ := Aside0.mk (Kd.R_elder' (by (with_reducible repeat (first | apply Kd.R_alloc | apply Kd.R_drewN | apply Kd.R_drew)); exact HL324_0.out) (Kd.R_base ho0) hb); have n3_ := Aside0.mk (Kd.R_elder' (by (with_reducible repeat (first | apply Kd.R_alloc | apply Kd.R_drewN | apply Kd.R_drew)); exact HL326_0.out) (Kd.R_base ho0) hb); have n4_ := Aside0.mk (Kd.R_lower (Kd.R_new' (Kd.R_new' (Kd.R_new' ho0 (Kd.R_lt (by (with_reducible repeat (first | apply Kd.R_alloc | apply Kd.R_drewN | apply Kd.R_drew)); exact HO_56.out))) (Kd.R_lt (by (with_reducible repeat (first | apply Kd.R_alloc | apply Kd.R_drewN | apply Kd.R_drew)); exact HL324_0.out))) (Kd.R_lt (by (with_reducible repeat (first | apply Kd.R_alloc | apply Kd.R_drewN | apply Kd.R_drew)); exact HL326_0.out))) (below_size (by repeat (first | (with_reducible first | exact HB.out | apply below_alloc | apply pw_below_drewN | apply below_drew1 | refine below_set ?_ GE300.out | refine below_set ?_ GE305.out) | exact HB.out)))); have n5_ := Aside0.mk (blk_below (g := gb300) (o := .cells #[.int .i64 a0_0, .slice (some ad304) l0_1.length c0_1] 30 (0, 0)) (by (with_reducible repeat (first | refine blk_drewN ?_ _ | refine blk_drew ?_ | refine blk_alloc ?_ _)); exact BK300.out) hb); have n6_ := Aside0.mk (blk_below (g := gb305) (o := .cells #[.int .i64 ((rd_T87 l0_1 x22_2).f0), .slice A304_1 ((rd_T87 l0_1 x22_2).f1).length c304_1, .int .i64 ((rd_T87 l0_1 x22_2).f2), .int .i64 ((rd_T87 l0_1 x22_2).f3), .slice A304_4 ((rd_T87 l0_1 x22_2).f4).length c304_4] 87 (0, 0)) (by (with_reducible repeat (first | refine blk_drewN ?_ _ | refine blk_drew ?_ | refine blk_alloc ?_ _)); exact BK305.out) hb); have n7_ := Aside0.mk (Kd.C_below (by repeat (first | (with_reducible exact HR324_0.out) | (with_reducible refine Kd.C_alloc ?_ _) | (with_reducible refine Kd.C_drewN ?_ _) | (with_reducible refine Kd.C_drew ?_) | exact HR324_0.out)) hb); have n8_ := Aside0.mk (Kd.C_below (by repeat (first | (with_reducible exact HR326_0.out) | (with_reducible refine Kd.C_alloc ?_ _) | (with_reducible refine Kd.C_drewN ?_ _) | (with_reducible refine Kd.C_drew ?_) | exact HR326_0.out)) hb); have n9_ := Aside0.mk (below_step (by repeat (first | (with_reducible first | exact HB.out | apply below_alloc | apply pw_below_drewN | apply below_drew1 | refine below_set ?_ GE300.out | refine below_set ?_ GE305.out) | exact HB.out)) hb); clear HO_3; clear HO_56; clear HL324_0; clear HL326_0; clear BK300; clear BK305; clear HR324_0; clear HR326_0; clear HB; have HO_3 := n0_; have HO_56 := n1_; have HL324_0 := n2_; have HL326_0 := n3_; have HO329 := n4_; have BK300 := n5_; have BK305 := n6_; have HR324_0 := n7_; have HR326_0 := n8_; have HB := n9_; clear n0_ n1_ n2_ n3_ n4_ n5_ n6_ n7_ n8_ n9_; (try clear hb); (try clear hb2); (try clear hk); (try clear hi); (try clear ho0); have p59 : 0 ≤ (x22_2 : Int) := of_decide_eq_true (by first | (with_reducible assumption) | assumption); have q59 : (x22_2 : Int) < ((x3_5.length : Int) : Int) := of_decide_eq_true (by first | (with_reducible assumption) | assumption); obtain ⟨go59, co59, eo59, gb59, gl59, cl59, HG59⟩ := Kd.S_form HO_3.out (by omega); (first | cases eo59 | (injection eo59 with ea_ en_ ec_; (first | subst ea_ | (injection ea_ with ea_; subst ea_)); subst ec_; clear en_)); have GB59 := Aside0.mk gb59; have GG59 := Aside0.mk HG59; clear gb59 gl59 HG59; (first | simp only [add_plain] at hx324_0 | skip); (first | simp only [add_plain] at hx326_0 | skip); obtain ⟨_, ce59, hcl59, hM59, hcc59, hfr59, _, _⟩ := Kd.S_elem HO_3.out [] (x22_2 : Int) p59 q59; obtain ⟨ve59_0, rfl, ge59_0⟩ := hM59; have hx59_0 := hcc59 0 _ rfl; have hf59_0 := hfr59 0; (try simp only [show ((Kd.slice 3 (Kd.int .i64))).sz = 1 from rfl, Nat.mul_one, Nat.add_zero] at hx59_0); (try simp only [show ((Kd.slice 3 (Kd.int .i64))).sz = 1 from rfl, Nat.mul_one, Nat.add_zero] at hf59_0); clear hcl59 hcc59 hfr59; (try clear hM59); replace p59 := eq_true p59; replace q59 := eq_true q59; have HX65 := Aside0.mk (show Kd.S (Kd.slice 3 (Kd.int .i64)) 34 w64 w.heap.size (fun k_ => ((fun k_ => some k_ ≠ (.slice (some ad322) x7_4.length co41 : Value).ownBlock)) k_ ∧ ¬ ((fun k_ => some k_ = (v328 : Value).ownBlock)) k_) (.slice (some ⟨go59, 0, none⟩) x3_5.length co63) x3_5 from (by (with_reducible repeat (first | apply Kd.S_alloc | apply Kd.S_drewN | apply Kd.S_drew)); exact Kd.S_mono HO_3.out (fun k_ hk => ⟨hk.1, fun e_ => hk.2 e_⟩))); obtain ⟨oki65, ce65, hcl65, hM65, hcc65, hfr65, hoki65, hH65⟩ := Kd.S_elem HX65.out [] (x22_2 : Int) (of_decide_eq_true (by first | (with_reducible assumption) | assumption)) (by have h_ : (x22_2 : Int) < ((x3_5.length : Int) : Int) := of_decide_eq_true (by first | (with_reducible assumption) | assumption); first | exact h_ | (have e_ := (Kd.S_reads' HO_3.out).1; omega) | simpa using h_); obtain ⟨ve65_0, rfl, ge65_0⟩ := hM65; have HP65 := Kd.S_seg hH65 (of_decide_eq_true (by first | (with_reducible assumption) | assumption)) (by have h_ : (x22_2 : Int) < ((x3_5.length : Int) : Int) := of_decide_eq_true (by first | (with_reducible assumption) | assumption); first | exact h_ | (have e_ := (Kd.S_reads' HO_3.out).1; omega) | simpa using h_) (seg := [v328]) (j := 0) (show 1 ≤ 1 from by decide) (x' := t327) (Kd.M_row (Kd.R_mono (Kd.R_tight rfl (Kd.R_mono (ok' := fun k_ => ((fun k_ => some k_ ≠ (.slice (some ad322) x7_4.length co41 : Value).ownBlock)) k_ ∧ k_ ≠ go59) (Kd.R_apart' (HO329.out) (Kd.S_typed HO_3.out) (by decide)) (fun k_ hk => ⟨hk.1.1.1.2, fun e_ => (hk.2) (by rw [e_]; rfl)⟩))) (fun _ h_ => Or.inr (h_)))) (fun _ hk => hk) (fun k_ hk_ => ((Kd.R_mono (ok' := fun k_ => ((fun k_ => some k_ ≠ (.slice (some ad322) x7_4.length co41 : Value).ownBlock)) k_ ∧ k_ ≠ go59) (Kd.R_apart' (HO329.out) (Kd.S_typed HO_3.out) (by decide)) (fun k_ hk => ⟨hk.1.1.1.2, fun e_ => (hk.2) (by rw [e_]; rfl)⟩))).1 k_ hk_.symm); have hx65_0 := hcc65 0 _ rfl; (try simp only [show ((Kd.slice 3 (Kd.int .i64))).sz = 1 from rfl, Nat.mul_one, Nat.add_zero] at hx65_0); have hf65_0 := hfr65 0; (try simp only [show ((Kd.slice 3 (Kd.int .i64))).sz = 1 from rfl, Nat.mul_one, Nat.add_zero] at hf65_0); clear hcl65 hcc65 hfr65; (try clear hM65); clear hoki65 hH65; (try simp only [show ((Kd.slice 3 (Kd.int .i64))).sz = 1 from rfl, Nat.mul_one, Nat.add_zero] at HP65)) | ((with_reducible refine gate_store (t := 34) (p := 84) rfl ?_); refine store_event (t := 34) (p := 84) (v := ?vo_w66) (w1 := (w64.setCell ⟨go59, (x22_2 : Int).toNat, none⟩ (v328))) ?hg ?ho ?hn ?hr ?_; (case ho => rfl); (case hg => rfl); (case hn => rfl); (case hr => (obtain ⟨Av_, cv_, ev_⟩ := Kd.R_slice HO329.out); rw [ev_]; first | (go_simp; done) | (go_simp; rfl)); intro w66 hw; have hg : w64.grownBy w66 (some go59) := (by rw [hw]; exact HP65.2); have hp_ : Kd.S (Kd.slice 3 (Kd.int .i64)) 34 w66 w.heap.size (fun k_ => some k_ ≠ (.slice (some ad322) x7_4.length co41 : Value).ownBlock) (.slice (some ⟨go59, 0, none⟩) x3_5.length co63) y330 := (by rw [hw, Ny330.out]; exact HP65.1); clear HP65; have n0_ := Aside0.mk (hp_); have n1_ := Aside0.mk (Kd.R_over' (v := (.slice (some ⟨go59, 0, none⟩) x3_5.length co63)) (by (with_reducible repeat (first | apply Kd.R_alloc | apply Kd.R_drewN | apply Kd.R_drew)); exact HO_56.out) (Kd.S_typed HO_3.out) (by decide) hg); have n2_ := Aside0.mk (blk_grown (g := gb300) (o := .cells #[.int .i64 a0_0, .slice (some ad304) l0_1.length c0_1] 30 (0, 0)) (by (with_reducible repeat (first | refine blk_drewN ?_ _ | refine blk_drew ?_ | refine blk_alloc ?_ _)); exact BK300.out) hg (Kd.S_ne HO_3.out BK300.out (by decide))); have n3_ := Aside0.mk (blk_grown (g := gb305) (o := .cells #[.int .i64 ((rd_T87 l0_1 x22_2).f0), .slice A304_1 ((rd_T87 l0_1 x22_2).f1).length c304_1, .int .i64 ((rd_T87 l0_1 x22_2).f2), .int .i64 ((rd_T87 l0_1 x22_2).f3), .slice A304_4 ((rd_T87 l0_1 x22_2).f4).length c304_4] 87 (0, 0)) (by (with_reducible repeat (first | refine blk_drewN ?_ _ | refine blk_drew ?_ | refine blk_alloc ?_ _)); exact BK305.out) hg (Kd.S_ne HO_3.out BK305.out (by decide))); have n4_ := Aside0.mk (Kd.R_after (v := (.slice (some ⟨go59, 0, none⟩) x3_5.length co63)) (v1 := (.slice (some ⟨go59, 0, none⟩) x3_5.length co63)) (ok := (fun k_ => some k_ ≠ (.slice (some ad322) x7_4.length co41 : Value).ownBlock ∧ some k_ ≠ (v328 : Value).ownBlock)) (by (with_reducible repeat (first | apply Kd.R_alloc | apply Kd.R_drewN | apply Kd.R_drew)); exact Kd.R_mono HL324_0.out (fun _ hk => (by first | exact ⟨⟨hk.1.1, hk.2⟩, hk.1.2⟩ | exact ⟨⟨hk.1.2, hk.2⟩, hk.1.1⟩ | exact ⟨⟨hk.2, hk.1.2⟩, hk.1.1⟩ | exact ⟨⟨hk.2, hk.1.1⟩, hk.1.2⟩ | exact ⟨⟨hk.1.1, hk.1.2⟩, hk.2⟩ | exact ⟨⟨hk.1.2, hk.1.1⟩, hk.2⟩))) hg (.inl rfl)); have n5_ := Aside0.mk (Kd.R_after (v := (.slice (some ⟨go59, 0, none⟩) x3_5.length co63)) (v1 := (.slice (some ⟨go59, 0, none⟩) x3_5.length co63)) (ok := (fun k_ => some k_ ≠ (.slice (some ad322) x7_4.length co41 : Value).ownBlock ∧ some k_ ≠ (v328 : Value).ownBlock)) (by (with_reducible repeat (first | apply Kd.R_alloc | apply Kd.R_drewN | apply Kd.R_drew)); exact Kd.R_mono HL326_0.out (fun _ hk => (by first | exact ⟨⟨hk.1.1, hk.2⟩, hk.1.2⟩ | exact ⟨⟨hk.1.2, hk.2⟩, hk.1.1⟩ | exact ⟨⟨hk.2, hk.1.2⟩, hk.1.1⟩ | exact ⟨⟨hk.2, hk.1.1⟩, hk.1.2⟩ | exact ⟨⟨hk.1.1, hk.1.2⟩, hk.2⟩ | exact ⟨⟨hk.1.2, hk.1.1⟩, hk.2⟩))) hg (.inl rfl)); have n6_ := Aside0.mk ((by rw [hw]; exact below_set (HB.out) GB59.out : Below w.heap.size w w66)); clear HO_3; clear HO_56; clear BK300; clear BK305; clear HL324_0; clear HL326_0; clear HB; clear HO329; have HO_3 := n0_; have HO_56 := n1_; have BK300 := n2_; have BK305 := n3_; have HL324_0 := n4_; have HL326_0 := n5_; have HB := n6_; clear n0_ n1_ n2_ n3_ n4_ n5_ n6_; clear hg hw hp_))
                                                    go_roundg k5
                                                    case measure => have := HK1.out; have := HK2.out; have := HK3.out; have := HK4.out; have := HK5.out; omega
                                                    case rel => exact ⟨(y330), (true), (wrap64 (x58_5 + 1)), (by first | rfl | (simp; done) | (simp [*]; done)), (by first | rfl | (simp; done) | (simp [*]; done)), H', ⟨by have := HK1.out; have := HK2.out; have := HK3.out; have := HK4.out; have := HK5.out; omega⟩, ⟨by (with_reducible repeat (first | apply Kd.S_alloc | apply Kd.S_drewN | apply Kd.S_drew)); exact HO_3.out⟩, ⟨by (with_reducible repeat (first | apply Kd.R_alloc | apply Kd.R_drewN | apply Kd.R_drew)); exact Kd.R_mono HO_56.out (fun _ hk => trivial)⟩, ⟨by (with_reducible repeat (first | refine blk_drewN ?_ _ | refine blk_drew ?_ | refine blk_alloc ?_ _)); exact BK300.out⟩, ⟨by (with_reducible repeat (first | refine blk_drewN ?_ _ | refine blk_drew ?_ | refine blk_alloc ?_ _)); exact BK305.out⟩, ⟨by repeat (first | (with_reducible first | exact HB.out | apply below_alloc | apply pw_below_drewN | apply below_drew1 | refine below_set ?_ GE300.out | refine below_set ?_ GE305.out) | exact HB.out)⟩⟩
                                                · rw [if_neg c51] at H
                                                  exact absurd H (by simp)
                                              · rw [if_neg c50] at H
                                                exact absurd H (by simp)
                                          · rw [if_neg c44] at H
                                            exact absurd H (by simp)
                                        · rw [if_neg c43] at H
                                          exact absurd H (by simp)
                                      · rw [if_neg c42] at H
                                        have c42b0 : decide (x58_5 < (x7_4.length : Int)) = false := decide_eq_false c42
                                        clear c42
                                        have H' := Aside0.mk H
                                        clear H
                                        go_wp2
                                        go_roundg k5
                                        case measure => have := HK1.out; have := HK2.out; have := HK3.out; have := HK4.out; have := HK5.out; omega
                                        case rel => exact ⟨(x3_5), (x4_5), (wrap64 (x22_2 + 1)), (by first | rfl | (simp; done) | (simp [*]; done)), (by first | rfl | (simp; done) | (simp [*]; done)), H', ⟨by have := HK1.out; have := HK2.out; have := HK3.out; have := HK4.out; have := HK5.out; omega⟩, ⟨by (with_reducible repeat (first | apply Kd.S_alloc | apply Kd.S_drewN | apply Kd.S_drew)); exact Kd.S_mono HO_3.out (fun _ hk => trivial)⟩, ⟨by (with_reducible repeat (first | refine blk_drewN ?_ _ | refine blk_drew ?_ | refine blk_alloc ?_ _)); exact BK300.out⟩, ⟨by repeat (first | (with_reducible first | exact HB.out | apply below_alloc | apply pw_below_drewN | apply below_drew1 | refine below_set ?_ GE300.out | refine below_set ?_ GE305.out) | exact HB.out)⟩⟩
                    · rw [if_neg c12] at H
                      exact absurd H (by simp)
                  · rw [if_neg c11] at H
                    exact absurd H (by simp)
                · rw [if_neg c10] at H
                  have c10b0 : decide (x22_2 < (l0_1.length : Int)) = false := decide_eq_false c10
                  clear c10
                  have H' := Aside0.mk H
                  clear H
                  go_wp2
                  go_roundg k2
                  case measure => have := HK1.out; have := HK2.out; omega
                  case rel => exact ⟨(x3_2), (x4_2), (by first | rfl | (simp; done) | (simp [*]; done)), H', ⟨by have := HK1.out; have := HK2.out; omega⟩, ⟨by (with_reducible repeat (first | apply Kd.S_alloc | apply Kd.S_drewN | apply Kd.S_drew)); exact HO_3.out⟩, ⟨by (with_reducible repeat (first | refine blk_drewN ?_ _ | refine blk_drew ?_ | refine blk_alloc ?_ _)); exact BK300.out⟩, ⟨by repeat (first | (with_reducible first | exact HB.out | apply below_alloc | apply pw_below_drewN | apply below_drew1 | refine below_set ?_ GE300.out) | exact HB.out)⟩⟩
          · replace c8 := Bool.eq_false_iff.mpr c8
            subst c8
            have H1 : (some x3_1) = some r := by rw [if_neg (show ¬ (false = true) by decide)] at H; exact H
            clear H
            have H := H1
            clear H1
            obtain rfl := Option.some.inj H
            go_wp2
            go_ret
            exact ⟨_, by first | rfl | (simp [errW_none, errW_some] <;> rfl) | (simp [*, errW_none, errW_some] <;> rfl), by (with_reducible repeat (first | apply Kd.S_alloc | apply Kd.S_drewN | apply Kd.S_drew)); exact HO_3.out, by repeat (first | (with_reducible first | exact HB.out | apply below_alloc | apply pw_below_drewN | apply below_drew1 | refine below_set ?_ GE300.out) | exact HB.out)⟩
    · rw [if_neg c3] at H
      exact absurd H (by simp)
  · rw [if_neg c2] at H
    exact absurd H (by simp)

/-! ### spec_LiveAt: function 50 -/
def spec_LiveAt.f (k : Nat) (a0_0 : Int) (l0_1 : List (S87)) (a1 : Int) : Option (List Int × Bool) := (spec_l13Is.f a0_0 l0_1 a1).bind fun t332 => (if t332 = true then ((spec_l14Live.f k a0_0 l0_1).bind fun t333 => (if 0 ≤ a1 then (if a1 < (t333.length : Int) then (some (rd_L1 t333 a1, true)) else (none)) else (none))) else (some (([] : List Int), false)))
set_option maxHeartbeats 8000000 in
set_option maxRecDepth 100000 in
theorem spec_LiveAt.calls (k : Nat) (a0_0 : Int) (A0_1 : Option Addr) (c0_1 : Nat) (l0_1 : List (S87)) (a1 : Int) (r1 : List Int) (r2 : Bool) (w : World) (hr0_1 : Kd.C k87 w A0_1 l0_1.length l0_1) (hc0_1 : l0_1.length ≤ c0_1) (h : spec_LiveAt.f k a0_0 l0_1 a1 = some (r1, r2)) :
    Calls Try.prog 50 #[.agg #[.int .i64 a0_0, .slice A0_1 l0_1.length c0_1], .int .i64 a1] w fun e w' => ∃ v0_ : Value, e = .returned (.tuple #[v0_, .bool r2]) ∧ Kd.R (Kd.int .i64) 3 w' w.heap.size (fun _ => True) v0_ r1 ∧ Below w.heap.size w w' := by
  have hu30 := Try.underlying30
  have HR0_1 := Aside0.mk hr0_1
  have HC0_1 := Aside0.mk hc0_1
  clear hr0_1 hc0_1
  have HB := Aside0.mk (Below.refl w.heap.size w)
  have H : ((spec_l13Is.f a0_0 l0_1 a1).bind fun t332 => (if t332 = true then ((spec_l14Live.f k a0_0 l0_1).bind fun t333 => (if 0 ≤ a1 then (if a1 < (t333.length : Int) then (some (rd_L1 t333 a1, true)) else (none)) else (none))) else (some (([] : List Int), false)))) = some (r1, r2) := h
  clear h
  replace H := Option.bind_eq_some_iff.mp H
  obtain ⟨t332, A30, H⟩ := H
  replace H : (if t332 = true then ((spec_l14Live.f k a0_0 l0_1).bind fun t333 => (if 0 ≤ a1 then (if a1 < (t333.length : Int) then (some (rd_L1 t333 a1, true)) else (none)) else (none))) else (some (([] : List Int), false))) = some (r1, r2) := H
  have A3 := Aside0.mk A30
  clear A30
  by_cases c4 : t332 = true
  · subst c4
    have H1 : ((spec_l14Live.f k a0_0 l0_1).bind fun t333 => (if 0 ≤ a1 then (if a1 < (t333.length : Int) then (some (rd_L1 t333 a1, true)) else (none)) else (none))) = some (r1, r2) := by rw [if_pos rfl] at H; exact H
    clear H
    have H := H1
    clear H1
    replace H := Option.bind_eq_some_iff.mp H
    obtain ⟨t333, A50, H⟩ := H
    replace H : (if 0 ≤ a1 then (if a1 < (t333.length : Int) then (some (rd_L1 t333 a1, true)) else (none)) else (none)) = some (r1, r2) := H
    have A5 := Aside0.mk A50
    clear A50
    by_cases c6 : 0 ≤ a1
    · rw [if_pos c6] at H
      have c6b0 : decide (0 ≤ a1) = true := decide_eq_true c6
      clear c6
      by_cases c7 : a1 < (t333.length : Int)
      · rw [if_pos c7] at H
        have c7b0 : decide (a1 < (t333.length : Int)) = true := decide_eq_true c7
        clear c7
        simp only [Option.some.injEq, Prod.mk.injEq] at H
        obtain ⟨rfl, rfl⟩ := H
        go_enter Try.func50, Try.ntmps50
        go_wp2_with (first | ((with_reducible refine gate_dst (N := 2) rfl ?_); refine box_event ?hg (N := 2) ?hd (cs := #[.int .i64 a0_0, .slice A0_1 l0_1.length c0_1]) (t := 30) ?hr ?_; (case hd => rfl); (case hg => rfl); (case hr => first | (go_simp; done) | (go_simp; rfl)); intro gb331 hg w8 hbox hb; have n0_ := Aside0.mk (below_step (by repeat (first | (with_reducible first | exact HB.out | apply below_alloc | apply pw_below_drewN | apply below_drew1) | exact HB.out)) hb); have n1_ := Aside0.mk (hbox); have n2_ := Aside0.mk ((by rw [hg]; exact (below_size (by repeat (first | (with_reducible first | exact HB.out | apply below_alloc | apply pw_below_drewN | apply below_drew1) | exact HB.out))) : w.heap.size ≤ gb331)); have n3_ := Aside0.mk ((by rw [hg]; exact (below_size (by repeat (first | (with_reducible first | exact HB.out | apply below_alloc | apply pw_below_drewN | apply below_drew1) | exact HB.out))) : w.heap.size ≤ gb331)); clear HB; have HB := n0_; have BK331 := n1_; have GW331 := n2_; have GE331 := n3_; clear n0_ n1_ n2_ n3_; clear hb hbox hg; have hcz9_0 : w8.cell? ⟨gb331, 0, none⟩ = some (.int .i64 a0_0) := (blk_cell BK331.out 0).trans rfl; have hcz9_1 : w8.cell? ⟨gb331, 1, none⟩ = some (.slice A0_1 l0_1.length c0_1) := (blk_cell BK331.out 1).trans rfl; have hfz9_0 := blk_frozen BK331.out 0; have hfz9_1 := blk_frozen BK331.out 1) | ((with_reducible refine gate_callee (f := 61) rfl ?_); refine goesL_ (some 8) rfl rfl Try.func61 (by kernel_rfl) rfl #[.agg #[.int .i64 a0_0, .slice A0_1 l0_1.length c0_1], .int .i64 a1] rfl (by (try simp only [List.map_toArray, List.map_cons, List.map_nil]); first | done | rfl | (simp only [List.length_drop, List.length_take]; rfl)) ?_; (with_reducible refine (spec_l13Is.calls a0_0 _ _ l0_1 a1 true _ ?side1 ?side2 A3.out).mono ?_); (case side1 => repeat (first | exact (Kd.C_below HR0_1.out HB.out) | (with_reducible refine Kd.C_alloc ?_ _) | (with_reducible refine Kd.C_drewN ?_ _) | (with_reducible refine Kd.C_drew ?_))); (case side2 => exact HC0_1.out); rintro e w10 ⟨rfl, hb⟩; refine ⟨_, rfl, ?_⟩; have n0_ := Aside0.mk (blk_below (g := gb331) (o := .cells #[.int .i64 a0_0, .slice A0_1 l0_1.length c0_1] 30 (0, 0)) (by (with_reducible repeat (first | refine blk_drewN ?_ _ | refine blk_drew ?_ | refine blk_alloc ?_ _)); exact BK331.out) hb); have n1_ := Aside0.mk (below_step (by repeat (first | (with_reducible first | exact HB.out | apply below_alloc | apply pw_below_drewN | apply below_drew1 | refine below_set ?_ GE331.out) | exact HB.out)) hb); clear BK331; clear HB; have BK331 := n0_; have HB := n1_; clear n0_ n1_; (try clear hb); (try clear hb2); (try clear hk); (try clear hi); have hcz11_0 : w10.cell? ⟨gb331, 0, none⟩ = some (.int .i64 a0_0) := (blk_cell BK331.out 0).trans rfl; have hcz11_1 : w10.cell? ⟨gb331, 1, none⟩ = some (.slice A0_1 l0_1.length c0_1) := (blk_cell BK331.out 1).trans rfl; have hfz11_0 := blk_frozen BK331.out 0; have hfz11_1 := blk_frozen BK331.out 1) | ((with_reducible refine gate_callee (f := 86) rfl ?_); refine goesL_ (some 11) rfl rfl Try.func86 (by kernel_rfl) rfl #[.agg #[.int .i64 a0_0, .slice A0_1 l0_1.length c0_1]] rfl (by (try simp only [List.map_toArray, List.map_cons, List.map_nil]); first | done | rfl | (simp only [List.length_drop, List.length_take]; rfl)) ?_; (with_reducible refine (spec_l14Live.calls k a0_0 _ _ l0_1 t333 _ ?side1 ?side2 A5.out).mono ?_); (case side1 => repeat (first | exact (Kd.C_below HR0_1.out HB.out) | (with_reducible refine Kd.C_alloc ?_ _) | (with_reducible refine Kd.C_drewN ?_ _) | (with_reducible refine Kd.C_drew ?_))); (case side2 => exact HC0_1.out); rintro e w12 ⟨v334, rfl, ho0, hb⟩; refine ⟨_, rfl, ?_⟩; have n0_ := Aside0.mk (Kd.S_lower ho0 (below_size (by repeat (first | (with_reducible first | exact HB.out | apply below_alloc | apply pw_below_drewN | apply below_drew1 | refine below_set ?_ GE331.out) | exact HB.out)))); have n1_ := Aside0.mk (blk_below (g := gb331) (o := .cells #[.int .i64 a0_0, .slice A0_1 l0_1.length c0_1] 30 (0, 0)) (by (with_reducible repeat (first | refine blk_drewN ?_ _ | refine blk_drew ?_ | refine blk_alloc ?_ _)); exact BK331.out) hb); have n2_ := Aside0.mk (below_step (by repeat (first | (with_reducible first | exact HB.out | apply below_alloc | apply pw_below_drewN | apply below_drew1 | refine below_set ?_ GE331.out) | exact HB.out)) hb); clear BK331; clear HB; have HO335 := n0_; have BK331 := n1_; have HB := n2_; clear n0_ n1_ n2_; (try clear hb); (try clear hb2); (try clear hk); (try clear hi); (try clear ho0); obtain ⟨Ao13, co13, eo13⟩ := Kd.S_slice HO335.out; subst eo13; have p336 : 0 ≤ (a1 : Int) := of_decide_eq_true (by first | (with_reducible assumption) | assumption); have q336 : a1 < (t333.length : Int) := of_decide_eq_true (by first | (with_reducible assumption) | assumption); obtain ⟨ad336, A336_0, c336_0, e336, hx336_0, hl336_0, hi336_0⟩ := at_L1 (Kd.S_reads' HO335.out).2.2 a1 p336 q336; cases e336; obtain ⟨ce336, hce336, hMe336, hcc336⟩ := Kd.S_get HO335.out [] a1 p336 (by first | exact q336 | exact of_decide_eq_true (by first | (with_reducible assumption) | assumption) | (have e_ := (Kd.S_reads' HO335.out).1; omega)); obtain ⟨ve336_0, rfl, ge336_0⟩ := hMe336; have hv336_0 := hcc336 0 _ rfl; rw [Nat.add_zero, show ((Kd.slice 3 (Kd.int .i64))).sz = 1 from rfl, Nat.mul_one] at hv336_0; replace hv336_0 := Option.some.inj (hv336_0.symm.trans hx336_0); rw [hv336_0] at ge336_0; have HL336_0 := Aside0.mk (show Kd.R (Kd.int .i64) 3 _ _ _ _ (rd_L1 t333 a1) from ge336_0); clear hv336_0 ge336_0; clear hcc336 hce336; have HR336_0 := Aside0.mk hi336_0; have HC336_0 := Aside0.mk hl336_0; clear hi336_0 hl336_0; replace p336 := eq_true p336; replace q336 := eq_true q336))
        go_ret2
        exact ⟨_, by first | rfl | (simp [errW_none, errW_some] <;> rfl) | (simp [*, errW_none, errW_some] <;> rfl), by (with_reducible repeat (first | apply Kd.R_alloc | apply Kd.R_drewN | apply Kd.R_drew)); exact Kd.R_mono HL336_0.out (fun _ hk => trivial), by repeat (first | (with_reducible first | exact HB.out | apply below_alloc | apply pw_below_drewN | apply below_drew1 | refine below_set ?_ GE331.out) | exact HB.out)⟩
      · rw [if_neg c7] at H
        exact absurd H (by simp)
    · rw [if_neg c6] at H
      exact absurd H (by simp)
  · replace c4 := Bool.eq_false_iff.mpr c4
    subst c4
    have H1 : (some (([] : List Int), false)) = some (r1, r2) := by rw [if_neg (show ¬ (false = true) by decide)] at H; exact H
    clear H
    have H := H1
    clear H1
    simp only [Option.some.injEq, Prod.mk.injEq] at H
    obtain ⟨rfl, rfl⟩ := H
    go_enter Try.func50, Try.ntmps50
    go_wp2_with (first | ((with_reducible refine gate_dst (N := 2) rfl ?_); refine box_event ?hg (N := 2) ?hd (cs := #[.int .i64 a0_0, .slice A0_1 l0_1.length c0_1]) (t := 30) ?hr ?_; (case hd => rfl); (case hg => rfl); (case hr => first | (go_simp; done) | (go_simp; rfl)); intro gb331 hg w14 hbox hb; have n0_ := Aside0.mk (below_step (by repeat (first | (with_reducible first | exact HB.out | apply below_alloc | apply pw_below_drewN | apply below_drew1) | exact HB.out)) hb); have n1_ := Aside0.mk (hbox); have n2_ := Aside0.mk ((by rw [hg]; exact (below_size (by repeat (first | (with_reducible first | exact HB.out | apply below_alloc | apply pw_below_drewN | apply below_drew1) | exact HB.out))) : w.heap.size ≤ gb331)); have n3_ := Aside0.mk ((by rw [hg]; exact (below_size (by repeat (first | (with_reducible first | exact HB.out | apply below_alloc | apply pw_below_drewN | apply below_drew1) | exact HB.out))) : w.heap.size ≤ gb331)); clear HB; have HB := n0_; have BK331 := n1_; have GW331 := n2_; have GE331 := n3_; clear n0_ n1_ n2_ n3_; clear hb hbox hg; have hcz15_0 : w14.cell? ⟨gb331, 0, none⟩ = some (.int .i64 a0_0) := (blk_cell BK331.out 0).trans rfl; have hcz15_1 : w14.cell? ⟨gb331, 1, none⟩ = some (.slice A0_1 l0_1.length c0_1) := (blk_cell BK331.out 1).trans rfl; have hfz15_0 := blk_frozen BK331.out 0; have hfz15_1 := blk_frozen BK331.out 1) | ((with_reducible refine gate_callee (f := 61) rfl ?_); refine goesL_ (some 8) rfl rfl Try.func61 (by kernel_rfl) rfl #[.agg #[.int .i64 a0_0, .slice A0_1 l0_1.length c0_1], .int .i64 a1] rfl (by (try simp only [List.map_toArray, List.map_cons, List.map_nil]); first | done | rfl | (simp only [List.length_drop, List.length_take]; rfl)) ?_; (with_reducible refine (spec_l13Is.calls a0_0 _ _ l0_1 a1 false _ ?side1 ?side2 A3.out).mono ?_); (case side1 => repeat (first | exact (Kd.C_below HR0_1.out HB.out) | (with_reducible refine Kd.C_alloc ?_ _) | (with_reducible refine Kd.C_drewN ?_ _) | (with_reducible refine Kd.C_drew ?_))); (case side2 => exact HC0_1.out); rintro e w16 ⟨rfl, hb⟩; refine ⟨_, rfl, ?_⟩; have n0_ := Aside0.mk (blk_below (g := gb331) (o := .cells #[.int .i64 a0_0, .slice A0_1 l0_1.length c0_1] 30 (0, 0)) (by (with_reducible repeat (first | refine blk_drewN ?_ _ | refine blk_drew ?_ | refine blk_alloc ?_ _)); exact BK331.out) hb); have n1_ := Aside0.mk (below_step (by repeat (first | (with_reducible first | exact HB.out | apply below_alloc | apply pw_below_drewN | apply below_drew1 | refine below_set ?_ GE331.out) | exact HB.out)) hb); clear BK331; clear HB; have BK331 := n0_; have HB := n1_; clear n0_ n1_; (try clear hb); (try clear hb2); (try clear hk); (try clear hi)))
    go_ret2
    exact ⟨_, by first | rfl | (simp [errW_none, errW_some] <;> rfl) | (simp [*, errW_none, errW_some] <;> rfl), by first | exact Kd.R_nil _ _ _ _ _ | exact Kd.N_nil _ _ _ _ _ | exact Kd.V_nil _ _ _ _ _ | exact Kd.Q_nil _ _ _ _ _ | exact Kd.S_nil _ _ _ _ _, by repeat (first | (with_reducible first | exact HB.out | apply below_alloc | apply pw_below_drewN | apply below_drew1 | refine below_set ?_ GE331.out) | exact HB.out)⟩

/-- A state of type 56 at block g of W; what its slices lead to came in by w0. -/
def IsS56 (w0 W : World) (g : Nat) (f0 : Int) (f1 : List (S87)) (f2 : List Int) (f3 : List Int) (f4 : Int) : Prop := ∃ A1 c1, ∃ A2 c2, ∃ A3 c3, W.heap[g]? = some (.cells #[.int .i64 f0, .slice A1 f1.length c1, .slice A2 f2.length c2, .slice A3 f3.length c3, .int .i64 f4] 56 (0, 0)) ∧ w0.heap.size ≤ g ∧ Kd.C k87 w0 A1 f1.length f1 ∧ Kd.C (Kd.int .i64) w0 A2 f2.length f2 ∧ Kd.C (Kd.int .i64) w0 A3 f3.length f3
theorem IsS56.grown {w0 W : World} {g : Nat} {f0 : Int} {f1 : List (S87)} {f2 : List Int} {f3 : List Int} {f4 : Int} {W1 : World} {row : Option Nat} (h : IsS56 w0 W g f0 f1 f2 f3 f4) (hw : W.grownBy W1 row) (hne : some g ≠ row) : IsS56 w0 W1 g f0 f1 f2 f3 f4 := by
  obtain ⟨A1, c1, A2, c2, A3, c3, hb, hg, hr1, hr2, hr3⟩ := h
  exact ⟨A1, c1, A2, c2, A3, c3, blk_grown hb hw hne, hg, hr1, hr2, hr3⟩
theorem IsS56.below {w0 W : World} {g : Nat} {f0 : Int} {f1 : List (S87)} {f2 : List Int} {f3 : List Int} {f4 : Int} {W1 : World} (h : IsS56 w0 W g f0 f1 f2 f3 f4) (hw : Below W.heap.size W W1) : IsS56 w0 W1 g f0 f1 f2 f3 f4 := h.grown (grown_of_below hw none) (by simp)
theorem IsS56.own_ne {w0 W : World} {g : Nat} {f0 : Int} {f1 : List (S87)} {f2 : List Int} {f3 : List Int} {f4 : Int} {α : Type} {d : Kd α} {e : Nat} {base : Nat} {ok : Nat → Prop} {v : Value} {xs : List α} (h : IsS56 w0 W g f0 f1 f2 f3 f4) (ho : d.R e W base ok v xs) (ht : e ≠ 56) : some g ≠ v.ownBlock := by
  obtain ⟨A1, c1, A2, c2, A3, c3, hb, hg, hr1, hr2, hr3⟩ := h
  exact Kd.R_ne ho hb ht
theorem IsS56.ge {w0 W : World} {g : Nat} {f0 : Int} {f1 : List (S87)} {f2 : List Int} {f3 : List Int} {f4 : Int} (h : IsS56 w0 W g f0 f1 f2 f3 f4) : w0.heap.size ≤ g := by
  obtain ⟨A1, c1, A2, c2, A3, c3, hb, hg, hr1, hr2, hr3⟩ := h
  exact hg
theorem IsS56.far {w0 W : World} {g : Nat} {f0 : Int} {f1 : List (S87)} {f2 : List Int} {f3 : List Int} {f4 : Int} {p : Addr} (h : IsS56 w0 W g f0 f1 f2 f3 f4) (hne : g ≠ p.block) (u : Value) : IsS56 w0 (W.setCell p u) g f0 f1 f2 f3 f4 := by
  obtain ⟨A1, c1, A2, c2, A3, c3, hb, hg, hr1, hr2, hr3⟩ := h
  exact ⟨A1, c1, A2, c2, A3, c3, blk_far hb hne u, hg, hr1, hr2, hr3⟩
end Go.Proofs.Ytghlbhijkhkgkaa.PA
