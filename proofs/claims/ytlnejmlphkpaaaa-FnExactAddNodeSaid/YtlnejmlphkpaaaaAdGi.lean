/- The graph seat: spec.AddNode walked. -/
import Derived.Test.YtlnejmlphkpaaaaAdGh
namespace Go.Proofs.Ytlnejmlphkpaaaa.PA
open Go.RowKit Go.Proofs.YtlnejmlphkpaaaaW.PrintWords Go.Proofs.YtlnejmlphkpaaaaW.PrintLast Go.Proofs.YtlnejmlphkpaaaaW.PrintMore
set_option linter.unusedVariables false
set_option linter.unusedSimpArgs false
set_option maxHeartbeats 8000000 in
set_option maxRecDepth 100000 in
theorem specAddNode_any {A0 A1 A2 : Option Addr} {c0 c1 c2 : Nat} (nodes : List S36) (parts : List Int) (x : S36) (w : World) (h0 : Kd.C k36 w A0 nodes.length nodes) (l0 : nodes.length ≤ c0) (h1 : Kd.C (Kd.int .i64) w A1 parts.length parts) (l1 : parts.length ≤ c1) (h2 : Kd.C (Kd.int .i64) w A2 x.f2.length x.f2) (l2 : x.f2.length ≤ c2) :
    Calls Try.prog 12 #[.agg #[.slice A0 nodes.length c0, .slice A1 parts.length c1], .agg #[.int .i64 x.f0, .int .i64 x.f1, .slice A2 x.f2.length c2]] w fun e w' => ∃ v0 v1 : Value, e = .returned (.tuple #[.agg #[v0, v1], .int .i64 (ansAddNode nodes parts x).2.1, .bool (ansAddNode nodes parts x).2.2]) ∧ Kd.S k36 36 w' w.heap.size (fun k => some k ≠ v1.ownBlock) v0 (ansAddNode nodes parts x).1.1 ∧ (Kd.int .i64).R 3 w' w.heap.size (fun _ => True) v1 (ansAddNode nodes parts x).1.2 ∧ Below w.heap.size w w' := by
  have T43 := Aside0.mk (fun W (hW : Below w.heap.size w W) => good_calls (A0 := A0) (A1 := A1) W (Kd.C_below h0 hW) l0 (Kd.C_below h1 hW) l1)
  have T59 := Aside0.mk (fun W (hW : Below w.heap.size w W) => node_calls (A2 := A2) x W (Kd.C_below h2 hW) l2)
  obtain ⟨o1, ho1⟩ : ∃ o : Obj, o = .cells #[.slice A0 nodes.length c0, .slice A1 parts.length c1] 32 := ⟨_, rfl⟩
  obtain ⟨o2, ho2⟩ : ∃ o : Obj, o = .cells #[.int .i64 x.f0, .int .i64 x.f1, .slice A2 x.f2.length c2] 36 := ⟨_, rfl⟩
  obtain ⟨o3, ho3⟩ : ∃ o : Obj, o = .cells #[.slice none 0 0, .slice none 0 0] 32 := ⟨_, rfl⟩
  have B1 := Aside0.mk (show (((w.alloc o1).alloc o2).alloc o3).heap[w.heap.size]? = some (.cells #[.slice A0 nodes.length c0, .slice A1 parts.length c1] 32 (0, 0)) from by rw [← ho1]; exact blk_alloc (blk_alloc (blk_new w o1) _) _)
  have B2 := Aside0.mk (show (((w.alloc o1).alloc o2).alloc o3).heap[w.heap.size + 1]? = some (.cells #[.int .i64 x.f0, .int .i64 x.f1, .slice A2 x.f2.length c2] 36 (0, 0)) from by rw [← ho2]; exact blk_alloc (by simpa using blk_new (w.alloc o1) o2) _)
  have B3 := Aside0.mk (show (((w.alloc o1).alloc o2).alloc o3).heap[w.heap.size + 1 + 1]? = some (.cells #[.slice none 0 0, .slice none 0 0] 32 (0, 0)) from by rw [← ho3]; simpa using blk_new ((w.alloc o1).alloc o2) o3)
  have HB3 := Aside0.mk (show Below w.heap.size w (((w.alloc o1).alloc o2).alloc o3) from below_alloc (below_alloc (below_alloc (Below.refl _ _) _) _) _)
  subst ho1 ho2 ho3
  have hm0 := Kd.C_max h0
  rcases Bool.eq_false_or_eq_true (goodG nodes parts) with hg | hg
  · have hgr := goodG_iff.1 hg
    rcases Bool.eq_false_or_eq_true (nodeB x.f0 x.f1 x.f2) with hn | hn
    · have hx3 := node_kids hn
      have T60 := Aside0.mk (fun W (hW : Below w.heap.size w W) => all_calls (A2 := A2) x.f2 0 ((nodes.length : Int) - 1) (by omega) W (Kd.C_below h2 hW) l2)
      have hwl : wrap64 ((nodes.length : Int) - 1) = (nodes.length : Int) - 1 := by have := hgr.most; unfold wrap64; omega
      rcases Bool.eq_false_or_eq_true (allK x.f2 0 ((nodes.length : Int) - 1)) with ha | ha
      · have hgr2 := hgr
        have hks : ∀ y ∈ nodes, y.f2.length ≤ 1000 := fun y hy => by
          obtain ⟨k, hk, rfl⟩ := List.getElem_of_mem hy
          have := node_kids (hgr.node k hk)
          rw [rdN_at nodes k hk] at this
          omega
        have hin : ∀ y ∈ x.f2, 0 ≤ y ∧ y < (parts.length : Int) := fun y hy => by have := allK_iff.1 ha y hy; have := hgr.len; omega
        have T62 := Aside0.mk (fun W (hW : Below w.heap.size w W) => own_calls (A0 := A0) (A1 := A1) W (Kd.C_below h0 hW) l0 (Kd.C_below h1 hW) l1 (by have := hgr.most; omega) (by have := hgr.most; have := hgr.len; omega) hks)
        have T63 := Aside0.mk (fun W (hW : Below w.heap.size w W) => kids_calls (A1 := A1) (A2 := A2) W (Kd.C_below h1 hW) l1 (Kd.C_below h2 hW) l2 (by omega) hin)
        have HKS := Aside0.mk hks
        have HGR := Aside0.mk hgr
        have HAN := Aside0.mk (ans_right hg hn ha)
        obtain ⟨kids, hkids⟩ : ∃ k, k = kidsC parts x.f2 := ⟨_, rfl⟩
        rw [← hkids] at HAN T63
        obtain ⟨pp, hpp⟩ : ∃ p, p = putN nodes parts ⟨x.f0, x.f1, kids⟩ := ⟨_, rfl⟩
        rw [← hpp] at HAN
        have HPP := Aside0.mk hpp
        rw [hg] at T43
        rw [hn] at T59
        rw [ha] at T60
        clear hwl hg hn ha hgr hgr2 h0 h1 h2 hx3 hks hin hkids hpp
        go_enter Try.func12, Try.ntmps12
        go_wp2_with (first | (go_at_call 43; refine (T43.out _ (by repeat (first | exact Below.refl _ _ | apply below_alloc | apply pw_below_drewN | apply below_drew1))).mono ?_; rintro e w7 ⟨rfl, hb⟩; have HB7 := Aside0.mk (HB3.out.trans (hb.mono HB3.out.size)); have D1 := blk_below B1.out hb; have D2 := blk_below B2.out hb; have D3 := blk_below B3.out hb; have k0 := blk_cell D2 0; have k1 := blk_cell D2 1; have k2 := blk_cell D2 2; have HD1 := Aside0.mk D1; have HD2 := Aside0.mk D2; have HD3 := Aside0.mk D3; (try simp only [List.getElem?_toArray, List.getElem?_cons_zero, List.getElem?_cons_succ] at k0 k1 k2); clear hb D1 D2 D3) | (go_at_call 59; refine (T59.out _ HB7.out).mono ?_; rintro e w8 ⟨rfl, hb⟩; have HB8 := Aside0.mk (HB7.out.trans (hb.mono HB7.out.size)); have D1 := blk_below HD1.out hb; have D2 := blk_below HD2.out hb; have D3 := blk_below HD3.out hb; clear k0 k1 k2; have j0 := blk_cell D2 2; have j1 := blk_cell D1 0; have HE1 := Aside0.mk D1; have HE2 := Aside0.mk D2; have HE3 := Aside0.mk D3; (try simp only [List.getElem?_toArray, List.getElem?_cons_zero, List.getElem?_cons_succ] at j0 j1 j2); clear hb D1 D2 D3) | (go_at_call 60; refine (T60.out _ HB8.out).mono ?_; rintro e w9 ⟨rfl, hb⟩; have HB9 := Aside0.mk (HB8.out.trans (hb.mono HB8.out.size)); have D1 := blk_below HE1.out hb; have D2 := blk_below HE2.out hb; have D3 := blk_below HE3.out hb; clear j0 j1; have HF1 := Aside0.mk D1; have HF2 := Aside0.mk D2; have HF3 := Aside0.mk D3; clear hb D1 D2 D3))
        have HS1 := Aside0.mk (blk_drew HF1.out)
        have HS2 := Aside0.mk (blk_drew HF2.out)
        have HS3 := Aside0.mk (blk_drew HF3.out)
        have HBS := Aside0.mk (show Below w.heap.size w w9.drew from below_drew1 HB9.out)
        have y10 := blk_cell HS1.out 0
        have y11 := blk_cell HS1.out 1
        have y20 := blk_cell HS2.out 0
        have y21 := blk_cell HS2.out 1
        have y22 := blk_cell HS2.out 2
        simp only [List.getElem?_toArray, List.getElem?_cons_zero, List.getElem?_cons_succ] at y10 y11 y20 y21 y22
        refine start_ (n := 19) (S := fun w' => w'.cell? ⟨w.heap.size, 0, none⟩ = some (.slice A0 nodes.length c0) ∧ w'.cell? ⟨w.heap.size, 1, none⟩ = some (.slice A1 parts.length c1) ∧ w'.cell? ⟨w.heap.size + 1, 0, none⟩ = some (.int .i64 x.f0) ∧ w'.cell? ⟨w.heap.size + 1, 1, none⟩ = some (.int .i64 x.f1) ∧ w'.cell? ⟨w.heap.size + 1, 2, none⟩ = some (.slice A2 x.f2.length c2)) (ds := []) #[false, false, false, false, false, false, false, false, false, false, false, false, false, false, false, false, false, false, false] (by kernel_rfl) rfl rfl ⟨y10, y11, y20, y21, y22⟩ (fun hHeld => ?_)
        generalize w9.drew = wS at HS1 HS2 HS3 HBS hHeld ⊢
        clear y10 y11 y20 y21 y22
        refine take_ (i := 0) (N := some 29) (v := ?_) (a' := ?_) #[true, false, false, false, false, false, false, false, false, false, false, false, false, false, false, false, false, false, false] rfl rfl (by kernel_rfl) (fun _ _ _ h => h) (Or.inl ⟨by rfl, ?_⟩) hHeld ?_ ?_
        rotate_left
        · intro w' hw'
          go_simp
          with_reducible rfl
        rotate_left
        · simp only [Act.put, List.setIfInBounds_toArray, List.set_cons_zero, List.set_cons_succ]
          rfl
        refine pure_ (i := 2) (N := some 31) (v := ?_) (a' := ?_) #[true, false, true, false, false, false, false, false, false, false, false, false, false, false, false, false, false, false, false] rfl rfl (by kernel_rfl) (fun _ _ _ h => h) (Or.inl ⟨by rfl, ?_⟩) ?_ ?_
        rotate_left
        · intro w'
          go_simp
          with_reducible rfl
        rotate_left
        · simp only [Act.put, List.setIfInBounds_toArray, List.set_cons_zero, List.set_cons_succ]
          rfl
        refine take_ (i := 3) (N := some 32) (v := ?_) (a' := ?_) #[true, false, true, true, false, false, false, false, false, false, false, false, false, false, false, false, false, false, false] rfl rfl (by kernel_rfl) (fun _ _ _ h => h) (Or.inl ⟨by rfl, ?_⟩) hHeld ?_ ?_
        rotate_left
        · intro w' hw'
          go_simp
          with_reducible rfl
        rotate_left
        · simp only [Act.put, List.setIfInBounds_toArray, List.set_cons_zero, List.set_cons_succ]
          rfl
        refine pure_ (i := 4) (N := some 33) (v := ?_) (a' := ?_) #[true, false, true, true, true, false, false, false, false, false, false, false, false, false, false, false, false, false, false] rfl rfl (by kernel_rfl) (fun _ _ _ h => h) (Or.inl ⟨by rfl, ?_⟩) ?_ ?_
        rotate_left
        · intro w'
          go_simp
          with_reducible rfl
        rotate_left
        · simp only [Act.put, List.setIfInBounds_toArray, List.set_cons_zero, List.set_cons_succ]
          rfl
        refine take_ (i := 5) (N := some 34) (v := ?_) (a' := ?_) #[true, false, true, true, true, true, false, false, false, false, false, false, false, false, false, false, false, false, false] rfl rfl (by kernel_rfl) (fun _ _ _ h => h) (Or.inl ⟨by rfl, ?_⟩) hHeld ?_ ?_
        rotate_left
        · intro w' hw'
          go_simp
          with_reducible rfl
        rotate_left
        · simp only [Act.put, List.setIfInBounds_toArray, List.set_cons_zero, List.set_cons_succ]
          rfl
        refine pure_ (i := 6) (N := some 35) (v := ?_) (a' := ?_) #[true, false, true, true, true, true, true, false, false, false, false, false, false, false, false, false, false, false, false] rfl rfl (by kernel_rfl) (fun _ _ _ h => h) (Or.inl ⟨by rfl, ?_⟩) ?_ ?_
        rotate_left
        · intro w'
          go_simp
          with_reducible rfl
        rotate_left
        · simp only [Act.put, List.setIfInBounds_toArray, List.set_cons_zero, List.set_cons_succ]
          rfl
        refine take_ (i := 7) (N := some 36) (v := ?_) (a' := ?_) #[true, false, true, true, true, true, true, true, false, false, false, false, false, false, false, false, false, false, false] rfl rfl (by kernel_rfl) (fun _ _ _ h => h) (Or.inl ⟨by rfl, ?_⟩) hHeld ?_ ?_
        rotate_left
        · intro w' hw'
          go_simp
          with_reducible rfl
        rotate_left
        · simp only [Act.put, List.setIfInBounds_toArray, List.set_cons_zero, List.set_cons_succ]
          rfl
        refine pure_ (i := 8) (N := some 37) (v := ?_) (a' := ?_) #[true, false, true, true, true, true, true, true, true, false, false, false, false, false, false, false, false, false, false] rfl rfl (by kernel_rfl) (fun _ _ _ h => h) (Or.inl ⟨by rfl, ?_⟩) ?_ ?_
        rotate_left
        · intro w'
          go_simp
          with_reducible rfl
        rotate_left
        · simp only [Act.put, List.setIfInBounds_toArray, List.set_cons_zero, List.set_cons_succ]
          rfl
        refine take_ (i := 9) (N := some 38) (v := ?_) (a' := ?_) #[true, false, true, true, true, true, true, true, true, true, false, false, false, false, false, false, false, false, false] rfl rfl (by kernel_rfl) (fun _ _ _ h => h) (Or.inl ⟨by rfl, ?_⟩) hHeld ?_ ?_
        rotate_left
        · intro w' hw'
          go_simp
          with_reducible rfl
        rotate_left
        · simp only [Act.put, List.setIfInBounds_toArray, List.set_cons_zero, List.set_cons_succ]
          rfl
        refine invTo_ #[true, true, true, true, true, true, true, true, true, true, true, true, true, true, true, true, true, false, false] (fun a0 l a W => ∃ (b1 b10 b11 b12 b16 : Bool) (x7 x28 x30 x39 x40 x41 x42 x43 : Value) (lab : Nat → Nat), l = #[true, b1, true, true, true, true, true, true, true, true, b10, b11, b12, b12, b12, b12, b16, false, false] ∧ a = putAll a0 [(7, x7), (28, x28), (30, x30), (39, x39), (40, x40), (41, x41), (42, x42), (43, x43)] ∧ ((b10 = true → b1 = true) ∧ (b11 = true → b10 = true) ∧ (b12 = true → b11 = true)) ∧ (b11 = true → b12 = false → x40 = .agg #[.int .i64 x.f0, .int .i64 x.f1, x39]) ∧ AdR wS.heap.size wS nodes parts kids pp.1.1 pp.1.2 pp.2 b1 b10 b12 b16 x7 x30 x39 x42 x43 lab W) ?h0 (Nat.le_of_eq (by kernel_rfl)) ?hS ?hnr ?hstep ?hcont
        case h0 => exact ⟨false, false, false, false, false, undef, undef, undef, undef, undef, undef, undef, undef, fun _ => 0, rfl, by simp only [putAll, Act.put, List.setIfInBounds_toArray, List.set_cons_zero, List.set_cons_succ], ⟨(fun h => by cases h), (fun h => by cases h), (fun h => by cases h)⟩, (fun h => by cases h), ⟨Below.refl _ _, Nat.le_refl _, (fun h => by cases h), (fun h => by cases h), (fun h => by cases h), (fun h => by cases h)⟩⟩
        case hS =>
          rintro l a W ⟨b1, b10, b11, b12, b16, x7, x28, x30, x39, x40, x41, x42, x43, lab, rfl, ha, ho, h11, hR⟩
          have E1 := blk_below HS1.out hR.below
          have E2 := blk_below HS2.out hR.below
          exact ⟨blk_cell E1 0, blk_cell E1 1, blk_cell E2 0, blk_cell E2 1, blk_cell E2 2⟩
        case hnr =>
          rintro l a W ⟨b1, b10, b11, b12, b16, x7, x28, x30, x39, x40, x41, x42, x43, lab, rfl, ha, ho, h11, hR⟩ hne
          clear ha ho h11 hR
          cases b16 with
          | false => exact pred_ready (i := 16) rfl (ps := []) (by kernel_rfl) rfl (by intro p hp; (repeat (rcases List.mem_cons.1 hp with rfl | hp; rfl)); cases hp)
          | true =>
          cases b1 with
          | false => exact pred_ready (i := 1) rfl (ps := [0]) (by kernel_rfl) rfl (by intro p hp; (repeat (rcases List.mem_cons.1 hp with rfl | hp; rfl)); cases hp)
          | true =>
          cases b10 with
          | false => exact pred_ready (i := 10) rfl (ps := [7, 9, 1]) (by kernel_rfl) rfl (by intro p hp; (repeat (rcases List.mem_cons.1 hp with rfl | hp; rfl)); cases hp)
          | true =>
          cases b11 with
          | false => exact pred_ready (i := 11) rfl (ps := [3, 5, 10]) (by kernel_rfl) rfl (by intro p hp; (repeat (rcases List.mem_cons.1 hp with rfl | hp; rfl)); cases hp)
          | true =>
          cases b12 with
          | false => exact pred_ready (i := 12) rfl (ps := [1, 11, 10]) (by kernel_rfl) rfl (by intro p hp; (repeat (rcases List.mem_cons.1 hp with rfl | hp; rfl)); cases hp)
          | true => exact absurd rfl hne
        case hstep =>
          rintro l a W ⟨b1, b10, b11, b12, b16, x7, x28, x30, x39, x40, x41, x42, x43, lab, rfl, ha, ho, h11, hR⟩ hne hrec i hi op hop K hK hK2
          obtain ⟨o10, o11, o12⟩ := ho
          simp only [putAll, Act.put, List.setIfInBounds_toArray, List.set_cons_zero, List.set_cons_succ] at ha
          subst ha
          have hun := (mem_ready.1 hi).1
          have hge : wS.heap.size ≤ W.heap.size := hR.n0
          have hW := HBS.out.trans (hR.below.mono HBS.out.size)
          have hi19 : i = 0 ∨ i = 1 ∨ i = 2 ∨ i = 3 ∨ i = 4 ∨ i = 5 ∨ i = 6 ∨ i = 7 ∨ i = 8 ∨ i = 9 ∨ i = 10 ∨ i = 11 ∨ i = 12 ∨ i = 13 ∨ i = 14 ∨ i = 15 ∨ i = 16 ∨ i = 17 ∨ i = 18 := by
            have h19 := (getD_false hun).1
            have h19' : i < 19 := h19
            clear hun hi hop hK hK2 h19
            omega
          rcases hi19 with rfl | rfl | rfl | rfl | rfl | rfl | rfl | rfl | rfl | rfl | rfl | rfl | rfl | rfl | rfl | rfl | rfl | rfl | rfl
          · cases hun
          · have e0 : b1 = false := hun
            have e1 : b12 = false := by
              cases b12 with
              | false => rfl
              | true => exact absurd (o10 (o11 (o12 rfl))) (by rw [e0]; decide)
            subst e1
            have e2 : b10 = false := by
              cases b10 with
              | false => rfl
              | true => exact absurd (o10 rfl) (by rw [e0]; decide)
            subst e0 e2
            obtain rfl := Option.some.inj hop
            refine goes_ Try.func62 (by kernel_rfl) rfl #[.agg #[.slice A0 nodes.length c0, .slice A1 parts.length c1]] (by rfl) rfl rfl (by (try simp only [List.map_toArray, List.map_cons, List.map_nil]); first | done | rfl) ?_
            refine (T62.out W hW).mono ?_
            rintro e W' ⟨v0, v1, rfl, hs, hr, hb⟩
            have h' := hR.grow hb (fun k => if some k = v1.ownBlock then 2 else 1)
            refine ⟨_, rfl, hK _ _ ⟨true, false, b11, false, b16, x7, x28, .agg #[v0, v1], x39, x40, x41, x42, x43, labOn W lab (fun k => if some k = v1.ownBlock then 2 else 1), rfl, ?ha, ⟨fun _ => rfl, o11, o12⟩, h11, ?hR⟩⟩
            case ha =>
              show Act.put _ (some 30) _ = _
              simp only [putAll, Act.put, List.setIfInBounds_toArray, List.set_cons_zero, List.set_cons_succ]
            case hR => exact ⟨h'.below, h'.n0, fun _ _ => ⟨v0, v1, rfl, Kd.S_lower (Kd.S_mono (Kd.S_bound hs) (fun k hk => by rw [labOn_new hk.2.1, if_neg hk.1])) hge, Kd.R_lower (R_int_ok (Kd.R_bound hr) (fun k hk => by rw [labOn_new ((Kd.R_bound hr).1 k hk).2.1, if_pos hk.symm])) hge⟩, h'.f10, h'.f12, h'.f16⟩
          · cases hun
          · cases hun
          · cases hun
          · cases hun
          · cases hun
          · cases hun
          · cases hun
          · cases hun
          · have e0 : b10 = false := hun
            have e1 : b12 = false := by
              cases b12 with
              | false => rfl
              | true => exact absurd (o11 (o12 rfl)) (by rw [e0]; decide)
            subst e1
            have e2 : b11 = false := by
              cases b11 with
              | false => rfl
              | true => exact absurd (o11 rfl) (by rw [e0]; decide)
            have hps := ready_pred hi (ps := [7, 9, 1]) (by kernel_rfl)
            have e3 : b1 = true := hps 1 (by simp)
            clear hps
            subst e0 e2 e3
            obtain rfl := Option.some.inj hop
            refine goes_ Try.func63 (by kernel_rfl) rfl #[.slice A1 parts.length c1, .slice A2 x.f2.length c2] (by rfl) rfl rfl (by (try simp only [List.map_toArray, List.map_cons, List.map_nil]); first | done | rfl) ?_
            refine (T63.out W hW).mono ?_
            rintro e W' ⟨v0, rfl, hr, hb⟩
            have h' := hR.grow hb (fun _ => 3)
            refine ⟨_, rfl, hK _ _ ⟨true, true, false, false, b16, x7, x28, x30, v0, x40, x41, x42, x43, labOn W lab (fun _ => 3), rfl, ?ha, ⟨fun _ => rfl, (fun h => by cases h), (fun h => by cases h)⟩, (fun h => by cases h), ?hR⟩⟩
            case ha =>
              show Act.put _ (some 39) _ = _
              simp only [putAll, Act.put, List.setIfInBounds_toArray, List.set_cons_zero, List.set_cons_succ]
            case hR => exact ⟨h'.below, h'.n0, h'.f1, fun _ _ => Kd.R_lower (R_int_ok (Kd.R_bound hr) (fun k hk => labOn_new ((Kd.R_bound hr).1 k hk).2.1)) hge, h'.f12, h'.f16⟩
          · have e0 : b11 = false := hun
            have e1 : b12 = false := by
              cases b12 with
              | false => rfl
              | true => exact absurd (o12 rfl) (by rw [e0]; decide)
            subst e1
            have hps := ready_pred hi (ps := [3, 5, 10]) (by kernel_rfl)
            have e2 : b10 = true := hps 10 (by simp)
            have e1 : b1 = true := o10 e2
            subst e0 e1 e2
            clear hps
            obtain rfl := Option.some.inj hop
            refine value_ (N := some 40) (by rfl) rfl (w1 := W) (v := .agg #[.int .i64 x.f0, .int .i64 x.f1, x39]) ?hr (hK _ _ ⟨true, true, true, false, b16, x7, x28, x30, x39, .agg #[.int .i64 x.f0, .int .i64 x.f1, x39], x41, x42, x43, lab, rfl, ?ha, ⟨fun _ => rfl, fun _ => rfl, (fun h => by cases h)⟩, fun _ _ => rfl, hR⟩)
            case ha =>
              show Act.put _ (some 40) _ = _
              simp only [putAll, Act.put, List.setIfInBounds_toArray, List.set_cons_zero, List.set_cons_succ]
            case hr =>
              obtain ⟨A39, c39, e39⟩ := Kd.R_slice (hR.f10 rfl rfl)
              subst e39
              first | (go_simp; done) | (go_simp; rfl)
          · have e0 : b12 = false := hun
            have hps := ready_pred hi (ps := [1, 11, 10]) (by kernel_rfl)
            have e1 : b1 = true := hps 1 (by simp)
            have e2 : b10 = true := hps 10 (by simp)
            have e3 : b11 = true := hps 11 (by simp)
            subst e0 e1 e2 e3
            clear hps
            obtain ⟨v0, v1, rfl, hs, hr⟩ := hR.f1 rfl rfl
            obtain rfl := h11 rfl rfl
            have hq := hR.f10 rfl rfl
            obtain rfl := Option.some.inj hop
            refine goes_ Try.func61 (by kernel_rfl) rfl #[.agg #[v0, v1], .agg #[.int .i64 x.f0, .int .i64 x.f1, x39]] (by rfl) rfl rfl (by (try simp only [List.map_toArray, List.map_cons, List.map_nil]); first | done | rfl) ?_
            refine (l6Put_any wS W lab v0 v1 x39 nodes parts ⟨x.f0, x.f1, kids⟩ hR.below hs hr hq HGR.out.most HGR.out.len HKS.out).mono ?_
            rintro e W' ⟨u0, u1, rfl, hs2, hr2, hb2, hk2⟩
            rw [← HPP.out] at hs2 hr2 ⊢
            have hR2 : AdR wS.heap.size wS nodes parts kids pp.1.1 pp.1.2 pp.2 true true true b16 x7 (.agg #[v0, v1]) x39 (.agg #[u0, u1]) (.int .i64 pp.2) (labOn W (fun k => if lab k = 1 ∨ lab k = 2 ∨ lab k = 3 then 5 else lab k) (fun _ => 5)) W' := ⟨hb2, Nat.le_trans hge hk2.1, (fun _ h => by cases h), (fun _ h => by cases h), fun _ => ⟨u0, u1, rfl, rfl, Kd.S_mono hs2 (fun k hk => ⟨hk.1, by
              rcases hk.2 with h | h
              · rw [labOn_old h.2, if_pos (by omega)]
              · exact labOn_new h⟩), Kd.R_mono hr2 (fun k hk => by
              rcases hk with h | h
              · rw [labOn_old h.2, if_pos (by omega)]
              · exact labOn_new h)⟩, fun h0 => by
              obtain ⟨g, e, hg, hl, hc⟩ := hR.f16 h0
              exact ⟨g, e, hg, by rw [labOn_old (blk_lt hc), if_neg (by omega)]; exact hl, blk_kept hc hk2 (by omega)⟩⟩
            refine ⟨_, rfl, hK2 _ _ ?hS ?hgo⟩
            case hS =>
              have E1 := blk_below HS1.out hb2
              have E2 := blk_below HS2.out hb2
              exact ⟨blk_cell E1 0, blk_cell E1 1, blk_cell E2 0, blk_cell E2 1, blk_cell E2 2⟩
            case hgo =>
              intro f hf
              clear hK hK2 hi hun hs hr hq hs2 hr2 hb2 hk2 hR hne
              cases b16 with
              | true =>
                obtain ⟨f, rfl⟩ : ∃ q, f = q + 3 := ⟨f - 3, by have h : cntF #[true, true, true, true, true, true, true, true, true, true, true, true, true, false, false, false, true, false, false] = 5 := (by kernel_rfl); have h2 : cntF #[true, true, true, true, true, true, true, true, true, true, true, true, true, false, false, false, true, false, false] ≤ f := hf; rw [h] at h2; omega⟩
                refine norm_ (a' := ?_) (show Act.put _ (some 41) _ = _ from ?_) ?_
                rotate_left
                · simp only [putAll, Act.put, List.setIfInBounds_toArray, List.set_cons_zero, List.set_cons_succ]
                  rfl
                refine pure_ (i := 13) (N := some 28) (v := ?_) (a' := ?_) #[true, true, true, true, true, true, true, true, true, true, true, true, true, true, false, false, true, false, false] rfl rfl (by kernel_rfl) (fun _ _ _ h => h) (Or.inl ⟨by rfl, ?_⟩) ?_ ?_
                rotate_left
                · intro w'
                  go_simp
                  with_reducible rfl
                rotate_left
                · simp only [Act.put, List.setIfInBounds_toArray, List.set_cons_zero, List.set_cons_succ]
                  rfl
                refine pure_ (i := 14) (N := some 42) (v := ?_) (a' := ?_) #[true, true, true, true, true, true, true, true, true, true, true, true, true, true, true, false, true, false, false] rfl rfl (by kernel_rfl) (fun _ _ _ h => h) (Or.inl ⟨by rfl, ?_⟩) ?_ ?_
                rotate_left
                · intro w'
                  go_simp
                  with_reducible rfl
                rotate_left
                · simp only [Act.put, List.setIfInBounds_toArray, List.set_cons_zero, List.set_cons_succ]
                  rfl
                refine pure_ (i := 15) (N := some 43) (v := ?_) (a' := ?_) #[true, true, true, true, true, true, true, true, true, true, true, true, true, true, true, true, true, false, false] rfl rfl (by kernel_rfl) (fun _ _ _ h => h) (Or.inl ⟨by rfl, ?_⟩) ?_ ?_
                rotate_left
                · intro w'
                  go_simp
                  with_reducible rfl
                rotate_left
                · simp only [Act.put, List.setIfInBounds_toArray, List.set_cons_zero, List.set_cons_succ]
                  rfl
                refine hrec _ _ _ ?hc ⟨true, true, true, true, true, x7, .tuple #[.agg #[u0, u1], .int .i64 pp.2], .agg #[v0, v1], x39, .agg #[.int .i64 x.f0, .int .i64 x.f1, x39], .tuple #[.agg #[u0, u1], .int .i64 pp.2], .agg #[u0, u1], .int .i64 pp.2, labOn W (fun k => if lab k = 1 ∨ lab k = 2 ∨ lab k = 3 then 5 else lab k) (fun _ => 5), rfl, ?ha, ⟨fun _ => rfl, fun _ => rfl, fun _ => rfl⟩, (fun _ h => by cases h), hR2⟩ f ?hf
                case hc => decide
                case ha => first | rfl | simp only [putAll, Act.put, List.setIfInBounds_toArray, List.set_cons_zero, List.set_cons_succ]
                case hf =>
                  have h : cntF #[true, true, true, true, true, true, true, true, true, true, true, true, true, false, false, false, true, false, false] = 5 := (by kernel_rfl)
                  have h2 : cntF #[true, true, true, true, true, true, true, true, true, true, true, true, true, false, false, false, true, false, false] ≤ f + 3 := hf
                  have h3 : cntF #[true, true, true, true, true, true, true, true, true, true, true, true, true, true, true, true, true, false, false] = 2 := (by kernel_rfl)
                  rw [h] at h2
                  rw [h3]
                  omega
              | false =>
                obtain ⟨f, rfl⟩ : ∃ q, f = q + 3 := ⟨f - 3, by have h : cntF #[true, true, true, true, true, true, true, true, true, true, true, true, true, false, false, false, false, false, false] = 6 := (by kernel_rfl); have h2 : cntF #[true, true, true, true, true, true, true, true, true, true, true, true, true, false, false, false, false, false, false] ≤ f := hf; rw [h] at h2; omega⟩
                refine norm_ (a' := ?_) (show Act.put _ (some 41) _ = _ from ?_) ?_
                rotate_left
                · simp only [putAll, Act.put, List.setIfInBounds_toArray, List.set_cons_zero, List.set_cons_succ]
                  rfl
                refine pure_ (i := 13) (N := some 28) (v := ?_) (a' := ?_) #[true, true, true, true, true, true, true, true, true, true, true, true, true, true, false, false, false, false, false] rfl rfl (by kernel_rfl) (fun _ _ _ h => h) (Or.inl ⟨by rfl, ?_⟩) ?_ ?_
                rotate_left
                · intro w'
                  go_simp
                  with_reducible rfl
                rotate_left
                · simp only [Act.put, List.setIfInBounds_toArray, List.set_cons_zero, List.set_cons_succ]
                  rfl
                refine pure_ (i := 14) (N := some 42) (v := ?_) (a' := ?_) #[true, true, true, true, true, true, true, true, true, true, true, true, true, true, true, false, false, false, false] rfl rfl (by kernel_rfl) (fun _ _ _ h => h) (Or.inl ⟨by rfl, ?_⟩) ?_ ?_
                rotate_left
                · intro w'
                  go_simp
                  with_reducible rfl
                rotate_left
                · simp only [Act.put, List.setIfInBounds_toArray, List.set_cons_zero, List.set_cons_succ]
                  rfl
                refine pure_ (i := 15) (N := some 43) (v := ?_) (a' := ?_) #[true, true, true, true, true, true, true, true, true, true, true, true, true, true, true, true, false, false, false] rfl rfl (by kernel_rfl) (fun _ _ _ h => h) (Or.inl ⟨by rfl, ?_⟩) ?_ ?_
                rotate_left
                · intro w'
                  go_simp
                  with_reducible rfl
                rotate_left
                · simp only [Act.put, List.setIfInBounds_toArray, List.set_cons_zero, List.set_cons_succ]
                  rfl
                refine hrec _ _ _ ?hc ⟨true, true, true, true, false, x7, .tuple #[.agg #[u0, u1], .int .i64 pp.2], .agg #[v0, v1], x39, .agg #[.int .i64 x.f0, .int .i64 x.f1, x39], .tuple #[.agg #[u0, u1], .int .i64 pp.2], .agg #[u0, u1], .int .i64 pp.2, labOn W (fun k => if lab k = 1 ∨ lab k = 2 ∨ lab k = 3 then 5 else lab k) (fun _ => 5), rfl, ?ha, ⟨fun _ => rfl, fun _ => rfl, fun _ => rfl⟩, (fun _ h => by cases h), hR2⟩ f ?hf
                case hc => decide
                case ha => first | rfl | simp only [putAll, Act.put, List.setIfInBounds_toArray, List.set_cons_zero, List.set_cons_succ]
                case hf =>
                  have h : cntF #[true, true, true, true, true, true, true, true, true, true, true, true, true, false, false, false, false, false, false] = 6 := (by kernel_rfl)
                  have h2 : cntF #[true, true, true, true, true, true, true, true, true, true, true, true, true, false, false, false, false, false, false] ≤ f + 3 := hf
                  have h3 : cntF #[true, true, true, true, true, true, true, true, true, true, true, true, true, true, true, true, false, false, false] = 3 := (by kernel_rfl)
                  rw [h] at h2
                  rw [h3]
                  omega
          · have e0 : b12 = false := hun
            exact absurd (ready_pred hi (ps := [12]) (by kernel_rfl) 12 (by simp)) (by rw [show (#[true, b1, true, true, true, true, true, true, true, true, b10, b11, b12, b12, b12, b12, b16, false, false] : Array Bool).getD 12 false = b12 from rfl, e0]; decide)
          · have e0 : b12 = false := hun
            exact absurd (ready_pred hi (ps := [13]) (by kernel_rfl) 13 (by simp)) (by rw [show (#[true, b1, true, true, true, true, true, true, true, true, b10, b11, b12, b12, b12, b12, b16, false, false] : Array Bool).getD 13 false = b12 from rfl, e0]; decide)
          · have e0 : b12 = false := hun
            exact absurd (ready_pred hi (ps := [13]) (by kernel_rfl) 13 (by simp)) (by rw [show (#[true, b1, true, true, true, true, true, true, true, true, b10, b11, b12, b12, b12, b12, b16, false, false] : Array Bool).getD 13 false = b12 from rfl, e0]; decide)
          · have e0 : b16 = false := hun
            subst e0
            obtain rfl := Option.some.inj hop
            refine box_step (by rfl) (N := 7) rfl (cs := #[.slice none 0 0, .slice none 0 0]) (t := 32) ?hr ?_
            case hr => first | (go_simp; done) | (go_simp; rfl)
            intro g hg W' h1 hb
            subst hg
            have h' := hR.grow hb (fun _ => 4)
            refine hK _ _ ⟨b1, b10, b11, b12, true, .pointer (some ⟨W.heap.size, 0, none⟩), x28, x30, x39, x40, x41, x42, x43, labOn W lab (fun _ => 4), rfl, ?ha, ⟨o10, o11, o12⟩, h11, ?hR⟩
            case ha =>
              show Act.put _ (some 7) _ = _
              simp only [putAll, Act.put, List.setIfInBounds_toArray, List.set_cons_zero, List.set_cons_succ]
            case hR => exact ⟨h'.below, h'.n0, h'.f1, h'.f10, h'.f12, fun _ => ⟨_, rfl, hge, labOn_new (Nat.le_refl _), h1⟩⟩
          · have hps := ready_pred hi (ps := [16, 14, 12, 0, 1, 2, 3, 4, 5, 6, 7, 8, 9, 10, 11, 12, 13, 14, 16]) (by kernel_rfl)
            have e1 : b12 = true := hps 12 (by simp)
            have e2 : b11 = true := o12 e1
            have e3 : b10 = true := o11 e2
            have e4 : b1 = true := o10 e3
            have e5 : b16 = true := hps 16 (by simp)
            subst e1 e2 e3 e4 e5
            exact absurd rfl hne
          · exact absurd (ready_pred hi (ps := [15, 17, 0, 1, 2, 3, 4, 5, 6, 7, 8, 9, 10, 11, 12, 13, 14, 15, 16, 17]) (by kernel_rfl) 17 (by simp)) (fun h => by cases h)
        case hcont =>
          rintro f a W hf ⟨b1, b10, b11, b12, b16, x7, x28, x30, x39, x40, x41, x42, x43, lab, hl, ha, ho, h11, hR⟩
          have e12 : true = b12 := congrArg (fun z => Array.getD z 12 false) hl
          have e16 : true = b16 := congrArg (fun z => Array.getD z 16 false) hl
          subst e12 e16
          simp only [putAll, Act.put, List.setIfInBounds_toArray, List.set_cons_zero, List.set_cons_succ] at ha
          subst ha
          obtain ⟨f, rfl⟩ : ∃ q, f = q + 2 := ⟨f - 2, by have h : cntF #[true, true, true, true, true, true, true, true, true, true, true, true, true, true, true, true, true, false, false] = 2 := (by kernel_rfl); rw [h] at hf; omega⟩
          obtain ⟨u0, u1, rfl, rfl, hs, hr⟩ := hR.f12 rfl
          obtain ⟨g, rfl, hg, hlg, hc⟩ := hR.f16 rfl
          obtain ⟨Au, cu, rfl⟩ := Kd.S_slice hs
          obtain ⟨Av, cv, rfl⟩ := Kd.R_slice hr
          have z0 := blk_cell hc 0
          have z1 := blk_cell hc 1
          have g0 := blk_frozen hc 0
          have g1 := blk_frozen hc 1
          simp only [List.getElem?_toArray, List.getElem?_cons_zero, List.getElem?_cons_succ] at z0 z1
          have hX : ((W.setCell ⟨g, 0, none⟩ (.slice Au pp.1.1.length cu)).setCell ⟨g, 1, none⟩ (.slice Av pp.1.2.length cv)).heap[g]? = some (.cells #[.slice Au pp.1.1.length cu, .slice Av pp.1.2.length cv] 32 (0, 0)) := blk_put (blk_put hc 0 _ rfl) 1 _ rfl
          have hXB : Below wS.heap.size wS ((W.setCell ⟨g, 0, none⟩ (.slice Au pp.1.1.length cu)).setCell ⟨g, 1, none⟩ (.slice Av pp.1.2.length cv)) := (hR.below.setCell (p := ⟨g, 0, none⟩) hg _).setCell (p := ⟨g, 1, none⟩) hg _
          have hXS := Kd.S_far (p := ⟨g, 1, none⟩) (Kd.S_far (p := ⟨g, 0, none⟩) hs (fun k hk e => by dsimp only at e; subst e; have := hk.2; omega) (.slice Au pp.1.1.length cu)) (fun k hk e => by dsimp only at e; subst e; have := hk.2; omega) (.slice Av pp.1.2.length cv)
          have hXR := Kd.R_far (p := ⟨g, 1, none⟩) (Kd.R_far (p := ⟨g, 0, none⟩) hr (fun k hk e => by dsimp only at e; subst e; omega) (.slice Au pp.1.1.length cu)) (fun k hk e => by dsimp only at e; subst e; omega) (.slice Av pp.1.2.length cv)
          have HX := Aside0.mk (And.intro hX (And.intro hXB (And.intro hXS hXR)))
          clear hX hXB hXS hXR hc hs hr hR h11 ho hl hf hHeld
          refine one_ (i := 17) (N := none) #[true, true, true, true, true, true, true, true, true, true, true, true, true, true, true, true, true, true, false] rfl rfl (by kernel_rfl) (by decide) (fun K hK => ?_)
          refine skip_ (by rfl) rfl (w1 := ((W.setCell ⟨g, 0, none⟩ (.slice Au pp.1.1.length cu)).setCell ⟨g, 1, none⟩ (.slice Av pp.1.2.length cv))) ?hr (hK.out _ _ ?hSS (fun hHeld => ?_))
          case hr => first | (go_simp; done) | (go_simp; rfl)
          case hSS =>
            have E1 := blk_below HS1.out HX.out.2.1
            have E2 := blk_below HS2.out HX.out.2.1
            exact ⟨blk_cell E1 0, blk_cell E1 1, blk_cell E2 0, blk_cell E2 1, blk_cell E2 2⟩
          clear hK K hHeld
          refine pure_ (i := 18) (N := some 8) (v := ?_) (a' := ?_) #[true, true, true, true, true, true, true, true, true, true, true, true, true, true, true, true, true, true, true] rfl rfl (by kernel_rfl) (fun _ _ _ h => h) (Or.inl ⟨by rfl, ?_⟩) ?_ ?_
          rotate_left
          · intro w'
            go_simp
            with_reducible rfl
          rotate_left
          · simp only [Act.put, List.setIfInBounds_toArray, List.set_cons_zero, List.set_cons_succ]
            rfl
          refine done_ (by kernel_rfl) ?_
          generalize ((W.setCell ⟨g, 0, none⟩ (.slice Au pp.1.1.length cu)).setCell ⟨g, 1, none⟩ (.slice Av pp.1.2.length cv)) = X at HX ⊢
          clear z0 z1 g0 g1
          have y0 := blk_cell HX.out.1 0
          have y1 := blk_cell HX.out.1 1
          have HBX := Aside0.mk (HBS.out.trans (HX.out.2.1.mono HBS.out.size))
          have HX3 := Aside0.mk (blk_below HS3.out HX.out.2.1)
          simp only [List.getElem?_toArray, List.getElem?_cons_zero, List.getElem?_cons_succ] at y0 y1
          have T43' := Aside0.mk (good_calls X (Kd.S_reads' HX.out.2.2.1).2.2 (Kd.S_reads' HX.out.2.2.1).2.1 (Kd.R_reads' HX.out.2.2.2).2.2 (Kd.R_reads' HX.out.2.2.2).2.1)
          rcases Bool.eq_false_or_eq_true (goodG pp.1.1 pp.1.2) with hgg | hgg
          · have HAA := Aside0.mk (show ansAddNode nodes parts x = (pp.1, pp.2, true) by rw [HAN.out, addOf, if_pos hgg])
            rw [hgg] at T43'
            clear hgg HAN
            go_wp2_with ((go_at_call 43; refine (T43'.out).mono ?_; rintro e w7 ⟨rfl, hb⟩; have HXZ := Aside0.mk hb; have HBZ := Aside0.mk (HBX.out.trans (hb.mono HBX.out.size)); have D3 := blk_below HX3.out hb; have D1 := blk_below HX.out.1 hb; clear y0 y1; have y0 := blk_cell D1 0; have y1 := blk_cell D1 1; have f0 := blk_frozen D3 0; have f1 := blk_frozen D3 1; have z0 := blk_cell D3 0; have z1 := blk_cell D3 1; have HZ3 := Aside0.mk D3; (try simp only [List.getElem?_toArray, List.getElem?_cons_zero, List.getElem?_cons_succ] at y0 y1); clear hb D3 D1))
            refine bodyPost_ret (results_ctt (p := 4) (u := 5) (v := 6) rfl _ _ (w.heap.size + 1 + 1) 32 #[.slice Au pp.1.1.length cu, .slice Av pp.1.2.length cv] (0, 0) _ rfl (blk_put (blk_put HZ3.out 0 _ rfl) 1 _ rfl) Try.underlying32 rfl (by kernel_rfl)) rfl ?_
            refine ⟨_, _, by rw [HAA.out]; rfl, ?_, ?_, (HBZ.out.setCell (p := ⟨w.heap.size + 1 + 1, 0, none⟩) (by dsimp only; omega) _).setCell (p := ⟨w.heap.size + 1 + 1, 1, none⟩) (by dsimp only; omega) _⟩
            · rw [HAA.out]
              exact Kd.S_lower (Kd.S_mono (Kd.S_far (p := ⟨w.heap.size + 1 + 1, 1, none⟩) (Kd.S_far (p := ⟨w.heap.size + 1 + 1, 0, none⟩) (Kd.S_below (Kd.S_bound HX.out.2.2.1) HXZ.out) (fun k hk => by have h1 := hk.2.1; have h2 := blk_lt HS3.out; dsimp only; omega) _) (fun k hk => by have h1 := hk.2.1; have h2 := blk_lt HS3.out; dsimp only; omega) _) (fun k hk => hk.1.1)) HBS.out.size
            · rw [HAA.out]
              exact Kd.R_lower (Kd.R_mono (Kd.R_far (p := ⟨w.heap.size + 1 + 1, 1, none⟩) (Kd.R_far (p := ⟨w.heap.size + 1 + 1, 0, none⟩) (Kd.R_below (Kd.R_bound HX.out.2.2.2) HXZ.out) (fun k hk => by have h1 := hk.2.1; have h2 := blk_lt HS3.out; dsimp only; omega) _) (fun k hk => by have h1 := hk.2.1; have h2 := blk_lt HS3.out; dsimp only; omega) _) (fun k hk => trivial)) HBS.out.size
          · have HA := Aside0.mk (show ansAddNode nodes parts x = (([], []), 0, false) by rw [HAN.out, addOf, if_neg (by rw [hgg]; decide)])
            rw [hgg] at T43'
            clear hgg HAN
            go_wp2_with ((go_at_call 43; refine (T43'.out).mono ?_; rintro e w7 ⟨rfl, hb⟩; have HXZ := Aside0.mk hb; have HBZ := Aside0.mk (HBX.out.trans (hb.mono HBX.out.size)); have D3 := blk_below HX3.out hb; have D1 := blk_below HX.out.1 hb; clear y0 y1; have y0 := blk_cell D1 0; have y1 := blk_cell D1 1; have f0 := blk_frozen D3 0; have f1 := blk_frozen D3 1; have z0 := blk_cell D3 0; have z1 := blk_cell D3 1; have HZ3 := Aside0.mk D3; (try simp only [List.getElem?_toArray, List.getElem?_cons_zero, List.getElem?_cons_succ] at y0 y1); clear hb D3 D1))
            refine bodyPost_ret (results_ctt (p := 4) (u := 5) (v := 6) rfl _ _ (w.heap.size + 1 + 1) 32 #[.slice none 0 0, .slice none 0 0] (0, 0) _ rfl (blk_put (blk_put HZ3.out 0 _ rfl) 1 _ rfl) Try.underlying32 rfl (by kernel_rfl)) rfl ?_
            exact ⟨_, _, by rw [HA.out]; rfl, by rw [HA.out]; exact Kd.S_nil _ _ _ _ _, by rw [HA.out]; exact Kd.R_nil _ _ _ _ _, (HBZ.out.setCell (p := ⟨w.heap.size + 1 + 1, 0, none⟩) (by dsimp only; omega) _).setCell (p := ⟨w.heap.size + 1 + 1, 1, none⟩) (by dsimp only; omega) _⟩
      · have HA := Aside0.mk (ans_wrong (x := x) (show ((goodG nodes parts && nodeB x.f0 x.f1 x.f2) && allK x.f2 0 ((nodes.length : Int) - 1)) = false by rw [ha, Bool.and_false]))
        rw [hg] at T43
        rw [hn] at T59
        rw [ha] at T60
        clear hg hn ha hgr h0 h1 h2 hx3
        clear hwl
        go_enter Try.func12, Try.ntmps12
        go_wp2_with (first | (go_at_call 43; refine (T43.out _ (by repeat (first | exact Below.refl _ _ | apply below_alloc | apply pw_below_drewN | apply below_drew1))).mono ?_; rintro e w7 ⟨rfl, hb⟩; have HB7 := Aside0.mk (HB3.out.trans (hb.mono HB3.out.size)); have D1 := blk_below B1.out hb; have D2 := blk_below B2.out hb; have D3 := blk_below B3.out hb; have k0 := blk_cell D2 0; have k1 := blk_cell D2 1; have k2 := blk_cell D2 2; have HD1 := Aside0.mk D1; have HD2 := Aside0.mk D2; have HD3 := Aside0.mk D3; (try simp only [List.getElem?_toArray, List.getElem?_cons_zero, List.getElem?_cons_succ] at k0 k1 k2); clear hb D1 D2 D3) | (go_at_call 59; refine (T59.out _ HB7.out).mono ?_; rintro e w8 ⟨rfl, hb⟩; have HB8 := Aside0.mk (HB7.out.trans (hb.mono HB7.out.size)); have D1 := blk_below HD1.out hb; have D2 := blk_below HD2.out hb; have D3 := blk_below HD3.out hb; clear k0 k1 k2; have j0 := blk_cell D2 2; have j1 := blk_cell D1 0; have HE1 := Aside0.mk D1; have HE2 := Aside0.mk D2; have HE3 := Aside0.mk D3; (try simp only [List.getElem?_toArray, List.getElem?_cons_zero, List.getElem?_cons_succ] at j0 j1 j2); clear hb D1 D2 D3) | (go_at_call 60; refine (T60.out _ HB8.out).mono ?_; rintro e w9 ⟨rfl, hb⟩; have HB9 := Aside0.mk (HB8.out.trans (hb.mono HB8.out.size)); have D1 := blk_below HE1.out hb; have D2 := blk_below HE2.out hb; have D3 := blk_below HE3.out hb; clear j0 j1; have f0 := blk_frozen D3 0; have f1 := blk_frozen D3 1; have z0 := blk_cell D3 0; have z1 := blk_cell D3 1; have HF1 := Aside0.mk D1; have HF2 := Aside0.mk D2; have HF3 := Aside0.mk D3; clear hb D1 D2 D3))
        refine bodyPost_ret (results_ctt (p := 4) (u := 5) (v := 6) rfl _ _ (w.heap.size + 1 + 1) 32 #[.slice none 0 0, .slice none 0 0] (0, 0) _ rfl (blk_put (blk_put HF3.out 0 _ rfl) 1 _ rfl) Try.underlying32 rfl (by kernel_rfl)) rfl ?_
        exact ⟨_, _, by rw [HA.out]; rfl, by rw [HA.out]; exact Kd.S_nil _ _ _ _ _, by rw [HA.out]; exact Kd.R_nil _ _ _ _ _, (HB9.out.setCell (p := ⟨w.heap.size + 1 + 1, 0, none⟩) (by dsimp only; omega) _).setCell (p := ⟨w.heap.size + 1 + 1, 1, none⟩) (by dsimp only; omega) _⟩
    · have HA := Aside0.mk (ans_wrong (x := x) (show ((goodG nodes parts && nodeB x.f0 x.f1 x.f2) && allK x.f2 0 ((nodes.length : Int) - 1)) = false by rw [hn, Bool.and_false, Bool.false_and]))
      rw [hg] at T43
      rw [hn] at T59
      clear hg hn hgr h0 h1 h2
      go_enter Try.func12, Try.ntmps12
      go_wp2_with (first | (go_at_call 43; refine (T43.out _ (by repeat (first | exact Below.refl _ _ | apply below_alloc | apply pw_below_drewN | apply below_drew1))).mono ?_; rintro e w7 ⟨rfl, hb⟩; have HB7 := Aside0.mk (HB3.out.trans (hb.mono HB3.out.size)); have D1 := blk_below B1.out hb; have D2 := blk_below B2.out hb; have D3 := blk_below B3.out hb; have k0 := blk_cell D2 0; have k1 := blk_cell D2 1; have k2 := blk_cell D2 2; have HD1 := Aside0.mk D1; have HD2 := Aside0.mk D2; have HD3 := Aside0.mk D3; (try simp only [List.getElem?_toArray, List.getElem?_cons_zero, List.getElem?_cons_succ] at k0 k1 k2); clear hb D1 D2 D3) | (go_at_call 59; refine (T59.out _ HB7.out).mono ?_; rintro e w8 ⟨rfl, hb⟩; have HB8 := Aside0.mk (HB7.out.trans (hb.mono HB7.out.size)); have D1 := blk_below HD1.out hb; have D2 := blk_below HD2.out hb; have D3 := blk_below HD3.out hb; clear k0 k1 k2; have f0 := blk_frozen D3 0; have f1 := blk_frozen D3 1; have z0 := blk_cell D3 0; have z1 := blk_cell D3 1; have HE1 := Aside0.mk D1; have HE2 := Aside0.mk D2; have HE3 := Aside0.mk D3; (try simp only [List.getElem?_toArray, List.getElem?_cons_zero, List.getElem?_cons_succ] at j0 j1 j2); clear hb D1 D2 D3))
      refine bodyPost_ret (results_ctt (p := 4) (u := 5) (v := 6) rfl _ _ (w.heap.size + 1 + 1) 32 #[.slice none 0 0, .slice none 0 0] (0, 0) _ rfl (blk_put (blk_put HE3.out 0 _ rfl) 1 _ rfl) Try.underlying32 rfl (by kernel_rfl)) rfl ?_
      exact ⟨_, _, by rw [HA.out]; rfl, by rw [HA.out]; exact Kd.S_nil _ _ _ _ _, by rw [HA.out]; exact Kd.R_nil _ _ _ _ _, (HB8.out.setCell (p := ⟨w.heap.size + 1 + 1, 0, none⟩) (by dsimp only; omega) _).setCell (p := ⟨w.heap.size + 1 + 1, 1, none⟩) (by dsimp only; omega) _⟩
  · have HA := Aside0.mk (ans_wrong (x := x) (show ((goodG nodes parts && nodeB x.f0 x.f1 x.f2) && allK x.f2 0 ((nodes.length : Int) - 1)) = false by rw [hg, Bool.false_and, Bool.false_and]))
    rw [hg] at T43
    clear hg h0 h1 h2
    go_enter Try.func12, Try.ntmps12
    go_wp2_with (go_at_call 43; refine (T43.out _ (by repeat (first | exact Below.refl _ _ | apply below_alloc | apply pw_below_drewN | apply below_drew1))).mono ?_; rintro e w7 ⟨rfl, hb⟩; have HB7 := Aside0.mk (HB3.out.trans (hb.mono HB3.out.size)); have D1 := blk_below B1.out hb; have D2 := blk_below B2.out hb; have D3 := blk_below B3.out hb; have f0 := blk_frozen D3 0; have f1 := blk_frozen D3 1; have z0 := blk_cell D3 0; have z1 := blk_cell D3 1; have HD1 := Aside0.mk D1; have HD2 := Aside0.mk D2; have HD3 := Aside0.mk D3; (try simp only [List.getElem?_toArray, List.getElem?_cons_zero, List.getElem?_cons_succ] at k0 k1 k2); clear hb D1 D2 D3)
    refine bodyPost_ret (results_ctt (p := 4) (u := 5) (v := 6) rfl _ _ (w.heap.size + 1 + 1) 32 #[.slice none 0 0, .slice none 0 0] (0, 0) _ rfl (blk_put (blk_put HD3.out 0 _ rfl) 1 _ rfl) Try.underlying32 rfl (by kernel_rfl)) rfl ?_
    exact ⟨_, _, by rw [HA.out]; rfl, by rw [HA.out]; exact Kd.S_nil _ _ _ _ _, by rw [HA.out]; exact Kd.R_nil _ _ _ _ _, (HB7.out.setCell (p := ⟨w.heap.size + 1 + 1, 0, none⟩) (by dsimp only; omega) _).setCell (p := ⟨w.heap.size + 1 + 1, 1, none⟩) (by dsimp only; omega) _⟩
end Go.Proofs.Ytlnejmlphkpaaaa.PA
