/- The flow seat: impl.IsReducible by hand. -/
import Derived.Test.YtghlbhijkhkgkaaKbTc
import Derived.Test.YtghlbhijkhkgkaaKbOc
namespace Go.Proofs.Ytghlbhijkhkgkaa.PA
open Go.RowKit Go.Proofs.YtghlbhijkhkgkaaW.PrintWords Go.Proofs.YtghlbhijkhkgkaaW.PrintLast Go.Proofs.YtghlbhijkhkgkaaW.PrintMore
set_option linter.unusedVariables false
/-- The forward rows of the first i blocks, the others nil. -/
noncomputable def fwdAt (next : List (List Int)) (i : Nat) : List (List Int) := (List.range next.length).map fun (b : Nat) => if b < i then fwdRow next (b : Int) else []
section
variable {next : List (List Int)} {i : Nat}
theorem fwdAt_len (next : List (List Int)) (i : Nat) : (fwdAt next i).length = next.length := by simp [fwdAt]
theorem fwdAt_zero (next : List (List Int)) : fwdAt next 0 = List.replicate next.length [] := List.ext_getElem (by simp [fwdAt]) fun k h1 h2 => by simp [fwdAt]
theorem fwdAt_get (h : i < next.length) : (fwdAt next i).set i [] = fwdAt next i := by
  refine List.ext_getElem (by simp) fun k h1 h2 => ?_
  rw [List.getElem_set]
  by_cases e : i = k
  · subst e; simp [fwdAt]
  · rw [if_neg e]
theorem fwdAt_succ : (fwdAt next i).set i (fwdRow next (i : Int)) = fwdAt next (i + 1) := by
  refine List.ext_getElem (by simp [fwdAt]) fun k h1 h2 => ?_
  rw [List.getElem_set]
  simp only [fwdAt, List.getElem_map, List.getElem_range]
  by_cases e : i = k
  · subst e; rw [if_pos rfl, if_pos (by omega)]
  · rw [if_neg e]
    by_cases e2 : k < i
    · rw [if_pos e2, if_pos (by omega)]
    · rw [if_neg e2, if_neg (by omega)]
theorem red_true (h : Acyclic next) : redB next = true := @decide_eq_true _ (_) h
theorem red_false (h : ¬ Acyclic next) : redB next = false := @decide_eq_false _ (_) h
theorem fwdAt_end (next : List (List Int)) : fwdAt next next.length = fwdL next := by
  refine List.ext_getElem (by simp [fwdAt, fwdL]) fun k h1 h2 => ?_
  simp only [fwdAt, fwdL, List.getElem_map, List.getElem_range]
  rw [fwdAt_len] at h1
  rw [if_pos h1]
end
set_option maxHeartbeats 8000000 in
set_option maxRecDepth 100000 in
theorem implIsReducible_any {A : Option Addr} {c : Nat} (p : Int) (bs : List S87) (w : World) (hr : Kd.C k87 w A bs.length bs) (hc : bs.length ≤ c) :
    Calls Try.prog 47 #[.agg #[.int .i64 p, .slice A bs.length c]] w fun e w' => e = .returned (.tuple #[.bool (ansIsReducible p bs).1, .bool (ansIsReducible p bs).2]) ∧ Below w.heap.size w w' := by
  have W1 := below_alloc (Below.refl w.heap.size w) (.cells #[.int .i64 p, .slice A bs.length c] 30)
  rcases Bool.eq_false_or_eq_true (goodB p bs) with hg | hg
  · have hcall := Aside0.mk (viewOf_yes (c := c) p bs (w.alloc (.cells #[.int .i64 p, .slice A bs.length c] 30)) (Kd.C_below hr W1) hc hg)
    have hgr := rows_of_good hg
    have HOK := Aside0.mk (rows_ok hgr)
    have HGJ := Aside0.mk (show ∀ b ∈ bs, b.f4.length ≤ 2 from fun b hb => by obtain ⟨k, hk, rfl⟩ := List.getElem_of_mem hb; have := hgr.two k hk; rwa [rd_nat bs k hk] at this)
    have HTWO := Aside0.mk (show ∀ k : Nat, k < bs.length → (rd_L1 (nextL bs) (k : Int)).length ≤ 2 from fun k hk => by rw [nextL_rd bs k hk]; have := hgr.two k hk; simpa [toL] using this)
    have HANS := Aside0.mk (show ansIsReducible p bs = (redB (nextL bs), true) by rw [ansIsReducible, if_pos hg])
    obtain ⟨next, hnx⟩ : ∃ z, z = nextL bs := ⟨_, rfl⟩
    have hnl := nextL_len bs
    have T64 := Aside0.mk (fun W gv (hv : View W gv p A bs c (firstsF p bs bs.length) (blocksF p bs bs.length) (totF p bs bs.length)) => (next_any p gv bs W hv hgr.len HGJ.out))
    rw [← hnx] at HOK HANS hnl T64 HTWO
    obtain ⟨n, hn⟩ : ∃ n, n = bs.length := ⟨_, rfl⟩
    have HN := Aside0.mk hn
    have H1 := Aside0.mk (show 0 < n by rw [hn]; exact hgr.one)
    have H8 := Aside0.mk (show n ≤ 8 by rw [hn]; exact hgr.len)
    have HNL := Aside0.mk (show next.length = n by rw [hn]; exact hnl)
    clear hr hc hg hgr W1 hnl hnx HGJ
    rw [← hn] at HTWO
    clear hn
    go_enter Try.func47, Try.ntmps47
    go_wp2_with (go_at_call 56; refine (hcall.out).mono ?_; rintro e w1 ⟨gv, rfl, hb, hview⟩; have HV1 := Aside0.mk hview; have HB1 := Aside0.mk (below_step (below_alloc (Below.refl w.heap.size w) _) hb); clear hb hview hcall)
    refine (T64.out w1 gv HV1.out).mono ?_
    rintro e w3 ⟨gn, capn, H, rfl, hcap, hnx⟩
    have HB3 := Aside0.mk (below_step HB1.out hnx.below)
    have HRW := Aside0.mk (RW.of_NX hnx)
    have HC3 := Aside0.mk (show Kd.C kR w3 (some ⟨gn, 0, none⟩) n next from by have := HRW.out.C HOK.out.1; rw [HNL.out] at this; exact this)
    have HCAP := Aside0.mk (show n ≤ capn by rw [HN.out]; exact hcap)
    have T78 := Aside0.mk (fun W (hW : Below w3.heap.size w3 W) => (by
      have := dominators_any (A0 := some ⟨gn, 0, none⟩) (c0 := capn) next W HOK.out (by rw [HNL.out]; exact H1.out) (by rw [HNL.out]; exact H8.out) (by rw [HNL.out]; exact Kd.C_below HC3.out hW) (by rw [HNL.out]; exact HCAP.out)
      rw [HNL.out] at this
      exact this : Calls Try.prog 78 #[.slice (some ⟨gn, 0, none⟩) n capn] W fun e w' => ∃ v : Value, e = .returned v ∧ Kd.S kB 69 w' W.heap.size (fun _ => True) v (domGrid next) ∧ Below W.heap.size W w'))
    rw [← HN.out]
    clear hcap hnx HV1 T64 HB1
    have h8 := H8.out
    go_wp2_with fail
    refine start_ (n := 7) (S := fun w' => True) (ds := []) #[false, false, false, false, false, false, false] (by kernel_rfl) rfl rfl trivial (fun hHeld => ?_)
    obtain ⟨w5, hw5⟩ : ∃ w5, w5 = w3.drew := ⟨_, rfl⟩
    rw [← hw5]
    have HB5 := Aside0.mk (show Below w3.heap.size w3 w5 from by rw [hw5]; exact below_drew1 (Below.refl _ _))
    clear hw5
    refine pure_ (i := 0) (N := some 22) (v := ?_) (a' := ?_) #[true, false, false, false, false, false, false] rfl rfl (by kernel_rfl) (fun _ _ _ h => h) (Or.inl ⟨by rfl, ?_⟩) ?_ ?_
    rotate_left
    · intro w'
      go_simp
      with_reducible rfl
    rotate_left
    · simp only [Act.put, List.setIfInBounds_toArray, List.set_cons_zero, List.set_cons_succ]
      rfl
    refine pure_ (i := 2) (N := some 24) (v := ?_) (a' := ?_) #[true, false, true, false, false, false, false] rfl rfl (by kernel_rfl) (fun _ _ _ h => h) (Or.inl ⟨by rfl, ?_⟩) ?_ ?_
    rotate_left
    · intro w'
      go_simp
      with_reducible rfl
    rotate_left
    · simp only [Act.put, List.setIfInBounds_toArray, List.set_cons_zero, List.set_cons_succ]
      rfl
    refine pure_ (i := 3) (N := some 25) (v := ?_) (a' := ?_) #[true, false, true, true, false, false, false] rfl rfl (by kernel_rfl) (fun _ _ _ h => h) (Or.inl ⟨by rfl, ?_⟩) ?_ ?_
    rotate_left
    · intro w'
      go_simp
      with_reducible rfl
    rotate_left
    · simp only [Act.put, List.setIfInBounds_toArray, List.set_cons_zero, List.set_cons_succ]
      rfl
    refine join_ (σ := Value × Value) 1 #[true, true, true, true, true, true, false] (fun s_ => [(23, s_.1), (26, s_.2), (6, s_.1)]) (fun s_ w' => ∃ M1 M2 : Nat, Kd.R kB 69 w' w3.heap.size (fun k => M1 ≤ k ∧ k < M2) s_.1 (domGrid next) ∧ Kd.S kR 34 w' w3.heap.size (fun k => k < M1 ∨ M2 ≤ k) s_.2 (List.replicate n []) ∧ M2 ≤ w'.heap.size ∧ Below w3.heap.size w3 w') ?_ ?_
    rotate_left
    · intro hCont
      refine two_ (i := 1) (j := 4) (Ni := some 23) (Nj := some 26) #[true, true, true, true, false, false, false] #[true, false, true, true, true, false, false] rfl rfl rfl rfl (by kernel_rfl) (by decide) (by decide) (fun K hK => ?_) (fun K hK => ?_)
      · skip
        refine goes_ Try.func78 (by kernel_rfl) rfl #[.slice (some ⟨gn, 0, none⟩) n capn] (by rfl) rfl rfl (by (try simp only [List.map_toArray, List.map_cons, List.map_nil]); first | done | rfl | (simp only [List.length_drop, List.length_take]; rfl)) ?_
        refine (T78.out _ HB5.out).mono ?_
        rintro e w6 ⟨v23, rfl, ho, hb⟩
        refine ⟨_, rfl, ?_⟩
        have HO37 := Aside0.mk ho
        have HB6 := Aside0.mk hb
        clear ho hb
        refine hK.out _ _ trivial (fun hHeld => ?_)
        clear hK K
        refine norm_ (a' := ?_) ?_ ?_
        rotate_left
        · show Act.put _ (some 23) _ = _
          simp only [Act.put, List.setIfInBounds_toArray, List.set_cons_zero, List.set_cons_succ]
          rfl
        refine pure_ (i := 5) (N := some 6) (v := ?_) (a' := ?_) #[true, true, true, true, false, true, false] rfl rfl (by kernel_rfl) (fun _ _ _ h => h) (Or.inl ⟨by rfl, ?_⟩) ?_ ?_
        rotate_left
        · intro w'
          go_simp
          with_reducible rfl
        rotate_left
        · simp only [Act.put, List.setIfInBounds_toArray, List.set_cons_zero, List.set_cons_succ]
          rfl
        refine one_ (i := 4) (N := some 26) #[true, true, true, true, true, true, false] rfl rfl (by kernel_rfl) (by decide) (fun K hK => ?_)
        refine Kd.S_make_step kR _ 34 (by rfl) (N := 26) rfl 42 _ _ rfl (n : Int) rfl rfl Try.underlying42 (.slice none 0 0) 24 info34 rfl (by decide) (by omega) [] (ok := fun _ => True) (okp := fun _ => True) ⟨_, rfl, Kd.R_nil _ _ _ _ _⟩ (fun _ hk => hk) trivial (by omega) (by have := H8.out; simp; omega) (Below.refl _ _) (Nat.le_refl _) ?_
        intro v26 w7 ho hb hg_ hnew_
        rw [Int.toNat_natCast] at ho
        clear hg_ hnew_
        have HF := Aside0.mk (show ∃ M1 M2 : Nat, Kd.R kB 69 w7 w3.heap.size (fun k => M1 ≤ k ∧ k < M2) v23 (domGrid next) ∧ Kd.S kR 34 w7 w3.heap.size (fun k => k < M1 ∨ M2 ≤ k) v26 (List.replicate n []) ∧ M2 ≤ w7.heap.size ∧ Below w3.heap.size w3 w7 from ⟨w5.heap.size, w6.heap.size, Kd.R_lower (Kd.R_below (Kd.R_mono (Kd.R_bound (Kd.S_R HO37.out)) (fun k hk => ⟨hk.2.1, hk.2.2.1⟩)) hb) HB5.out.size, Kd.S_lower (Kd.S_mono (Kd.S_bound ho) (fun k hk => .inr hk.2.1)) (below_step HB5.out HB6.out).size, hb.size, below_step (below_step HB5.out HB6.out) hb⟩)
        clear ho hb
        refine hK.out _ _ trivial (fun hHeld => ?_)
        clear hK K
        refine norm_ (a' := ?_) ?_ ?_
        rotate_left
        · show Act.put _ (some 26) _ = _
          simp only [Act.put, List.setIfInBounds_toArray, List.set_cons_zero, List.set_cons_succ]
          rfl
        exact norm_ (by simp only [putAll, Act.put, List.setIfInBounds_toArray, List.set_cons_zero, List.set_cons_succ]) (hCont (v23, v26) _ HF.out)
      · skip
        refine Kd.S_make_step kR _ 34 (by rfl) (N := 26) rfl 42 _ _ rfl (n : Int) rfl rfl Try.underlying42 (.slice none 0 0) 24 info34 rfl (by decide) (by omega) [] (ok := fun _ => True) (okp := fun _ => True) ⟨_, rfl, Kd.R_nil _ _ _ _ _⟩ (fun _ hk => hk) trivial (by omega) (by have := H8.out; simp; omega) (Below.refl _ _) (Nat.le_refl _) ?_
        intro v26 w6 ho hb hg_ hnew_
        rw [Int.toNat_natCast] at ho
        clear hg_ hnew_
        have HO40 := Aside0.mk ho
        have HB6 := Aside0.mk hb
        clear ho hb
        refine hK.out _ _ trivial (fun hHeld => ?_)
        clear hK K
        refine norm_ (a' := ?_) ?_ ?_
        rotate_left
        · show Act.put _ (some 26) _ = _
          simp only [Act.put, List.setIfInBounds_toArray, List.set_cons_zero, List.set_cons_succ]
          rfl
        refine one_ (i := 1) (N := some 23) #[true, true, true, true, true, false, false] rfl rfl (by kernel_rfl) (by decide) (fun K hK => ?_)
        refine goes_ Try.func78 (by kernel_rfl) rfl #[.slice (some ⟨gn, 0, none⟩) n capn] (by rfl) rfl rfl (by (try simp only [List.map_toArray, List.map_cons, List.map_nil]); first | done | rfl | (simp only [List.length_drop, List.length_take]; rfl)) ?_
        refine (T78.out _ (below_step HB5.out HB6.out)).mono ?_
        rintro e w7 ⟨v23, rfl, ho, hb⟩
        refine ⟨_, rfl, ?_⟩
        have HF := Aside0.mk (show ∃ M1 M2 : Nat, Kd.R kB 69 w7 w3.heap.size (fun k => M1 ≤ k ∧ k < M2) v23 (domGrid next) ∧ Kd.S kR 34 w7 w3.heap.size (fun k => k < M1 ∨ M2 ≤ k) v26 (List.replicate n []) ∧ M2 ≤ w7.heap.size ∧ Below w3.heap.size w3 w7 from ⟨w6.heap.size, w7.heap.size, Kd.R_lower (Kd.R_mono (Kd.R_bound (Kd.S_R ho)) (fun k hk => ⟨hk.2.1, hk.2.2.1⟩)) (below_step HB5.out HB6.out).size, Kd.S_lower (Kd.S_below (Kd.S_mono (Kd.S_bound HO40.out) (fun k hk => .inl hk.2.2.1)) hb) HB5.out.size, Nat.le_refl _, below_step (below_step HB5.out HB6.out) hb⟩)
        clear ho hb
        refine hK.out _ _ trivial (fun hHeld => ?_)
        clear hK K
        refine norm_ (a' := ?_) ?_ ?_
        rotate_left
        · show Act.put _ (some 23) _ = _
          simp only [Act.put, List.setIfInBounds_toArray, List.set_cons_zero, List.set_cons_succ]
          rfl
        refine pure_ (i := 5) (N := some 6) (v := ?_) (a' := ?_) #[true, true, true, true, true, true, false] rfl rfl (by kernel_rfl) (fun _ _ _ h => h) (Or.inl ⟨by rfl, ?_⟩) ?_ ?_
        rotate_left
        · intro w'
          go_simp
          with_reducible rfl
        rotate_left
        · simp only [Act.put, List.setIfInBounds_toArray, List.set_cons_zero, List.set_cons_succ]
          rfl
        exact norm_ (by simp only [putAll, Act.put, List.setIfInBounds_toArray, List.set_cons_zero, List.set_cons_succ]) (hCont (v23, v26) _ HF.out)
    rintro ⟨v23, v26⟩ w9 ⟨M1, M2, h0_, h1_, h2_, h3_⟩
    have HD9 := Aside0.mk (show Kd.R kB 69 w9 w3.heap.size (fun k => M1 ≤ k ∧ k < M2) v23 (domGrid next) from h0_)
    have HS9 := Aside0.mk (show Kd.S kR 34 w9 w3.heap.size (fun k => k < M1 ∨ M2 ≤ k) v26 (List.replicate n []) from h1_)
    have HM9 := Aside0.mk (show M2 ≤ w9.heap.size from h2_)
    have HB9 := Aside0.mk (show Below w3.heap.size w3 w9 from h3_)
    clear h0_ h1_ h2_ h3_ HB5
    have hHeld := trivial
    refine norm_ (a' := ?_) ?_ ?_
    rotate_left
    · simp only [putAll, Act.put, List.setIfInBounds_toArray, List.set_cons_zero, List.set_cons_succ]
      rfl
    refine pure_ (i := 6) (N := some 7) (v := ?_) (a' := ?_) #[true, true, true, true, true, true, true] rfl rfl (by kernel_rfl) (fun _ _ _ h => h) (Or.inl ⟨by rfl, ?_⟩) ?_ ?_
    rotate_left
    · intro w'
      go_simp
      with_reducible rfl
    rotate_left
    · simp only [Act.put, List.setIfInBounds_toArray, List.set_cons_zero, List.set_cons_succ]
      rfl
    refine done_ (by kernel_rfl) ?_
    obtain ⟨A23, c23, e23⟩ := Kd.R_slice HD9.out
    rw [show (domGrid next).length = n by rw [domGrid, grid_len, HNL.out]] at e23
    subst e23
    obtain ⟨g, cap, e26, hgB, hgH, cells, hcells⟩ := Kd.S_form HS9.out (by have := H1.out; simp; omega)
    rw [List.length_replicate] at e26
    subst e26
    have HS := Aside0.mk (show Kd.S kR 34 w9 w3.heap.size (fun k => k < M1 ∨ M2 ≤ k) (.slice (some ⟨g, 0, none⟩) n cap) (fwdAt next 0) from by rw [fwdAt_zero, HNL.out]; exact HS9.out)
    have HGB := Aside0.mk hgB
    have HDN := Aside0.mk (show (domGrid next).length = n by rw [domGrid, grid_len, HNL.out])
    clear hgB hgH hcells HS9
    go_wp2
    go_loopg [29] n (fun gg s29 wr => ∃ i : Nat, s29 = .int .i64 (i : Int) ∧ Aside0 (i ≤ n ∧ n - i ≤ gg) ∧ Aside0 (Kd.S kR 34 wr w3.heap.size (fun k => k < M1 ∨ M2 ≤ k) (.slice (some ⟨g, 0, none⟩) n cap) (fwdAt next i)) ∧ Aside0 (Kd.R kB 69 wr w3.heap.size (fun k => M1 ≤ k ∧ k < M2) (.slice A23 n c23) (domGrid next)) ∧ Aside0 (Below w3.heap.size w3 wr) ∧ Aside0 (M2 ≤ wr.heap.size))
    case atStart => exact ⟨0, rfl, ⟨by omega, by omega⟩, HS, HD9, HB9, HM9⟩
    case round =>
      clear HS HD9 HB9 HM9
      obtain ⟨i, rfl, HA, HS, HD, HB, HM⟩ := hrel
      obtain ⟨wo, rfl⟩ : ∃ wo : World, wo = wr := ⟨_, rfl⟩
      by_cases hlt : i < n
      · obtain ⟨ad, A33, c33, e, z33, hl33, hC33⟩ := at_L1 HC3.out (i : Int) (by omega) (by omega)
        cases e
        obtain ⟨L, hL⟩ : ∃ L, L = rd_L1 next (i : Int) := ⟨_, rfl⟩
        rw [← hL] at z33 hl33 hC33
        simp only [Int.toNat_natCast] at z33
        rw [show (⟨gn, 0, none⟩ : Addr).add i = ⟨gn, i, none⟩ from by simp [Addr.add]; exact fun h => h.symm] at z33
        replace z33 := pw_cell_below HB.out z33
        have HEL := Aside0.mk hL
        have HLL := Aside0.mk (show L.length ≤ 2 by rw [hL]; exact HTWO.out i hlt)
        have HLB := Aside0.mk (show ∀ t ∈ L, 0 ≤ t ∧ t < (n : Int) from fun t ht => by rw [hL] at ht; have := (HOK.out.2 (i : Int) (by omega) (by have := HNL.out; omega)).2 t ht; have := HNL.out; omega)
        have HL3 := Aside0.mk (show (Kd.int .i64).C w3 A33 L.length L from hC33)
        have HS5 := Aside0.mk (show Kd.S kR 34 wo w3.heap.size (fun k => k < M1 ∨ M2 ≤ k) (.slice (some ⟨g, 0, none⟩) n cap) ((fwdAt next i).set i ((L.take 0).filter fun t => !domB next (i : Int) t)) from by rw [List.take_zero, List.filter_nil, fwdAt_get (by rw [HNL.out]; exact hlt)]; exact HS.out)
        have HL := Aside0.mk hlt
        have p0 : (0 ≤ (i : Int)) = True := eq_true (by omega)
        have p1 : ((i : Int) < (n : Int)) = True := eq_true (by omega)
        have hlm := Kd.C_max hC33
        clear hL hl33 hC33 HS
        go_wp2
        clear z33
        go_loopg [36] L.length (fun gg s36 wr => ∃ j : Nat, s36 = .int .i64 (j : Int) ∧ Aside0 (j ≤ L.length ∧ L.length - j ≤ gg) ∧ Aside0 (Kd.S kR 34 wr w3.heap.size (fun k => k < M1 ∨ M2 ≤ k) (.slice (some ⟨g, 0, none⟩) n cap) ((fwdAt next i).set i ((L.take j).filter fun t => !domB next (i : Int) t))) ∧ Aside0 (Kd.R kB 69 wr w3.heap.size (fun k => M1 ≤ k ∧ k < M2) (.slice A23 n c23) (domGrid next)) ∧ Aside0 (Below w3.heap.size w3 wr) ∧ Aside0 (M2 ≤ wr.heap.size))
        case atStart => exact ⟨0, rfl, ⟨by omega, by omega⟩, HS5, HD, HB, HM⟩
        case round =>
          clear HS5 HD HB HM
          obtain ⟨j, rfl, HAj, HS5, HD, HB, HM⟩ := hrel
          obtain ⟨wi, rfl⟩ : ∃ wi : World, wi = wr := ⟨_, rfl⟩
          by_cases hltj : j < L.length
          · obtain ⟨ad0, e, hz⟩ := Kd.at_int (Kd.C_below HL3.out HB.out) (j : Int) (by omega) (by omega)
            cases e
            simp only [Int.toNat_natCast] at hz
            rw [rd_at L j hltj] at hz
            have hbd := HLB.out _ (List.getElem_mem hltj)
            obtain ⟨t, ht⟩ : ∃ t, t = L[j] := ⟨_, rfl⟩
            have HTJ := Aside0.mk (show (L.take (j + 1)).filter (fun t => !domB next (i : Int) t) = if domB next (i : Int) t = true then (L.take j).filter (fun t => !domB next (i : Int) t) else (L.take j).filter (fun t => !domB next (i : Int) t) ++ [t] from by
              rw [List.take_succ_eq_append_getElem hltj, List.filter_append, ← ht]
              by_cases q : domB next (i : Int) t = true
              · rw [if_pos q]; simp [q]
              · rw [if_neg q]; simp [q])
            rw [← ht] at hz hbd
            obtain ⟨tn, rfl⟩ := Int.eq_ofNat_of_zero_le hbd.1
            obtain ⟨ad2, A43, c43, e2, z43, hl43, hC43⟩ := at_L13 (show Kd.C kB wi A23 n (domGrid next) from by have := (Kd.R_reads' HD.out).2.2; first | exact this | rwa [HDN.out] at this) (i : Int) (by omega) (by have := HL.out; omega)
            cases e2
            have hrow := domGrid_rd next i (by rw [HNL.out]; exact HL.out)
            rw [HNL.out] at hrow
            rw [hrow, rowF_len] at z43 hl43 hC43
            simp only [Int.toNat_natCast] at z43
            obtain ⟨ad3, e3, z46⟩ := Kd.at_bool hC43 (tn : Int) (by omega) (by omega)
            cases e3
            simp only [Int.toNat_natCast] at z46
            rw [show rdOf false (rowF n (domB next) (i : Int)) (tn : Int) = domB next (i : Int) (tn : Int) by simp [rdOf, rowF, List.getD_eq_getElem?_getD, show tn < n by omega]] at z46
            have HLJ := Aside0.mk hltj
            have p2 : (0 ≤ (j : Int)) = True := eq_true (by omega)
            have p3 : ((j : Int) < (L.length : Int)) = True := eq_true (by omega)
            have p4 : (0 ≤ (tn : Int)) = True := eq_true (by omega)
            have p5 : ((tn : Int) < (n : Int)) = True := eq_true (by omega)
            have hl0 := HL.out
            clear ht hbd hl43 hC43 hrow
            rcases Bool.eq_false_or_eq_true (domB next (i : Int) (tn : Int)) with q | q
            · rw [q] at z46
              have HQ := Aside0.mk q
              clear q
              go_wp2
              go_roundg (L.length - (j + 1))
              case measure => have := HAj.out; have := HLJ.out; omega
              case rel => exact ⟨j + 1, by go_num, ⟨by have := HLJ.out; omega, by omega⟩, ⟨by rw [HTJ.out, if_pos HQ.out]; exact HS5.out⟩, HD, HB, HM⟩
            · rw [q] at z46
              have HQ := Aside0.mk q
              clear q
              obtain ⟨F, hF⟩ : ∃ F, F = (L.take j).filter fun t => !domB next (i : Int) t := ⟨_, rfl⟩
              rw [← hF] at HS5 HTJ
              have HFL := Aside0.mk (show F.length ≤ 8 from by rw [hF]; exact Nat.le_trans (List.length_filter_le _ _) (by rw [List.length_take]; have := HLL.out; omega))
              have HFG := Aside0.mk (show ((fwdAt next i).set i F).getD i [] = F from by rw [List.getD_eq_getElem?_getD, List.getElem?_set_self (by rw [fwdAt_len, HNL.out]; exact HL.out)]; rfl)
              have HPG := Aside0.mk (show g < M1 ∨ M2 ≤ g from (Kd.S_R HS5.out).1 g rfl)
              obtain ⟨oki, v6, z6, f6, hR6, hok6, hH6⟩ := rows_lend HS5.out HL.out
              rw [HFG.out] at hR6
              obtain ⟨Av, cv, rfl⟩ := Kd.R_slice hR6
              obtain ⟨cells6, hg6⟩ := rows_at HS5.out H1.out
              have HR6 := Aside0.mk hR6
              have HOK6 := Aside0.mk hok6
              have HH6 := Aside0.mk hH6
              clear hF hR6 hok6 hH6
              go_wp2_with ((with_reducible refine gate_dst (N := 56) rfl ?_); refine Kd.R_append (Kd.int .i64) (w0 := w3) w3.heap.size rfl (.tmp 53) (.tmp 55) 34 3 (.int .i64 0) 8 rfl Try.underlying34 info3 rfl (by decide) (by omega) (.slice Av F.length cv) F (tn : Int) [.int .i64 (tn : Int)] (fun k => oki k ∨ wi.heap.size ≤ k) (fun _ => False) rfl rfl rfl (fun _ hk => hk.elim) (fun k hk => .inr hk) (Kd.R_mono HR6.out (fun _ h => .inl h)) HB.out HB.out.size (by have := HFL.out; omega) ?_; intro v56 w8 ho hb hgr hat; obtain ⟨A56, c56, e56⟩ := Kd.R_slice ho; rw [List.length_append, List.length_singleton] at e56; subst e56; have hg8 := blk_grown hg6 hgr (Kd.R_ne HR6.out hg6 (by decide)); have z8 : w8.cell? ⟨g, i, none⟩ = some (.slice Av F.length cv) := (by rw [blk_cell hg8 i, ← blk_cell hg6 i]; exact z6); have f8 := blk_frozen hg8 i; have HO8 := Aside0.mk ho; have HB8 := Aside0.mk hb; have HGR := Aside0.mk hgr; clear ho hb hgr hat hg6 hg8 z6 f6)
              have hput := rows_put HH6.out HL.out HO8.out HGR.out HR6.out.1 (fun k hk => .inr (Nat.le_trans HM.out hk))
              rw [List.set_set] at hput
              have HPUT := Aside0.mk hput.1
              have HD8 := Aside0.mk (Kd.R_grown (Kd.R_grown HD.out HGR.out (fun k hk e => by have := (HOK6.out k (HR6.out.1 k e.symm)).1; omega)) hput.2 (fun k hk e => by injection e with e; have := HPG.out; omega))
              clear hput
              go_roundg (L.length - (j + 1))
              case measure => have := HAj.out; have := HLJ.out; omega
              case rel => exact ⟨j + 1, by go_num, ⟨by have := HLJ.out; omega, by omega⟩, ⟨by rw [HTJ.out, if_neg (by rw [HQ.out]; decide)]; exact HPUT.out⟩, HD8, ⟨HB8.out.setCell (p := ⟨g, i, none⟩) HGB.out _⟩, ⟨by have h1 := HGR.out.size; have h3 := HM.out; simpa [World.setCell] using Nat.le_trans h3 h1⟩⟩
          · have e : j = L.length := by have := HAj.out; omega
            have HSE := Aside0.mk (show Kd.S kR 34 wi w3.heap.size (fun k => k < M1 ∨ M2 ≤ k) (.slice (some ⟨g, 0, none⟩) n cap) (fwdAt next (i + 1)) from by
              have h := HS5.out
              rw [e, List.take_length, HEL.out] at h
              rw [← fwdAt_succ]
              exact h)
            have p3 : ((j : Int) < (L.length : Int)) = False := eq_false (by omega)
            clear e
            go_wp2
            go_roundg (n - (i + 1))
            case measure => have := HA.out; have := HL.out; omega
            case rel => exact ⟨i + 1, by go_num, ⟨by have := HL.out; omega, by omega⟩, HSE, HD, HB, HM⟩
      · have e : i = n := by have := HA.out; omega
        have hfe : fwdAt next n = fwdL next := by rw [← HNL.out]; exact fwdAt_end next
        have hfl : (fwdL next).length = n := by rw [fwdL_len, HNL.out]
        have HCF := Aside0.mk (show Kd.C kR wo (some ⟨g, 0, none⟩) n (fwdL next) ∧ n ≤ cap from by
          have h := HS.out
          rw [e, hfe] at h
          have h2 := Kd.S_reads' h
          exact ⟨by have h3 := h2.2.2; first | exact h3 | rwa [hfl] at h3, by have h3 := h2.2.1; first | exact h3 | rwa [hfl] at h3⟩)
        have T73 := Aside0.mk (show Calls Try.prog 73 #[.slice (some ⟨gn, 0, none⟩) n capn, .int .i64 0, .int .i64 (-1)] wo fun e w' => ∃ v : Value, e = .returned v ∧ Kd.bool.R 4 w' wo.heap.size (fun _ => True) v (reachL next 0 (-1)) ∧ Below wo.heap.size wo w' from by
          obtain ⟨k, hk⟩ := Ev.rounds (reach_is HOK.out (a := 0) ⟨Int.le_refl _, by have := H1.out; have := HNL.out; omega⟩ (-1))
          have := impl_reach.calls k (some ⟨gn, 0, none⟩) capn next 0 (-1) _ wo (by rw [HNL.out]; exact Kd.C_below HC3.out HB.out) (by rw [HNL.out]; exact HCAP.out) hk
          rwa [HNL.out] at this)
        have HRL := Aside0.mk (show (reachL next 0 (-1)).length = n by rw [reachL_len, HNL.out])
        have T73F := Aside0.mk (fun W (hW : Below wo.heap.size wo W) (t : Int) (ht : 0 ≤ t ∧ t < (n : Int)) => (by
          obtain ⟨k, hk⟩ := Ev.rounds (reach_is (fwd_ok HOK.out) (a := t) (by rw [hfl]; exact ht) (-1))
          have := impl_reach.calls k (some ⟨g, 0, none⟩) cap (fwdL next) t (-1) _ W (by rw [hfl]; exact Kd.C_below HCF.out.1 hW) (by rw [hfl]; exact HCF.out.2) hk
          rwa [hfl] at this : Calls Try.prog 73 #[.slice (some ⟨g, 0, none⟩) n cap, .int .i64 t, .int .i64 (-1)] W fun e w' => ∃ v : Value, e = .returned v ∧ Kd.bool.R 4 w' W.heap.size (fun _ => True) v (reachL (fwdL next) t (-1)) ∧ Below W.heap.size W w'))
        have HFRL := Aside0.mk (show ∀ t, (reachL (fwdL next) t (-1)).length = n from fun t => by rw [reachL_len, hfl])
        have p1 : ((i : Int) < (n : Int)) = False := eq_false (by omega)
        have hlr := listOf_reach next 0 (-1)
        have HLR := Aside0.mk (show ∀ (W : World) A c, Kd.bool.C W A n (reachL next 0 (-1)) → n ≤ c → Calls Try.prog 72 #[.slice A n c] W fun e w' => ∃ v : Value, e = .returned v ∧ (Kd.int .i64).R 3 w' W.heap.size (fun _ => True) v (reached next) ∧ Below W.heap.size W w' from fun W A c h1 h2 => by
          have := listOf_any (w := W) (A := A) (c := c) (reachL next 0 (-1)) (by rw [HRL.out]; omega) (by rw [HRL.out]; exact h1) (by rw [HRL.out]; exact h2)
          rw [hlr, HRL.out] at this
          exact this)
        clear e hfe hfl hlr HS HD HM
        go_wp2_with (first
          | (go_at_call 73; refine (T73.out).mono ?_; rintro e w10 ⟨v61, rfl, hR, hb⟩; obtain ⟨A61, c61, e61⟩ := Kd.R_slice hR; rw [HRL.out] at e61; subst e61; have HC10 := Aside0.mk (show Kd.bool.C w10 A61 n (reachL next 0 (-1)) ∧ n ≤ c61 from ⟨by have h3 := (Kd.R_reads' hR).2.2; first | exact h3 | rwa [HRL.out] at h3, by have h3 := (Kd.R_reads' hR).2.1; first | exact h3 | rwa [HRL.out] at h3⟩); have HB10 := Aside0.mk hb; clear hR hb T73)
          | (go_at_call 72; refine (HLR.out _ _ _ HC10.out.1 HC10.out.2).mono ?_; rintro e w11 ⟨v62, rfl, hR, hb⟩; obtain ⟨A62, c62, rfl⟩ := Kd.R_slice hR; have HD11 := Aside0.mk (Kd.R_reads' hR).2.2; have HB11 := Aside0.mk (below_step HB10.out hb); clear hR hb))
        obtain ⟨D, hD⟩ : ∃ D, D = reached next := ⟨_, rfl⟩
        rw [← hD] at HD11 ⊢
        have HED := Aside0.mk hD
        have HI := Aside0.mk (show ∀ k ∈ D.take 0, ∀ t ∈ rd_L1 (fwdL next) k, k ∉ fromL (fwdL next) t (-1) from fun k hk => by simp at hk)
        have hdm := Kd.C_max HD11.out
        clear hD
        go_loopg [64] D.length (fun gg s64 wr => ∃ i : Nat, s64 = .int .i64 (i : Int) ∧ Aside0 (i ≤ D.length ∧ D.length - i ≤ gg) ∧ Aside0 (∀ k ∈ D.take i, ∀ t ∈ rd_L1 (fwdL next) k, k ∉ fromL (fwdL next) t (-1)) ∧ Aside0 (Below w11.heap.size w11 wr))
        case atStart => exact ⟨0, rfl, ⟨by omega, by omega⟩, HI, ⟨Below.refl _ _⟩⟩
        case round =>
          clear HI
          obtain ⟨i2, rfl, HA2, HI, HBS⟩ := hrel
          obtain ⟨wp, rfl⟩ : ∃ wp : World, wp = wr := ⟨_, rfl⟩
          by_cases hlt2 : i2 < D.length
          · obtain ⟨ad0, e, hz⟩ := Kd.at_int (Kd.C_below HD11.out HBS.out) (i2 : Int) (by omega) (by omega)
            cases e
            simp only [Int.toNat_natCast] at hz
            rw [rd_at D i2 hlt2] at hz
            have hmem : D[i2] ∈ reached next := by rw [← HED.out]; exact List.getElem_mem hlt2
            obtain ⟨k, hk⟩ : ∃ k, k = D[i2] := ⟨_, rfl⟩
            have HTK := Aside0.mk (show D.take (i2 + 1) = D.take i2 ++ [k] by rw [List.take_succ_eq_append_getElem hlt2, hk])
            rw [← hk] at hz hmem
            have hkn := in_range hmem
            obtain ⟨kn, rfl⟩ := Int.eq_ofNat_of_zero_le hkn.1
            have HKR := Aside0.mk hmem
            have HKN := Aside0.mk (show kn < n by have := hkn.2; have := HNL.out; omega)
            obtain ⟨ad7, A71, c71, e7, z71, hl71, hC71⟩ := at_L1 (Kd.C_below HCF.out.1 (below_step HB11.out HBS.out)) (kn : Int) (by omega) (by have := HKN.out; omega)
            cases e7
            obtain ⟨M, hM⟩ : ∃ M, M = rd_L1 (fwdL next) (kn : Int) := ⟨_, rfl⟩
            rw [← hM] at z71 hl71 hC71
            simp only [Int.toNat_natCast] at z71
            rw [show (⟨g, 0, none⟩ : Addr).add kn = ⟨g, kn, none⟩ from by simp [Addr.add]; exact fun h => h.symm] at z71
            have HEM := Aside0.mk hM
            have HMB := Aside0.mk (show ∀ t ∈ M, 0 ≤ t ∧ t < (n : Int) from fun t ht => by rw [hM] at ht; have := fwd_in HOK.out hkn ht; have := HNL.out; omega)
            have HCM := Aside0.mk hC71
            have HL2 := Aside0.mk hlt2
            have p2 : (0 ≤ (i2 : Int)) = True := eq_true (by omega)
            have p3 : ((i2 : Int) < (D.length : Int)) = True := eq_true (by omega)
            have p4 : (0 ≤ (kn : Int)) = True := eq_true (by omega)
            have p5 : ((kn : Int) < (n : Int)) = True := eq_true (by have := HKN.out; omega)
            have hmm := Kd.C_max hC71
            clear hk hmem hkn hM hl71 hC71
            go_wp2
            clear z71 hz
            have HJ := Aside0.mk (show ∀ t ∈ M.take 0, (kn : Int) ∉ fromL (fwdL next) t (-1) from fun t ht => by simp at ht)
            go_loopg [73] M.length (fun gg s73 wr => ∃ j : Nat, s73 = .int .i64 (j : Int) ∧ Aside0 (j ≤ M.length ∧ M.length - j ≤ gg) ∧ Aside0 (∀ t ∈ M.take j, (kn : Int) ∉ fromL (fwdL next) t (-1)) ∧ Aside0 (Below wp.heap.size wp wr))
            case atStart => exact ⟨0, rfl, ⟨by omega, by omega⟩, HJ, ⟨Below.refl _ _⟩⟩
            case round =>
              clear HJ
              obtain ⟨j, rfl, HAj, HJ, HBP⟩ := hrel
              obtain ⟨wi, rfl⟩ : ∃ wi : World, wi = wr := ⟨_, rfl⟩
              by_cases hltj : j < M.length
              · obtain ⟨ad8, e, hz⟩ := Kd.at_int (Kd.C_below HCM.out HBP.out) (j : Int) (by omega) (by omega)
                cases e
                simp only [Int.toNat_natCast] at hz
                rw [rd_at M j hltj] at hz
                obtain ⟨t, ht⟩ : ∃ t, t = M[j] := ⟨_, rfl⟩
                have hmt : t ∈ M := by rw [ht]; exact List.getElem_mem hltj
                have HTJ := Aside0.mk (show M.take (j + 1) = M.take j ++ [t] by rw [List.take_succ_eq_append_getElem hltj, ht])
                rw [← ht] at hz
                have HMT := Aside0.mk hmt
                have T := Aside0.mk (T73F.out wi (below_step (below_step HB11.out HBS.out) HBP.out) t (HMB.out t hmt))
                have HLJ := Aside0.mk hltj
                have q2 : (0 ≤ (j : Int)) = True := eq_true (by omega)
                have q3 : ((j : Int) < (M.length : Int)) = True := eq_true (by omega)
                clear ht hmt
                by_cases q : (kn : Int) ∈ fromL (fwdL next) t (-1)
                · have HQ := Aside0.mk q
                  clear q
                  go_wp2_with (go_at_call 73; refine (T.out).mono ?_; rintro e w8 ⟨v79, rfl, hR, hb⟩; obtain ⟨A79, c79, e79⟩ := Kd.R_slice hR; rw [HFRL.out] at e79; subst e79; have HB8 := Aside0.mk hb; obtain ⟨ad9, e9, z9⟩ := Kd.at_bool (show Kd.bool.C w8 A79 n (reachL (fwdL next) t (-1)) from by have h3 := (Kd.R_reads' hR).2.2; first | exact h3 | rwa [HFRL.out] at h3) (kn : Int) (by omega) (by have := HKN.out; omega); cases e9; rw [reachL_rd _ _ _ _ (by omega), decide_eq_true HQ.out] at z9; simp only [Int.toNat_natCast] at z9; clear hR hb T)
                  go_ret2
                  exact ⟨by rw [HANS.out, red_false (fun hA => hA _ HKR.out t (by rw [← HEM.out]; exact HMT.out) HQ.out)]; rfl, HB3.out.trans ((below_step (below_step (below_step (below_step HB.out HB11.out) HBS.out) HBP.out) HB8.out).mono HB3.out.size)⟩
                · have HQ := Aside0.mk q
                  clear q
                  go_wp2_with (go_at_call 73; refine (T.out).mono ?_; rintro e w8 ⟨v79, rfl, hR, hb⟩; obtain ⟨A79, c79, e79⟩ := Kd.R_slice hR; rw [HFRL.out] at e79; subst e79; have HB8 := Aside0.mk hb; obtain ⟨ad9, e9, z9⟩ := Kd.at_bool (show Kd.bool.C w8 A79 n (reachL (fwdL next) t (-1)) from by have h3 := (Kd.R_reads' hR).2.2; first | exact h3 | rwa [HFRL.out] at h3) (kn : Int) (by omega) (by have := HKN.out; omega); cases e9; rw [reachL_rd _ _ _ _ (by omega), decide_eq_false HQ.out] at z9; simp only [Int.toNat_natCast] at z9; clear hR hb T)
                  go_roundg (M.length - (j + 1))
                  case measure => have := HAj.out; have := HLJ.out; omega
                  case rel => exact ⟨j + 1, by go_num, ⟨by have := HLJ.out; omega, by omega⟩, ⟨fun x hx => by rw [HTJ.out, List.mem_append, List.mem_singleton] at hx; rcases hx with hx | hx; exact HJ.out x hx; rw [hx]; exact HQ.out⟩, ⟨below_step HBP.out HB8.out⟩⟩
              · have e : j = M.length := by have := HAj.out; omega
                have HJE := Aside0.mk (show ∀ t ∈ M, (kn : Int) ∉ fromL (fwdL next) t (-1) by have := HJ.out; rw [e, List.take_length] at this; exact this)
                have q3 : ((j : Int) < (M.length : Int)) = False := eq_false (by omega)
                clear e
                go_wp2
                go_roundg (D.length - (i2 + 1))
                case measure => have := HA2.out; have := HL2.out; omega
                case rel => exact ⟨i2 + 1, by go_num, ⟨by have := HL2.out; omega, by omega⟩, ⟨fun x hx => by rw [HTK.out, List.mem_append, List.mem_singleton] at hx; rcases hx with hx | hx; exact HI.out x hx; rw [hx, ← HEM.out]; exact HJE.out⟩, ⟨below_step HBS.out HBP.out⟩⟩
          · have e : i2 = D.length := by have := HA2.out; omega
            have HRE := Aside0.mk (red_true (next := next) (fun k hk => by have := HI.out k; rw [e, List.take_length, HED.out] at this; exact this hk))
            have p3 : ((i2 : Int) < (D.length : Int)) = False := eq_false (by omega)
            clear e
            go_wp2
            go_ret2
            exact ⟨by rw [HANS.out, HRE.out]; rfl, HB3.out.trans ((below_step (below_step HB.out HB11.out) HBS.out).mono HB3.out.size)⟩
  · have HANS := Aside0.mk (show ansIsReducible p bs = (false, false) by rw [ansIsReducible, if_neg (by rw [hg]; decide)])
    have hcall := Aside0.mk (viewOf_no (c := c) p bs (w.alloc (.cells #[.int .i64 p, .slice A bs.length c] 30)) (Kd.C_below hr W1) hc hg)
    clear hr hc hg W1
    go_enter Try.func47, Try.ntmps47
    go_wp2_with (go_at_call 56; refine (hcall.out).mono ?_; rintro e w1 ⟨rfl, hb⟩; have HB1 := Aside0.mk (below_step (below_alloc (Below.refl w.heap.size w) _) hb); clear hb hcall)
    go_ret2
    exact ⟨by rw [HANS.out]; rfl, HB1.out⟩
end Go.Proofs.Ytghlbhijkhkgkaa.PA
