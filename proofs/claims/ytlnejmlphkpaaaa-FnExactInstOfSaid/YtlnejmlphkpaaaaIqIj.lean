/- The graph seat: spec.l6Add by hand (printed by gen/mkij.py). -/
import Derived.Test.YtlnejmlphkpaaaaIqIi
import Derived.Test.YtlnejmlphkpaaaaIqGe
namespace Go.Proofs.Ytlnejmlphkpaaaa.PA
open Go.RowKit Go.Proofs.YtlnejmlphkpaaaaW.PrintWords Go.Proofs.YtlnejmlphkpaaaaW.PrintLast Go.Proofs.YtlnejmlphkpaaaaW.PrintMore
set_option linter.unusedVariables false
set_option linter.unusedSimpArgs false
theorem cell_of_blk {W W' : World} {a : Addr} (h : W'.heap[a.block]? = W.heap[a.block]?) : W'.cell? a = W.cell? a := by simp [World.cell?, h]
set_option maxHeartbeats 16000000 in
set_option maxRecDepth 100000 in
theorem l6Add_any (b : List Int) {Ab : Option Addr} {cb : Nat} (t : List S125) {At : Option Addr} {ct : Nat} (ht40 : t.length ≤ 40) (hct : t.length ≤ ct) : ∀ (d : Nat) (T : Tm) (u v : List S125), T.post.length ≤ d → T.wf → t = u ++ T.post ++ v → ∀ (W0 w : World) (lab : Nat → Nat) (v0 v1 : Value) (G : Gr) (okT : Nat → Prop), GV W0 lab v0 v1 G w → GI G → G.1.length + T.post.length ≤ 1000 → BX b G T.post → (∀ k, okT k → ¬ Ch2 lab k) → Kd.F k125 w okT At t.length t → Kd.F (Kd.int .i64) w okT Ab b.length b →
  Calls Try.prog 103 #[.agg #[v0, v1], .slice At t.length ct, .int .i64 (((u.length + T.post.length : Nat) : Int) - 1), .slice Ab b.length cb] w (AddPost b T G W0 w lab) := by
 intro d
 induction d with
 | zero => intro T u v hd; have := post_pos T; omega
 | succ d ih =>
  intro T u v hd hw ht W0 w lab v0 v1 G okT hgv hgi hroom hbx hok hTF hBF
  have HIH := Aside0.mk ih
  clear ih
  cases T with
  | node op n ks =>
  have hw0 := hw
  rw [Tm.post, List.length_append, List.length_singleton] at hd hroom
  rw [show (((u.length + (Tm.node op n ks).post.length : Nat) : Int) - 1) = ((u.length + (postL ks).length : Nat) : Int) by rw [Tm.post, List.length_append, List.length_singleton]; omega]
  have hrd : rd_T125 t ((u.length + (postL ks).length : Nat) : Int) = ⟨op, n⟩ := by
   rw [ht, Tm.post, ← List.append_assoc, List.append_assoc, ← List.length_append]
   exact rd125_at (u ++ postL ks) v ⟨op, n⟩
  have hlt : u.length + (postL ks).length < t.length := by rw [ht, Tm.post]; simp only [List.length_append, List.length_singleton]; omega
  have hparts := parts_ev t u v op n ks ht ht40 hw0
  rw [Tm.wf] at hw
  obtain ⟨ai, hai⟩ : ∃ ai, ai = u.length + (postL ks).length := ⟨_, rfl⟩
  rw [← hai] at hrd hlt hparts ⊢
  obtain ⟨tn, htn⟩ : ∃ m, m = t.length := ⟨_, rfl⟩
  obtain ⟨ad, ea, hx0, hx1⟩ := at_T125 (Kd.F_now hTF) (ai : Int) (by omega) (by omega)
  subst ea
  rw [hrd] at hx0 hx1
  simp only [Int.toNat_natCast] at hx0 hx1
  have T144 := Aside0.mk (show ∀ W, Below w.heap.size w W → Calls Try.prog 144 #[.slice (some ad) tn ct, .int .i64 (ai : Int)] W fun e w' => ∃ v0_ : Value, e = .returned (v0_) ∧ Kd.R (Kd.int .i64) 3 w' W.heap.size (fun _ => True) v0_ (rootsAt u.length ks) ∧ Below W.heap.size W w' from fun W hW => by
   obtain ⟨K, hK⟩ := hparts
   rw [htn]
   exact spec_l2Parts.calls K (some ad) ct t (ai : Int) (rootsAt u.length ks) W (Kd.C_below (Kd.F_now hTF) hW) hct (hK K (Nat.le_refl _)))
  obtain ⟨m, hm⟩ : ∃ m, m = ks.length := ⟨_, rfl⟩
  have HM := Aside0.mk hm
  have HTN := Aside0.mk htn
  have HWF := Aside0.mk hw
  have HD := Aside0.mk hd
  have HT := Aside0.mk ht
  have HGV := Aside0.mk hgv
  have HGI := Aside0.mk hgi
  have HROOM := Aside0.mk hroom
  have HBX := Aside0.mk hbx
  have HOK := Aside0.mk hok
  have HTF := Aside0.mk hTF
  have HBF := Aside0.mk hBF
  have hai2 : ai < tn := by rw [htn]; exact hlt
  have htn40 : tn ≤ 40 := by rw [htn]; exact ht40
  rw [← htn]
  have hm3 : m ≤ 3 := by have := hw.2.1; have := arI_pos op; omega
  obtain ⟨Aa, ca, ev0⟩ := Kd.S_slice hgv.s
  obtain ⟨Ab2, cb2, ev1⟩ := Kd.R_slice hgv.r
  subst ev0 ev1
  obtain ⟨n1, hn1⟩ : ∃ m, m = G.1.length := ⟨_, rfl⟩
  obtain ⟨n2, hn2⟩ : ∃ m, m = G.2.length := ⟨_, rfl⟩
  have HN := Aside0.mk (And.intro hn1 hn2)
  rw [← hn1, ← hn2]
  have HX := Aside0.mk (And.intro hx0 hx1)
  have p0 := eq_true (show (0 : Int) ≤ (ai : Int) by omega)
  have q0 := eq_true (show (ai : Int) < (tn : Int) by omega)
  clear hd hw hw0 ht hgv hgi hroom hbx hok hTF hBF hrd hlt hparts hai htn hm hn1 hn2 ht40 hct
  by_cases hv : op = 2 ∧ b ≠ []
  ·have HV := Aside0.mk (show hasV b op = true by rw [hasV, Bool.and_eq_true, beq_iff_eq, Bool.not_eq_true', List.isEmpty_eq_false_iff]; exact hv)
   have hb2 := HBX.out hv.2 ⟨op, n⟩ (by rw [Tm.post]; simp) hv.1
   have e1 : ((op : Int) == 2) = true := beq_iff_eq.mpr hv.1
   obtain ⟨adb, eb, hbx⟩ := Kd.at_int (Kd.F_now HBF.out) n hb2.1.1 hb2.1.2
   subst eb
   obtain ⟨cl, hcl⟩ : ∃ c, c = rd b n := ⟨_, rfl⟩
   have HCL := Aside0.mk hcl
   rw [← hcl] at hbx hb2
   have hcr : cl < (G.2.length : Int) := by rw [HGI.out.len]; exact hb2.2.2
   obtain ⟨adp, ep, hpx⟩ := Kd.at_int ((Kd.R_reads' HGV.out.r).2.2) cl hb2.2.1 hcr
   subst ep
   obtain ⟨pv, hpv⟩ : ∃ c, c = rd G.2 cl := ⟨_, rfl⟩
   have HPV := Aside0.mk hpv
   rw [← hpv] at hpx
   obtain ⟨bn, hbn⟩ : ∃ m, m = b.length := ⟨_, rfl⟩
   have hpos := eq_true (show 0 < bn by rw [hbn]; exact List.length_pos_iff.mpr hv.2)
   have p1 := eq_true hb2.1.1
   have q1 := eq_true (show n < (bn : Int) by rw [hbn]; exact hb2.1.2)
   have p2 := eq_true hb2.2.1
   have q2 := eq_true (show cl < (n2 : Int) by rw [HN.out.2]; exact hcr)
   have HB2 := Aside0.mk (And.intro hbx hpx)
   rw [← hbn]
   clear hv hb2 hcl hcr hpv hbn hbx hpx hx0 hx1
   go_enter Try.func103, Try.ntmps103
   go_wp2_with (first | ((with_reducible refine gate_dst (N := 4) rfl ?_); refine box_event ?hg (N := 4) ?hd (cs := #[.slice Aa n1 ca, .slice (some adp) n2 cb2]) (t := 32) ?hr ?_; (case hd => rfl); (case hg => rfl); (case hr => first | (go_simp; done) | (go_simp; rfl)); intro ga hga w1 hbox hb; have B1 := Aside0.mk hbox; have HB1 := Aside0.mk hb; have HGA := Aside0.mk (Nat.le_of_eq hga.symm); clear hbox hb hga) | ((with_reducible refine gate_dst (N := 8) rfl ?_); refine box_event ?hg (N := 8) ?hd (cs := #[.slice none 0 0, .slice none 0 0]) (t := 32) ?hr ?_; (case hd => rfl); (case hg => rfl); (case hr => first | (go_simp; done) | (go_simp; rfl)); intro gz hgz w2 hbox hb; have B3 := Aside0.mk hbox; have B1' := Aside0.mk (blk_below B1.out hb); have HB0 := Aside0.mk (below_step HB1.out hb); have HLO := Aside0.mk (show w.heap.size ≤ ga ∧ ga < gz ∧ gz < w2.heap.size from ⟨HGA.out, by rw [hgz]; exact blk_lt B1.out, blk_lt hbox⟩); have y0 := (HB0.out.cell (World.block_lt_of_cell? w _ HX.out.1)).trans HX.out.1; have y1 := (HB0.out.cell (World.block_lt_of_cell? w _ HX.out.2)).trans HX.out.2; clear hbox hb hgz B1; have B1 := B1'; clear B1'))
   have y2 := (HB0.out.cell (World.block_lt_of_cell? w _ HB2.out.1)).trans HB2.out.1
   have y3 := (HB0.out.cell (World.block_lt_of_cell? w _ HB2.out.2)).trans HB2.out.2
   have k0 := blk_cell B1.out 0
   have k1 := blk_cell B1.out 1
   try simp only [List.getElem?_toArray, List.getElem?_cons_zero, List.getElem?_cons_succ] at k0 k1
   refine start_ (n := 15) (S := fun w' => w'.cell? ⟨ga, 0, none⟩ = some (.slice Aa n1 ca) ∧ w'.cell? ⟨ga, 1, none⟩ = some (.slice (some adp) n2 cb2) ∧ w'.cell? ⟨(ad.add (ai * 2)).block, (ad.add (ai * 2)).off + 1, none⟩ = some (.int .i64 n) ∧ w'.cell? (adb.add n.toNat) = some (.int .i64 cl) ∧ w'.cell? (adp.add cl.toNat) = some (.int .i64 pv)) (ds := []) #[false, false, false, false, false, false, false, false, false, false, false, false, false, false, false] (by kernel_rfl) rfl rfl ⟨by simpa using k0, by simpa using k1, by simpa using y1, by simpa using y2, by simpa using y3⟩ (fun hHeld => ?_)
   have HB7 := Aside0.mk (below_drew1 HB0.out)
   have HZ7 := Aside0.mk (show gz < w2.drew.heap.size from HLO.out.2.2)
   have D3 := Aside0.mk (blk_drew B3.out)
   generalize w2.drew = w7 at HB7 HZ7 D3 hHeld ⊢
   clear y0 y1 y2 y3 k0 k1
   have hH7 := Aside0.mk hHeld
   refine take_ (i := 0) (N := some 26) (v := ?_) (a' := ?_) #[true, false, false, false, false, false, false, false, false, false, false, false, false, false, false] rfl rfl (by kernel_rfl) (fun _ _ _ h => h) (Or.inl ⟨by rfl, ?_⟩) hHeld ?_ ?_
   rotate_left
   ·rintro w' ⟨s0, s1, s2, s3, s4⟩
    go_simp
    with_reducible rfl
   rotate_left
   ·simp only [Act.put, List.setIfInBounds_toArray, List.set_cons_zero, List.set_cons_succ]
    rfl
   refine pure_ (i := 1) (N := some 27) (v := ?_) (a' := ?_) #[true, true, false, false, false, false, false, false, false, false, false, false, false, false, false] rfl rfl (by kernel_rfl) (fun _ _ _ h => h) (Or.inl ⟨by rfl, ?_⟩) ?_ ?_
   rotate_left
   ·intro w'
    go_simp
    with_reducible rfl
   rotate_left
   ·simp only [Act.put, List.setIfInBounds_toArray, List.set_cons_zero, List.set_cons_succ]
    rfl
   refine take_ (i := 2) (N := some 28) (v := ?_) (a' := ?_) #[true, true, true, false, false, false, false, false, false, false, false, false, false, false, false] rfl rfl (by kernel_rfl) (fun _ _ _ h => h) (Or.inl ⟨by rfl, ?_⟩) hHeld ?_ ?_
   rotate_left
   ·rintro w' ⟨s0, s1, s2, s3, s4⟩
    go_simp
    with_reducible rfl
   rotate_left
   ·simp only [Act.put, List.setIfInBounds_toArray, List.set_cons_zero, List.set_cons_succ]
    rfl
   refine pure_ (i := 3) (N := some 29) (v := ?_) (a' := ?_) #[true, true, true, true, false, false, false, false, false, false, false, false, false, false, false] rfl rfl (by kernel_rfl) (fun _ _ _ h => h) (Or.inl ⟨by rfl, ?_⟩) ?_ ?_
   rotate_left
   ·intro w'
    go_simp
    with_reducible rfl
   rotate_left
   ·simp only [Act.put, List.setIfInBounds_toArray, List.set_cons_zero, List.set_cons_succ]
    rfl
   refine pure_ (i := 4) (N := some 30) (v := ?_) (a' := ?_) #[true, true, true, true, true, false, false, false, false, false, false, false, false, false, false] rfl rfl (by kernel_rfl) (fun _ _ _ h => h) (Or.inl ⟨by rfl, ?_⟩) ?_ ?_
   rotate_left
   ·intro w'
    go_simp
    with_reducible rfl
   rotate_left
   ·simp only [Act.put, List.setIfInBounds_toArray, List.set_cons_zero, List.set_cons_succ]
    rfl
   refine pure_ (i := 5) (N := some 31) (v := ?_) (a' := ?_) #[true, true, true, true, true, true, false, false, false, false, false, false, false, false, false] rfl rfl (by kernel_rfl) (fun _ _ _ h => h) (Or.inl ⟨by rfl, ?_⟩) ?_ ?_
   rotate_left
   ·intro w'
    go_simp
    with_reducible rfl
   rotate_left
   ·simp only [Act.put, List.setIfInBounds_toArray, List.set_cons_zero, List.set_cons_succ]
    rfl
   refine pure_ (i := 6) (N := some 32) (v := ?_) (a' := ?_) #[true, true, true, true, true, true, true, false, false, false, false, false, false, false, false] rfl rfl (by kernel_rfl) (fun _ _ _ h => h) (Or.inl ⟨by rfl, ?_⟩) ?_ ?_
   rotate_left
   ·intro w'
    go_simp
    with_reducible rfl
   rotate_left
   ·simp only [Act.put, List.setIfInBounds_toArray, List.set_cons_zero, List.set_cons_succ]
    rfl
   refine pure_ (i := 7) (N := some 33) (v := ?_) (a' := ?_) #[true, true, true, true, true, true, true, true, false, false, false, false, false, false, false] rfl rfl (by kernel_rfl) (fun _ _ _ h => h) (Or.inl ⟨by rfl, ?_⟩) ?_ ?_
   rotate_left
   ·intro w'
    go_simp
    with_reducible rfl
   rotate_left
   ·simp only [Act.put, List.setIfInBounds_toArray, List.set_cons_zero, List.set_cons_succ]
    rfl
   refine take_ (i := 8) (N := some 34) (v := ?_) (a' := ?_) #[true, true, true, true, true, true, true, true, true, false, false, false, false, false, false] rfl rfl (by kernel_rfl) (fun _ _ _ h => h) (Or.inl ⟨by rfl, ?_⟩) hHeld ?_ ?_
   rotate_left
   ·rintro w' ⟨s0, s1, s2, s3, s4⟩
    go_simp
    with_reducible rfl
   rotate_left
   ·simp only [Act.put, List.setIfInBounds_toArray, List.set_cons_zero, List.set_cons_succ]
    rfl
   refine pure_ (i := 9) (N := some 35) (v := ?_) (a' := ?_) #[true, true, true, true, true, true, true, true, true, true, false, false, false, false, false] rfl rfl (by kernel_rfl) (fun _ _ _ h => h) (Or.inl ⟨by rfl, ?_⟩) ?_ ?_
   rotate_left
   ·intro w'
    go_simp
    with_reducible rfl
   rotate_left
   ·simp only [Act.put, List.setIfInBounds_toArray, List.set_cons_zero, List.set_cons_succ]
    rfl
   refine take_ (i := 10) (N := some 36) (v := ?_) (a' := ?_) #[true, true, true, true, true, true, true, true, true, true, true, false, false, false, false] rfl rfl (by kernel_rfl) (fun _ _ _ h => h) (Or.inl ⟨by rfl, ?_⟩) hHeld ?_ ?_
   rotate_left
   ·rintro w' ⟨s0, s1, s2, s3, s4⟩
    go_simp
    with_reducible rfl
   rotate_left
   ·simp only [Act.put, List.setIfInBounds_toArray, List.set_cons_zero, List.set_cons_succ]
    rfl
   refine pure_ (i := 11) (N := some 37) (v := ?_) (a' := ?_) #[true, true, true, true, true, true, true, true, true, true, true, true, false, false, false] rfl rfl (by kernel_rfl) (fun _ _ _ h => h) (Or.inl ⟨by rfl, ?_⟩) ?_ ?_
   rotate_left
   ·intro w'
    go_simp
    with_reducible rfl
   rotate_left
   ·simp only [Act.put, List.setIfInBounds_toArray, List.set_cons_zero, List.set_cons_succ]
    rfl
   refine take_ (i := 12) (N := some 38) (v := ?_) (a' := ?_) #[true, true, true, true, true, true, true, true, true, true, true, true, true, false, false] rfl rfl (by kernel_rfl) (fun _ _ _ h => h) (Or.inl ⟨by rfl, ?_⟩) hHeld ?_ ?_
   rotate_left
   ·rintro w' ⟨s0, s1, s2, s3, s4⟩
    go_simp
    with_reducible rfl
   rotate_left
   ·simp only [Act.put, List.setIfInBounds_toArray, List.set_cons_zero, List.set_cons_succ]
    rfl
   have z0 := blk_cell D3.out 0
   have z1 := blk_cell D3.out 1
   try simp only [List.getElem?_toArray, List.getElem?_cons_zero, List.getElem?_cons_succ] at z0 z1
   have f0 := blk_frozen D3.out 0
   have f1 := blk_frozen D3.out 1
   have hm : ∀ (a : Addr), a.block ≠ gz → ∀ v, w7.cell? a = some v → ((w7.setCell ⟨gz, 0, none⟩ (.slice Aa n1 ca)).setCell ⟨gz, 1, none⟩ (.slice (some adp) n2 cb2)).cell? a = some v := fun a ha v hv => (cell_of_blk ((Below.heap_setCell _ ⟨gz, 1, none⟩ _ a.block ha).trans (Below.heap_setCell _ ⟨gz, 0, none⟩ _ a.block ha))).trans hv
   refine one_ (i := 13) (N := none) #[true, true, true, true, true, true, true, true, true, true, true, true, true, true, false] rfl rfl (by kernel_rfl) (by decide) (fun K hK => ?_)
   refine skip_ (by rfl) rfl (w1 := (w7.setCell ⟨gz, 0, none⟩ (.slice Aa n1 ca)).setCell ⟨gz, 1, none⟩ (.slice (some adp) n2 cb2)) ?hr (hK.out _ _ ⟨hm _ (by have := HLO.out; dsimp only; omega) _ hH7.out.1, hm _ (by have := HLO.out; dsimp only; omega) _ hH7.out.2.1, hm _ (by have := HLO.out; have := World.block_lt_of_cell? w _ HX.out.2; dsimp only at this ⊢; omega) _ hH7.out.2.2.1, hm _ (by have := HLO.out; have := World.block_lt_of_cell? w _ HB2.out.1; omega) _ hH7.out.2.2.2.1, hm _ (by have := HLO.out; have := World.block_lt_of_cell? w _ HB2.out.2; omega) _ hH7.out.2.2.2.2⟩ (fun hHeld => ?_))
   case hr => first | (go_simp; done) | (go_simp; rfl)
   clear hK K z0 z1 f0 f1 hm
   refine pure_ (i := 14) (N := some 9) (v := ?_) (a' := ?_) #[true, true, true, true, true, true, true, true, true, true, true, true, true, true, true] rfl rfl (by kernel_rfl) (fun _ _ _ h => h) (Or.inl ⟨by rfl, ?_⟩) ?_ ?_
   rotate_left
   ·intro w'
    go_simp
    with_reducible rfl
   rotate_left
   ·simp only [Act.put, List.setIfInBounds_toArray, List.set_cons_zero, List.set_cons_succ]
    rfl
   refine done_ (by kernel_rfl) ?_
   clear hHeld
   try go_wp2
   refine bodyPost_ret (results_ct (p := 8) (u := 9) rfl _ _ gz 32 #[.slice Aa n1 ca, .slice (some adp) n2 cb2] (0, 0) _ rfl (blk_put (blk_put D3.out 0 _ rfl) 1 _ rfl) Try.underlying32 rfl (by kernel_rfl)) rfl ?_
   have hws := HGV.out.below.size
   have hgz := HLO.out
   have hm : ∀ k, k < w.heap.size → ((w7.setCell ⟨gz, 0, none⟩ (.slice Aa n1 ca)).setCell ⟨gz, 1, none⟩ (.slice (some adp) n2 cb2)).heap[k]? = w.heap[k]? := fun k hk => ((Below.heap_setCell _ ⟨gz, 1, none⟩ _ k (by dsimp only; omega)).trans (Below.heap_setCell _ ⟨gz, 0, none⟩ _ k (by dsimp only; omega))).trans (HB7.out.block k hk)
   refine ⟨.slice Aa n1 ca, .slice (some adp) n2 cb2, fun k => if k < w.heap.size then lab k else 0, by rw [addR, if_pos HV.out, ← HCL.out, ← HPV.out]; rfl, ?_, fun k hk => if_pos hk, (((Kept.of_below HB7.out _).setCell (p := ⟨gz, 0, none⟩) (.inr (by dsimp only; omega)) _).setCell (p := ⟨gz, 1, none⟩) (.inr (by dsimp only; omega)) _)⟩
   rw [addR, if_pos HV.out, HN.out.1, HN.out.2]
   rw [HN.out.1, HN.out.2] at hm
   exact HGV.out.move (((HGV.out.below.trans (HB7.out.mono hws)).setCell (p := ⟨gz, 0, none⟩) (by dsimp only; omega) _).setCell (p := ⟨gz, 1, none⟩) (by dsimp only; omega) _) (fun k hk _ => if_pos hk) (fun k _ hk => hm k hk)
  ·have HV := Aside0.mk (show ¬ hasV b op = true by rw [hasV, Bool.and_eq_true, beq_iff_eq, Bool.not_eq_true', List.isEmpty_eq_false_iff]; exact hv)
   have HSTEP := Aside0.mk (show ∀ W, Kept w W (Ch2 lab) → ∀ k, (okT k ∧ k < w.heap.size) → k < w.heap.size → W.heap[k]? = w.heap[k]? from fun W hk k ho _ => hk.2 k ho.2 (HOK.out k ho.1))
   obtain ⟨bn, hbn⟩ : ∃ m, m = b.length := ⟨_, rfl⟩
   have HBN := Aside0.mk hbn
   have key : ∀ (o2 : Bool), ((op : Int) == 2) = o2 → (o2 = true → bn = 0) → Calls Try.prog 103 #[.agg #[.slice Aa n1 ca, .slice Ab2 n2 cb2], .slice (some ad) tn ct, .int .i64 (ai : Int), .slice Ab bn cb] w (AddPost b (.node op n ks) G W0 w lab) := by
    intro o2 e1 hab
    clear hv hbn hx0 hx1
    cases o2 with
    | true =>
     obtain rfl := hab rfl
     clear hab
     go_enter Try.func103, Try.ntmps103
     go_wp2_with (first | ((with_reducible refine gate_dst (N := 4) rfl ?_); refine box_event ?hg (N := 4) ?hd (cs := #[.slice Aa n1 ca, .slice Ab2 n2 cb2]) (t := 32) ?hr ?_; (case hd => rfl); (case hg => rfl); (case hr => first | (go_simp; done) | (go_simp; rfl)); intro ga hga w1 hbox hb; have B1 := Aside0.mk hbox; have HB1 := Aside0.mk hb; have HGA := Aside0.mk (Nat.le_of_eq hga.symm); clear hbox hb hga) | ((with_reducible refine gate_dst (N := 8) rfl ?_); refine box_event ?hg (N := 8) ?hd (cs := #[.slice none 0 0, .slice none 0 0]) (t := 32) ?hr ?_; (case hd => rfl); (case hg => rfl); (case hr => first | (go_simp; done) | (go_simp; rfl)); intro gz hgz w2 hbox hb; have B3 := Aside0.mk hbox; have B1' := Aside0.mk (blk_below B1.out hb); have HB0 := Aside0.mk (below_step HB1.out hb); have HLO := Aside0.mk (show w.heap.size ≤ ga ∧ ga < gz ∧ gz < w2.heap.size from ⟨HGA.out, by rw [hgz]; exact blk_lt B1.out, blk_lt hbox⟩); have y0 := (HB0.out.cell (World.block_lt_of_cell? w _ HX.out.1)).trans HX.out.1; have y1 := (HB0.out.cell (World.block_lt_of_cell? w _ HX.out.2)).trans HX.out.2; clear hbox hb hgz B1; have B1 := B1'; clear B1'))
     refine start_ (n := 13) (S := fun w' => w'.cell? (ad.add (ai * 2)) = some (.int .i64 op) ∧ w'.cell? ⟨(ad.add (ai * 2)).block, (ad.add (ai * 2)).off + 1, none⟩ = some (.int .i64 n)) (ds := []) #[false, false, false, false, false, false, false, false, false, false, false, false, false] (by kernel_rfl) rfl rfl ⟨by simpa using y0, by simpa using y1⟩ (fun hHeld => ?_)
     have HB7 := Aside0.mk (below_drew1 HB0.out)
     have HZ7 := Aside0.mk (show gz < w2.drew.heap.size from HLO.out.2.2)
     have D1 := Aside0.mk (blk_drew B1.out)
     have D3 := Aside0.mk (blk_drew B3.out)
     generalize w2.drew = w7 at HB7 HZ7 D1 D3 hHeld ⊢
     clear y0 y1
     have hH7 := Aside0.mk hHeld
     refine pure_ (i := 0) (N := some 39) (v := ?_) (a' := ?_) #[true, false, false, false, false, false, false, false, false, false, false, false, false] rfl rfl (by kernel_rfl) (fun _ _ _ h => h) (Or.inl ⟨by rfl, ?_⟩) ?_ ?_
     rotate_left
     ·intro w'
      go_simp
      with_reducible rfl
     rotate_left
     ·simp only [Act.put, List.setIfInBounds_toArray, List.set_cons_zero, List.set_cons_succ]
      rfl
     refine pure_ (i := 1) (N := some 40) (v := ?_) (a' := ?_) #[true, true, false, false, false, false, false, false, false, false, false, false, false] rfl rfl (by kernel_rfl) (fun _ _ _ h => h) (Or.inl ⟨by rfl, ?_⟩) ?_ ?_
     rotate_left
     ·intro w'
      go_simp
      with_reducible rfl
     rotate_left
     ·simp only [Act.put, List.setIfInBounds_toArray, List.set_cons_zero, List.set_cons_succ]
      rfl
     refine pure_ (i := 2) (N := some 41) (v := ?_) (a' := ?_) #[true, true, true, false, false, false, false, false, false, false, false, false, false] rfl rfl (by kernel_rfl) (fun _ _ _ h => h) (Or.inl ⟨by rfl, ?_⟩) ?_ ?_
     rotate_left
     ·intro w'
      go_simp
      with_reducible rfl
     rotate_left
     ·simp only [Act.put, List.setIfInBounds_toArray, List.set_cons_zero, List.set_cons_succ]
      rfl
     refine pure_ (i := 3) (N := some 42) (v := ?_) (a' := ?_) #[true, true, true, true, false, false, false, false, false, false, false, false, false] rfl rfl (by kernel_rfl) (fun _ _ _ h => h) (Or.inl ⟨by rfl, ?_⟩) ?_ ?_
     rotate_left
     ·intro w'
      go_simp
      with_reducible rfl
     rotate_left
     ·simp only [Act.put, List.setIfInBounds_toArray, List.set_cons_zero, List.set_cons_succ]
      rfl
     refine take_ (i := 4) (N := some 43) (v := ?_) (a' := ?_) #[true, true, true, true, true, false, false, false, false, false, false, false, false] rfl rfl (by kernel_rfl) (fun _ _ _ h => h) (Or.inl ⟨by rfl, ?_⟩) hHeld ?_ ?_
     rotate_left
     ·rintro w' ⟨s0, s1⟩
      go_simp
      with_reducible rfl
     rotate_left
     ·simp only [Act.put, List.setIfInBounds_toArray, List.set_cons_zero, List.set_cons_succ]
      rfl
     refine pure_ (i := 5) (N := some 44) (v := ?_) (a' := ?_) #[true, true, true, true, true, true, false, false, false, false, false, false, false] rfl rfl (by kernel_rfl) (fun _ _ _ h => h) (Or.inl ⟨by rfl, ?_⟩) ?_ ?_
     rotate_left
     ·intro w'
      go_simp
      with_reducible rfl
     rotate_left
     ·simp only [Act.put, List.setIfInBounds_toArray, List.set_cons_zero, List.set_cons_succ]
      rfl
     refine pure_ (i := 6) (N := some 45) (v := ?_) (a' := ?_) #[true, true, true, true, true, true, true, false, false, false, false, false, false] rfl rfl (by kernel_rfl) (fun _ _ _ h => h) (Or.inl ⟨by rfl, ?_⟩) ?_ ?_
     rotate_left
     ·intro w'
      go_simp
      with_reducible rfl
     rotate_left
     ·simp only [Act.put, List.setIfInBounds_toArray, List.set_cons_zero, List.set_cons_succ]
      rfl
     refine pure_ (i := 7) (N := some 46) (v := ?_) (a' := ?_) #[true, true, true, true, true, true, true, true, false, false, false, false, false] rfl rfl (by kernel_rfl) (fun _ _ _ h => h) (Or.inl ⟨by rfl, ?_⟩) ?_ ?_
     rotate_left
     ·intro w'
      go_simp
      with_reducible rfl
     rotate_left
     ·simp only [Act.put, List.setIfInBounds_toArray, List.set_cons_zero, List.set_cons_succ]
      rfl
     refine pure_ (i := 8) (N := some 47) (v := ?_) (a' := ?_) #[true, true, true, true, true, true, true, true, true, false, false, false, false] rfl rfl (by kernel_rfl) (fun _ _ _ h => h) (Or.inl ⟨by rfl, ?_⟩) ?_ ?_
     rotate_left
     ·intro w'
      go_simp
      with_reducible rfl
     rotate_left
     ·simp only [Act.put, List.setIfInBounds_toArray, List.set_cons_zero, List.set_cons_succ]
      rfl
     refine take_ (i := 9) (N := some 48) (v := ?_) (a' := ?_) #[true, true, true, true, true, true, true, true, true, true, false, false, false] rfl rfl (by kernel_rfl) (fun _ _ _ h => h) (Or.inl ⟨by rfl, ?_⟩) hHeld ?_ ?_
     rotate_left
     ·rintro w' ⟨s0, s1⟩
      go_simp
      with_reducible rfl
     rotate_left
     ·simp only [Act.put, List.setIfInBounds_toArray, List.set_cons_zero, List.set_cons_succ]
      rfl
     refine pure_ (i := 10) (N := some 49) (v := ?_) (a' := ?_) #[true, true, true, true, true, true, true, true, true, true, true, false, false] rfl rfl (by kernel_rfl) (fun _ _ _ h => h) (Or.inl ⟨by rfl, ?_⟩) ?_ ?_
     rotate_left
     ·intro w'
      go_simp
      with_reducible rfl
     rotate_left
     ·simp only [Act.put, List.setIfInBounds_toArray, List.set_cons_zero, List.set_cons_succ]
      rfl
     refine one_ (i := 11) (N := some 10) #[true, true, true, true, true, true, true, true, true, true, true, true, false] rfl rfl (by kernel_rfl) (by decide) (fun K hK => ?_)
     refine box_step (by rfl) (N := 10) rfl (cs := #[.int .i64 0, .int .i64 0, .slice none 0 0]) (t := 36) ?hr ?_
     case hr => first | (go_simp; done) | (go_simp; rfl)
     intro gx hgx w8 hbx hb
     have HX8 := Aside0.mk (And.intro hgx (And.intro hbx hb))
     have hc8 := (hb.cell (World.block_lt_of_cell? w7 _ hHeld.1)).trans hHeld.1
     have hd8 := (hb.cell (World.block_lt_of_cell? w7 _ hHeld.2)).trans hHeld.2
     clear hgx hbx hb
     refine hK.out _ _ ⟨hc8, hd8⟩ (fun hHeld => ?_)
     clear hK K
     refine norm_ (a' := ?_) ?_ ?_
     rotate_left
     ·show Act.put _ (some 10) _ = _
      simp only [Act.put, List.setIfInBounds_toArray, List.set_cons_zero, List.set_cons_succ]
      rfl
     have z0 := blk_cell HX8.out.2.1 0
     have z1 := blk_cell HX8.out.2.1 1
     have z2 := blk_cell HX8.out.2.1 2
     try simp only [List.getElem?_toArray, List.getElem?_cons_zero, List.getElem?_cons_succ] at z0 z1 z2
     have f0 := blk_frozen HX8.out.2.1 0
     have f1 := blk_frozen HX8.out.2.1 1
     have f2 := blk_frozen HX8.out.2.1 2
     have HG8 := Aside0.mk (show ((((w8.setCell ⟨gx, 0, none⟩ (.int .i64 op)).setCell ⟨gx, 1, none⟩ (.int .i64 n)).setCell ⟨gx, 2, none⟩ (.slice none 0 0)).heap[gx]? = some (.cells #[.int .i64 op, .int .i64 n, .slice none 0 0] 36 (0, 0)) ∧ Below w7.heap.size w7 (((w8.setCell ⟨gx, 0, none⟩ (.int .i64 op)).setCell ⟨gx, 1, none⟩ (.int .i64 n)).setCell ⟨gx, 2, none⟩ (.slice none 0 0))) from ⟨blk_put (blk_put (blk_put HX8.out.2.1 0 _ rfl) 1 _ rfl) 2 _ rfl, ((HX8.out.2.2.setCell (p := ⟨gx, 0, none⟩) (Nat.le_of_eq HX8.out.1.symm) _).setCell (p := ⟨gx, 1, none⟩) (Nat.le_of_eq HX8.out.1.symm) _).setCell (p := ⟨gx, 2, none⟩) (Nat.le_of_eq HX8.out.1.symm) _⟩)
     have hh9 := HG8.out.2
     refine one_ (i := 12) (N := none) #[true, true, true, true, true, true, true, true, true, true, true, true, true] rfl rfl (by kernel_rfl) (by decide) (fun K hK => ?_)
     refine skip_ (by rfl) rfl (w1 := ((w8.setCell ⟨gx, 0, none⟩ (.int .i64 op)).setCell ⟨gx, 1, none⟩ (.int .i64 n)).setCell ⟨gx, 2, none⟩ (.slice none 0 0)) ?hr (hK.out _ _ ⟨(hh9.cell (World.block_lt_of_cell? w7 _ hH7.out.1)).trans hH7.out.1, (hh9.cell (World.block_lt_of_cell? w7 _ hH7.out.2)).trans hH7.out.2⟩ (fun hHeld => ?_))
     case hr => first | (go_simp; done) | (go_simp; rfl)
     clear hK K hh9 z0 z1 z2 f0 f1 f2
     generalize ((w8.setCell ⟨gx, 0, none⟩ (.int .i64 op)).setCell ⟨gx, 1, none⟩ (.int .i64 n)).setCell ⟨gx, 2, none⟩ (.slice none 0 0) = w9 at HG8 hHeld ⊢
     refine done_ (by kernel_rfl) ?_
     clear hHeld
     go_wp2_with (go_at_call 144; refine (T144.out _ (HB7.out.trans (HG8.out.2.mono HB7.out.size))).mono ?_; rintro e w10 ⟨v52, rfl, hr, hb⟩; obtain ⟨A52, c52, rfl⟩ := Kd.R_slice hr; have HI := Aside0.mk (AdS.start (ga := ga) (gz := gz) (gx := gx) (op := op) (n := n) (b := b) (ks := ks) HGV.out HGI.out (by have := HROOM.out; omega) (HBX.out.sub fun x hx => by rw [Tm.post]; exact List.mem_append_left _ hx) ((HB7.out.trans (HG8.out.2.mono HB7.out.size)).trans (hb.mono (Nat.le_trans HB7.out.size HG8.out.2.size))) (by rw [← HN.out.1, ← HN.out.2]; exact blk_below (blk_below D1.out HG8.out.2) hb) (blk_below (blk_below D3.out HG8.out.2) hb) (blk_below HG8.out.1 hb) (by have := HX8.out.1; have := HZ7.out; have := HLO.out; omega) (by have := HX8.out.1; have := HZ7.out; have := HG8.out.2.size; have := HLO.out; have := blk_lt HG8.out.1; have := HB7.out.size; omega) hr); have hrl : (rootsAt u.length ks).length = m := (by rw [rootsAt_len, HM.out]); have HRL := Aside0.mk hrl; rw [hrl]; clear hr hb hrl)
     obtain ⟨L0, hI⟩ := HI.out
     have HI2 := Aside0.mk hI
     clear HI hI
     go_loopg [54] m (fun gg v54 wr => ∃ (i : Nat) (Gi : Gr) (cs : List Int) (L : Nat → Nat) (va vb vk : Value), v54 = .int .i64 (i : Int) ∧ Aside0 (i ≤ m ∧ m - i ≤ gg) ∧ Aside0 (AdS b ks G W0 w lab L ga gz gx op n va vb vk i Gi cs (rootsAt u.length ks) A52 wr))
     case atStart => exact ⟨0, G, [], L0, _, _, _, rfl, ⟨Nat.zero_le _, Nat.le_refl _⟩, HI2⟩
     case round =>
      clear HI2 HB7 D1 D3 HX8 HG8 HZ7 hH7
      obtain ⟨i, Gi, cs, L, va, vb, vk, rfl, HA, HS⟩ := hrel
      obtain ⟨wo, rfl⟩ : ∃ wo : World, wo = wr := ⟨_, rfl⟩
      obtain ⟨Aa2, ca2, rfl⟩ := Kd.S_slice HS.out.st.gv.s
      obtain ⟨Ab3, cb3, rfl⟩ := Kd.R_slice HS.out.st.gv.r
      obtain ⟨Ak, ck, rfl⟩ := Kd.R_slice HS.out.st.k
      obtain ⟨j1, hj1⟩ : ∃ m, m = Gi.1.length := ⟨_, rfl⟩
      obtain ⟨j2, hj2⟩ : ∃ m, m = Gi.2.length := ⟨_, rfl⟩
      obtain ⟨nk, hnk⟩ : ∃ m, m = cs.length := ⟨_, rfl⟩
      rw [← hj1, ← hj2, ← hnk] at HS
      have HJ := Aside0.mk (And.intro hj1 hj2)
      have HNK := Aside0.mk (And.intro (show cs.length = i from HS.out.len) hnk)
      clear hj1 hj2 hnk
      by_cases hlt : i < m
      ·have p0 := eq_true (show (0 : Int) ≤ (i : Int) by omega)
       have q0 := eq_true (show (i : Int) < (m : Int) by omega)
       have hi : i < ks.length := by rw [← HM.out]; exact hlt
       obtain ⟨T, hT⟩ : ∃ T, T = ks[i] := ⟨_, rfl⟩
       have HTI := Aside0.mk (show ks[i]? = some T by rw [hT]; exact List.getElem?_eq_getElem hi)
       have hmem : T ∈ ks := by rw [hT]; exact List.getElem_mem hi
       have hpd : T.post.length ≤ d := by have := kid_le ks T hmem; have := HD.out; omega
       have HWT := Aside0.mk ((wfL_mem ks).1 HWF.out.2.2 T hmem)
       obtain ⟨ad52, ea, hx⟩ := Kd.at_int (Kd.F_now HS.out.st.f) (i : Int) (by omega) (by rw [HRL.out]; omega)
       subst ea
       obtain ⟨ri, hri⟩ : ∃ r : Int, r = (((u ++ postL (ks.take i)).length + T.post.length : Nat) : Int) - 1 := ⟨_, rfl⟩
       have hrd : rd (rootsAt u.length ks) (i : Int) = ri := by
        have h1 := rootsAt_at ks u.length i T HTI.out
        have h2 : rd (rootsAt u.length ks) (i : Int) = ((rootsAt u.length ks)[i]?).getD 0 := by simp [rd, List.getD_eq_getElem?_getD]
        rw [h2, h1, hri, List.length_append]
        rfl
       rw [hrd] at hx
       simp only [Int.toNat_natCast] at hx
       have hcut := kid_cut HTI.out
       have hroom := HS.out.room
       rw [List.drop_eq_getElem_cons hi, ← hT, postL, List.length_append] at hroom
       have h103 := HIH.out T (u ++ postL (ks.take i)) (postL (ks.drop (i + 1)) ++ [⟨op, n⟩] ++ v) hpd HWT.out (by rw [HT.out, Tm.post, hcut]; simp only [List.append_assoc]) W0 wo L _ _ Gi (fun k => okT k ∧ k < w.heap.size) HS.out.st.gv HS.out.gi (by omega) (HS.out.bx.sub (kid_sub HTI.out)) (fun k hk hc => HOK.out k hk.1 (by have h1 := (HS.out.st.old k hk.2).2.2.1 hc; unfold Ch2 at hc ⊢; rw [← h1]; exact hc)) (Kd.F_step (W1 := wo) (Kd.F_bound HTF.out) (HSTEP.out wo HS.out.st.kept)) (Kd.F_step (W1 := wo) (Kd.F_bound HBF.out) (HSTEP.out wo HS.out.st.kept))
       rw [← hri, ← HTN.out, ← HBN.out] at h103
       have HSZ := Aside0.mk (show (addR b T Gi).1.1.length ≤ 1000 by have := (addR_size b _ T (Nat.le_refl _) HWT.out Gi HS.out.gi).2.2; omega)
       have HRE := Aside0.mk (And.intro (rfl : (0 : Nat) = 0) trivial)
       have T103 := Aside0.mk h103
       have k0 := blk_cell HS.out.st.a 0
       have k1 := blk_cell HS.out.st.a 1
       try simp only [List.getElem?_toArray, List.getElem?_cons_zero, List.getElem?_cons_succ] at k0 k1
       clear hi hT hmem hpd hri hrd hcut hroom h103
       go_wp2_with (first | (go_at_call 103; refine T103.out.mono ?_; rintro e w5 ⟨u0, u1, lab', rfl, hgv5, hlo5, hk5⟩; obtain ⟨Ac, cc, rfl⟩ := Kd.S_slice hgv5.s; obtain ⟨Ad, cd, rfl⟩ := Kd.R_slice hgv5.r; obtain ⟨L5, hst5⟩ := HS.out.st.call hgv5 hlo5 hk5; have HST5 := Aside0.mk hst5; have HNX := Aside0.mk (show (addR b T Gi).1.1.length ≤ 1000 from HSZ.out); obtain ⟨c, hc⟩ : ∃ c, c = (addR b T Gi).2 := ⟨_, rfl⟩; obtain ⟨l1, hl1⟩ : ∃ m, m = (addR b T Gi).1.1.length := ⟨_, rfl⟩; obtain ⟨l2, hl2⟩ : ∃ m, m = (addR b T Gi).1.2.length := ⟨_, rfl⟩; have HC := Aside0.mk (And.intro hc (And.intro hl1 hl2)); rw [← hc, ← hl1, ← hl2]; clear hgv5 hlo5 hk5 hst5 hc hl1 hl2 k0 k1 hx T103) | ((with_reducible refine gate_dst (N := 13) rfl ?_); refine box_event ?hg (N := 13) ?hd (cs := #[.slice none 0 0, .slice none 0 0]) (t := 32) ?hr ?_; (case hd => rfl); (case hg => rfl); (case hr => first | (go_simp; done) | (go_simp; rfl)); intro g13 hg w6 hbox hb; have H13 := Aside0.mk hbox; have G13 := Aside0.mk (And.intro hg hb); have z0 := blk_cell hbox 0; have z1 := blk_cell hbox 1; (try simp only [List.getElem?_toArray, List.getElem?_cons_zero, List.getElem?_cons_succ] at z0 z1); have f0 := blk_frozen hbox 0; have f1 := blk_frozen hbox 1; clear hg hbox hb) | ((with_reducible refine gate_store (t := 32) (p := 13) rfl ?_); refine store_event (t := 32) (p := 13) (v := ?vo1) (w1 := (w6.setCell ⟨g13, 0, none⟩ (.slice Ac l1 cc)).setCell ⟨g13, 1, none⟩ (.slice Ad l2 cd)) ?hg ?ho ?hn ?hr ?_; (case ho => rfl); (case hg => rfl); (case hn => rfl); (case hr => first | (go_simp; done) | (go_simp; rfl)); intro w7 hw; have hbb : Below w5.heap.size w5 w7 := (by rw [hw]; exact (G13.out.2.setCell (p := ⟨g13, 0, none⟩) (Nat.le_of_eq G13.out.1.symm) _).setCell (p := ⟨g13, 1, none⟩) (Nat.le_of_eq G13.out.1.symm) _); have h13 : w7.heap[g13]? = some (.cells #[.slice Ac l1 cc, .slice Ad l2 cd] 32 (0, 0)) := (by rw [hw]; exact blk_put (blk_put H13.out 0 _ rfl) 1 _ rfl); have HST7 := Aside0.mk (HST5.out.grow hbb); clear z0 z1 f0 f1 hw hbb; have z0 := blk_cell h13 0; have z1 := blk_cell h13 1; (try simp only [List.getElem?_toArray, List.getElem?_cons_zero, List.getElem?_cons_succ] at z0 z1); have k0 := blk_cell HST7.out.a 0; have k1 := blk_cell HST7.out.a 1; (try simp only [List.getElem?_toArray, List.getElem?_cons_zero, List.getElem?_cons_succ] at k0 k1); have f0 := blk_frozen HST7.out.a 0; have f1 := blk_frozen HST7.out.a 1; clear h13) | ((with_reducible refine gate_store (t := 32) (p := 4) rfl ?_); refine store_event (t := 32) (p := 4) (v := ?vo2) (w1 := (w7.setCell ⟨ga, 0, none⟩ (.slice Ac l1 cc)).setCell ⟨ga, 1, none⟩ (.slice Ad l2 cd)) ?hg ?ho ?hn ?hr ?_; (case ho => rfl); (case hg => rfl); (case hn => rfl); (case hr => first | (go_simp; done) | (go_simp; rfl)); intro w8 hw; have HST8 := Aside0.mk (show AeR W0 w lab (labOn w5 L5 (fun _ => 0)) ga gz gx op n (.slice Ac l1 cc) (.slice Ad l2 cd) (.slice Ak nk ck) (.slice Ac l1 cc) (.slice Ad l2 cd) (.slice Ak nk ck) (addR b T Gi).1 cs (rootsAt u.length ks) (some ad52) w8 from by rw [hw, HC.out.2.1, HC.out.2.2]; exact HST7.out.setA _ _); clear z0 z1 f0 f1 k0 k1 hw; have x2 := blk_cell HST8.out.x 2; (try simp only [List.getElem?_toArray, List.getElem?_cons_zero, List.getElem?_cons_succ] at x2)) | ((with_reducible refine gate_dst (N := 71) rfl ?_); refine Kd.R_append (Kd.int .i64) (w0 := W0) W0.heap.size rfl (.tmp 68) (.tmp 70) 23 3 (.int .i64 0) 8 rfl Try.underlying23 info3 rfl (by decide) (by omega) (.slice Ak nk ck) cs c [.int .i64 c] (fun k => (labOn w5 L5 (fun _ => 0) k = 3 ∧ k < w8.heap.size) ∨ w8.heap.size ≤ k) (fun _ => False) rfl rfl rfl (fun _ hk => hk.elim) (fun k hk => .inr hk) (Kd.R_mono (Kd.R_bound HST8.out.k) (fun k hk => .inl ⟨hk.1, hk.2.2.1⟩)) HST8.out.gv.below HST8.out.gv.below.size (by rw [HNK.out.1]; omega) ?_; intro v71 w9 ho hb hgr hat; obtain ⟨A71, c71, e71⟩ := Kd.R_slice ho; rw [List.length_append, List.length_singleton, ← HNK.out.2] at e71; subst e71; obtain ⟨L9, hst9⟩ := HST8.out.app ho hb hgr; have HST9 := Aside0.mk hst9; clear ho hb hgr hat hst9 x2; have x2 := blk_cell HST9.out.x 2; (try simp only [List.getElem?_toArray, List.getElem?_cons_zero, List.getElem?_cons_succ] at x2); have f2 := blk_frozen HST9.out.x 2))
       have hst := HST9.out.setX (.slice A71 (nk + 1) c71)
       rw [HC.out.1] at hst
       have hnext := HS.out.next HTI.out HWT.out hst
       have hA := HA.out
       clear HA HS hst HST9 HST8 HST7 HST5
       go_roundg (m - (i + 1))
       case measure => omega
       case rel => exact ⟨i + 1, (addR b T Gi).1, cs ++ [(addR b T Gi).2], L9, .slice Ac l1 cc, .slice Ad l2 cd, .slice A71 (nk + 1) c71, by push_cast; rfl, ⟨by omega, Nat.le_refl _⟩, ⟨hnext⟩⟩
      ·have cj : decide (i < m) = false := decide_eq_false hlt
       obtain rfl : i = m := by have := HA.out.1; omega
       have hdone : addR b (.node op n ks) G = putN Gi.1 Gi.2 ⟨op, n, cs⟩ := by
        have h1 := HS.out.rest
        rw [HM.out] at h1
        rw [addR, if_neg HV.out, h1.done]
       have HDN := Aside0.mk hdone
       have h61 := l6Put_any W0 wo L _ _ _ Gi.1 Gi.2 ⟨op, n, cs⟩ HS.out.st.gv.below HS.out.st.gv.s HS.out.st.gv.r HS.out.st.k (by have := HS.out.room; omega) HS.out.gi.len HS.out.gi.kids
       obtain ⟨c, hc⟩ : ∃ c, c = (putN Gi.1 Gi.2 ⟨op, n, cs⟩).2 := ⟨_, rfl⟩
       obtain ⟨l1, hl1⟩ : ∃ m, m = (putN Gi.1 Gi.2 ⟨op, n, cs⟩).1.1.length := ⟨_, rfl⟩
       obtain ⟨l2, hl2⟩ : ∃ m, m = (putN Gi.1 Gi.2 ⟨op, n, cs⟩).1.2.length := ⟨_, rfl⟩
       have HC := Aside0.mk (And.intro hc (And.intro hl1 hl2))
       have T61 := Aside0.mk h61
       have k0 := blk_cell HS.out.st.a 0
       have k1 := blk_cell HS.out.st.a 1
       have x0 := blk_cell HS.out.st.x 0
       have x1 := blk_cell HS.out.st.x 1
       have x2 := blk_cell HS.out.st.x 2
       try simp only [List.getElem?_toArray, List.getElem?_cons_zero, List.getElem?_cons_succ] at k0 k1 x0 x1 x2
       clear hdone h61 hlt HA hc hl1 hl2
       go_wp2_with (go_at_call 61; refine T61.out.mono ?_; rintro e w5 ⟨u0, u1, rfl, hs, hr, hb, hk⟩; obtain ⟨Ac, cc, rfl⟩ := Kd.S_slice hs; obtain ⟨Ad, cd, rfl⟩ := Kd.R_slice hr; have hput := HS.out.st.put hs hr hb hk (.slice Ac l1 cc) (.slice Ad l2 cd); have HPUT := Aside0.mk hput; rw [← HC.out.1, ← HC.out.2.1, ← HC.out.2.2]; clear hs hr hb hk k0 k1 x0 x1 x2; have z0 := blk_cell hput.1 0; have z1 := blk_cell hput.1 1; (try simp only [List.getElem?_toArray, List.getElem?_cons_zero, List.getElem?_cons_succ] at z0 z1); have f0 := blk_frozen hput.1 0; have f1 := blk_frozen hput.1 1; clear hput)
       obtain ⟨lab', hgv, hold, hkept⟩ := HPUT.out.2
       refine bodyPost_ret (results_ct (p := 8) (u := 9) rfl _ _ gz 32 #[.slice Ac l1 cc, .slice Ad l2 cd] (0, 0) _ rfl (blk_put (blk_put HPUT.out.1 0 _ rfl) 1 _ rfl) Try.underlying32 rfl (by kernel_rfl)) rfl ?_
       refine ⟨.slice Ac l1 cc, .slice Ad l2 cd, lab', by rw [HDN.out, ← HC.out.1]; rfl, ?_, hold, hkept⟩
       rw [HDN.out]
       rw [HC.out.2.1, HC.out.2.2] at hgv ⊢
       exact hgv
    | false =>
     clear hab
     go_enter Try.func103, Try.ntmps103
     go_wp2_with (first | ((with_reducible refine gate_dst (N := 4) rfl ?_); refine box_event ?hg (N := 4) ?hd (cs := #[.slice Aa n1 ca, .slice Ab2 n2 cb2]) (t := 32) ?hr ?_; (case hd => rfl); (case hg => rfl); (case hr => first | (go_simp; done) | (go_simp; rfl)); intro ga hga w1 hbox hb; have B1 := Aside0.mk hbox; have HB1 := Aside0.mk hb; have HGA := Aside0.mk (Nat.le_of_eq hga.symm); clear hbox hb hga) | ((with_reducible refine gate_dst (N := 8) rfl ?_); refine box_event ?hg (N := 8) ?hd (cs := #[.slice none 0 0, .slice none 0 0]) (t := 32) ?hr ?_; (case hd => rfl); (case hg => rfl); (case hr => first | (go_simp; done) | (go_simp; rfl)); intro gz hgz w2 hbox hb; have B3 := Aside0.mk hbox; have B1' := Aside0.mk (blk_below B1.out hb); have HB0 := Aside0.mk (below_step HB1.out hb); have HLO := Aside0.mk (show w.heap.size ≤ ga ∧ ga < gz ∧ gz < w2.heap.size from ⟨HGA.out, by rw [hgz]; exact blk_lt B1.out, blk_lt hbox⟩); have y0 := (HB0.out.cell (World.block_lt_of_cell? w _ HX.out.1)).trans HX.out.1; have y1 := (HB0.out.cell (World.block_lt_of_cell? w _ HX.out.2)).trans HX.out.2; clear hbox hb hgz B1; have B1 := B1'; clear B1'))
     refine start_ (n := 13) (S := fun w' => w'.cell? (ad.add (ai * 2)) = some (.int .i64 op) ∧ w'.cell? ⟨(ad.add (ai * 2)).block, (ad.add (ai * 2)).off + 1, none⟩ = some (.int .i64 n)) (ds := []) #[false, false, false, false, false, false, false, false, false, false, false, false, false] (by kernel_rfl) rfl rfl ⟨by simpa using y0, by simpa using y1⟩ (fun hHeld => ?_)
     have HB7 := Aside0.mk (below_drew1 HB0.out)
     have HZ7 := Aside0.mk (show gz < w2.drew.heap.size from HLO.out.2.2)
     have D1 := Aside0.mk (blk_drew B1.out)
     have D3 := Aside0.mk (blk_drew B3.out)
     generalize w2.drew = w7 at HB7 HZ7 D1 D3 hHeld ⊢
     clear y0 y1
     have hH7 := Aside0.mk hHeld
     refine pure_ (i := 0) (N := some 39) (v := ?_) (a' := ?_) #[true, false, false, false, false, false, false, false, false, false, false, false, false] rfl rfl (by kernel_rfl) (fun _ _ _ h => h) (Or.inl ⟨by rfl, ?_⟩) ?_ ?_
     rotate_left
     ·intro w'
      go_simp
      with_reducible rfl
     rotate_left
     ·simp only [Act.put, List.setIfInBounds_toArray, List.set_cons_zero, List.set_cons_succ]
      rfl
     refine pure_ (i := 1) (N := some 40) (v := ?_) (a' := ?_) #[true, true, false, false, false, false, false, false, false, false, false, false, false] rfl rfl (by kernel_rfl) (fun _ _ _ h => h) (Or.inl ⟨by rfl, ?_⟩) ?_ ?_
     rotate_left
     ·intro w'
      go_simp
      with_reducible rfl
     rotate_left
     ·simp only [Act.put, List.setIfInBounds_toArray, List.set_cons_zero, List.set_cons_succ]
      rfl
     refine pure_ (i := 2) (N := some 41) (v := ?_) (a' := ?_) #[true, true, true, false, false, false, false, false, false, false, false, false, false] rfl rfl (by kernel_rfl) (fun _ _ _ h => h) (Or.inl ⟨by rfl, ?_⟩) ?_ ?_
     rotate_left
     ·intro w'
      go_simp
      with_reducible rfl
     rotate_left
     ·simp only [Act.put, List.setIfInBounds_toArray, List.set_cons_zero, List.set_cons_succ]
      rfl
     refine pure_ (i := 3) (N := some 42) (v := ?_) (a' := ?_) #[true, true, true, true, false, false, false, false, false, false, false, false, false] rfl rfl (by kernel_rfl) (fun _ _ _ h => h) (Or.inl ⟨by rfl, ?_⟩) ?_ ?_
     rotate_left
     ·intro w'
      go_simp
      with_reducible rfl
     rotate_left
     ·simp only [Act.put, List.setIfInBounds_toArray, List.set_cons_zero, List.set_cons_succ]
      rfl
     refine take_ (i := 4) (N := some 43) (v := ?_) (a' := ?_) #[true, true, true, true, true, false, false, false, false, false, false, false, false] rfl rfl (by kernel_rfl) (fun _ _ _ h => h) (Or.inl ⟨by rfl, ?_⟩) hHeld ?_ ?_
     rotate_left
     ·rintro w' ⟨s0, s1⟩
      go_simp
      with_reducible rfl
     rotate_left
     ·simp only [Act.put, List.setIfInBounds_toArray, List.set_cons_zero, List.set_cons_succ]
      rfl
     refine pure_ (i := 5) (N := some 44) (v := ?_) (a' := ?_) #[true, true, true, true, true, true, false, false, false, false, false, false, false] rfl rfl (by kernel_rfl) (fun _ _ _ h => h) (Or.inl ⟨by rfl, ?_⟩) ?_ ?_
     rotate_left
     ·intro w'
      go_simp
      with_reducible rfl
     rotate_left
     ·simp only [Act.put, List.setIfInBounds_toArray, List.set_cons_zero, List.set_cons_succ]
      rfl
     refine pure_ (i := 6) (N := some 45) (v := ?_) (a' := ?_) #[true, true, true, true, true, true, true, false, false, false, false, false, false] rfl rfl (by kernel_rfl) (fun _ _ _ h => h) (Or.inl ⟨by rfl, ?_⟩) ?_ ?_
     rotate_left
     ·intro w'
      go_simp
      with_reducible rfl
     rotate_left
     ·simp only [Act.put, List.setIfInBounds_toArray, List.set_cons_zero, List.set_cons_succ]
      rfl
     refine pure_ (i := 7) (N := some 46) (v := ?_) (a' := ?_) #[true, true, true, true, true, true, true, true, false, false, false, false, false] rfl rfl (by kernel_rfl) (fun _ _ _ h => h) (Or.inl ⟨by rfl, ?_⟩) ?_ ?_
     rotate_left
     ·intro w'
      go_simp
      with_reducible rfl
     rotate_left
     ·simp only [Act.put, List.setIfInBounds_toArray, List.set_cons_zero, List.set_cons_succ]
      rfl
     refine pure_ (i := 8) (N := some 47) (v := ?_) (a' := ?_) #[true, true, true, true, true, true, true, true, true, false, false, false, false] rfl rfl (by kernel_rfl) (fun _ _ _ h => h) (Or.inl ⟨by rfl, ?_⟩) ?_ ?_
     rotate_left
     ·intro w'
      go_simp
      with_reducible rfl
     rotate_left
     ·simp only [Act.put, List.setIfInBounds_toArray, List.set_cons_zero, List.set_cons_succ]
      rfl
     refine take_ (i := 9) (N := some 48) (v := ?_) (a' := ?_) #[true, true, true, true, true, true, true, true, true, true, false, false, false] rfl rfl (by kernel_rfl) (fun _ _ _ h => h) (Or.inl ⟨by rfl, ?_⟩) hHeld ?_ ?_
     rotate_left
     ·rintro w' ⟨s0, s1⟩
      go_simp
      with_reducible rfl
     rotate_left
     ·simp only [Act.put, List.setIfInBounds_toArray, List.set_cons_zero, List.set_cons_succ]
      rfl
     refine pure_ (i := 10) (N := some 49) (v := ?_) (a' := ?_) #[true, true, true, true, true, true, true, true, true, true, true, false, false] rfl rfl (by kernel_rfl) (fun _ _ _ h => h) (Or.inl ⟨by rfl, ?_⟩) ?_ ?_
     rotate_left
     ·intro w'
      go_simp
      with_reducible rfl
     rotate_left
     ·simp only [Act.put, List.setIfInBounds_toArray, List.set_cons_zero, List.set_cons_succ]
      rfl
     refine one_ (i := 11) (N := some 10) #[true, true, true, true, true, true, true, true, true, true, true, true, false] rfl rfl (by kernel_rfl) (by decide) (fun K hK => ?_)
     refine box_step (by rfl) (N := 10) rfl (cs := #[.int .i64 0, .int .i64 0, .slice none 0 0]) (t := 36) ?hr ?_
     case hr => first | (go_simp; done) | (go_simp; rfl)
     intro gx hgx w8 hbx hb
     have HX8 := Aside0.mk (And.intro hgx (And.intro hbx hb))
     have hc8 := (hb.cell (World.block_lt_of_cell? w7 _ hHeld.1)).trans hHeld.1
     have hd8 := (hb.cell (World.block_lt_of_cell? w7 _ hHeld.2)).trans hHeld.2
     clear hgx hbx hb
     refine hK.out _ _ ⟨hc8, hd8⟩ (fun hHeld => ?_)
     clear hK K
     refine norm_ (a' := ?_) ?_ ?_
     rotate_left
     ·show Act.put _ (some 10) _ = _
      simp only [Act.put, List.setIfInBounds_toArray, List.set_cons_zero, List.set_cons_succ]
      rfl
     have z0 := blk_cell HX8.out.2.1 0
     have z1 := blk_cell HX8.out.2.1 1
     have z2 := blk_cell HX8.out.2.1 2
     try simp only [List.getElem?_toArray, List.getElem?_cons_zero, List.getElem?_cons_succ] at z0 z1 z2
     have f0 := blk_frozen HX8.out.2.1 0
     have f1 := blk_frozen HX8.out.2.1 1
     have f2 := blk_frozen HX8.out.2.1 2
     have HG8 := Aside0.mk (show ((((w8.setCell ⟨gx, 0, none⟩ (.int .i64 op)).setCell ⟨gx, 1, none⟩ (.int .i64 n)).setCell ⟨gx, 2, none⟩ (.slice none 0 0)).heap[gx]? = some (.cells #[.int .i64 op, .int .i64 n, .slice none 0 0] 36 (0, 0)) ∧ Below w7.heap.size w7 (((w8.setCell ⟨gx, 0, none⟩ (.int .i64 op)).setCell ⟨gx, 1, none⟩ (.int .i64 n)).setCell ⟨gx, 2, none⟩ (.slice none 0 0))) from ⟨blk_put (blk_put (blk_put HX8.out.2.1 0 _ rfl) 1 _ rfl) 2 _ rfl, ((HX8.out.2.2.setCell (p := ⟨gx, 0, none⟩) (Nat.le_of_eq HX8.out.1.symm) _).setCell (p := ⟨gx, 1, none⟩) (Nat.le_of_eq HX8.out.1.symm) _).setCell (p := ⟨gx, 2, none⟩) (Nat.le_of_eq HX8.out.1.symm) _⟩)
     have hh9 := HG8.out.2
     refine one_ (i := 12) (N := none) #[true, true, true, true, true, true, true, true, true, true, true, true, true] rfl rfl (by kernel_rfl) (by decide) (fun K hK => ?_)
     refine skip_ (by rfl) rfl (w1 := ((w8.setCell ⟨gx, 0, none⟩ (.int .i64 op)).setCell ⟨gx, 1, none⟩ (.int .i64 n)).setCell ⟨gx, 2, none⟩ (.slice none 0 0)) ?hr (hK.out _ _ ⟨(hh9.cell (World.block_lt_of_cell? w7 _ hH7.out.1)).trans hH7.out.1, (hh9.cell (World.block_lt_of_cell? w7 _ hH7.out.2)).trans hH7.out.2⟩ (fun hHeld => ?_))
     case hr => first | (go_simp; done) | (go_simp; rfl)
     clear hK K hh9 z0 z1 z2 f0 f1 f2
     generalize ((w8.setCell ⟨gx, 0, none⟩ (.int .i64 op)).setCell ⟨gx, 1, none⟩ (.int .i64 n)).setCell ⟨gx, 2, none⟩ (.slice none 0 0) = w9 at HG8 hHeld ⊢
     refine done_ (by kernel_rfl) ?_
     clear hHeld
     go_wp2_with (go_at_call 144; refine (T144.out _ (HB7.out.trans (HG8.out.2.mono HB7.out.size))).mono ?_; rintro e w10 ⟨v52, rfl, hr, hb⟩; obtain ⟨A52, c52, rfl⟩ := Kd.R_slice hr; have HI := Aside0.mk (AdS.start (ga := ga) (gz := gz) (gx := gx) (op := op) (n := n) (b := b) (ks := ks) HGV.out HGI.out (by have := HROOM.out; omega) (HBX.out.sub fun x hx => by rw [Tm.post]; exact List.mem_append_left _ hx) ((HB7.out.trans (HG8.out.2.mono HB7.out.size)).trans (hb.mono (Nat.le_trans HB7.out.size HG8.out.2.size))) (by rw [← HN.out.1, ← HN.out.2]; exact blk_below (blk_below D1.out HG8.out.2) hb) (blk_below (blk_below D3.out HG8.out.2) hb) (blk_below HG8.out.1 hb) (by have := HX8.out.1; have := HZ7.out; have := HLO.out; omega) (by have := HX8.out.1; have := HZ7.out; have := HG8.out.2.size; have := HLO.out; have := blk_lt HG8.out.1; have := HB7.out.size; omega) hr); have hrl : (rootsAt u.length ks).length = m := (by rw [rootsAt_len, HM.out]); have HRL := Aside0.mk hrl; rw [hrl]; clear hr hb hrl)
     obtain ⟨L0, hI⟩ := HI.out
     have HI2 := Aside0.mk hI
     clear HI hI
     go_loopg [54] m (fun gg v54 wr => ∃ (i : Nat) (Gi : Gr) (cs : List Int) (L : Nat → Nat) (va vb vk : Value), v54 = .int .i64 (i : Int) ∧ Aside0 (i ≤ m ∧ m - i ≤ gg) ∧ Aside0 (AdS b ks G W0 w lab L ga gz gx op n va vb vk i Gi cs (rootsAt u.length ks) A52 wr))
     case atStart => exact ⟨0, G, [], L0, _, _, _, rfl, ⟨Nat.zero_le _, Nat.le_refl _⟩, HI2⟩
     case round =>
      clear HI2 HB7 D1 D3 HX8 HG8 HZ7 hH7
      obtain ⟨i, Gi, cs, L, va, vb, vk, rfl, HA, HS⟩ := hrel
      obtain ⟨wo, rfl⟩ : ∃ wo : World, wo = wr := ⟨_, rfl⟩
      obtain ⟨Aa2, ca2, rfl⟩ := Kd.S_slice HS.out.st.gv.s
      obtain ⟨Ab3, cb3, rfl⟩ := Kd.R_slice HS.out.st.gv.r
      obtain ⟨Ak, ck, rfl⟩ := Kd.R_slice HS.out.st.k
      obtain ⟨j1, hj1⟩ : ∃ m, m = Gi.1.length := ⟨_, rfl⟩
      obtain ⟨j2, hj2⟩ : ∃ m, m = Gi.2.length := ⟨_, rfl⟩
      obtain ⟨nk, hnk⟩ : ∃ m, m = cs.length := ⟨_, rfl⟩
      rw [← hj1, ← hj2, ← hnk] at HS
      have HJ := Aside0.mk (And.intro hj1 hj2)
      have HNK := Aside0.mk (And.intro (show cs.length = i from HS.out.len) hnk)
      clear hj1 hj2 hnk
      by_cases hlt : i < m
      ·have p0 := eq_true (show (0 : Int) ≤ (i : Int) by omega)
       have q0 := eq_true (show (i : Int) < (m : Int) by omega)
       have hi : i < ks.length := by rw [← HM.out]; exact hlt
       obtain ⟨T, hT⟩ : ∃ T, T = ks[i] := ⟨_, rfl⟩
       have HTI := Aside0.mk (show ks[i]? = some T by rw [hT]; exact List.getElem?_eq_getElem hi)
       have hmem : T ∈ ks := by rw [hT]; exact List.getElem_mem hi
       have hpd : T.post.length ≤ d := by have := kid_le ks T hmem; have := HD.out; omega
       have HWT := Aside0.mk ((wfL_mem ks).1 HWF.out.2.2 T hmem)
       obtain ⟨ad52, ea, hx⟩ := Kd.at_int (Kd.F_now HS.out.st.f) (i : Int) (by omega) (by rw [HRL.out]; omega)
       subst ea
       obtain ⟨ri, hri⟩ : ∃ r : Int, r = (((u ++ postL (ks.take i)).length + T.post.length : Nat) : Int) - 1 := ⟨_, rfl⟩
       have hrd : rd (rootsAt u.length ks) (i : Int) = ri := by
        have h1 := rootsAt_at ks u.length i T HTI.out
        have h2 : rd (rootsAt u.length ks) (i : Int) = ((rootsAt u.length ks)[i]?).getD 0 := by simp [rd, List.getD_eq_getElem?_getD]
        rw [h2, h1, hri, List.length_append]
        rfl
       rw [hrd] at hx
       simp only [Int.toNat_natCast] at hx
       have hcut := kid_cut HTI.out
       have hroom := HS.out.room
       rw [List.drop_eq_getElem_cons hi, ← hT, postL, List.length_append] at hroom
       have h103 := HIH.out T (u ++ postL (ks.take i)) (postL (ks.drop (i + 1)) ++ [⟨op, n⟩] ++ v) hpd HWT.out (by rw [HT.out, Tm.post, hcut]; simp only [List.append_assoc]) W0 wo L _ _ Gi (fun k => okT k ∧ k < w.heap.size) HS.out.st.gv HS.out.gi (by omega) (HS.out.bx.sub (kid_sub HTI.out)) (fun k hk hc => HOK.out k hk.1 (by have h1 := (HS.out.st.old k hk.2).2.2.1 hc; unfold Ch2 at hc ⊢; rw [← h1]; exact hc)) (Kd.F_step (W1 := wo) (Kd.F_bound HTF.out) (HSTEP.out wo HS.out.st.kept)) (Kd.F_step (W1 := wo) (Kd.F_bound HBF.out) (HSTEP.out wo HS.out.st.kept))
       rw [← hri, ← HTN.out, ← HBN.out] at h103
       have HSZ := Aside0.mk (show (addR b T Gi).1.1.length ≤ 1000 by have := (addR_size b _ T (Nat.le_refl _) HWT.out Gi HS.out.gi).2.2; omega)
       have HRE := Aside0.mk (And.intro (rfl : (0 : Nat) = 0) trivial)
       have T103 := Aside0.mk h103
       have k0 := blk_cell HS.out.st.a 0
       have k1 := blk_cell HS.out.st.a 1
       try simp only [List.getElem?_toArray, List.getElem?_cons_zero, List.getElem?_cons_succ] at k0 k1
       clear hi hT hmem hpd hri hrd hcut hroom h103
       go_wp2_with (first | (go_at_call 103; refine T103.out.mono ?_; rintro e w5 ⟨u0, u1, lab', rfl, hgv5, hlo5, hk5⟩; obtain ⟨Ac, cc, rfl⟩ := Kd.S_slice hgv5.s; obtain ⟨Ad, cd, rfl⟩ := Kd.R_slice hgv5.r; obtain ⟨L5, hst5⟩ := HS.out.st.call hgv5 hlo5 hk5; have HST5 := Aside0.mk hst5; have HNX := Aside0.mk (show (addR b T Gi).1.1.length ≤ 1000 from HSZ.out); obtain ⟨c, hc⟩ : ∃ c, c = (addR b T Gi).2 := ⟨_, rfl⟩; obtain ⟨l1, hl1⟩ : ∃ m, m = (addR b T Gi).1.1.length := ⟨_, rfl⟩; obtain ⟨l2, hl2⟩ : ∃ m, m = (addR b T Gi).1.2.length := ⟨_, rfl⟩; have HC := Aside0.mk (And.intro hc (And.intro hl1 hl2)); rw [← hc, ← hl1, ← hl2]; clear hgv5 hlo5 hk5 hst5 hc hl1 hl2 k0 k1 hx T103) | ((with_reducible refine gate_dst (N := 13) rfl ?_); refine box_event ?hg (N := 13) ?hd (cs := #[.slice none 0 0, .slice none 0 0]) (t := 32) ?hr ?_; (case hd => rfl); (case hg => rfl); (case hr => first | (go_simp; done) | (go_simp; rfl)); intro g13 hg w6 hbox hb; have H13 := Aside0.mk hbox; have G13 := Aside0.mk (And.intro hg hb); have z0 := blk_cell hbox 0; have z1 := blk_cell hbox 1; (try simp only [List.getElem?_toArray, List.getElem?_cons_zero, List.getElem?_cons_succ] at z0 z1); have f0 := blk_frozen hbox 0; have f1 := blk_frozen hbox 1; clear hg hbox hb) | ((with_reducible refine gate_store (t := 32) (p := 13) rfl ?_); refine store_event (t := 32) (p := 13) (v := ?vo1) (w1 := (w6.setCell ⟨g13, 0, none⟩ (.slice Ac l1 cc)).setCell ⟨g13, 1, none⟩ (.slice Ad l2 cd)) ?hg ?ho ?hn ?hr ?_; (case ho => rfl); (case hg => rfl); (case hn => rfl); (case hr => first | (go_simp; done) | (go_simp; rfl)); intro w7 hw; have hbb : Below w5.heap.size w5 w7 := (by rw [hw]; exact (G13.out.2.setCell (p := ⟨g13, 0, none⟩) (Nat.le_of_eq G13.out.1.symm) _).setCell (p := ⟨g13, 1, none⟩) (Nat.le_of_eq G13.out.1.symm) _); have h13 : w7.heap[g13]? = some (.cells #[.slice Ac l1 cc, .slice Ad l2 cd] 32 (0, 0)) := (by rw [hw]; exact blk_put (blk_put H13.out 0 _ rfl) 1 _ rfl); have HST7 := Aside0.mk (HST5.out.grow hbb); clear z0 z1 f0 f1 hw hbb; have z0 := blk_cell h13 0; have z1 := blk_cell h13 1; (try simp only [List.getElem?_toArray, List.getElem?_cons_zero, List.getElem?_cons_succ] at z0 z1); have k0 := blk_cell HST7.out.a 0; have k1 := blk_cell HST7.out.a 1; (try simp only [List.getElem?_toArray, List.getElem?_cons_zero, List.getElem?_cons_succ] at k0 k1); have f0 := blk_frozen HST7.out.a 0; have f1 := blk_frozen HST7.out.a 1; clear h13) | ((with_reducible refine gate_store (t := 32) (p := 4) rfl ?_); refine store_event (t := 32) (p := 4) (v := ?vo2) (w1 := (w7.setCell ⟨ga, 0, none⟩ (.slice Ac l1 cc)).setCell ⟨ga, 1, none⟩ (.slice Ad l2 cd)) ?hg ?ho ?hn ?hr ?_; (case ho => rfl); (case hg => rfl); (case hn => rfl); (case hr => first | (go_simp; done) | (go_simp; rfl)); intro w8 hw; have HST8 := Aside0.mk (show AeR W0 w lab (labOn w5 L5 (fun _ => 0)) ga gz gx op n (.slice Ac l1 cc) (.slice Ad l2 cd) (.slice Ak nk ck) (.slice Ac l1 cc) (.slice Ad l2 cd) (.slice Ak nk ck) (addR b T Gi).1 cs (rootsAt u.length ks) (some ad52) w8 from by rw [hw, HC.out.2.1, HC.out.2.2]; exact HST7.out.setA _ _); clear z0 z1 f0 f1 k0 k1 hw; have x2 := blk_cell HST8.out.x 2; (try simp only [List.getElem?_toArray, List.getElem?_cons_zero, List.getElem?_cons_succ] at x2)) | ((with_reducible refine gate_dst (N := 71) rfl ?_); refine Kd.R_append (Kd.int .i64) (w0 := W0) W0.heap.size rfl (.tmp 68) (.tmp 70) 23 3 (.int .i64 0) 8 rfl Try.underlying23 info3 rfl (by decide) (by omega) (.slice Ak nk ck) cs c [.int .i64 c] (fun k => (labOn w5 L5 (fun _ => 0) k = 3 ∧ k < w8.heap.size) ∨ w8.heap.size ≤ k) (fun _ => False) rfl rfl rfl (fun _ hk => hk.elim) (fun k hk => .inr hk) (Kd.R_mono (Kd.R_bound HST8.out.k) (fun k hk => .inl ⟨hk.1, hk.2.2.1⟩)) HST8.out.gv.below HST8.out.gv.below.size (by rw [HNK.out.1]; omega) ?_; intro v71 w9 ho hb hgr hat; obtain ⟨A71, c71, e71⟩ := Kd.R_slice ho; rw [List.length_append, List.length_singleton, ← HNK.out.2] at e71; subst e71; obtain ⟨L9, hst9⟩ := HST8.out.app ho hb hgr; have HST9 := Aside0.mk hst9; clear ho hb hgr hat hst9 x2; have x2 := blk_cell HST9.out.x 2; (try simp only [List.getElem?_toArray, List.getElem?_cons_zero, List.getElem?_cons_succ] at x2); have f2 := blk_frozen HST9.out.x 2))
       have hst := HST9.out.setX (.slice A71 (nk + 1) c71)
       rw [HC.out.1] at hst
       have hnext := HS.out.next HTI.out HWT.out hst
       have hA := HA.out
       clear HA HS hst HST9 HST8 HST7 HST5
       go_roundg (m - (i + 1))
       case measure => omega
       case rel => exact ⟨i + 1, (addR b T Gi).1, cs ++ [(addR b T Gi).2], L9, .slice Ac l1 cc, .slice Ad l2 cd, .slice A71 (nk + 1) c71, by push_cast; rfl, ⟨by omega, Nat.le_refl _⟩, ⟨hnext⟩⟩
      ·have cj : decide (i < m) = false := decide_eq_false hlt
       obtain rfl : i = m := by have := HA.out.1; omega
       have hdone : addR b (.node op n ks) G = putN Gi.1 Gi.2 ⟨op, n, cs⟩ := by
        have h1 := HS.out.rest
        rw [HM.out] at h1
        rw [addR, if_neg HV.out, h1.done]
       have HDN := Aside0.mk hdone
       have h61 := l6Put_any W0 wo L _ _ _ Gi.1 Gi.2 ⟨op, n, cs⟩ HS.out.st.gv.below HS.out.st.gv.s HS.out.st.gv.r HS.out.st.k (by have := HS.out.room; omega) HS.out.gi.len HS.out.gi.kids
       obtain ⟨c, hc⟩ : ∃ c, c = (putN Gi.1 Gi.2 ⟨op, n, cs⟩).2 := ⟨_, rfl⟩
       obtain ⟨l1, hl1⟩ : ∃ m, m = (putN Gi.1 Gi.2 ⟨op, n, cs⟩).1.1.length := ⟨_, rfl⟩
       obtain ⟨l2, hl2⟩ : ∃ m, m = (putN Gi.1 Gi.2 ⟨op, n, cs⟩).1.2.length := ⟨_, rfl⟩
       have HC := Aside0.mk (And.intro hc (And.intro hl1 hl2))
       have T61 := Aside0.mk h61
       have k0 := blk_cell HS.out.st.a 0
       have k1 := blk_cell HS.out.st.a 1
       have x0 := blk_cell HS.out.st.x 0
       have x1 := blk_cell HS.out.st.x 1
       have x2 := blk_cell HS.out.st.x 2
       try simp only [List.getElem?_toArray, List.getElem?_cons_zero, List.getElem?_cons_succ] at k0 k1 x0 x1 x2
       clear hdone h61 hlt HA hc hl1 hl2
       go_wp2_with (go_at_call 61; refine T61.out.mono ?_; rintro e w5 ⟨u0, u1, rfl, hs, hr, hb, hk⟩; obtain ⟨Ac, cc, rfl⟩ := Kd.S_slice hs; obtain ⟨Ad, cd, rfl⟩ := Kd.R_slice hr; have hput := HS.out.st.put hs hr hb hk (.slice Ac l1 cc) (.slice Ad l2 cd); have HPUT := Aside0.mk hput; rw [← HC.out.1, ← HC.out.2.1, ← HC.out.2.2]; clear hs hr hb hk k0 k1 x0 x1 x2; have z0 := blk_cell hput.1 0; have z1 := blk_cell hput.1 1; (try simp only [List.getElem?_toArray, List.getElem?_cons_zero, List.getElem?_cons_succ] at z0 z1); have f0 := blk_frozen hput.1 0; have f1 := blk_frozen hput.1 1; clear hput)
       obtain ⟨lab', hgv, hold, hkept⟩ := HPUT.out.2
       refine bodyPost_ret (results_ct (p := 8) (u := 9) rfl _ _ gz 32 #[.slice Ac l1 cc, .slice Ad l2 cd] (0, 0) _ rfl (blk_put (blk_put HPUT.out.1 0 _ rfl) 1 _ rfl) Try.underlying32 rfl (by kernel_rfl)) rfl ?_
       refine ⟨.slice Ac l1 cc, .slice Ad l2 cd, lab', by rw [HDN.out, ← HC.out.1]; rfl, ?_, hold, hkept⟩
       rw [HDN.out]
       rw [HC.out.2.1, HC.out.2.2] at hgv ⊢
       exact hgv
   rw [← hbn]
   exact key _ rfl (fun h => by
    rw [beq_iff_eq] at h
    by_cases hb : b = []
    ·rw [hbn, hb]; rfl
    ·exact absurd ⟨h, hb⟩ hv)
end Go.Proofs.Ytlnejmlphkpaaaa.PA
