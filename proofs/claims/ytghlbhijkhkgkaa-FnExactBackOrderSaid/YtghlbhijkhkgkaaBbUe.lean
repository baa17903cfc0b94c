/- The flow seat: impl.BackOrder by hand. -/
import Derived.Test.YtghlbhijkhkgkaaBbUe0
import Derived.Test.YtghlbhijkhkgkaaBbUd
import Derived.Laws.EntriesVeiled
namespace Go.Proofs.Ytghlbhijkhkgkaa.PA
open Go.RowKit Go.Proofs.YtghlbhijkhkgkaaW.PrintWords Go.Proofs.YtghlbhijkhkgkaaW.PrintLast Go.Proofs.YtghlbhijkhkgkaaW.PrintMore
set_option linter.unusedVariables false
theorem row_none (n : Nat) : List.replicate n false = rowF n (fun _ y => decide (y ∈ ([] : List Int))) 0 := List.ext_getElem (by simp [rowF]) fun k h1 h2 => by simp [rowF]
theorem bool_own {W : World} {B gb n cb : Nat} {ok : Nat → Prop} {xs : List Bool} (h : Kd.bool.R 4 W B ok (.slice (some ⟨gb, 0, none⟩) n cb) xs) : Kd.bool.R 4 W B (fun k => k = gb) (.slice (some ⟨gb, 0, none⟩) n cb) xs :=
  ⟨fun k hk => (by injection hk with hk; exact hk.symm), h.2.imp_ (fun _ _ hp => hp)⟩
theorem reverse_any (P0 : Nat → Prop) (u : Value) (l : List Int) (w0 w : World) (hl : l.length ≤ 1000) (hB : Below w0.heap.size w0 w) (ho : (Kd.int .i64).R 3 w w0.heap.size P0 u l) :
    Calls Try.prog 76 #[u] w fun e w' => e = .returned (.tuple #[]) ∧ (Kd.int .i64).R 3 w' w0.heap.size (fun k => P0 k ∨ w.heap.size ≤ k) u l.reverse ∧ Below w0.heap.size w0 w' ∧ Kept w w' (fun k => P0 k) := by
  have h0 := rev_l0 l hl l.length 0 l (by omega) (by omega) rfl (fun j hj => by rw [if_neg (by omega)]) (wrap64 ((l.length : Int) - 1)) (by unfold wrap64; omega)
  obtain ⟨k, hk⟩ := Ev.rounds h0
  exact slices_Reverse_int_int.calls k P0 u l _ w0 w hB ho hk
theorem inv0_ {P : Program} {ops : Array Oper} {Q : Exit → Act → World → Prop} {md : Region.Mode} {S : World → Prop} {a : Act} {w : World} {l : Array Bool} {fuel : Nat} (Inv : Act → Array Bool → Act → World → Prop) (h0 : Inv a l a w) (hc : cntF l ≤ fuel) (hS : ∀ l' a' w', Inv a l' a' w' → S w')
    (hstep : ∀ l' a' w', Inv a l' a' w' → ∀ i ∈ Region.ready md ops l', ∀ o, ops[i]? = some o → ∀ K' : Act → World → Prop, (∀ a'' w'', Inv a (l'.setIfInBounds i true) a'' w'' → K' a'' w'') → if Region.wanted o (yielded ops a'.tmps) = true then Oper.wp P o a' w' K' Q else K' (a'.put o.dst undef) w')
    (hfin : ∀ l' a' w', Inv a l' a' w' → Region.ready md ops l' = [] → Q .normal a' w') :
    wpAnyLast P md ops Q S [] fuel l a w := inv_ (Inv a) hS hfin hstep fuel l a w hc h0
set_option maxHeartbeats 8000000 in
set_option maxRecDepth 100000 in
theorem implBackOrder_any {A : Option Addr} {c : Nat} (p : Int) (bs : List S87) (w : World) (hr : Kd.C k87 w A bs.length bs) (hc : bs.length ≤ c) :
    Calls Try.prog 34 #[.agg #[.int .i64 p, .slice A bs.length c]] w fun e w' => ∃ v0 : Value, e = .returned (.tuple #[v0, .bool (ansBackOrder p bs).2]) ∧ (Kd.int .i64).R 3 w' w.heap.size (fun _ => True) v0 (ansBackOrder p bs).1 ∧ Below w.heap.size w w' := by
  have W1 := below_alloc (Below.refl w.heap.size w) (.cells #[.int .i64 p, .slice A bs.length c] 30)
  rcases Bool.eq_false_or_eq_true (goodB p bs) with hg | hg
  · have hcall := Aside0.mk (viewOf_yes (c := c) p bs (w.alloc (.cells #[.int .i64 p, .slice A bs.length c] 30)) (Kd.C_below hr W1) hc hg)
    have hgr := rows_of_good hg
    have hm := Kd.C_max hr
    have HOK := Aside0.mk (rows_ok hgr)
    have HGJ := Aside0.mk (show ∀ b ∈ bs, b.f4.length ≤ 2 from fun b hb => by obtain ⟨k, hk, rfl⟩ := List.getElem_of_mem hb; have := hgr.two k hk; rwa [rd_nat bs k hk] at this)
    have HST := Aside0.mk (dfs_start bs.length)
    have HANS := Aside0.mk (show ansBackOrder p bs = ((dfs (nextL bs) bs.length 0 ([], [])).2, true) by rw [ansBackOrder, if_pos hg])
    have HAL := Aside0.mk (show (dfs (nextL bs) bs.length 0 ([], [])).2.length ≤ 1000 by have := ansBackOrder_len p bs; rwa [HANS.out] at this)
    obtain ⟨next, hnx⟩ : ∃ z, z = nextL bs := ⟨_, rfl⟩
    have hnl := nextL_len bs
    have T64 := Aside0.mk (fun W gv (hv : View W gv p A bs c (firstsF p bs bs.length) (blocksF p bs bs.length) (totF p bs bs.length)) => (next_any p gv bs W hv hgr.len HGJ.out))
    rw [← hnx] at HOK HANS hnl T64 HAL
    obtain ⟨n, hn⟩ : ∃ n, n = bs.length := ⟨_, rfl⟩
    have HN := Aside0.mk hn
    have H1 := Aside0.mk (show 0 < n by rw [hn]; exact hgr.one)
    have H8 := Aside0.mk (show n ≤ 8 by rw [hn]; exact hgr.len)
    have HNL := Aside0.mk (show next.length = n by rw [hn]; exact hnl)
    rw [← hn] at HANS HST HAL T64
    clear hr hc hg hgr W1 hnl hnx HGJ hn
    go_enter Try.func34, Try.ntmps34
    go_wp2_with (go_at_call 56; refine (hcall.out).mono ?_; rintro e w1 ⟨gv, rfl, hb, hview⟩; have HV1 := Aside0.mk hview; have y1 := hview.cell1; have HB1 := Aside0.mk (below_step (below_alloc (Below.refl w.heap.size w) _) hb); clear hb hview hcall)
    rw [← HN.out] at y1
    obtain ⟨w0, hw0⟩ : ∃ z : World, z = w1 := ⟨_, rfl⟩
    refine start_ (n := 16) (S := fun w' => w'.cell? ⟨gv, 1, none⟩ = some (.slice A n c)) (ds := []) #[false, false, false, false, false, false, false, false, false, false, false, false, false, false, false, false] (by kernel_rfl) rfl rfl (by simpa using y1) (fun hHeld => ?_)
    have HB5 := Aside0.mk (show Below w1.heap.size w1 w1.drew from below_drew1 (Below.refl _ _))
    generalize w1.drew = w5 at HB5 hHeld ⊢
    refine pure_ (i := 0) (N := some 13) (v := ?_) (a' := ?_) #[true, false, false, false, false, false, false, false, false, false, false, false, false, false, false, false] rfl rfl (by kernel_rfl) (fun _ _ _ h => h) (Or.inl ⟨by rfl, ?_⟩) ?_ ?_
    rotate_left
    · intro w'
      go_simp
      with_reducible rfl
    rotate_left
    · simp only [Act.put, List.setIfInBounds_toArray, List.set_cons_zero, List.set_cons_succ]
      rfl
    refine pure_ (i := 2) (N := some 15) (v := ?_) (a' := ?_) #[true, false, true, false, false, false, false, false, false, false, false, false, false, false, false, false] rfl rfl (by kernel_rfl) (fun _ _ _ h => h) (Or.inl ⟨by rfl, ?_⟩) ?_ ?_
    rotate_left
    · intro w'
      go_simp
      with_reducible rfl
    rotate_left
    · simp only [Act.put, List.setIfInBounds_toArray, List.set_cons_zero, List.set_cons_succ]
      rfl
    refine pure_ (i := 3) (N := some 16) (v := ?_) (a' := ?_) #[true, false, true, true, false, false, false, false, false, false, false, false, false, false, false, false] rfl rfl (by kernel_rfl) (fun _ _ _ h => h) (Or.inl ⟨by rfl, ?_⟩) ?_ ?_
    rotate_left
    · intro w'
      go_simp
      with_reducible rfl
    rotate_left
    · simp only [Act.put, List.setIfInBounds_toArray, List.set_cons_zero, List.set_cons_succ]
      rfl
    refine pure_ (i := 4) (N := some 17) (v := ?_) (a' := ?_) #[true, false, true, true, true, false, false, false, false, false, false, false, false, false, false, false] rfl rfl (by kernel_rfl) (fun _ _ _ h => h) (Or.inl ⟨by rfl, ?_⟩) ?_ ?_
    rotate_left
    · intro w'
      go_simp
      with_reducible rfl
    rotate_left
    · simp only [Act.put, List.setIfInBounds_toArray, List.set_cons_zero, List.set_cons_succ]
      rfl
    refine pure_ (i := 5) (N := some 18) (v := ?_) (a' := ?_) #[true, false, true, true, true, true, false, false, false, false, false, false, false, false, false, false] rfl rfl (by kernel_rfl) (fun _ _ _ h => h) (Or.inl ⟨by rfl, ?_⟩) ?_ ?_
    rotate_left
    · intro w'
      go_simp
      with_reducible rfl
    rotate_left
    · simp only [Act.put, List.setIfInBounds_toArray, List.set_cons_zero, List.set_cons_succ]
      rfl
    refine take_ (i := 6) (N := some 19) (v := ?_) (a' := ?_) #[true, false, true, true, true, true, true, false, false, false, false, false, false, false, false, false] rfl rfl (by kernel_rfl) (fun _ _ _ h => h) (Or.inl ⟨by rfl, ?_⟩) hHeld ?_ ?_
    rotate_left
    · intro w' hw'
      go_simp
      with_reducible rfl
    rotate_left
    · simp only [Act.put, List.setIfInBounds_toArray, List.set_cons_zero, List.set_cons_succ]
      rfl
    refine pure_ (i := 7) (N := some 20) (v := ?_) (a' := ?_) #[true, false, true, true, true, true, true, true, false, false, false, false, false, false, false, false] rfl rfl (by kernel_rfl) (fun _ _ _ h => h) (Or.inl ⟨by rfl, ?_⟩) ?_ ?_
    rotate_left
    · intro w'
      go_simp
      with_reducible rfl
    rotate_left
    · simp only [Act.put, List.setIfInBounds_toArray, List.set_cons_zero, List.set_cons_succ]
      rfl
    clear hHeld y1
    have h8 := H8.out
    refine inv0_ (fun a0 l a W => ∃ (b1 b8 b9 b10 b11 b12 b13 b14 b15 : Bool) (x5 x6 x7 x14 x21 x22 : Value) (lab : Nat → Nat), l = #[true, b1, true, true, true, true, true, true, b8, b9, b10, b11, b12, b13, b14, b15] ∧ a = putAll a0 [(5, x5), (6, x6), (7, x7), (14, x14), (21, x21), (22, x22)] ∧ BoR next n w1.heap.size w1 b1 b8 b9 b10 b11 b12 b13 b14 b15 x5 x6 x7 x14 x21 x22 lab W) ?h0 (Nat.le_of_eq (by kernel_rfl)) ?hS ?hstep ?hfin
    case h0 => exact ⟨false, false, false, false, false, false, false, false, false, undef, undef, undef, undef, undef, undef, fun _ => 0, rfl, rfl, ⟨HB5.out, HB5.out.size, fun h => (by cases h), fun h => (by cases h), fun h => (by cases h), fun h => (by cases h), fun h => (by cases h), fun h => (by cases h), fun h => (by cases h), fun h => (by cases h), fun h => (by cases h)⟩⟩
    case hS =>
      rintro l a W ⟨b1, b8, b9, b10, b11, b12, b13, b14, b15, x5, x6, x7, x14, x21, x22, lab, rfl, rfl, hR⟩
      have := (HV1.out.below hR.below).cell1
      rw [← HN.out] at this
      exact this
    case hstep =>
      rintro l a W ⟨b1, b8, b9, b10, b11, b12, b13, b14, b15, x5, x6, x7, x14, x21, x22, lab, rfl, ha, hR⟩ i hi o ho K hK
      simp only [putAll, Act.put, List.setIfInBounds_toArray, List.set_cons_zero, List.set_cons_succ] at ha
      subst ha
      have hun := (mem_ready.1 hi).1
      have hge : w1.heap.size ≤ W.heap.size := hR.below.size
      have hi16 : i = 0 ∨ i = 1 ∨ i = 2 ∨ i = 3 ∨ i = 4 ∨ i = 5 ∨ i = 6 ∨ i = 7 ∨ i = 8 ∨ i = 9 ∨ i = 10 ∨ i = 11 ∨ i = 12 ∨ i = 13 ∨ i = 14 ∨ i = 15 := by
        have h16 := (getD_false hun).1
        have h16' : i < 16 := h16
        clear hun hi ho hK h16
        omega
      rcases hi16 with rfl | rfl | rfl | rfl | rfl | rfl | rfl | rfl | rfl | rfl | rfl | rfl | rfl | rfl | rfl | rfl
      · cases hun
      · have e0 : b1 = false := hun
        subst e0
        obtain rfl := Option.some.inj ho
        refine goes_ Try.func64 (by kernel_rfl) rfl #[.pointer (some ⟨gv, 0, none⟩)] (by rfl) rfl rfl (by (try simp only [List.map_toArray, List.map_cons, List.map_nil]); first | done | rfl) ?_
        refine (T64.out W gv (by have := HV1.out.below hR.below; rwa [← HN.out] at this)).mono ?_
        rintro e W' ⟨gn, capn, H, rfl, hcap, hnx⟩
        have h' := hR.grow hnx.below 1
        refine ⟨_, rfl, hK _ _ ⟨true, b8, b9, b10, b11, b12, b13, b14, b15, x5, x6, x7, .slice (some ⟨gn, 0, none⟩) n capn, x21, x22, labOn W lab 1, rfl, ?ha, ?hR⟩⟩
        case ha =>
          show Act.put _ (some 14) _ = _
          simp only [putAll, Act.put, List.setIfInBounds_toArray, List.set_cons_zero, List.set_cons_succ]
        case hR => exact ⟨h'.below, h'.n0, fun _ => ⟨gn, capn, W.heap.size, H, rfl, hcap, hge, RW.of_NX hnx, fun k h1 h2 => labOn_new h1⟩, h'.f8, h'.f9, fun h0 => (h'.f10 h0).off (by cases b13; rfl; exact absurd (h'.o13 rfl).1 (by simp)), h'.f11, h'.f12, fun h0 => ⟨rfl, (h'.o13 h0).2⟩, h'.o14, h'.o15⟩
      · cases hun
      · cases hun
      · cases hun
      · cases hun
      · cases hun
      · cases hun
      · have e0 : b8 = false := hun
        subst e0
        obtain rfl := Option.some.inj ho
        refine Kd.R_make_step Kd.bool _ 4 (by rfl) (N := 21) rfl 69 _ _ rfl (n : Int) rfl rfl Try.underlying69 (.bool false) 1 info4 rfl (by decide) (by omega) false (ok := fun k => W.heap.size ≤ k) (okp := fun _ => False) rfl (fun _ hk => hk.elim) (Nat.le_refl _) (by omega) (by simp; omega) (Below.refl W.heap.size W) (Nat.le_refl _) ?_
        intro v21 W' ho2 hb hg_ hnew_
        rw [Int.toNat_natCast] at ho2
        have h' := hR.grow hb 2
        refine hK _ _ ⟨b1, true, b9, b10, b11, b12, b13, b14, b15, x5, x6, x7, x14, v21, x22, labOn W lab 2, rfl, ?ha, ?hR⟩
        case ha =>
          show Act.put _ (some 21) _ = _
          simp only [putAll, Act.put, List.setIfInBounds_toArray, List.set_cons_zero, List.set_cons_succ]
        case hR => exact ⟨h'.below, h'.n0, h'.f1, fun _ => Kd.R_lower (Kd.R_mono ho2 (fun k hk => labOn_new hk)) hge, h'.f9, h'.f10, fun h0 => (h'.f11 h0).off (by cases b14; rfl; exact absurd (h'.o14 rfl).1 (by simp)), h'.f12, h'.o13, fun h0 => ⟨rfl, (h'.o14 h0).2⟩, h'.o15⟩
      · have e0 : b9 = false := hun
        subst e0
        obtain rfl := Option.some.inj ho
        refine Kd.R_lit_step (Kd.int .i64) W.heap.size 3 (by rfl) (N := 22) rfl (xs := ([] : List Int)) (inner := []) (ok := fun k => W.heap.size ≤ k) (okp := fun _ => False) ?hr (Reps.none _ _) (fun _ hk => hk.elim) (Nat.le_refl _) (Below.refl W.heap.size W) (Nat.le_refl _) (by simp) ?_
        case hr => first | (go_simp; done) | (go_simp; rfl)
        intro v22 W' ho2 hb hg_ hnew_
        have h' := hR.grow hb 3
        refine hK _ _ ⟨b1, b8, true, b10, b11, b12, b13, b14, b15, x5, x6, x7, x14, x21, v22, labOn W lab 3, rfl, ?ha, ?hR⟩
        case ha =>
          show Act.put _ (some 22) _ = _
          simp only [putAll, Act.put, List.setIfInBounds_toArray, List.set_cons_zero, List.set_cons_succ]
        case hR => exact ⟨h'.below, h'.n0, h'.f1, h'.f8, fun _ => Kd.R_lower (Kd.R_mono ho2 (fun k hk => labOn_new hk)) hge, h'.f10, h'.f11, fun h0 => (h'.f12 h0).off (by cases b15; rfl; exact absurd (h'.o15 rfl).1 (by simp)), h'.o13, h'.o14, fun h0 => ⟨rfl, (h'.o15 h0).2⟩⟩
      · have e0 : b10 = false := hun
        subst e0
        obtain rfl := Option.some.inj ho
        refine box_step (by rfl) (N := 5) rfl (cs := #[.slice none 0 0]) (t := 42) ?hr ?_
        case hr => first | (go_simp; done) | (go_simp; rfl)
        intro g hg W' h1 hb
        subst hg
        have h' := hR.grow hb 4
        have e1 : b13 = false := by cases b13; rfl; exact absurd (h'.o13 rfl).2 (by simp)
        subst e1
        refine hK _ _ ⟨b1, b8, b9, true, b11, b12, false, b14, b15, .pointer (some ⟨W.heap.size, 0, none⟩), x6, x7, x14, x21, x22, labOn W lab 4, rfl, ?ha, ?hR⟩
        case ha =>
          show Act.put _ (some 5) _ = _
          simp only [putAll, Act.put, List.setIfInBounds_toArray, List.set_cons_zero, List.set_cons_succ]
        case hR => exact ⟨h'.below, h'.n0, h'.f1, h'.f8, h'.f9, fun _ => BoCell.new hge h1 rfl, h'.f11, h'.f12, fun h0 => (by cases h0), h'.o14, h'.o15⟩
      · have e0 : b11 = false := hun
        subst e0
        obtain rfl := Option.some.inj ho
        refine box_step (by rfl) (N := 6) rfl (cs := #[.slice none 0 0]) (t := 69) ?hr ?_
        case hr => first | (go_simp; done) | (go_simp; rfl)
        intro g hg W' h1 hb
        subst hg
        have h' := hR.grow hb 5
        have e1 : b14 = false := by cases b14; rfl; exact absurd (h'.o14 rfl).2 (by simp)
        subst e1
        refine hK _ _ ⟨b1, b8, b9, b10, true, b12, b13, false, b15, x5, .pointer (some ⟨W.heap.size, 0, none⟩), x7, x14, x21, x22, labOn W lab 5, rfl, ?ha, ?hR⟩
        case ha =>
          show Act.put _ (some 6) _ = _
          simp only [putAll, Act.put, List.setIfInBounds_toArray, List.set_cons_zero, List.set_cons_succ]
        case hR => exact ⟨h'.below, h'.n0, h'.f1, h'.f8, h'.f9, h'.f10, fun _ => BoCell.new hge h1 rfl, h'.f12, h'.o13, fun h0 => (by cases h0), h'.o15⟩
      · have e0 : b12 = false := hun
        subst e0
        obtain rfl := Option.some.inj ho
        refine box_step (by rfl) (N := 7) rfl (cs := #[.slice none 0 0]) (t := 34) ?hr ?_
        case hr => first | (go_simp; done) | (go_simp; rfl)
        intro g hg W' h1 hb
        subst hg
        have h' := hR.grow hb 6
        have e1 : b15 = false := by cases b15; rfl; exact absurd (h'.o15 rfl).2 (by simp)
        subst e1
        refine hK _ _ ⟨b1, b8, b9, b10, b11, true, b13, b14, false, x5, x6, .pointer (some ⟨W.heap.size, 0, none⟩), x14, x21, x22, labOn W lab 6, rfl, ?ha, ?hR⟩
        case ha =>
          show Act.put _ (some 7) _ = _
          simp only [putAll, Act.put, List.setIfInBounds_toArray, List.set_cons_zero, List.set_cons_succ]
        case hR => exact ⟨h'.below, h'.n0, h'.f1, h'.f8, h'.f9, h'.f10, h'.f11, fun _ => BoCell.new hge h1 rfl, h'.o13, h'.o14, fun h0 => (by cases h0)⟩
      · have e0 : b13 = false := hun
        have hps := ready_pred hi (ps := [10, 1, 1, 0, 1, 10, 11, 12]) (by kernel_rfl)
        have e1 : b1 = true := hps 1 (by simp)
        have e2 : b10 = true := hps 10 (by simp)
        clear hps
        subst e0 e1 e2
        obtain rfl := Option.some.inj ho
        obtain ⟨g, z, hx, hN, hl, hz, hzb⟩ := hR.f10 rfl
        have hput := hR.put13 hx
        obtain ⟨gn, capn, Bn, Hn, ex, _⟩ := hR.f1 rfl
        subst hx
        have y0 := blk_cell hz 0
        have y1 := blk_frozen hz 0
        rw [ex] at hput ⊢
        refine skip_ (by rfl) rfl (w1 := W.setCell ⟨g, 0, none⟩ _) ?hr (hK _ _ ⟨true, b8, b9, true, b11, b12, true, b14, b15, _, x6, x7, _, x21, x22, lab, rfl, ?ha, hput⟩)
        try (case ha => simp only [putAll, Act.put, List.setIfInBounds_toArray, List.set_cons_zero, List.set_cons_succ])
        case hr => first | (go_simp; done) | (go_simp; rfl)
      · have e0 : b14 = false := hun
        have hps := ready_pred hi (ps := [11, 8, 13, 0, 1, 2, 3, 4, 5, 6, 7, 8, 10, 11, 12, 13]) (by kernel_rfl)
        have e1 : b8 = true := hps 8 (by simp)
        have e2 : b11 = true := hps 11 (by simp)
        clear hps
        subst e0 e1 e2
        obtain rfl := Option.some.inj ho
        obtain ⟨g, z, hx, hN, hl, hz, hzb⟩ := hR.f11 rfl
        have hput := hR.put14 hx
        obtain ⟨Ax, cx, ex⟩ := Kd.R_slice (hR.f8 rfl)
        subst hx
        have y0 := blk_cell hz 0
        have y1 := blk_frozen hz 0
        rw [ex] at hput ⊢
        refine skip_ (by rfl) rfl (w1 := W.setCell ⟨g, 0, none⟩ _) ?hr (hK _ _ ⟨b1, true, b9, b10, true, b12, b13, true, b15, x5, _, x7, x14, _, x22, lab, rfl, ?ha, hput⟩)
        try (case ha => simp only [putAll, Act.put, List.setIfInBounds_toArray, List.set_cons_zero, List.set_cons_succ])
        case hr => first | (go_simp; done) | (go_simp; rfl)
      · have e0 : b15 = false := hun
        have hps := ready_pred hi (ps := [12, 9, 14, 0, 1, 2, 3, 4, 5, 6, 7, 8, 9, 10, 11, 12, 13, 14]) (by kernel_rfl)
        have e1 : b9 = true := hps 9 (by simp)
        have e2 : b12 = true := hps 12 (by simp)
        clear hps
        subst e0 e1 e2
        obtain rfl := Option.some.inj ho
        obtain ⟨g, z, hx, hN, hl, hz, hzb⟩ := hR.f12 rfl
        have hput := hR.put15 hx
        obtain ⟨Ax, cx, ex⟩ := Kd.R_slice (hR.f9 rfl)
        subst hx
        have y0 := blk_cell hz 0
        have y1 := blk_frozen hz 0
        rw [ex] at hput ⊢
        refine skip_ (by rfl) rfl (w1 := W.setCell ⟨g, 0, none⟩ _) ?hr (hK _ _ ⟨b1, b8, true, b10, b11, true, b13, b14, true, x5, x6, _, x14, x21, _, lab, rfl, ?ha, hput⟩)
        try (case ha => simp only [putAll, Act.put, List.setIfInBounds_toArray, List.set_cons_zero, List.set_cons_succ])
        case hr => first | (go_simp; done) | (go_simp; rfl)
    case hfin =>
      rintro l a W ⟨b1, b8, b9, b10, b11, b12, b13, b14, b15, x5, x6, x7, x14, x21, x22, lab, rfl, ha, hR⟩ hrd
      simp only [putAll, Act.put, List.setIfInBounds_toArray, List.set_cons_zero, List.set_cons_succ] at ha
      subst ha
      have hno := List.eq_nil_iff_forall_not_mem.1 hrd
      have e1 : b1 = true := by
        cases b1 with
        | true => rfl
        | false => exact absurd (pred_ready (i := 1) rfl (ps := [0]) (by kernel_rfl) rfl (by intro p hp; rcases List.mem_cons.1 hp with rfl | hp; rfl; cases hp)) (hno 1)
      subst e1
      have e10 : b10 = true := by
        cases b10 with
        | true => rfl
        | false => exact absurd (pred_ready (i := 10) rfl (ps := []) (by kernel_rfl) rfl (by intro p hp; cases hp)) (hno 10)
      subst e10
      have e11 : b11 = true := by
        cases b11 with
        | true => rfl
        | false => exact absurd (pred_ready (i := 11) rfl (ps := []) (by kernel_rfl) rfl (by intro p hp; cases hp)) (hno 11)
      subst e11
      have e12 : b12 = true := by
        cases b12 with
        | true => rfl
        | false => exact absurd (pred_ready (i := 12) rfl (ps := []) (by kernel_rfl) rfl (by intro p hp; cases hp)) (hno 12)
      subst e12
      have e9 : b9 = true := by
        cases b9 with
        | true => rfl
        | false => exact absurd (pred_ready (i := 9) rfl (ps := []) (by kernel_rfl) rfl (by intro p hp; cases hp)) (hno 9)
      subst e9
      have e8 : b8 = true := by
        cases b8 with
        | true => rfl
        | false => exact absurd (pred_ready (i := 8) rfl (ps := [7, 7]) (by kernel_rfl) rfl (by intro p hp; rcases List.mem_cons.1 hp with rfl | hp; rfl; rcases List.mem_cons.1 hp with rfl | hp; rfl; cases hp)) (hno 8)
      subst e8
      have e13 : b13 = true := by
        cases b13 with
        | true => rfl
        | false => exact absurd (pred_ready (i := 13) rfl (ps := [10, 1, 1, 0, 1, 10, 11, 12]) (by kernel_rfl) rfl (by intro p hp; (repeat (rcases List.mem_cons.1 hp with rfl | hp; rfl)); cases hp)) (hno 13)
      subst e13
      have e14 : b14 = true := by
        cases b14 with
        | true => rfl
        | false => exact absurd (pred_ready (i := 14) rfl (ps := [11, 8, 13, 0, 1, 2, 3, 4, 5, 6, 7, 8, 10, 11, 12, 13]) (by kernel_rfl) rfl (by intro p hp; (repeat (rcases List.mem_cons.1 hp with rfl | hp; rfl)); cases hp)) (hno 14)
      subst e14
      have e15 : b15 = true := by
        cases b15 with
        | true => rfl
        | false => exact absurd (pred_ready (i := 15) rfl (ps := [12, 9, 14, 0, 1, 2, 3, 4, 5, 6, 7, 8, 9, 10, 11, 12, 13, 14]) (by kernel_rfl) rfl (by intro p hp; (repeat (rcases List.mem_cons.1 hp with rfl | hp; rfl)); cases hp)) (hno 15)
      subst e15
      clear hno hrd
      have h1 := H1.out
      obtain ⟨gn, capn, Bn, Hn, ex14, hcap, hBn, hrw, hln⟩ := hR.f1 rfl
      have hb8 := hR.f8 rfl
      have hb9 := hR.f9 rfl
      obtain ⟨g2, z2, ex5, hg2, hl2, hc2, hz2⟩ := hR.f10 rfl
      obtain ⟨g1, z1, ex6, hg1, hl1, hc1, hz1⟩ := hR.f11 rfl
      obtain ⟨g4, z4, ex7, hg4, hl4, hc4, hz4⟩ := hR.f12 rfl
      have hz2 := hz2 rfl
      have hz1 := hz1 rfl
      have hz4 := hz4 rfl
      subst hz2 hz1 hz4
      obtain ⟨gb, cb, ex21, hgb, hgbH, cellsb, hcb⟩ := Kd.R_form hb8 (by simp; omega)
      rw [List.length_replicate] at ex21
      obtain ⟨A22, c22, ex22⟩ := Kd.R_slice hb9
      subst ex14 ex5 ex6 ex7 ex21 ex22
      have hlb : lab gb = 2 := hb8.1 gb rfl
      have HB8 := Aside0.mk hR.below
      have HRW := Aside0.mk hrw
      have HLN := Aside0.mk hln
      have HB2 := Aside0.mk hb8
      have HB9 := Aside0.mk hb9
      have HC1 := Aside0.mk hc1
      have HC2 := Aside0.mk hc2
      have HC4 := Aside0.mk hc4
      have HBN := Aside0.mk hBn
      have HCAP := Aside0.mk hcap
      have HG := Aside0.mk (And.intro hgb (And.intro hgbH (And.intro hg1 (And.intro hg2 hg4))))
      have HLB := Aside0.mk (And.intro hlb (And.intro hl1 (And.intro hl2 hl4)))
      clear hR hrw hln hb8 hb9 hcb hc1 hc2 hc4 hBn hcap hgb hgbH hg1 hg2 hg4 hlb hl1 hl2 hl4 h1
      have lt1 := blk_lt HC1.out
      have lt2 := blk_lt HC2.out
      have lt4 := blk_lt HC4.out
      have ltw := HRW.out.hW
      have l1 := HLB.out.1
      have l2 := HLB.out.2.1
      have l3 := HLB.out.2.2.1
      have l4 := HLB.out.2.2.2
      have hln := HLN.out
      have hgbH := HG.out.2.1
      have OK := Aside0.mk (show (BoAt.mk g1 g2 W.heap.size g4 gb cb gn capn Bn Hn n w1.heap.size).Ok from ⟨fun h => by
          rcases h with h | h | h | h <;> dsimp only at h
          · rw [h] at l1; omega
          · rw [h] at l1; omega
          · omega
          · have := hln gb h.1 h.2; omega, fun h => by
          rcases h with h | h | h | h <;> dsimp only at h
          · rw [h] at l4; omega
          · rw [h] at l4; omega
          · omega
          · have := hln g4 h.1 h.2; omega, fun h => by dsimp only at h; rw [h] at l1; omega, HG.out.1, HG.out.2.2.2.2, H8.out, HCAP.out⟩)
      obtain ⟨W2, hW2⟩ : ∃ z, z = W.alloc (.cells #[(.func (.func 75) #[] #[.pointer (some ⟨g1, 0, none⟩), .pointer (some ⟨g2, 0, none⟩), .pointer (some ⟨W.heap.size, 0, none⟩), .pointer (some ⟨g4, 0, none⟩)])] 73) := ⟨_, rfl⟩
      have hb2 : Below W.heap.size W W2 := by rw [hW2]; exact below_alloc (Below.refl _ _) _
      have hc3 : W2.cell? ⟨W.heap.size, 0, none⟩ = some (.func (.func 75) #[] #[.pointer (some ⟨g1, 0, none⟩), .pointer (some ⟨g2, 0, none⟩), .pointer (some ⟨W.heap.size, 0, none⟩), .pointer (some ⟨g4, 0, none⟩)]) := by rw [hW2, blk_cell (blk_new W _) 0]; rfl
      have HFX : BoFix (BoAt.mk g1 g2 W.heap.size g4 gb cb gn capn Bn Hn n w1.heap.size) next W2 := ⟨pw_cell_below hb2 (by rw [blk_cell HC1.out 0]; rfl), pw_cell_below hb2 (by rw [blk_cell HC2.out 0]; rfl), hc3, HRW.out.later hb2⟩
      have HDX : BoDyn (BoAt.mk g1 g2 W.heap.size g4 gb cb gn capn Bn Hn n w1.heap.size) ([], []) W2 := ⟨by
          show Kd.bool.R 4 W2 w1.heap.size (fun k => k = gb) (.slice (some ⟨gb, 0, none⟩) n cb) (rowF n (fun _ y => decide (y ∈ ([] : List Int))) 0)
          rw [← row_none]; exact Kd.R_below (bool_own HB2.out) hb2, A22, c22, blk_below HC4.out hb2, Kd.R_below (Kd.R_mono (Kd.R_bound HB9.out) (fun k hk => ⟨fun h => by
          have hk1 := hk.1
          have hk2 := hk.2.2.1
          rcases h with h | h | h | h <;> dsimp only at h
          · rw [h] at hk1; omega
          · rw [h] at hk1; omega
          · omega
          · have := hln k h.1 h.2; omega, fun h => by have hk1 := hk.1; dsimp only at h; rw [h] at hk1; omega, fun h => by have hk1 := hk.1; dsimp only at h; rw [h] at hk1; omega⟩)) hb2⟩
      have T75 := Aside0.mk (visit_any next w1 g1 g2 W.heap.size g4 gb cb gn capn Bn Hn n w1.heap.size rfl OK.out HOK.out HNL.out n 0 ([], []) W2 ⟨Int.le_refl _, by have := H1.out; omega⟩ (by simp) HST.out.1 HST.out.2 HFX HDX (HB8.out.trans (hb2.mono HB8.out.size)))
      subst hW2
      clear HFX HDX hc3 hb2 lt1 lt2 lt4 ltw l1 l2 l3 l4 hln hgbH HLN HRW HB2 HB9 HC1 HC2 HC4 HBN HG HLB HCAP
      have eg : ∀ args W, (callFunc 75 args).run Try.prog W = .ok (.enter 75 args) W := enters_fn Try.func75 (by kernel_rfl) (by kernel_rfl)
      go_wp2_with (first | (go_at_fn 75; refine (T75.out).mono ?_; rintro e w7 ⟨rfl, h7, h8, h9⟩; obtain ⟨A7, c7, z7, hO7⟩ := h7.ord; have y7 : w7.cell? ⟨g4, 0, none⟩ = some (.slice A7 (dfs next n 0 ([], [])).2.length c7) := (by rw [blk_cell z7 0]; rfl); have HO7 := Aside0.mk hO7; have HB7 := Aside0.mk h9; clear h7 h8 h9 z7 hO7 T75) | (go_at_call 76; refine (reverse_any _ _ _ w1 _ (by rw [List.length_reverse]; exact HAL.out) HB7.out HO7.out).mono ?_; rintro e w8 ⟨rfl, hr1, hr2, hr3⟩; have y8 := cell_kept y7 hr3 (fun h => h.2.2 rfl); have HO8 := Aside0.mk hr1; have HB9 := Aside0.mk hr2; clear hr1 hr2 hr3 y7))
      go_ret2
      refine ⟨_, by rw [HANS.out]; rfl, ?_, HB1.out.trans (HB9.out.mono HB1.out.size)⟩
      rw [HANS.out]
      have := HO8.out
      rw [List.reverse_reverse] at this
      exact Kd.R_lower (Kd.R_mono this (fun _ _ => trivial)) HB1.out.size
  · have hcall := Aside0.mk (viewOf_no (c := c) p bs (w.alloc (.cells #[.int .i64 p, .slice A bs.length c] 30)) (Kd.C_below hr W1) hc hg)
    have HA := Aside0.mk (show ansBackOrder p bs = ([], false) by rw [ansBackOrder, hg]; rfl)
    clear hr hc hg W1
    go_enter Try.func34, Try.ntmps34
    go_wp2_with (go_at_call 56; refine (hcall.out).mono ?_; rintro e w1 ⟨rfl, hb⟩; have HB1 := Aside0.mk (below_step (below_alloc (Below.refl w.heap.size w) _) hb); clear hb hcall)
    go_ret2
    exact ⟨_, by rw [HA.out]; rfl, by rw [HA.out]; exact Kd.R_nil _ _ _ _ _, HB1.out⟩
end Go.Proofs.Ytghlbhijkhkgkaa.PA
