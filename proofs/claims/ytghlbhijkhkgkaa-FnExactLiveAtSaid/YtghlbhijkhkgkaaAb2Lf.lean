/- The flow seat: impl.LiveAt by hand. -/
import Derived.Test.YtghlbhijkhkgkaaAb2Le
import Derived.Test.YtghlbhijkhkgkaaAb2Ue0
import Derived.Test.YtghlbhijkhkgkaaAb2Ml
namespace Go.Proofs.Ytghlbhijkhkgkaa.PA
open Go.RowKit Go.Proofs.YtghlbhijkhkgkaaW.PrintWords Go.Proofs.YtghlbhijkhkgkaaW.PrintLast Go.Proofs.YtghlbhijkhkgkaaW.PrintMore
set_option linter.unusedVariables false
theorem inv0_ {P : Program} {ops : Array Oper} {Q : Exit → Act → World → Prop} {md : Region.Mode} {S : World → Prop} {a : Act} {w : World} {l : Array Bool} {fuel : Nat} (Inv : Act → Array Bool → Act → World → Prop) (h0 : Inv a l a w) (hc : cntF l ≤ fuel) (hS : ∀ l' a' w', Inv a l' a' w' → S w')
    (hstep : ∀ l' a' w', Inv a l' a' w' → ∀ i ∈ Region.ready md ops l', ∀ o, ops[i]? = some o → ∀ K' : Act → World → Prop, (∀ a'' w'', Inv a (l'.setIfInBounds i true) a'' w'' → K' a'' w'') → if Region.wanted o (yielded ops a'.tmps) = true then Oper.wp P o a' w' K' Q else K' (a'.put o.dst undef) w')
    (hfin : ∀ l' a' w', Inv a l' a' w' → Region.ready md ops l' = [] → Q .normal a' w') :
    wpAnyLast P md ops Q S [] fuel l a w := inv_ (Inv a) hS hfin hstep fuel l a w hc h0
/-- What the region of live and next has made so far. -/
structure LvR (next : List (List Int)) (n N0 gv g6 : Nat) (w1 : World) (b6 b8 b9 b10 b11 : Bool) (x7 x8 x37 x39 : Value) (lab : Nat → Nat) (W : World) : Prop where
  below : Below N0 w1 W
  n0 : N0 ≤ W.heap.size
  c6 : W.heap[g6]? = some (.cells #[.pointer (some ⟨gv, 0, none⟩)] 52 (0, 0))
  f6 : b6 = true → Kd.S kB 69 W N0 (fun k => lab k = 2) x37 (List.replicate n [])
  f8 : b8 = true → BoNext next n N0 lab W x39
  f9 : b9 = true → BoCell N0 lab W 4 75 x7 x37 b10
  f11 : b11 = true → x8 = x39
  o10 : b10 = true → b6 = true ∧ b9 = true
  o11 : b11 = true → b8 = true
section
variable {next : List (List Int)} {n N0 gv g6 : Nat} {w1 W W' : World} {b6 b8 b9 b10 b11 : Bool} {x7 x8 x37 x39 : Value} {lab : Nat → Nat}
theorem LvR.grow (h : LvR next n N0 gv g6 w1 b6 b8 b9 b10 b11 x7 x8 x37 x39 lab W) (hb : Below W.heap.size W W') (j : Nat) : LvR next n N0 gv g6 w1 b6 b8 b9 b10 b11 x7 x8 x37 x39 (labOn W lab j) W' where
  below := h.below.trans (hb.mono h.n0)
  n0 := Nat.le_trans h.n0 hb.size
  c6 := blk_below h.c6 hb
  f6 h0 := Kd.S_below (Kd.S_mono (Kd.S_bound (h.f6 h0)) (fun k hk => by unfold labOn; rw [if_pos hk.2.2.1]; exact hk.1)) hb
  f8 h0 := (h.f8 h0).grow hb j
  f9 h0 := (h.f9 h0).grow hb j
  f11 := h.f11
  o10 := h.o10
  o11 := h.o11
theorem LvR.put10 {g : Nat} (h : LvR next n N0 gv g6 w1 true b8 true b10 b11 x7 x8 x37 x39 lab W) (hx : x7 = .pointer (some ⟨g, 0, none⟩)) : LvR next n N0 gv g6 w1 true b8 true true b11 x7 x8 x37 x39 lab (W.setCell ⟨g, 0, none⟩ x37) := by
  obtain ⟨g', z, e, h1, h2, h3, h4⟩ := h.f9 rfl
  have hxe := hx
  rw [hxe] at e
  injection e with e
  injection e with e
  injection e with e
  subst e
  obtain ⟨hp, _, _⟩ := (h.f9 rfl).put (v0 := x37) hx
  exact ⟨h.below.setCell (p := ⟨g, 0, none⟩) h1 _, by simpa [World.setCell] using h.n0, blk_far h.c6 h3 (by decide) 0 _, fun h0 => Kd.S_mono (Kd.S_far (p := ⟨g, 0, none⟩) (h.f6 h0) (fun k hk e => by dsimp only at e; subst e; omega) _) (fun _ hk => hk), fun h0 => (h.f8 h0).far (by omega) _, fun _ => hp, h.f11, fun _ => ⟨rfl, rfl⟩, h.o11⟩
end
set_option maxHeartbeats 8000000 in
set_option maxRecDepth 100000 in
theorem implLiveAt_any {A : Option Addr} {c : Nat} (p : Int) (bs : List S87) (v : Int) (w : World) (hr : Kd.C k87 w A bs.length bs) (hc : bs.length ≤ c) :
    Calls Try.prog 51 #[.agg #[.int .i64 p, .slice A bs.length c], .int .i64 v] w fun e w' => ∃ v0 : Value, e = .returned (.tuple #[v0, .bool (ansLiveAt p bs v).2]) ∧ (Kd.int .i64).R 3 w' w.heap.size (fun _ => True) v0 (ansLiveAt p bs v).1 ∧ Below w.heap.size w w' := by
  have W1 := below_alloc (Below.refl w.heap.size w) (.cells #[.int .i64 p, .slice A bs.length c] 30)
  rcases Bool.eq_false_or_eq_true (goodB p bs) with hg | hg
  · have hcall := Aside0.mk (viewOf_yes (c := c) p bs (w.alloc (.cells #[.int .i64 p, .slice A bs.length c] 30)) (Kd.C_below hr W1) hc hg)
    have hgr := rows_of_good hg
    have hm := Kd.C_max hr
    have HLO := Aside0.mk (live_ok hg)
    have HTOT := Aside0.mk (totN_eq hg)
    have HBL := Aside0.mk (show (blocksF p bs bs.length).length = totN p bs by have h1 := blocksF_length p bs (good_iff hg).1 bs.length (Nat.le_refl _); have h2 := (totN_eq hg).1; omega)
    have HUSE := Aside0.mk (fun (k : Nat) (hk : k < bs.length) => good_at hg k hk)
    have HGJ := Aside0.mk (show ∀ b ∈ bs, b.f4.length ≤ 2 from fun b hb => by obtain ⟨k, hk, rfl⟩ := List.getElem_of_mem hb; have := hgr.two k hk; rwa [rd_nat bs k hk] at this)
    have HTWO := Aside0.mk (show ∀ k : Nat, k < bs.length → (rd_L1 (nextL bs) (k : Int)).length ≤ 2 from fun k hk => by rw [nextL_rd bs k hk]; have := hgr.two k hk; simpa [toL] using this)
    have hans : ansLiveAt p bs v = if within v 0 ((bs.length : Int) - 1) = true then (liveRow (nextL bs) (usK bs) (bkF p bs) (totN p bs) v, true) else ([], false) := by rw [ansLiveAt, if_pos hg]
    have HANS := Aside0.mk hans
    have HNL := Aside0.mk (nextL_len bs)
    have HN1 := Aside0.mk hgr.one
    have HN8 := Aside0.mk hgr.len
    have hn8 := hgr.len
    clear hr hc hg hgr W1 hans
    rcases Bool.eq_false_or_eq_true (within v 0 ((bs.length : Int) - 1)) with q | q
    · have HQ := Aside0.mk (show ansLiveAt p bs v = (liveRow (nextL bs) (usK bs) (bkF p bs) (totN p bs) v, true) by rw [HANS.out, if_pos q])
      have HW := Aside0.mk q
      have hvr : 0 ≤ v ∧ v ≤ (bs.length : Int) - 1 := by simpa [within] using q
      obtain ⟨vn, rfl⟩ := Int.eq_ofNat_of_zero_le hvr.1
      have HVN := Aside0.mk (show vn < bs.length by omega)
      clear q hvr
      obtain ⟨next, hnx⟩ : ∃ z, z = nextL bs := ⟨_, rfl⟩
      obtain ⟨us, hus⟩ : ∃ z, z = usK bs := ⟨_, rfl⟩
      obtain ⟨bk, hbk⟩ : ∃ z, z = bkF p bs := ⟨_, rfl⟩
      obtain ⟨tot, htot⟩ : ∃ z, z = totN p bs := ⟨_, rfl⟩
      obtain ⟨bl, hbl⟩ : ∃ z, z = blocksF p bs bs.length := ⟨_, rfl⟩
      obtain ⟨fs, hfs⟩ : ∃ z, z = firstsF p bs bs.length := ⟨_, rfl⟩
      have T64 := Aside0.mk (fun W gv (hv : View W gv p A bs c (firstsF p bs bs.length) (blocksF p bs bs.length) (totF p bs bs.length)) => (next_any p gv bs W hv HN8.out HGJ.out))
      have HBK := Aside0.mk (show ∀ x, bk x = rd bl x from fun x => by rw [hbk, hbl]; rfl)
      have HUS := Aside0.mk (show ∀ (k v : Int), v ∈ us k ↔ v ∈ useL (rd_T87 bs k) from fun k v => by rw [hus, usK, useL, List.mem_append, List.mem_append]; exact Or.comm)
      rw [← hnx, ← hus, ← htot] at HLO
      rw [← hbl, ← htot] at HBL
      rw [← HTOT.out.1, ← htot, ← hbl, ← hfs] at hcall
      rw [← HTOT.out.1, ← htot, ← hbl, ← hfs] at T64
      rw [← htot] at HTOT
      rw [← hnx] at T64 HTWO HNL
      rw [← hnx, ← hus, ← hbk, ← htot] at HQ
      clear hnx hus hbk htot hbl hfs HANS HGJ
      obtain ⟨n, hn⟩ : ∃ n, n = bs.length := ⟨_, rfl⟩
      rw [← hn] at HLO HTWO HNL HN1 HN8 hn8 HVN T64
      have HEN := Aside0.mk hn
      clear hn
      go_enter Try.func51, Try.ntmps51
      go_wp2_with (first | (go_at_call 56; refine (hcall.out).mono ?_; rintro e w1 ⟨gv, rfl, hb, hview⟩; have HV1 := Aside0.mk hview; have HB1 := Aside0.mk (below_step (below_alloc (Below.refl w.heap.size w) _) hb); clear hb hview hcall) | (go_at_call 63; refine (hasBlock_any (vn : Int) (HV1.out.alloc _) (by rw [← HEN.out]; exact HN8.out)).mono ?_; rintro e w2 ⟨rfl, rfl⟩; rw [HW.out]))
      have y1 := (HV1.out.alloc (.cells #[.pointer (some ⟨gv, 0, none⟩)] 52)).cell1
      have y6 : (w1.alloc (.cells #[.pointer (some ⟨gv, 0, none⟩)] 52)).heap[w1.heap.size]? = some (.cells #[.pointer (some ⟨gv, 0, none⟩)] 52 (0, 0)) := blk_new w1 _
      have HB5 := Aside0.mk (show Below w1.heap.size w1 (w1.alloc (.cells #[.pointer (some ⟨gv, 0, none⟩)] 52)).drew from below_drew1 (below_alloc (Below.refl _ _) _))
      have HC6 := Aside0.mk (show (w1.alloc (.cells #[.pointer (some ⟨gv, 0, none⟩)] 52)).drew.heap[w1.heap.size]? = some (.cells #[.pointer (some ⟨gv, 0, none⟩)] 52 (0, 0)) from blk_drew y6)
      rw [← HEN.out] at y1
      obtain ⟨g6, hg6⟩ : ∃ g6, g6 = w1.heap.size := ⟨_, rfl⟩
      have HG6 := Aside0.mk hg6
      have z6 : (w1.alloc (.cells #[.pointer (some ⟨gv, 0, none⟩)] 52)).cell? ⟨w1.heap.size, 0, none⟩ = some (.pointer (some ⟨gv, 0, none⟩)) := by rw [blk_cell y6 0]; rfl
      refine start_ (n := 12) (S := fun w' => w'.cell? ⟨w1.heap.size, 0, none⟩ = some (.pointer (some ⟨gv, 0, none⟩)) ∧ w'.cell? ⟨gv, 1, none⟩ = some (.slice A n c)) (ds := []) #[false, false, false, false, false, false, false, false, false, false, false, false] (by kernel_rfl) rfl rfl ⟨by simp, by simpa using y1⟩ (fun hHeld => ?_)
      generalize (w1.alloc (.cells #[.pointer (some ⟨gv, 0, none⟩)] 52)).drew = w5 at HB5 HC6 hHeld ⊢
      refine take_ (i := 0) (N := some 31) (v := ?_) (a' := ?_) #[true, false, false, false, false, false, false, false, false, false, false, false] rfl rfl (by kernel_rfl) (fun _ _ _ h => h) (Or.inl ⟨by rfl, ?_⟩) hHeld ?_ ?_
      rotate_left
      · intro w' hw'
        go_simp
        with_reducible rfl
      rotate_left
      · simp only [Act.put, List.setIfInBounds_toArray, List.set_cons_zero, List.set_cons_succ]
        rfl
      refine pure_ (i := 1) (N := some 32) (v := ?_) (a' := ?_) #[true, true, false, false, false, false, false, false, false, false, false, false] rfl rfl (by kernel_rfl) (fun _ _ _ h => h) (Or.inl ⟨by rfl, ?_⟩) ?_ ?_
      rotate_left
      · intro w'
        go_simp
        with_reducible rfl
      rotate_left
      · simp only [Act.put, List.setIfInBounds_toArray, List.set_cons_zero, List.set_cons_succ]
        rfl
      refine pure_ (i := 2) (N := some 33) (v := ?_) (a' := ?_) #[true, true, true, false, false, false, false, false, false, false, false, false] rfl rfl (by kernel_rfl) (fun _ _ _ h => h) (Or.inl ⟨by rfl, ?_⟩) ?_ ?_
      rotate_left
      · intro w'
        go_simp
        with_reducible rfl
      rotate_left
      · simp only [Act.put, List.setIfInBounds_toArray, List.set_cons_zero, List.set_cons_succ]
        rfl
      refine pure_ (i := 3) (N := some 34) (v := ?_) (a' := ?_) #[true, true, true, true, false, false, false, false, false, false, false, false] rfl rfl (by kernel_rfl) (fun _ _ _ h => h) (Or.inl ⟨by rfl, ?_⟩) ?_ ?_
      rotate_left
      · intro w'
        go_simp
        with_reducible rfl
      rotate_left
      · simp only [Act.put, List.setIfInBounds_toArray, List.set_cons_zero, List.set_cons_succ]
        rfl
      refine take_ (i := 4) (N := some 35) (v := ?_) (a' := ?_) #[true, true, true, true, true, false, false, false, false, false, false, false] rfl rfl (by kernel_rfl) (fun _ _ _ h => h) (Or.inl ⟨by rfl, ?_⟩) hHeld ?_ ?_
      rotate_left
      · intro w' hw'
        go_simp
        with_reducible rfl
      rotate_left
      · simp only [Act.put, List.setIfInBounds_toArray, List.set_cons_zero, List.set_cons_succ]
        rfl
      refine pure_ (i := 5) (N := some 36) (v := ?_) (a' := ?_) #[true, true, true, true, true, true, false, false, false, false, false, false] rfl rfl (by kernel_rfl) (fun _ _ _ h => h) (Or.inl ⟨by rfl, ?_⟩) ?_ ?_
      rotate_left
      · intro w'
        go_simp
        with_reducible rfl
      rotate_left
      · simp only [Act.put, List.setIfInBounds_toArray, List.set_cons_zero, List.set_cons_succ]
        rfl
      refine take_ (i := 7) (N := some 38) (v := ?_) (a' := ?_) #[true, true, true, true, true, true, false, true, false, false, false, false] rfl rfl (by kernel_rfl) (fun _ _ _ h => h) (Or.inl ⟨by rfl, ?_⟩) hHeld ?_ ?_
      rotate_left
      · intro w' hw'
        go_simp
        with_reducible rfl
      rotate_left
      · simp only [Act.put, List.setIfInBounds_toArray, List.set_cons_zero, List.set_cons_succ]
        rfl
      clear hHeld y1 y6 z6
      refine inv0_ (fun a0 l a W => ∃ (b6 b8 b9 b10 b11 : Bool) (x7 x8 x37 x39 : Value) (lab : Nat → Nat), l = #[true, true, true, true, true, true, b6, true, b8, b9, b10, b11] ∧ a = putAll a0 [(7, x7), (8, x8), (37, x37), (39, x39)] ∧ LvR next n w1.heap.size gv w1.heap.size w1 b6 b8 b9 b10 b11 x7 x8 x37 x39 lab W) ?h0 (Nat.le_of_eq (by kernel_rfl)) ?hS ?hstep ?hfin
      case h0 => exact ⟨false, false, false, false, false, undef, undef, undef, undef, fun _ => 0, rfl, rfl, ⟨HB5.out, HB5.out.size, HC6.out, fun h => (by cases h), fun h => (by cases h), fun h => (by cases h), fun h => (by cases h), fun h => (by cases h), fun h => (by cases h)⟩⟩
      case hS =>
        rintro l a W ⟨b6, b8, b9, b10, b11, x7, x8, x37, x39, lab, rfl, rfl, hR⟩
        have := (HV1.out.below hR.below).cell1
        rw [← HEN.out] at this
        exact ⟨by rw [blk_cell hR.c6 0]; rfl, this⟩
      case hstep =>
        rintro l a W ⟨b6, b8, b9, b10, b11, x7, x8, x37, x39, lab, rfl, ha, hR⟩ i hi o ho K hK
        simp only [putAll, Act.put, List.setIfInBounds_toArray, List.set_cons_zero, List.set_cons_succ] at ha
        subst ha
        have hun := (mem_ready.1 hi).1
        have hge : w1.heap.size ≤ W.heap.size := hR.n0
        have hi16 : i = 0 ∨ i = 1 ∨ i = 2 ∨ i = 3 ∨ i = 4 ∨ i = 5 ∨ i = 6 ∨ i = 7 ∨ i = 8 ∨ i = 9 ∨ i = 10 ∨ i = 11 := by
          have h16 := (getD_false hun).1
          have h16' : i < 12 := h16
          clear hun hi ho hK h16
          omega
        rcases hi16 with rfl | rfl | rfl | rfl | rfl | rfl | rfl | rfl | rfl | rfl | rfl | rfl
        · cases hun
        · cases hun
        · cases hun
        · cases hun
        · cases hun
        · cases hun
        · have e0 : b6 = false := hun
          subst e0
          obtain rfl := Option.some.inj ho
          have e1 : b10 = false := by cases b10; rfl; exact absurd (hR.o10 rfl).1 (by simp)
          subst e1
          refine Kd.S_make_step kB _ 69 (by rfl) (N := 37) rfl 75 _ _ rfl (n : Int) rfl rfl Try.underlying75 (.slice none 0 0) 24 info69 rfl (by decide) (by omega) [] (ok := fun _ => True) (okp := fun _ => True) ⟨_, rfl, Kd.R_nil _ _ _ _ _⟩ (fun _ hk => hk) trivial (by omega) (by simp; omega) (Below.refl W.heap.size W) (Nat.le_refl _) ?_
          intro v37 W' ho2 hb hg_ hnew_
          rw [Int.toNat_natCast] at ho2
          have h' := hR.grow hb 2
          refine hK _ _ ⟨true, b8, b9, false, b11, x7, x8, v37, x39, labOn W lab 2, rfl, ?ha, ?hR⟩
          case ha =>
            show Act.put _ (some 37) _ = _
            simp only [putAll, Act.put, List.setIfInBounds_toArray, List.set_cons_zero, List.set_cons_succ]
          case hR => exact ⟨h'.below, h'.n0, h'.c6, fun _ => Kd.S_lower (Kd.S_mono (Kd.S_bound ho2) (fun k hk => labOn_new hk.2.1)) hge, h'.f8, fun h0 => (h'.f9 h0).off rfl, h'.f11, fun h0 => (by cases h0), h'.o11⟩
        · cases hun
        · have e0 : b8 = false := hun
          subst e0
          obtain rfl := Option.some.inj ho
          refine goes_ Try.func64 (by kernel_rfl) rfl #[.pointer (some ⟨gv, 0, none⟩)] (by rfl) rfl rfl (by (try simp only [List.map_toArray, List.map_cons, List.map_nil]); first | done | rfl) ?_
          refine (T64.out W gv (by have := HV1.out.below hR.below; exact this)).mono ?_
          rintro e W' ⟨gn, capn, H, rfl, hcap, hnx⟩
          have h' := hR.grow hnx.below 1
          have e1 : b11 = false := by cases b11; rfl; exact absurd (hR.o11 rfl) (by simp)
          subst e1
          refine ⟨_, rfl, hK _ _ ⟨b6, true, b9, b10, false, x7, x8, x37, .slice (some ⟨gn, 0, none⟩) n capn, labOn W lab 1, rfl, ?ha, ?hR⟩⟩
          case ha =>
            show Act.put _ (some 39) _ = _
            simp only [putAll, Act.put, List.setIfInBounds_toArray, List.set_cons_zero, List.set_cons_succ]
          case hR => exact ⟨h'.below, h'.n0, h'.c6, h'.f6, fun _ => ⟨gn, capn, W.heap.size, H, rfl, hcap, hge, RW.of_NX hnx, fun k h1 h2 => labOn_new h1⟩, h'.f9, fun h0 => (by cases h0), h'.o10, fun h0 => (by cases h0)⟩
        · have e0 : b9 = false := hun
          subst e0
          obtain rfl := Option.some.inj ho
          refine box_step (by rfl) (N := 7) rfl (cs := #[.slice none 0 0]) (t := 75) ?hr ?_
          case hr => first | (go_simp; done) | (go_simp; rfl)
          intro g hg W' h1 hb
          subst hg
          have h' := hR.grow hb 4
          have e1 : b10 = false := by cases b10; rfl; exact absurd (hR.o10 rfl).2 (by simp)
          subst e1
          refine hK _ _ ⟨b6, b8, true, false, b11, .pointer (some ⟨W.heap.size, 0, none⟩), x8, x37, x39, labOn W lab 4, rfl, ?ha, ?hR⟩
          case ha =>
            show Act.put _ (some 7) _ = _
            simp only [putAll, Act.put, List.setIfInBounds_toArray, List.set_cons_zero, List.set_cons_succ]
          case hR => exact ⟨h'.below, h'.n0, h'.c6, h'.f6, h'.f8, fun _ => BoCell.new hge h1 rfl, h'.f11, fun h0 => (by cases h0), h'.o11⟩
        · have e0 : b10 = false := hun
          have hps := ready_pred hi (ps := [9, 6, 8, 0, 1, 2, 3, 4, 5, 6, 9]) (by kernel_rfl)
          have e1 : b6 = true := hps 6 (by simp)
          have e2 : b9 = true := hps 9 (by simp)
          clear hps
          subst e0 e1 e2
          obtain rfl := Option.some.inj ho
          obtain ⟨g, z, hx, hN, hl, hz, hzb⟩ := hR.f9 rfl
          have hput := hR.put10 hx
          obtain ⟨Ax, cx, ex⟩ := Kd.S_slice (hR.f6 rfl)
          subst hx
          have y0 := blk_cell hz 0
          have y1 := blk_frozen hz 0
          rw [ex] at hput ⊢
          refine skip_ (by rfl) rfl (w1 := W.setCell ⟨g, 0, none⟩ _) ?hr (hK _ _ ⟨true, b8, true, true, b11, _, x8, _, x39, lab, rfl, ?ha, hput⟩)
          try (case ha => simp only [putAll, Act.put, List.setIfInBounds_toArray, List.set_cons_zero, List.set_cons_succ])
          case hr => first | (go_simp; done) | (go_simp; rfl)
        · have e0 : b11 = false := hun
          have hps := ready_pred hi (ps := [8, 10, 0, 1, 2, 3, 4, 5, 6, 7, 8, 9, 10]) (by kernel_rfl)
          have e1 : b8 = true := hps 8 (by simp)
          clear hps
          subst e0 e1
          obtain rfl := Option.some.inj ho
          refine value_ (by rfl) (N := some 8) rfl (w1 := W) (v := x39) ?hr (hK _ _ ⟨b6, true, b9, b10, true, x7, x39, x37, x39, lab, rfl, ?ha, ?hR⟩)
          case hr => first | (go_simp; done) | (go_simp; rfl)
          case ha => simp only [putAll, Act.put, List.setIfInBounds_toArray, List.set_cons_zero, List.set_cons_succ]
          case hR => exact ⟨hR.below, hR.n0, hR.c6, hR.f6, hR.f8, hR.f9, fun _ => rfl, hR.o10, fun _ => rfl⟩
      case hfin =>
        rintro l a W ⟨b6, b8, b9, b10, b11, x7, x8, x37, x39, lab, rfl, ha, hR⟩ hrd
        simp only [putAll, Act.put, List.setIfInBounds_toArray, List.set_cons_zero, List.set_cons_succ] at ha
        subst ha
        have hno := List.eq_nil_iff_forall_not_mem.1 hrd
        have e6 : b6 = true := by
          cases b6 with
          | true => rfl
          | false => exact absurd (pred_ready (i := 6) rfl (ps := [5, 5]) (by kernel_rfl) rfl (by intro p hp; (repeat (rcases List.mem_cons.1 hp with rfl | hp; rfl)); cases hp)) (hno 6)
        subst e6
        have e8 : b8 = true := by
          cases b8 with
          | true => rfl
          | false => exact absurd (pred_ready (i := 8) rfl (ps := [7]) (by kernel_rfl) rfl (by intro p hp; (repeat (rcases List.mem_cons.1 hp with rfl | hp; rfl)); cases hp)) (hno 8)
        subst e8
        have e9 : b9 = true := by
          cases b9 with
          | true => rfl
          | false => exact absurd (pred_ready (i := 9) rfl (ps := []) (by kernel_rfl) rfl (by intro p hp; cases hp)) (hno 9)
        subst e9
        have e10 : b10 = true := by
          cases b10 with
          | true => rfl
          | false => exact absurd (pred_ready (i := 10) rfl (ps := [9, 6, 8, 0, 1, 2, 3, 4, 5, 6, 9]) (by kernel_rfl) rfl (by intro p hp; (repeat (rcases List.mem_cons.1 hp with rfl | hp; rfl)); cases hp)) (hno 10)
        subst e10
        have e11 : b11 = true := by
          cases b11 with
          | true => rfl
          | false => exact absurd (pred_ready (i := 11) rfl (ps := [8, 10, 0, 1, 2, 3, 4, 5, 6, 7, 8, 9, 10]) (by kernel_rfl) rfl (by intro p hp; (repeat (rcases List.mem_cons.1 hp with rfl | hp; rfl)); cases hp)) (hno 11)
        subst e11
        clear hno hrd
        have h1 := HN1.out
        have e8 := hR.f11 rfl
        subst e8
        obtain ⟨gn, capn, Bn, Hn, ex39, hcap, hBn, hrw, hln⟩ := hR.f8 rfl
        obtain ⟨g7, z7, ex7, hg7, hl7, hc7, hz7⟩ := hR.f9 rfl
        have hz7 := hz7 rfl
        subst hz7
        have hb6 := hR.f6 rfl
        obtain ⟨g, cap, ex37, hgb, hgbH, cellsb, hcb⟩ := Kd.S_form hb6 (by simp; omega)
        rw [List.length_replicate] at ex37
        subst ex39 ex7 ex37
        have HL0 := Aside0.mk (show LvW ⟨gv, w1.heap.size, g7, g, cap, gn, Bn, Hn, n⟩ next (List.replicate n []) w1 W from ⟨hR.below, hR.c6, hc7, hrw, Kd.S_mono hb6 (fun k hk => by
          by_cases hk2 : Bn ≤ k ∧ k < Hn
          · have := hln k hk2.1 hk2.2; omega
          · dsimp only; omega)⟩)
        have HCAP := Aside0.mk hcap
        have y7 : W.cell? ⟨g7, 0, none⟩ = some (.slice (some ⟨g, 0, none⟩) n cap) := HL0.out.cells.2
        clear hR hrw hln hb6 hgb hgbH hcb hc7 hz7 hg7 hl7 hBn hcap h1 HB5 HC6
        go_wp2_with fail
        have HL1 := Aside0.mk (show LvW ⟨gv, w1.heap.size, g7, g, cap, gn, Bn, Hn, n⟩ next (rowsP us bl n 0) w1 W from by rw [rowsP_zero]; exact HL0.out)
        have HBLT := Aside0.mk (show bl.length ≤ 80 by rw [HBL.out]; exact HTOT.out.2)
        have HLOB := Aside0.mk (show LiveOk next us n bl.length by rw [HBL.out]; exact HLO.out)
        clear HL0
        go_loopg [42] n (fun gg s42 wr => ∃ i : Nat, s42 = .int .i64 (i : Int) ∧ Aside0 (i ≤ n ∧ n - i ≤ gg) ∧ Aside0 (LvW ⟨gv, w1.heap.size, g7, g, cap, gn, Bn, Hn, n⟩ next (rowsP us bl n i) w1 wr))
        case atStart => exact ⟨0, rfl, ⟨by omega, by omega⟩, HL1⟩
        case round =>
          clear HL1 y7
          obtain ⟨i, rfl, HA, HL⟩ := hrel
          obtain ⟨wo, rfl⟩ : ∃ wo : World, wo = wr := ⟨_, rfl⟩
          obtain ⟨y6, y7⟩ := HL.out.cells
          dsimp only at y6 y7
          by_cases hlt : i < n
          · have HLT := Aside0.mk hlt
            have p0 : (0 ≤ (i : Int)) = True := eq_true (by omega)
            have p1 : ((i : Int) < (n : Int)) = True := eq_true (by omega)
            have hn8' := HN8.out
            go_wp2_with fail
            have b9 : (wo.alloc (.cells #[.int .i64 (i : Int)] 3)).heap[wo.heap.size]? = some (.cells #[.int .i64 (i : Int)] 3 (0, 0)) := blk_new wo _
            have HL8 := Aside0.mk (show LvW ⟨gv, w1.heap.size, g7, g, cap, gn, Bn, Hn, n⟩ next (rowsP us bl n i) w1 (wo.alloc (.cells #[.int .i64 (i : Int)] 3)).drew from HL.out.later (below_drew1 (below_alloc (Below.refl _ _) _)))
            have H98 := Aside0.mk (blk_drew b9)
            have hS8 : ∀ (rows : List (List Bool)) W, LvW ⟨gv, w1.heap.size, g7, g, cap, gn, Bn, Hn, n⟩ next rows w1 W → W.heap[wo.heap.size]? = some (.cells #[.int .i64 (i : Int)] 3 (0, 0)) → W.cell? ⟨g7, 0, none⟩ = some (.slice (some ⟨g, 0, none⟩) n cap) ∧ W.cell? ⟨wo.heap.size, 0, none⟩ = some (.int .i64 (i : Int)) ∧ W.cell? ⟨w1.heap.size, 0, none⟩ = some (.pointer (some ⟨gv, 0, none⟩)) ∧ W.cell? ⟨gv, 4, none⟩ = some (.int .i64 (tot : Int)) := fun rows W h h9 => ⟨h.cells.2, by rw [blk_cell h9 0]; rfl, h.cells.1, (HV1.out.below h.below).cell4⟩
            have HS8 := Aside0.mk hS8
            clear hS8
            refine start_ (n := 9) (S := fun w' => w'.cell? ⟨g7, 0, none⟩ = some (.slice (some ⟨g, 0, none⟩) n cap) ∧ w'.cell? ⟨wo.heap.size, 0, none⟩ = some (.int .i64 (i : Int)) ∧ w'.cell? ⟨w1.heap.size, 0, none⟩ = some (.pointer (some ⟨gv, 0, none⟩)) ∧ w'.cell? ⟨gv, 4, none⟩ = some (.int .i64 (tot : Int))) (ds := [8]) #[false, false, false, false, false, false, false, false, false] (by kernel_rfl) rfl rfl (HS8.out _ _ HL8.out H98.out) (fun hHeld => ?_)
            obtain ⟨gk, hgk⟩ : ∃ gk, gk = wo.heap.size := ⟨_, rfl⟩
            generalize (wo.alloc (.cells #[.int .i64 (i : Int)] 3)).drew = w8 at HL8 H98 hHeld ⊢
            refine take_ (i := 0) (N := some 45) (v := ?_) (a' := ?_) #[true, false, false, false, false, false, false, false, false] rfl rfl (by kernel_rfl) (fun _ _ _ h => h) (Or.inl ⟨by rfl, ?_⟩) hHeld ?_ ?_
            rotate_left
            · intro w' hw'
              go_simp
              with_reducible rfl
            rotate_left
            · simp only [Act.put, List.setIfInBounds_toArray, List.set_cons_zero, List.set_cons_succ]
              rfl
            refine take_ (i := 1) (N := some 46) (v := ?_) (a' := ?_) #[true, true, false, false, false, false, false, false, false] rfl rfl (by kernel_rfl) (fun _ _ _ h => h) (Or.inl ⟨by rfl, ?_⟩) hHeld ?_ ?_
            rotate_left
            · intro w' hw'
              go_simp
              with_reducible rfl
            rotate_left
            · simp only [Act.put, List.setIfInBounds_toArray, List.set_cons_zero, List.set_cons_succ]
              rfl
            refine take_ (i := 2) (N := some 47) (v := ?_) (a' := ?_) #[true, true, true, false, false, false, false, false, false] rfl rfl (by kernel_rfl) (fun _ _ _ h => h) (Or.inl ⟨by rfl, ?_⟩) hHeld ?_ ?_
            rotate_left
            · intro w' hw'
              go_simp
              with_reducible rfl
            rotate_left
            · simp only [Act.put, List.setIfInBounds_toArray, List.set_cons_zero, List.set_cons_succ]
              rfl
            refine pure_ (i := 3) (N := some 48) (v := ?_) (a' := ?_) #[true, true, true, true, false, false, false, false, false] rfl rfl (by kernel_rfl) (fun _ _ _ h => h) (Or.inl ⟨by rfl, ?_⟩) ?_ ?_
            rotate_left
            · intro w'
              go_simp
              with_reducible rfl
            rotate_left
            · simp only [Act.put, List.setIfInBounds_toArray, List.set_cons_zero, List.set_cons_succ]
              rfl
            refine pure_ (i := 4) (N := some 49) (v := ?_) (a' := ?_) #[true, true, true, true, true, false, false, false, false] rfl rfl (by kernel_rfl) (fun _ _ _ h => h) (Or.inl ⟨by rfl, ?_⟩) ?_ ?_
            rotate_left
            · intro w'
              go_simp
              with_reducible rfl
            rotate_left
            · simp only [Act.put, List.setIfInBounds_toArray, List.set_cons_zero, List.set_cons_succ]
              rfl
            refine take_ (i := 5) (N := some 50) (v := ?_) (a' := ?_) #[true, true, true, true, true, true, false, false, false] rfl rfl (by kernel_rfl) (fun _ _ _ h => h) (Or.inl ⟨by rfl, ?_⟩) hHeld ?_ ?_
            rotate_left
            · intro w' hw'
              go_simp
              with_reducible rfl
            rotate_left
            · simp only [Act.put, List.setIfInBounds_toArray, List.set_cons_zero, List.set_cons_succ]
              rfl
            refine one_ (i := 6) (N := some 51) #[true, true, true, true, true, true, true, false, false] rfl rfl (by kernel_rfl) (by decide) (fun K hK => ?_)
            refine Kd.R_make_step Kd.bool _ 4 (by rfl) (N := 51) rfl 69 _ _ rfl (tot : Int) rfl rfl Try.underlying69 (.bool false) 1 info4 rfl (by decide) (by omega) false (ok := fun _ => True) (okp := fun _ => True) rfl (fun _ hk => hk) trivial (by omega) (by have := HTOT.out.2; simp; omega) (Below.refl _ _) (Nat.le_refl _) ?_
            intro v51 w9 ho2 hb hg_ hnew_
            rw [Int.toNat_natCast, ← HBL.out, vRow_nil bl i] at ho2
            have hlt := HLT.out
            have hR51 : Kd.bool.R 4 w9 w1.heap.size (fun k => w8.heap.size ≤ k) v51 (vRow bl i []) := Kd.R_lower (Kd.R_mono (Kd.R_bound ho2) (fun k hk => hk.2.1)) HL8.out.below.size
            obtain ⟨hput, u51, z51, f51⟩ := HL8.out.put_row (i := i) hlt hb hR51
            dsimp only at hput z51 f51
            have h99 := blk_below H98.out hb
            obtain ⟨A51, c51, e51⟩ := Kd.R_slice ho2
            rw [vRow_len] at e51
            have hgS : ∃ cells, w9.heap[g]? = some (.cells cells 69 (0, 0)) := rows_at (Kd.S_below HL8.out.rows hb) (by dsimp only; omega)
            obtain ⟨cellsg, hcg⟩ := hgS
            have h910 := blk_far h99 hcg (by decide) i v51
            have HL9 := Aside0.mk (HL8.out.later hb)
            have H99 := Aside0.mk h99
            have HPUT := Aside0.mk hput
            have H910 := Aside0.mk h910
            clear ho2 hb hg_ hnew_ hR51 hput h99 hcg h910
            refine hK.out _ _ (HS8.out _ _ HL9.out H99.out) (fun hHeld => ?_)
            clear hK K
            refine norm_ (a' := ?_) ?_ ?_
            rotate_left
            · show Act.put _ (some 51) _ = _
              simp only [Act.put, List.setIfInBounds_toArray, List.set_cons_zero, List.set_cons_succ]
              rfl
            refine pure_ (i := 7) (N := some 52) (v := ?_) (a' := ?_) #[true, true, true, true, true, true, true, true, false] rfl rfl (by kernel_rfl) (fun _ _ _ h => h) (Or.inl ⟨by rfl, ?_⟩) ?_ ?_
            rotate_left
            · intro w'
              go_simp
              with_reducible rfl
            rotate_left
            · simp only [Act.put, List.setIfInBounds_toArray, List.set_cons_zero, List.set_cons_succ]
              rfl
            refine last_ (i := 8) (N := none) #[true, true, true, true, true, true, true, true, true] rfl rfl (by kernel_rfl) (by decide) (fun K hK => ?_)
            subst e51
            refine skip_ (by rfl) rfl (w1 := w9.setCell ⟨g, i, none⟩ (.slice A51 bl.length c51)) ?hr (hK.out _ _ ?_)
            case hr => first | (go_simp; done) | (go_simp; rfl)
            clear hK K HL8 H98 HL9 H99 HS8 z51 f51 hHeld
            refine done_ (by kernel_rfl) ?_
            generalize w9.setCell ⟨g, i, none⟩ (.slice A51 bl.length c51) = wa at HPUT H910 ⊢
            go_wp2_with fail
            obtain ⟨y6, y7⟩ := HPUT.out.cells
            dsimp only at y6 y7
            have y1 := (HV1.out.below HPUT.out.below).cell1
            rw [← HEN.out] at y1
            have y9 : wa.cell? ⟨wo.heap.size, 0, none⟩ = some (.int .i64 (i : Int)) := by rw [blk_cell H910.out 0]; rfl
            have hn2 := HEN.out
            obtain ⟨ad, B1, d1, B4, d4, e, hz0, hz1, hz2, hz3, hz4, hl1, hi1, hl4, hi4⟩ := at_T87 HV1.out.rows.1 (i : Int) (by omega) (by omega)
            subst e
            simp only [Int.toNat_natCast] at hz0 hz1 hz2 hz3 hz4
            have HST := Aside0.mk (note_stepper (b := ⟨gv, w1.heap.size, g7, g, cap, gn, Bn, Hn, n⟩) (next := next) (g9 := wo.heap.size) (rows := rowsP us bl n i) HV1.out hlt rowsP_len)
            have hgB := HUSE.out i (by omega)
            have htt := HTOT.out.1
            have hbll := HBL.out
            have HM1 := Aside0.mk (show ∀ x ∈ (rd_T87 bs (i : Int)).f1, ∀ y ∈ x.f2, 0 ≤ y ∧ y < (bl.length : Int) from fun x hx y hy => by have := (hgB.args x hx).2 y hy; omega)
            have HM3 := Aside0.mk (show (rd_T87 bs (i : Int)).f2 ≠ 2 → 0 ≤ (rd_T87 bs (i : Int)).f3 ∧ (rd_T87 bs (i : Int)).f3 < (bl.length : Int) from fun hne => by rcases hgB.ends with e | e | e; exact ⟨e.2.2.1, by omega⟩; exact absurd e.1 hne; exact ⟨e.2.2.1, by omega⟩)
            have HM4 := Aside0.mk (show ∀ x ∈ (rd_T87 bs (i : Int)).f4, ∀ y ∈ x.f1, 0 ≤ y ∧ y < (bl.length : Int) from fun x hx y hy => by have := (hgB.jump x hx).2.2 y hy; omega)
            have HUB := Aside0.mk (show vRow bl i (useL (rd_T87 bs (i : Int))) = bRow bl.length (baseR us bl i) from vRow_is fun v => (HUS.out (i : Int) v).symm)
            obtain ⟨Inv, hInv⟩ : ∃ Inv : List Int → World → Prop, Inv = fun vis W => LvW ⟨gv, w1.heap.size, g7, g, cap, gn, Bn, Hn, n⟩ next ((rowsP us bl n i).set i (vRow bl i vis)) w1 W ∧ W.heap[wo.heap.size]? = some (.cells #[.int .i64 (i : Int)] 3 (0, 0)) := ⟨_, rfl⟩
            rw [← hInv] at HST
            have HS := Aside0.mk (show Stepper 87 #[.pointer (some ⟨g7, 0, none⟩), .pointer (some ⟨wo.heap.size, 0, none⟩), .pointer (some ⟨w1.heap.size, 0, none⟩)] w1 (fun x => 0 ≤ x ∧ x < (bl.length : Int)) Inv from HST.out)
            have HI := Aside0.mk (show Inv [] wa from by rw [hInv]; exact ⟨HPUT.out, H910.out⟩)
            have HINV := Aside0.mk hInv
            have HIQ := Aside0.mk (show ∀ q, Inv [] (wa.drewN q) from fun q => by rw [hInv]; exact ⟨HPUT.out.later (pw_below_drewN (Below.refl _ _) q), blk_drewN H910.out q⟩)
            have eg := HS.out.enters
            obtain ⟨b, hb⟩ : ∃ z, z = rd_T87 bs (i : Int) := ⟨_, rfl⟩
            rw [← hb] at hz1 hz2 hz3 hz4 hi1 hi4 HM1 HM3 HM4 HUB
            have HZ1 := Aside0.mk hz1
            have H88 := Aside0.mk (fun W hI => used_any HS.out (ad.add (i * 5)) b B4 d4 hz2 hz3 hz4 hi4 HM3.out HM4.out (insL b) W hI)
            have v1 := pw_cell_below (HS.out.below _ _ HI.out) hz1
            have HJ1 := Aside0.mk hi1
            have hmj := Kd.C_max hi1
            clear hz0 hz1 hz2 hz3 hz4 hl1 hi1 hl4 hi4 hb hgB htt hbll HST hInv HPUT H910 hn2
            go_quiet (fail)
            go_wp2
            go_loopg [66] b.f1.length (fun gg s66 wi => ∃ j : Nat, s66 = .int .i64 (j : Int) ∧ Aside0 (j ≤ b.f1.length ∧ b.f1.length - j ≤ gg) ∧ Aside0 (Inv ((b.f1.take j).flatMap (·.f2)) wi))
            case atStart => exact ⟨0, rfl, ⟨by omega, by omega⟩, ⟨by first | exact HIQ.out _ | simpa using HIQ.out _ | simpa using HI.out⟩⟩
            case round =>
              clear y6 y7 y1 y9 v1 HI HIQ
              obtain ⟨j, rfl, HAj, HIj⟩ := hrel
              obtain ⟨wi, rfl⟩ : ∃ wi : World, wi = wr := ⟨_, rfl⟩
              have v1 := pw_cell_below (HS.out.below _ _ HIj.out) HZ1.out
              by_cases hltj : j < b.f1.length
              · obtain ⟨ad2, B2, d2, e, ha0, ha1, ha2, hl2, hi2⟩ := at_T89 HJ1.out (j : Int) (by omega) (by omega)
                subst e
                simp only [Int.toNat_natCast] at ha2
                have HLj := Aside0.mk hltj
                have HMj := Aside0.mk (HM1.out _ (show rd_T89 b.f1 (j : Int) ∈ b.f1 from getD_mem b.f1 z89 j hltj))
                have HFj := Aside0.mk (show (b.f1.take (j + 1)).flatMap (·.f2) = (b.f1.take j).flatMap (·.f2) ++ (rd_T89 b.f1 (j : Int)).f2 from take_flat b.f1 (·.f2) z89 j hltj)
                obtain ⟨it, hit⟩ : ∃ z, z = rd_T89 b.f1 (j : Int) := ⟨_, rfl⟩
                rw [← hit] at ha2 hi2 HMj HFj
                have HA2 := Aside0.mk ha2
                have u2 := pw_cell_below (HS.out.below _ _ HIj.out) ha2
                have HJ2 := Aside0.mk hi2
                have hmk := Kd.C_max hi2
                have p2 : (0 ≤ (j : Int)) = True := eq_true (by omega)
                have p3 : ((j : Int) < (b.f1.length : Int)) = True := eq_true (by omega)
                clear ha0 ha1 ha2 hl2 hi2 hit
                go_wp2
                go_loopg [78] it.f2.length (fun gg s78 wk => ∃ k : Nat, s78 = .int .i64 (k : Int) ∧ Aside0 (k ≤ it.f2.length ∧ it.f2.length - k ≤ gg) ∧ Aside0 (Inv ((b.f1.take j).flatMap (·.f2) ++ it.f2.take k) wk))
                case atStart => exact ⟨0, rfl, ⟨by omega, by omega⟩, ⟨by simpa using HIj.out⟩⟩
                case round =>
                  clear u2 v1 HIj
                  obtain ⟨k, rfl, HAk, HIk⟩ := hrel
                  have v1 := pw_cell_below (HS.out.below _ _ HIk.out) HZ1.out
                  have u2 := pw_cell_below (HS.out.below _ _ HIk.out) HA2.out
                  by_cases hltk : k < it.f2.length
                  · obtain ⟨ad3, e3, hv⟩ := Kd.at_int HJ2.out (k : Int) (by omega) (by omega)
                    subst e3
                    simp only [Int.toNat_natCast] at hv
                    have HLk := Aside0.mk hltk
                    have hst := HS.out.step _ _ _ _ HIk.out (HMj.out (rd it.f2 (k : Int)) (getD_mem it.f2 0 k hltk)) hv
                    simp only [List.append_toArray, List.cons_append, List.nil_append] at hst
                    have HST := Aside0.mk hst
                    have p4 : (0 ≤ (k : Int)) = True := eq_true (by omega)
                    have p5 : ((k : Int) < (it.f2.length : Int)) = True := eq_true (by omega)
                    clear hst hv
                    go_wp2_with (go_at_call 87; refine (HST.out).mono ?_; rintro e w' ⟨rfl, hI'⟩; have HI' := Aside0.mk hI'; clear hI' HST)
                    go_roundg (it.f2.length - (k + 1))
                    case measure => have := HAk.out; have := HLk.out; omega
                    case rel => exact ⟨k + 1, by go_num, ⟨by have := HLk.out; omega, by omega⟩, ⟨by rw [take_one it.f2 0 k HLk.out, ← List.append_assoc]; exact HI'.out⟩⟩
                  · have e : k = it.f2.length := by have := HAk.out; omega
                    have HI' := Aside0.mk (show Inv ((b.f1.take j).flatMap (·.f2) ++ it.f2) wr by have := HIk.out; rw [e, List.take_length] at this; exact this)
                    have p5 : ((k : Int) < (it.f2.length : Int)) = False := eq_false (by omega)
                    clear e
                    go_wp2
                    go_roundg (b.f1.length - (j + 1))
                    case measure => have := HAj.out; have := HLj.out; omega
                    case rel => exact ⟨j + 1, by go_num, ⟨by have := HLj.out; omega, by omega⟩, ⟨by rw [HFj.out]; exact HI'.out⟩⟩
              · have e : j = b.f1.length := by have := HAj.out; omega
                have HI' := Aside0.mk (show Inv (insL b) wi by have := HIj.out; rw [e, List.take_length] at this; exact this)
                have p3 : ((j : Int) < (b.f1.length : Int)) = False := eq_false (by omega)
                clear e
                go_wp2_with (go_at_call 88; refine (H88.out _ HI'.out).mono ?_; rintro e w' ⟨rfl, hI2⟩; have HI2 := Aside0.mk (show LvW ⟨gv, w1.heap.size, g7, g, cap, gn, Bn, Hn, n⟩ next (rowsP us bl n (i + 1)) w1 w' from by rw [HINV.out] at hI2; have h := hI2.1; rw [show insL b ++ endL b = useL b from rfl, HUB.out, rowsP_succ] at h; exact h); clear hI2 H88 HI')
                go_roundg (n - (i + 1))
                case measure => have := HA.out; have := HLT.out; omega
                case rel => exact ⟨i + 1, by go_num, ⟨by have := HLT.out; omega, by omega⟩, HI2⟩
          · have e : i = n := by have := HA.out; omega
            have HE := Aside0.mk (show LvW ⟨gv, w1.heap.size, g7, g, cap, gn, Bn, Hn, n⟩ next ((baseRows us bl n).map (bRow bl.length)) w1 wo from by have h := HL.out; rw [e, rowsP_end] at h; exact h)
            have p1 : ((i : Int) < (n : Int)) = False := eq_false (by omega)
            clear e HL HA
            go_wp2
            have HBLI := Aside0.mk (show LI next us bk n (baseRows us bl n) ∧ BaseP us bk n (baseRows us bl n) from ⟨base_li HBK.out, fun k hk v hv hne => base_in HBK.out hk hv (by rw [HBL.out]; exact HLO.out.use k hk v hv) hne⟩)
            clear p1 y6 y7
            go_loopg [14] (2 * (n * tot) + 2) (fun gg s14 wr => ∃ (rows : List (List Int)) (more : Bool), s14 = .bool more ∧ Aside0 (2 * (n * tot - totL rows) + (if more then 1 else 0) ≤ gg) ∧ Aside0 (LI next us bk n rows ∧ BaseP us bk n rows) ∧ Aside0 (more = false → ∀ k : Nat, k < n → ShutAt next us bk rows k) ∧ Aside0 (LvW ⟨gv, w1.heap.size, g7, g, cap, gn, Bn, Hn, n⟩ next (rows.map (bRow bl.length)) w1 wr))
            case atStart => exact ⟨_, true, rfl, ⟨by simp; omega⟩, HBLI, ⟨fun h => (by cases h)⟩, HE⟩
            case round =>
              clear HBLI HE
              obtain ⟨rows, more, rfl, HM, HLI, HSH, HL⟩ := hrel
              obtain ⟨ws, rfl⟩ : ∃ ws : World, ws = wr := ⟨_, rfl⟩
              cases more with
              | false =>
                have hvn := HVN.out
                obtain ⟨A6, c6, z6r, hC6, hl6⟩ := HL.out.at_row (i := vn) hvn
                rw [map_get (by rw [HLI.out.1.len]; exact hvn)] at z6r hC6 hl6
                dsimp only at z6r
                have T72 := listOf_any (w := ws) (A := A6) (c := c6) (bRow bl.length (rows.getD vn [])) (by rw [bRow_len]; have := HBLT.out; omega) hC6 hl6
                rw [bRow_listOf (HLI.out.1.rise vn hvn) (HLI.out.1.within HLOB.out hvn), HLI.out.1.done HLO.out (HSH.out (by first | rfl | trivial)) vn hvn, bRow_len] at T72
                rw [bRow_len] at z6r
                have y7 := HL.out.cells.2
                dsimp only at y7
                have HT := Aside0.mk T72
                have HBW := Aside0.mk HL.out.below
                have q0 : (0 ≤ (vn : Int)) = True := eq_true (by omega)
                have q1 : ((vn : Int) < (n : Int)) = True := eq_true (by omega)
                clear T72 hC6 hl6 hvn HLI HSH HL HM
                go_wp2_with (go_at_call 72; refine (HT.out).mono ?_; rintro e w7 ⟨v7, rfl, hRd, hb⟩; have HR7 := Aside0.mk hRd; have HB7 := Aside0.mk (below_step HBW.out hb); clear hRd hb HT)
                go_ret2
                refine ⟨_, by rw [HQ.out]; rfl, ?_, HB1.out.trans (HB7.out.mono HB1.out.size)⟩
                rw [HQ.out]
                exact Kd.R_lower HR7.out (Nat.le_trans HB1.out.size HBW.out.size)
              | true =>
                obtain ⟨T0, hT0⟩ : ∃ T0, T0 = totL rows := ⟨_, rfl⟩
                have HT0 := Aside0.mk hT0
                have HP0 := Aside0.mk (show PassI next us bk n T0 false rows 0 from by rw [hT0]; exact PassI.start HLI.out.1)
                have HBP0 := Aside0.mk HLI.out.2
                have hn8 := HN8.out
                clear hT0 HSH HLI
                go_wp2
                go_loopg [14, 102] n (fun gg s14 s102 wr => ∃ (i : Nat) (rows : List (List Int)) (more : Bool), s14 = .bool more ∧ s102 = .int .i64 (i : Int) ∧ Aside0 (i ≤ n ∧ n - i ≤ gg) ∧ Aside0 (PassI next us bk n T0 more rows i ∧ BaseP us bk n rows) ∧ Aside0 (LvW ⟨gv, w1.heap.size, g7, g, cap, gn, Bn, Hn, n⟩ next (rows.map (bRow bl.length)) w1 wr))
                case atStart => exact ⟨0, rows, false, rfl, rfl, ⟨by omega, by omega⟩, ⟨HP0.out, HBP0.out⟩, HL⟩
                case round =>
                  clear HP0 HBP0 HL
                  obtain ⟨i, rowsB, moreB, rfl, rfl, HA, HP, HL⟩ := hrel
                  obtain ⟨wo2, rfl⟩ : ∃ wo2 : World, wo2 = wr := ⟨_, rfl⟩
                  by_cases hlt : i < n
                  · have HLT := Aside0.mk hlt
                    have hnl := HNL.out
                    have hen := HEN.out
                    obtain ⟨A5, c5, z5, hR5⟩ := HL.out.rw.at_row (j := i) (by omega)
                    have h2 := HTWO.out i (by first | exact hlt | omega)
                    have hst5 := HLO.out.stay i hlt
                    obtain ⟨R, hRd⟩ : ∃ R, R = next.getD i [] := ⟨_, rfl⟩
                    have HRN := Aside0.mk (show rd_L1 next (i : Int) = R from hRd.symm)
                    rw [← hRd] at z5 hR5
                    dsimp only at z5
                    rw [HRN.out] at h2 hst5
                    have HR2 := Aside0.mk h2
                    have HST5 := Aside0.mk hst5
                    have HR5 := Aside0.mk hR5
                    have hmR := Kd.C_max (Kd.R_reads' hR5).2.2
                    have HTL := Aside0.mk (TurnL.start HP.out.1)
                    have p0 : (0 ≤ (i : Int)) = True := eq_true (by omega)
                    have p1 : ((i : Int) < (n : Int)) = True := eq_true (by omega)
                    clear hnl hen h2 hst5 hRd hR5
                    go_wp2
                    have HR5 := Aside0.mk (show (Kd.int .i64).R 3 wo2 Bn (fun k => Bn ≤ k ∧ k < Hn) (.slice A5 R.length c5) R from HR5.out)
                    go_loopg [14, 109] R.length (fun gg s14 s109 wr => ∃ (j : Nat) (rows : List (List Int)) (more : Bool) (seen : List Int), s14 = .bool more ∧ s109 = .int .i64 (j : Int) ∧ Aside0 (j ≤ R.length ∧ R.length - j ≤ gg) ∧ Aside0 (TurnL next us bk n T0 rowsB moreB seen more rows i ∧ BaseP us bk n rows) ∧ Aside0 (more = false → ∀ t ∈ R.take j, ∀ v ∈ rd_L1 rowsB t, v ∈ seen) ∧ Aside0 (LvW ⟨gv, w1.heap.size, g7, g, cap, gn, Bn, Hn, n⟩ next (rows.map (bRow bl.length)) w1 wr) ∧ Aside0 ((Kd.int .i64).R 3 wr Bn (fun k => Bn ≤ k ∧ k < Hn) (.slice A5 R.length c5) R))
                    case atStart => exact ⟨0, rowsB, moreB, [], rfl, rfl, ⟨by omega, by omega⟩, ⟨HTL.out, HP.out.2⟩, ⟨fun _ t ht => by simp at ht⟩, HL, HR5⟩
                    case round =>
                      clear HTL z5 HL HR5 p1
                      obtain ⟨j, rowsS, moreS, seen, rfl, rfl, HAj, HT, HC, HLs, HRs⟩ := hrel
                      obtain ⟨wj, rfl⟩ : ∃ wj : World, wj = wr := ⟨_, rfl⟩
                      by_cases hltj : j < R.length
                      · obtain ⟨ad5, e, hz⟩ := Kd.at_int (Kd.R_reads' HRs.out).2.2 (j : Int) (by omega) (by omega)
                        cases e
                        simp only [Int.toNat_natCast] at hz
                        rw [rd_at R j hltj] at hz
                        have hts := HST5.out R[j] (List.getElem_mem hltj)
                        obtain ⟨t, ht⟩ : ∃ t, t = R[j] := ⟨_, rfl⟩
                        have HTR := Aside0.mk (show t ∈ rd_L1 next (i : Int) by rw [HRN.out, ht]; exact List.getElem_mem hltj)
                        have HTK := Aside0.mk (show R.take (j + 1) = R.take j ++ [t] by rw [List.take_succ_eq_append_getElem hltj, ← ht])
                        rw [← ht] at hz hts
                        obtain ⟨tn, rfl⟩ := Int.eq_ofNat_of_zero_le hts.1
                        have htn : tn < n := by omega
                        obtain ⟨A6, c6, z6r, hC6, hl6⟩ := HLs.out.at_row (i := tn) htn
                        rw [map_get (by rw [HT.out.1.li.len]; exact htn)] at z6r hC6 hl6
                        dsimp only at z6r
                        have T72 := listOf_any (w := wj) (A := A6) (c := c6) (bRow bl.length (rowsS.getD tn [])) (by rw [bRow_len]; have := HBLT.out; omega) hC6 hl6
                        have hwit := HT.out.1.li.within HLOB.out htn
                        have hsub := HT.out.1.li.sub tn htn
                        rw [bRow_listOf (HT.out.1.li.rise tn htn) hwit, bRow_len] at T72
                        rw [bRow_len] at z6r
                        have HDB := Aside0.mk (show moreS = false → rowsS.getD tn [] = rd_L1 rowsB (tn : Int) from fun e => by rw [(HT.out.1.off e).2.1]; rfl)
                        obtain ⟨D, hD⟩ : ∃ D, D = rowsS.getD tn [] := ⟨_, rfl⟩
                        rw [← hD] at T72 hwit hsub HDB
                        have HDL := Aside0.mk (show ∀ x ∈ D, (0 ≤ x ∧ x < (bl.length : Int)) ∧ (bk x ≠ (i : Int) → LiveV next us bk (i : Int) x) from fun x hx => ⟨hwit x hx, fun hne => .flow HTR.out (hsub x hx) hne⟩)
                        have y7 := HLs.out.cells.2
                        dsimp only at y7
                        have HT72 := Aside0.mk T72
                        have HLTj := Aside0.mk hltj
                        have p2 : (0 ≤ (j : Int)) = True := eq_true (by omega)
                        have p3 : ((j : Int) < (R.length : Int)) = True := eq_true (by omega)
                        have p4 : (0 ≤ (tn : Int)) = True := eq_true (by omega)
                        have p5 : ((tn : Int) < (n : Int)) = True := eq_true (by omega)
                        clear T72 hC6 hl6 hwit hsub hD ht hts htn
                        go_wp2_with (go_at_call 72; refine (HT72.out).mono ?_; rintro e w7 ⟨v7, rfl, hRd, hb⟩; obtain ⟨A7, c7, rfl⟩ := Kd.R_slice hRd; have HD7 := Aside0.mk (show (Kd.int .i64).R 3 w7 w1.heap.size (fun _ => True) (.slice A7 D.length c7) D from Kd.R_lower hRd HLs.out.below.size); have HL7 := Aside0.mk (HLs.out.later hb); have HR7 := Aside0.mk (Kd.R_below HRs.out hb); clear hRd hb HT72)
                        have hmD := Kd.C_max (Kd.R_reads' HD7.out).2.2
                        have HT0' := Aside0.mk (show TurnL next us bk n T0 rowsB moreB (seen ++ D.take 0) moreS rowsS i ∧ BaseP us bk n rowsS from ⟨by rw [List.take_zero, List.append_nil]; exact HT.out.1, HT.out.2⟩)
                        clear p2 p3 p4 p5 y7 z6r hz HLs HRs
                        try go_wp2
                        go_loopg [14, 119] D.length (fun gg s14 s119 wr => ∃ (m : Nat) (rows : List (List Int)) (more : Bool), s14 = .bool more ∧ s119 = .int .i64 (m : Int) ∧ Aside0 (m ≤ D.length ∧ D.length - m ≤ gg) ∧ Aside0 (TurnL next us bk n T0 rowsB moreB (seen ++ D.take m) more rows i ∧ BaseP us bk n rows) ∧ Aside0 (more = false → moreS = false) ∧ Aside0 (LvW ⟨gv, w1.heap.size, g7, g, cap, gn, Bn, Hn, n⟩ next (rows.map (bRow bl.length)) w1 wr) ∧ Aside0 ((Kd.int .i64).R 3 wr w1.heap.size (fun _ => True) (.slice A7 D.length c7) D) ∧ Aside0 ((Kd.int .i64).R 3 wr Bn (fun k => Bn ≤ k ∧ k < Hn) (.slice (some ad5) R.length c5) R))
                        case atStart => exact ⟨0, rowsS, moreS, rfl, rfl, ⟨by omega, by omega⟩, HT0', ⟨fun h => h⟩, HL7, HD7, HR7⟩
                        case round =>
                          clear HT0' HL7 HD7 HR7
                          obtain ⟨m, rows, more, rfl, rfl, HAm, HTm, HMS, HLm, HDm, HRm⟩ := hrel
                          obtain ⟨wm, rfl⟩ : ∃ wm : World, wm = wr := ⟨_, rfl⟩
                          by_cases hltm : m < D.length
                          · obtain ⟨ad7, e, hz⟩ := Kd.at_int (Kd.R_reads' HDm.out).2.2 (m : Int) (by omega) (by omega)
                            cases e
                            simp only [Int.toNat_natCast] at hz
                            rw [rd_at D m hltm] at hz
                            have hxs := HDL.out D[m] (List.getElem_mem hltm)
                            obtain ⟨x, hx⟩ : ∃ x, x = D[m] := ⟨_, rfl⟩
                            have HTKm := Aside0.mk (show seen ++ D.take (m + 1) = (seen ++ D.take m) ++ [x] by rw [List.take_succ_eq_append_getElem hltm, ← hx, List.append_assoc])
                            rw [← hx] at hz hxs
                            obtain ⟨xn, rfl⟩ := Int.eq_ofNat_of_zero_le hxs.1.1
                            have hxn : xn < bl.length := by omega
                            obtain ⟨y6, y7⟩ := HLm.out.cells
                            dsimp only at y6 y7
                            obtain ⟨A3, c3, z3, hC3, hl3⟩ := (HV1.out.below HLm.out.below).cell3
                            obtain ⟨ad3, e3, zv⟩ := Kd.at_int hC3 (xn : Int) (by omega) (by omega)
                            subst e3
                            simp only [Int.toNat_natCast] at zv
                            have hbkx := HBK.out (xn : Int)
                            obtain ⟨vb, hvb⟩ : ∃ vb, vb = rd bl (xn : Int) := ⟨_, rfl⟩
                            rw [← hvb] at zv hbkx
                            have HLTm := Aside0.mk hltm
                            have HLIV := Aside0.mk hxs.2
                            have HBKX := Aside0.mk hbkx
                            have HXN := Aside0.mk hxn
                            have p2 : (0 ≤ (m : Int)) = True := eq_true (by omega)
                            have p3 : ((m : Int) < (D.length : Int)) = True := eq_true (by omega)
                            have p4 : (0 ≤ (xn : Int)) = True := eq_true (by omega)
                            have p5 : ((xn : Int) < (bl.length : Int)) = True := eq_true (by omega)
                            have p1 : ((i : Int) < (n : Int)) = True := eq_true (by have := HLT.out; omega)
                            clear hC3 hl3 hvb hx hxs hbkx
                            by_cases q : vb = (i : Int)
                            · have d0 : (vb != (i : Int)) = false := bne_eq_false_iff_eq.mpr q
                              have HQ1 := Aside0.mk q
                              clear q hxn
                              go_wp2
                              go_roundg (D.length - (m + 1))
                              case measure => have := HAm.out; have := HLTm.out; omega
                              case rel => exact ⟨m + 1, rows, more, rfl, (by have := HLTm.out; go_num), ⟨by have := HLTm.out; omega, by omega⟩, ⟨by rw [HTKm.out]; exact HTm.out.1.skip (.inl (by rw [HBKX.out]; exact HQ1.out)), HTm.out.2⟩, HMS, HLm, HDm, HRm⟩
                            · have d0 : (vb != (i : Int)) = true := bne_iff_ne.mpr q
                              have HQ1 := Aside0.mk q
                              have hil : i < rows.length := by rw [HTm.out.1.li.len]; exact HLT.out
                              obtain ⟨gr, cr, zrow, zb, fb, ⟨cellsr, hcr⟩, hput⟩ := HLm.out.at_bool (i := i) (x := xn) HLT.out (by rw [map_get hil, bRow_len]; exact hxn)
                              rw [map_get hil] at zrow zb hput
                              rw [bRow_len] at zrow
                              rw [bRow_rd ⟨by omega, by omega⟩] at zb
                              dsimp only at zrow
                              by_cases q2 : (xn : Int) ∈ rows.getD i []
                              · rw [decide_eq_true q2] at zb
                                have HQ2 := Aside0.mk q2
                                clear q q2 hput hcr fb hil hxn
                                go_wp2
                                go_roundg (D.length - (m + 1))
                                case measure => have := HAm.out; have := HLTm.out; omega
                                case rel => exact ⟨m + 1, rows, more, rfl, (by have := HLTm.out; go_num), ⟨by have := HLTm.out; omega, by omega⟩, ⟨by rw [HTKm.out]; exact HTm.out.1.skip (.inr HQ2.out), HTm.out.2⟩, HMS, HLm, HDm, HRm⟩
                              · rw [decide_eq_false q2] at zb
                                have HQ2 := Aside0.mk q2
                                have hpt := hput true
                                rw [map_put HTm.out.1.li HLOB.out HLT.out hxn] at hpt
                                have HPT := Aside0.mk hpt
                                have HD8 := Aside0.mk (Kd.R_set HDm.out hcr (by decide) xn (.bool true))
                                have HR8 := Aside0.mk (Kd.R_set HRm.out hcr (by decide) xn (.bool true))
                                have hmem : ∀ y, y ∈ addR bl.length (rows.getD i []) (xn : Int) ↔ y ∈ rows.getD i [] ∨ y = (xn : Int) := fun y => mem_addR (HTm.out.1.li.within HLOB.out HLT.out) hxn
                                have HTP := Aside0.mk (show TurnL next us bk n T0 rowsB moreB (seen ++ D.take (m + 1)) true (rows.set i (addR bl.length (rows.getD i []) (xn : Int))) i ∧ BaseP us bk n (rows.set i (addR bl.length (rows.getD i []) (xn : Int))) from ⟨HTm.out.1.put HLT.out (HLIV.out (by rw [HBKX.out]; exact q)) q2 hmem rises_addR _, HTm.out.2.put (fun y hy => (hmem y).2 (.inl hy)) hil⟩)
                                clear q q2 hput hcr hil hpt hmem hxn
                                go_wp2
                                go_roundg (D.length - (m + 1))
                                case measure => have := HAm.out; have := HLTm.out; omega
                                case rel => exact ⟨m + 1, _, true, rfl, (by have := HLTm.out; go_num), ⟨by have := HLTm.out; omega, by omega⟩, HTP, ⟨fun h => (by cases h)⟩, HPT, HD8, HR8⟩
                          · have e : m = D.length := by have := HAm.out; omega
                            have HTE := Aside0.mk (show TurnL next us bk n T0 rowsB moreB (seen ++ D) more rows i ∧ BaseP us bk n rows from by have h := HTm.out; rw [e, List.take_length] at h; exact h)
                            have HCE := Aside0.mk (show more = false → ∀ t ∈ R.take (j + 1), ∀ v ∈ rd_L1 rowsB t, v ∈ seen ++ D from fun e2 t ht v hv => by
                              have e3 := HMS.out e2
                              rw [HTK.out, List.mem_append, List.mem_singleton] at ht
                              rw [List.mem_append]
                              rcases ht with ht | rfl
                              · exact .inl (HC.out e3 t ht v hv)
                              · exact .inr (by rw [HDB.out e3]; exact hv))
                            have p3 : ((m : Int) < (D.length : Int)) = False := eq_false (by omega)
                            clear e
                            go_wp2
                            go_roundg (R.length - (j + 1))
                            case measure => have := HAj.out; have := HLTj.out; omega
                            case rel => exact ⟨j + 1, rows, more, seen ++ D, rfl, (by have := HLTj.out; go_num), ⟨by have := HLTj.out; omega, by omega⟩, HTE, HCE, HLm, HRm⟩
                      · have e : j = R.length := by have := HAj.out; omega
                        have HPE := Aside0.mk (show PassI next us bk n T0 moreS rowsS (i + 1) ∧ BaseP us bk n rowsS from ⟨HT.out.1.done HP.out.1 (fun v hv hne => HT.out.2 i HLT.out v hv hne) (fun e2 t ht v hv => HC.out e2 t (by rw [e, List.take_length, ← HRN.out]; exact ht) v hv), HT.out.2⟩)
                        have p3 : ((j : Int) < (R.length : Int)) = False := eq_false (by omega)
                        clear e
                        go_wp2
                        go_roundg (n - (i + 1))
                        case measure => have := HA.out; have := HLT.out; omega
                        case rel => exact ⟨i + 1, rowsS, moreS, rfl, (by have := HLT.out; go_num), ⟨by have := HLT.out; omega, by omega⟩, HPE, HLs⟩
                  · have e : i = n := by have := HA.out; omega
                    have HSE := Aside0.mk (show moreB = false → ∀ k : Nat, k < n → ShutAt next us bk rowsB k from fun e2 k hk => HP.out.1.off e2 k (by rw [e]; exact hk))
                    have HME := Aside0.mk (show 2 * (n * tot - totL rowsB) + (if moreB then 1 else 0) < 2 * (n * tot - T0) + 1 from by
                      have h1 := HP.out.1.ge
                      have h2 := HP.out.1.li.total HLO.out
                      cases moreB with
                      | false => simp; omega
                      | true => have := HP.out.1.on rfl; simp; omega)
                    have p1 : ((i : Int) < (n : Int)) = False := eq_false (by omega)
                    clear e
                    go_wp2
                    go_roundg (2 * (n * tot - totL rowsB) + (if moreB then 1 else 0))
                    case measure => have h1 := HM.out; have h2 := HME.out; rw [HT0.out] at h2; simp at h1; omega
                    case rel => exact ⟨rowsB, moreB, rfl, ⟨Nat.le_refl _⟩, ⟨HP.out.1.li, HP.out.2⟩, HSE, HL⟩
    · have HQ := Aside0.mk (show ansLiveAt p bs v = ([], false) by rw [HANS.out, q]; rfl)
      have HW := Aside0.mk q
      clear q
      go_enter Try.func51, Try.ntmps51
      go_wp2_with (first | (go_at_call 56; refine (hcall.out).mono ?_; rintro e w1 ⟨gv, rfl, hb, hview⟩; have HV1 := Aside0.mk hview; have HB1 := Aside0.mk (below_step (below_alloc (Below.refl w.heap.size w) _) hb); clear hb hview hcall) | (go_at_call 63; refine (hasBlock_any v (HV1.out.alloc _) HN8.out).mono ?_; rintro e w2 ⟨rfl, rfl⟩; rw [HW.out]))
      go_ret2
      exact ⟨_, by rw [HQ.out]; rfl, by rw [HQ.out]; exact Kd.R_nil _ _ _ _ _, below_alloc HB1.out _⟩
  · have hcall := Aside0.mk (viewOf_no (c := c) p bs (w.alloc (.cells #[.int .i64 p, .slice A bs.length c] 30)) (Kd.C_below hr W1) hc hg)
    have HA := Aside0.mk (show ansLiveAt p bs v = ([], false) by rw [ansLiveAt, hg]; rfl)
    clear hr hc hg W1
    go_enter Try.func51, Try.ntmps51
    go_wp2_with (go_at_call 56; refine (hcall.out).mono ?_; rintro e w1 ⟨rfl, hb⟩; have HB1 := Aside0.mk (below_step (below_alloc (Below.refl w.heap.size w) _) hb); clear hb hcall)
    go_ret2
    exact ⟨_, by rw [HA.out]; rfl, by rw [HA.out]; exact Kd.R_nil _ _ _ _ _, below_alloc HB1.out _⟩
end Go.Proofs.Ytghlbhijkhkgkaa.PA
