/- The flow seat: view.next by hand. -/
import Derived.Test.YtghlbhijkhkgkaaAb2Vl
namespace Go.Proofs.Ytghlbhijkhkgkaa.PA
open Go.RowKit Go.Proofs.YtghlbhijkhkgkaaW.PrintWords Go.Proofs.YtghlbhijkhkgkaaW.PrintLast Go.Proofs.YtghlbhijkhkgkaaW.PrintMore
set_option linter.unusedVariables false
/-- Where each block goes. -/
def toL (b : S87) : List Int := b.f4.map (·.f0)
def nextL (bs : List S87) : List (List Int) := bs.map toL
/-- The rows of next under way: those that are done lie below H, the one under way at or above it. -/
structure NX (w0 W : World) (g n H : Nat) (done : List (List Int)) (v : Value) (xs : List Int) : Prop where
  below : Below w0.heap.size w0 W
  hg : w0.heap.size ≤ g
  hgH : g < H
  hH : H ≤ W.heap.size
  row : (Kd.int .i64).R 3 W H (fun _ => True) v xs
  blk : ∃ arr : List Value, W.heap[g]? = some (.cells arr.toArray 34 (0, 0)) ∧ (∀ j, j = done.length → j < n → arr[j]? = some v) ∧ (∀ j, done.length < j → j < n → arr[j]? = some (.slice none 0 0)) ∧
    ∀ j, j < done.length → ∃ u, arr[j]? = some u ∧ (Kd.int .i64).R 3 W w0.heap.size (fun k => k < H) u (done.getD j [])
section
variable {w0 W W1 w1 : World} {g n H : Nat} {done : List (List Int)} {v v1 : Value} {xs ys : List Int}
theorem NX.later (h : NX w0 W g n H done v xs) (hb : Below W.heap.size W W1) : NX w0 W1 g n H done v xs := by
  obtain ⟨h1, h2, h3, h4, h5, arr, h6, h7, h8, h9⟩ := h
  exact ⟨below_step h1 hb, h2, h3, Nat.le_trans h4 hb.size, Kd.R_below h5 hb, arr, blk_below h6 hb, h7, h8, fun j hj => by obtain ⟨u, hu, hR⟩ := h9 j hj; exact ⟨u, hu, Kd.R_below hR hb⟩⟩
theorem NX.cell (h : NX w0 W g n H done v xs) (hl : done.length < n) : W.cell? ⟨g, done.length, none⟩ = some v := by
  obtain ⟨arr, h6, h7, _⟩ := h.blk
  rw [blk_cell h6]
  simpa using h7 _ rfl hl
theorem NX.put (h : NX w0 W g n H done v xs) (hl : done.length < n) (hr : (Kd.int .i64).R 3 w1 H (fun _ => True) v1 ys) (hgr : W.grownBy w1 v.ownBlock) : NX w0 (w1.setCell ⟨g, done.length, none⟩ v1) g n H done v1 ys := by
  obtain ⟨h1, h2, h3, h4, h5, arr, h6, h7, h8, h9⟩ := h
  have hb1 := blk_grown h6 hgr (Kd.R_ne h5 h6 (by decide))
  have hlt : done.length < arr.length := (List.getElem?_eq_some_iff.1 (h7 _ rfl hl)).1
  have hbl : Below w0.heap.size w0 w1 := h1.grown hgr h1.size (fun k hk => by have := Kd.R_base h5 k hk; omega)
  refine ⟨below_set hbl h2, h2, h3, Nat.le_trans h4 (by have := hgr.size; simpa [World.setCell] using this), Kd.R_set hr hb1 (by decide) _ _, arr.set done.length v1, by simpa using blk_set hb1 done.length v1, fun j hj hn => ?_, fun j hj hn => ?_, fun j hj => ?_⟩
  · subst hj; rw [List.getElem?_set_self hlt]
  · rw [List.getElem?_set_ne (by omega)]; exact h8 j hj hn
  · obtain ⟨u, hu, hR⟩ := h9 j hj
    rw [List.getElem?_set_ne (by omega)]
    exact ⟨u, hu, Kd.R_set (Kd.R_grown hR hgr (fun k hk e => by have := Kd.R_base h5 k e.symm; omega)) hb1 (by decide) _ _⟩
theorem NX.next (h : NX w0 W g n H done v xs) (hl : done.length < n) : NX w0 W g n W.heap.size (done ++ [xs]) (.slice none 0 0) [] := by
  obtain ⟨h1, h2, h3, h4, h5, arr, h6, h7, h8, h9⟩ := h
  refine ⟨h1, h2, by omega, Nat.le_refl _, Kd.R_nil _ _ _ _ _, arr, h6, fun j hj hn => ?_, fun j hj hn => ?_, fun j hj => ?_⟩
  · rw [List.length_append, List.length_singleton] at hj; exact h8 j (by omega) hn
  · rw [List.length_append, List.length_singleton] at hj; exact h8 j (by omega) hn
  · rw [List.length_append, List.length_singleton] at hj
    rcases Nat.lt_or_ge j done.length with e | e
    · obtain ⟨u, hu, hR⟩ := h9 j e
      refine ⟨u, hu, ?_⟩
      rw [List.getD_eq_getElem?_getD, List.getElem?_append_left e, ← List.getD_eq_getElem?_getD]
      exact Kd.R_mono hR (fun k hk => by omega)
    · obtain rfl : j = done.length := by omega
      refine ⟨v, h7 _ rfl hl, ?_⟩
      rw [List.getD_eq_getElem?_getD, List.getElem?_append_right (Nat.le_refl _), Nat.sub_self]
      exact Kd.R_mono (Kd.R_bound (Kd.R_lower h5 (by omega))) (fun k hk => hk.2.2.1)
end
/-- A slice that is nil, as a kind. -/
def kNil : Kd Unit := Kd.scalar (fun _ : Unit => Value.slice none 0 0) (fun _ => rfl)
theorem nil_form {w : World} {base N : Nat} {ok : Nat → Prop} {v : Value} (h : kNil.R 34 w base ok v (List.replicate ((N : Int)).toNat ())) (hb : v.ownBlock.isSome = true) :
    ∃ g cap, ∃ cur : List Value, v = .slice (some ⟨g, 0, none⟩) N cap ∧ base ≤ g ∧ w.heap[g]? = some (.cells cur.toArray 34 (0, 0)) ∧ N ≤ cap ∧ ∀ k : Nat, k < N → cur[k]? = some (.slice none 0 0) := by
  have ho := Kd.own_of_R h
  rcases ho.2 with ⟨rfl, _⟩ | ⟨g, cap, cur, rfl, h1, h2, h3, h4, h5, h6⟩
  · simp [Value.ownBlock] at hb
  · refine ⟨g, cap, cur.toList, by simp, h1, by simpa using h2, by simpa using h3, fun k hk => ?_⟩
    simp [encs] at h6
    have h7 : (cur.toList.take N)[k]? = some (Value.slice none 0 0) := by rw [h6, List.getElem?_replicate, if_pos hk]
    rwa [List.getElem?_take, if_pos hk] at h7
set_option maxHeartbeats 4000000 in
set_option maxRecDepth 100000 in
theorem next_any {A : Option Addr} {c : Nat} {fs bl : List Int} {tot : Int} (p : Int) (gv : Nat) (bs : List S87) (w : World) (hv : View w gv p A bs c fs bl tot) (hn : bs.length ≤ 8) (hj : ∀ b ∈ bs, b.f4.length ≤ 2) :
    Calls Try.prog 64 #[.pointer (some ⟨gv, 0, none⟩)] w fun e w' => ∃ g cap H, e = .returned (.slice (some ⟨g, 0, none⟩) bs.length cap) ∧ bs.length ≤ cap ∧ NX w w' g bs.length H (nextL bs) (.slice none 0 0) [] := by
  have y1 := hv.cell1
  have HR := Aside0.mk hv.rows.1
  have HJ := Aside0.mk hj
  have HB := Aside0.mk (Below.refl w.heap.size w)
  have HN := Aside0.mk hn
  have hm1 := Kd.C_max hv.rows.1
  have hlt := hv.lt
  obtain ⟨N, hN⟩ : ∃ N, N = bs.length := ⟨_, rfl⟩
  rw [← hN] at y1 HR HN hm1 ⊢
  have HEN := Aside0.mk hN
  clear hv hn hj hN
  go_enter Try.func64, Try.ntmps64
  go_wp2_with ((with_reducible refine gate_dst (N := 14) rfl ?_); refine Kd.R_make kNil _ 34 rfl (N := 14) rfl 42 _ _ rfl (N : Int) rfl rfl Try.underlying42 (.slice none 0 0) 24 info34 rfl (by decide) (by omega) () (ok := fun _ => True) (okp := fun _ => True) rfl (fun _ hk => hk) trivial (by omega) (by have := HN.out; simp; omega) HB.out (Nat.le_refl _) ?_; intro v14 w3 ho hb hg_ hnew_; obtain ⟨g, cap, cur, rfl, hgB0, hgH0, hcap0, hcur0⟩ := nil_form ho (by obtain ⟨b, e_, _⟩ := hnew_; rw [e_]; rfl); have HNX := Aside0.mk (show NX w w3 g N w3.heap.size [] (.slice none 0 0) [] from ⟨hb, hgB0, blk_lt hgH0, Nat.le_refl _, Kd.R_nil _ _ _ _ _, cur, hgH0, fun j _ hj => hcur0 j hj, fun j _ hj => hcur0 j hj, fun j hj => absurd hj (Nat.not_lt_zero _)⟩); have z1 := pw_cell_below hb y1; have HCAP := Aside0.mk hcap0; clear ho hb hg_ hnew_ hgB0 hgH0 hcap0 hcur0)
  go_loopg [21] N (fun gg s21 wr => ∃ (i H : Nat), s21 = .int .i64 (i : Int) ∧ Aside0 (i ≤ N ∧ N - i ≤ gg) ∧ Aside0 (NX w wr g N H (nextL (bs.take i)) (.slice none 0 0) []))
  case atStart => exact ⟨0, _, rfl, ⟨by omega, by omega⟩, HNX⟩
  case round =>
    clear z1 HNX
    obtain ⟨i, H, rfl, HA, HNX⟩ := hrel
    obtain ⟨wo, rfl⟩ : ∃ wo : World, wo = wr := ⟨_, rfl⟩
    by_cases hlt : i < N
    · have hib : i < bs.length := by have := HEN.out; omega
      obtain ⟨ad, B1, d1, B4, d4, e, hz0, hz1, hz2, hz3, hz4, hl1, hi1, hl4, hi4⟩ := at_T87 HR.out (i : Int) (by omega) (by omega)
      cases e
      simp only [Int.toNat_natCast] at hz0 hz1 hz2 hz3 hz4
      have HL := Aside0.mk hlt
      have HM := Aside0.mk (HJ.out _ (show rd_T87 bs (i : Int) ∈ bs from getD_mem bs z87 i hib))
      have HTK := Aside0.mk (show nextL (bs.take (i + 1)) = nextL (bs.take i) ++ [toL (rd_T87 bs (i : Int))] by rw [List.take_succ_eq_append_getElem hib, nextL, List.map_append, rd_nat bs i hib]; rfl)
      have HLEN := Aside0.mk (show (nextL (bs.take i)).length = i by simp [nextL]; omega)
      obtain ⟨done, hdone⟩ : ∃ z, z = nextL (bs.take i) := ⟨_, rfl⟩
      obtain ⟨b, hb⟩ : ∃ z, z = rd_T87 bs (i : Int) := ⟨_, rfl⟩
      rw [← hdone] at HNX HTK HLEN
      rw [← hb] at hz0 hz1 hz2 hz3 hz4 hi1 hi4 HM HTK
      have hbw := HNX.out.below
      have x0 := pw_cell_below hbw hz0
      have x1 := pw_cell_below hbw hz1
      have x2 := pw_cell_below hbw hz2
      have x3 := pw_cell_below hbw hz3
      have x4 := pw_cell_below hbw hz4
      have HI4 := Aside0.mk hi4
      have hm4 := Kd.C_max hi4
      obtain ⟨m, hm⟩ : ∃ m, m = b.f4.length := ⟨_, rfl⟩
      rw [← hm] at hm4 HI4 HM x4
      have HEM := Aside0.mk hm
      clear hz0 hz1 hz2 hz3 hz4 hl1 hi1 hl4 hi4 hb hdone hbw hm hib
      go_wp2
      have HNX2 := Aside0.mk (HNX.out.later (below_alloc (Below.refl _ _) (.cells #[.int .i64 b.f0, .slice B1 b.f1.length d1, .int .i64 b.f2, .int .i64 b.f3, .slice B4 m d4] 87)))
      clear x0 x1 x2 x3 x4
      go_loopg [29] m (fun gg s29 wi => ∃ (j : Nat) (v : Value), s29 = .int .i64 (j : Int) ∧ Aside0 (j ≤ m ∧ m - j ≤ gg) ∧ Aside0 (NX w wi g N H done v ((b.f4.take j).map (·.f0))))
      case atStart => exact ⟨0, _, rfl, ⟨by omega, by omega⟩, ⟨by simpa using HNX2.out⟩⟩
      case round =>
        clear HNX HNX2
        obtain ⟨j, v, rfl, HAj, HNj⟩ := hrel
        obtain ⟨wi, rfl⟩ : ∃ wi : World, wi = wr := ⟨_, rfl⟩
        by_cases hltj : j < m
        · obtain ⟨ad4, B5, d5, e, ha0, ha1, hl5, hi5⟩ := at_T109 HI4.out (j : Int) (by omega) (by omega)
          cases e
          simp only [Int.toNat_natCast] at ha0 ha1
          have HLj := Aside0.mk hltj
          have hjb : j < b.f4.length := by have := HEM.out; omega
          have HTJ := Aside0.mk (show (b.f4.take (j + 1)).map (·.f0) = (b.f4.take j).map (·.f0) ++ [(rd_T109 b.f4 (j : Int)).f0] by rw [List.take_succ_eq_append_getElem hjb, List.map_append, rd_T109, List.getD_eq_getElem?_getD, Int.toNat_natCast, List.getElem?_eq_getElem hjb]; rfl)
          have HXL := Aside0.mk (show ((b.f4.take j).map (·.f0)).length ≤ 2 by have := HM.out; simp; omega)
          obtain ⟨jt, hjt⟩ : ∃ z, z = rd_T109 b.f4 (j : Int) := ⟨_, rfl⟩
          obtain ⟨xs, hxs⟩ : ∃ z, z = (b.f4.take j).map (·.f0) := ⟨_, rfl⟩
          rw [← hjt] at ha0 ha1 HTJ
          rw [← hxs] at HNj HTJ HXL
          have z0 := pw_cell_below HNj.out.below ha0
          have z1 := pw_cell_below HNj.out.below ha1
          obtain ⟨A5, c5, rfl⟩ := Kd.R_slice HNj.out.row
          have hdl : done.length < N := by rw [HLEN.out]; omega
          have zg : wi.cell? ⟨g, i, none⟩ = some (.slice A5 xs.length c5) := by have := HNj.out.cell hdl; rwa [HLEN.out] at this
          have hgl : g < wi.heap.size := by have := HNj.out.hgH; have := HNj.out.hH; omega
          have HNW := Aside0.mk (show NX w ((wi.alloc (.cells #[.int .i64 jt.f0, .slice B5 jt.f1.length d5] 109)).alloc (.cells #[.int .i64 jt.f0] 3)).drew g N H done (.slice A5 xs.length c5) xs from HNj.out.later (by repeat (first | exact Below.refl _ _ | apply below_drew1 | apply below_alloc)))
          have HPUT := Aside0.mk (fun w1 v1 ys (hr : (Kd.int .i64).R 3 w1 H (fun _ => True) v1 ys) hgr => (by have := HNW.out.put hdl hr hgr; rwa [HLEN.out] at this : NX w (w1.setCell ⟨g, i, none⟩ v1) g N H done v1 ys))
          have ZGW := Aside0.mk (show ((wi.alloc (.cells #[.int .i64 jt.f0, .slice B5 jt.f1.length d5] 109)).alloc (.cells #[.int .i64 jt.f0] 3)).drew.cell? ⟨g, i, none⟩ = some (.slice A5 xs.length c5) from (by have := HNW.out.cell hdl; rwa [HLEN.out] at this))
          clear hjt hxs ha0 ha1 hl5 hi5 hdl hjb
          go_upto_region 8 with fail
          go_region_law (first | ((with_reducible refine gate_stepd (N := 42) rfl ?_); refine step_appN (base := H) rfl (.tmp 38) (.tmp 41) rfl (v := (.slice A5 xs.length c5)) (xs := xs) (ys := [jt.f0]) (ok := fun _ => True) (by go_simp) HNW.out.row (ad := ⟨wi.heap.size + 1, 0, none⟩) (n := 1) (c := 1) (by go_simp) rfl (fun j hj => by have e : j = 0 := (by simpa using hj); rw [e, add_plain]; show _ = some (Value.int .i64 jt.f0); simp) (by have := HXL.out; simp only [List.length_singleton]; omega) HNW.out.hH (fun _ _ => trivial) ?_; intro v1 w2 hR hgr hat; obtain ⟨A1', c1', e1⟩ := Kd.R_slice hR; rw [List.length_append, List.length_singleton] at e1; subst e1; obtain ⟨arr, hgA, _⟩ := HNW.out.blk; have hg2 := blk_grown hgA hgr (Kd.R_ne HNW.out.row hgA (by decide)); have y2 : w2.cell? ⟨g, i, none⟩ = some (.slice A5 xs.length c5) := (by rw [blk_cell hg2 i, ← blk_cell hgA i]; exact ZGW.out); have y2f := blk_frozen hg2 i; have HX := Aside0.mk (And.intro hR hgr); clear hR hgr hat hg2 hgA))
          all_goals
            have HN2 := Aside0.mk (HPUT.out _ _ _ HX.out.1 HX.out.2)
            clear HNW HPUT
            go_wp2
            go_roundg (m - (j + 1))
            case measure => have := HAj.out; have := HLj.out; omega
            case rel => exact ⟨j + 1, _, by go_num, ⟨by have := HLj.out; omega, by omega⟩, ⟨by rw [HTJ.out]; exact HN2.out⟩⟩
        · have e : j = b.f4.length := by have := HAj.out; have := HEM.out; omega
          have HNE := Aside0.mk (show NX w wi g N wi.heap.size (nextL (bs.take (i + 1))) (.slice none 0 0) [] by have h := HNj.out.next (by rw [HLEN.out]; exact HL.out); rw [e, List.take_length] at h; rw [HTK.out]; exact h)
          go_wp2
          go_roundg (N - (i + 1))
          case measure => have := HA.out; have := HL.out; omega
          case rel => exact ⟨i + 1, _, by go_num, ⟨by have := HL.out; omega, by omega⟩, HNE⟩
    · go_wp2
      go_ret
      have e : i = N := by have := HA.out; omega
      have hN := HNX.out
      rw [e, HEN.out, List.take_length, ← HEN.out] at hN
      exact ⟨g, cap, H, rfl, HCAP.out, hN⟩
end Go.Proofs.Ytghlbhijkhkgkaa.PA
