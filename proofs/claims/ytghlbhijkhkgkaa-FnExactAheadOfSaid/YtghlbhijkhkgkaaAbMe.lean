/- The flow seat: impl.AheadOf by hand. -/
import Derived.Test.YtghlbhijkhkgkaaAbMd
namespace Go.Proofs.Ytghlbhijkhkgkaa.PA
open Go.RowKit Go.Proofs.YtghlbhijkhkgkaaW.PrintWords Go.Proofs.YtghlbhijkhkgkaaW.PrintLast Go.Proofs.YtghlbhijkhkgkaaW.PrintMore
set_option linter.unusedVariables false
/-- The rows of next, which lie in the blocks from B to H. -/
structure RW (W : World) (g B H : Nat) (rows : List (List Int)) : Prop where
  hB : B ≤ g
  hH : g < H
  hW : H ≤ W.heap.size
  blk : ∃ arr : List Value, W.heap[g]? = some (.cells arr.toArray 34 (0, 0)) ∧ ∀ j, j < rows.length → ∃ u, arr[j]? = some u ∧ (Kd.int .i64).R 3 W B (fun k => B ≤ k ∧ k < H) u (rows.getD j [])
section
variable {w0 W W1 w1 : World} {g n B H : Nat} {rows : List (List Int)} {v : Value} {xs : List Int} {row : Option Nat}
theorem RW.of_NX (h : NX w0 W g n H rows v xs) : RW W g w0.heap.size H rows := by
  obtain ⟨h1, h2, h3, h4, h5, arr, h6, h7, h8, h9⟩ := h
  exact ⟨h2, h3, h4, arr, h6, fun j hj => by obtain ⟨u, hu, hR⟩ := h9 j hj; exact ⟨u, hu, Kd.R_mono (Kd.R_bound hR) (fun k hk => ⟨hk.2.1, hk.1⟩)⟩⟩
theorem RW.later (h : RW W g B H rows) (hb : Below W.heap.size W W1) : RW W1 g B H rows := by
  obtain ⟨h2, h3, h4, arr, h6, h9⟩ := h
  exact ⟨h2, h3, Nat.le_trans h4 hb.size, arr, blk_below h6 hb, fun j hj => by obtain ⟨u, hu, hR⟩ := h9 j hj; exact ⟨u, hu, Kd.R_below hR hb⟩⟩
theorem RW.grown (h : RW W g B H rows) (hgr : W.grownBy w1 row) (hr : ∀ k, row = some k → k < B ∨ H ≤ k) : RW w1 g B H rows := by
  obtain ⟨h2, h3, h4, arr, h6, h9⟩ := h
  exact ⟨h2, h3, Nat.le_trans h4 hgr.size, arr, blk_grown h6 hgr (fun e => by have := hr g e.symm; omega), fun j hj => by obtain ⟨u, hu, hR⟩ := h9 j hj; exact ⟨u, hu, Kd.R_grown hR hgr (fun k hk e => by have := hr k e.symm; omega)⟩⟩
theorem RW.at_row (h : RW W g B H rows) {j : Nat} (hj : j < rows.length) : ∃ A c, W.cell? ⟨g, j, none⟩ = some (.slice A (rows.getD j []).length c) ∧ (Kd.int .i64).R 3 W B (fun k => B ≤ k ∧ k < H) (.slice A (rows.getD j []).length c) (rows.getD j []) := by
  obtain ⟨arr, h6, h9⟩ := h.blk
  obtain ⟨u, hu, hR⟩ := h9 j hj
  obtain ⟨A, c, rfl⟩ := Kd.R_slice hR
  exact ⟨A, c, by rw [blk_cell h6 j]; simpa using hu, hR⟩
end
theorem empty_R (W : World) (base : Nat) (hb : base ≤ W.heap.size) : (Kd.int .i64).R 3 (W.alloc (.cells #[] 3)) base (fun k => k = W.heap.size) (.slice (some ⟨W.heap.size, 0, none⟩) 0 0) [] :=
  Kd.R_of_own ⟨by simp [encs], .inr ⟨W.heap.size, 0, #[], by simp, hb, by simpa using heap_alloc_new W (.cells #[] 3), by simp, by simp, by simp, by simp [encs]⟩⟩ (fun k hk => by simpa [Value.ownBlock] using hk.symm)
set_option maxHeartbeats 2000000 in
set_option maxRecDepth 100000 in
theorem implAheadOf_any {A : Option Addr} {c : Nat} (p : Int) (bs : List S87) (v : Int) (w : World) (hr : Kd.C k87 w A bs.length bs) (hc : bs.length ≤ c) :
    Calls Try.prog 30 #[.agg #[.int .i64 p, .slice A bs.length c], .int .i64 v] w fun e w' => ∃ v0 : Value, e = .returned (.tuple #[v0, .bool (ansAheadOf p bs v).2]) ∧ (Kd.int .i64).R 3 w' w.heap.size (fun _ => True) v0 (ansAheadOf p bs v).1 ∧ Below w.heap.size w w' := by
  have HB := Aside0.mk (Below.refl w.heap.size w)
  have W1 := below_alloc (Below.refl w.heap.size w) (.cells #[.int .i64 p, .slice A bs.length c] 30)
  rcases Bool.eq_false_or_eq_true (goodB p bs) with hg | hg
  · have hcall := Aside0.mk (viewOf_yes (c := c) p bs (w.alloc (.cells #[.int .i64 p, .slice A bs.length c] 30)) (Kd.C_below hr W1) hc hg)
    obtain ⟨hp, hn, hf, ht⟩ := good_iff hg
    have HGJ := Aside0.mk (show ∀ b ∈ bs, b.f4.length ≤ 2 from fun b hb => by obtain ⟨k, hk, rfl⟩ := List.getElem_of_mem hb; have := good_jumps hg k hk; rwa [rd_nat bs k hk] at this)
    have HN := Aside0.mk hn.2
    have hm := Kd.C_max hr
    have hans : ansAheadOf p bs v = if within v 0 ((bs.length : Int) - 1) = true then (aheadP bs v bs.length, true) else ([], false) := by rw [ansAheadOf, if_pos hg]
    obtain ⟨fs, hfs⟩ : ∃ x, x = firstsF p bs bs.length := ⟨_, rfl⟩
    obtain ⟨bl, hbl2⟩ : ∃ x, x = blocksF p bs bs.length := ⟨_, rfl⟩
    obtain ⟨tot, htot⟩ : ∃ x, x = totF p bs bs.length := ⟨_, rfl⟩
    rw [← hfs, ← hbl2, ← htot] at hcall
    have HANS := Aside0.mk hans
    have HNL := Aside0.mk (show (nextL bs).length = bs.length by simp [nextL])
    clear hr hc hg hp hn hf hans hfs hbl2 htot ht W1
    rcases Bool.eq_false_or_eq_true (within v 0 ((bs.length : Int) - 1)) with q | q
    · have HQ := Aside0.mk (show ansAheadOf p bs v = (aheadP bs v bs.length, true) by rw [HANS.out, if_pos q])
      have HW := Aside0.mk q
      clear q
      go_enter Try.func30, Try.ntmps30
      go_wp2_with (first | (go_at_call 56; refine (hcall.out).mono ?_; rintro e w1 ⟨gv, rfl, hb, hview⟩; have HV1 := Aside0.mk hview; have HB1 := Aside0.mk (below_step (below_alloc (Below.refl w.heap.size w) _) hb); clear hb hview hcall) | (go_at_call 63; refine (hasBlock_any v HV1.out HN.out).mono ?_; rintro e w2 ⟨rfl, rfl⟩; rw [HW.out]))
      refine (next_any p gv bs (w2.alloc (.cells #[] 3)) (HV1.out.alloc _) HN.out HGJ.out).mono ?_
      rintro e w3 ⟨g, cap, H, rfl, hcap, hnx⟩
      obtain ⟨B, hBe⟩ : ∃ B, B = (w2.alloc (.cells #[] 3)).heap.size := ⟨_, rfl⟩
      have hrw0 := RW.of_NX hnx
      rw [← hBe] at hrw0
      have HRW := Aside0.mk hrw0
      have HO := Aside0.mk (show (Kd.int .i64).R 3 w3 w.heap.size (fun k => k < B ∨ H ≤ k) (.slice (some ⟨w2.heap.size, 0, none⟩) 0 0) (aheadP bs v 0) from Kd.R_mono (Kd.R_below (empty_R w2 w.heap.size HB1.out.size) hnx.below) (fun k hk => .inl (by rw [hBe, hk]; simp)))
      have HB3 := Aside0.mk (below_step (below_alloc HB1.out _) hnx.below)
      clear hnx hrw0 hBe hcap HV1
      go_wp2
      go_loopg [7, 24] bs.length (fun gg s7 s24 wr => ∃ i : Nat, s24 = .int .i64 (i : Int) ∧ Aside0 (i ≤ bs.length ∧ bs.length - i ≤ gg) ∧ Aside0 ((Kd.int .i64).R 3 wr w.heap.size (fun k => k < B ∨ H ≤ k) s7 (aheadP bs v i)) ∧ Aside0 (RW wr g B H (nextL bs)) ∧ Aside0 (Below w.heap.size w wr))
      case atStart => exact ⟨0, rfl, ⟨by omega, by omega⟩, HO, HRW, HB3⟩
      case round =>
        clear HO HRW HB3
        obtain ⟨i, rfl, HA, HO, HRW, HB3⟩ := hrel
        obtain ⟨wo, rfl⟩ : ∃ wo : World, wo = wr := ⟨_, rfl⟩
        by_cases hlt : i < bs.length
        · have hil : i < (nextL bs).length := by have := HNL.out; omega
          have hrow := nextL_at bs i hlt
          obtain ⟨A5, c5, hz, hR5⟩ := HRW.out.at_row hil
          rw [hrow] at hz hR5
          have hsucc := aheadP_succ bs v i
          have hlen : (toL (rd_T87 bs (i : Int))).length ≤ 2 := by have := HGJ.out _ (show rd_T87 bs (i : Int) ∈ bs from getD_mem bs z87 i hlt); simpa [toL] using this
          obtain ⟨row, hrw⟩ : ∃ z, z = toL (rd_T87 bs (i : Int)) := ⟨_, rfl⟩
          rw [← hrw] at hz hR5 hsucc hlen
          have T69 := Aside0.mk (contains_any v row (by omega) (Kd.R_reads' hR5).2.2 (Kd.R_reads' hR5).2.1)
          obtain ⟨out, hout⟩ : ∃ z, z = aheadP bs v i := ⟨_, rfl⟩
          have hol : out.length ≤ 8 := by rw [hout]; have := aheadP_len bs v i; have := HN.out; omega
          rw [← hout] at HO hsucc
          obtain ⟨Ao, co, rfl⟩ := Kd.R_slice HO.out
          have HS := Aside0.mk hsucc
          have HOL := Aside0.mk hol
          have HL := Aside0.mk hlt
          clear hil hrow hR5 hsucc hlen hrw hout hol
          by_cases hmem : v ∈ row
          · have hS2 := HS.out
            rw [if_pos hmem] at hS2
            have HS2 := Aside0.mk hS2
            have T70 := T69.out
            rw [decide_eq_true hmem] at T70
            have T := Aside0.mk T70
            clear hS2 T70 T69 HS hmem
            go_wp2_with (first | (go_at_call 69; refine (T.out).mono ?_; rintro e w4 ⟨rfl, nq, rfl⟩) | ((with_reducible refine gate_dst (N := 35) rfl ?_); refine Kd.R_append (Kd.int .i64) (w0 := w) w.heap.size rfl (.tmp 32) (.tmp 34) 34 3 (.int .i64 0) 8 rfl Try.underlying34 info3 rfl (by decide) (by omega) (.slice Ao out.length co) out (i : Int) [.int .i64 (i : Int)] (fun k => k < B ∨ H ≤ k) (fun _ => False) rfl rfl rfl (fun _ hk => hk.elim) (fun k hk => .inr (Nat.le_trans HRW.out.hW hk)) (Kd.R_drewN HO.out nq) (pw_below_drewN HB3.out nq) HB3.out.size (by have := HOL.out; omega) ?_; intro v35 w5 ho hb hgr hat; have HO2 := Aside0.mk ho; have HRW2 := Aside0.mk ((HRW.out.later (pw_below_drewN (Below.refl _ _) nq)).grown hgr (fun k hk => HO.out.1 k hk)); have HB4 := Aside0.mk hb; clear ho hb hgr hat))
            go_roundg (bs.length - (i + 1))
            case measure => have := HA.out; have := HL.out; omega
            case rel => exact ⟨i + 1, by go_num, ⟨by have := HL.out; omega, by omega⟩, ⟨by rw [HS2.out]; exact HO2.out⟩, HRW2, HB4⟩
          · have hS2 := HS.out
            rw [if_neg hmem] at hS2
            have HS2 := Aside0.mk hS2
            have T70 := T69.out
            rw [decide_eq_false hmem] at T70
            have T := Aside0.mk T70
            clear hS2 T70 T69 HS hmem
            go_wp2_with (go_at_call 69; refine (T.out).mono ?_; rintro e w4 ⟨rfl, nq, rfl⟩)
            go_roundg (bs.length - (i + 1))
            case measure => have := HA.out; have := HL.out; omega
            case rel => exact ⟨i + 1, by go_num, ⟨by have := HL.out; omega, by omega⟩, ⟨by rw [HS2.out]; exact Kd.R_drewN HO.out nq⟩, ⟨HRW.out.later (pw_below_drewN (Below.refl _ _) nq)⟩, ⟨pw_below_drewN HB3.out nq⟩⟩
        · have e : i = bs.length := by have := HA.out; omega
          go_wp2
          go_ret2
          exact ⟨_, by rw [HQ.out]; rfl, by rw [HQ.out]; exact Kd.R_mono (e ▸ HO.out) (fun _ _ => trivial), HB3.out⟩
    · have HQ := Aside0.mk (show ansAheadOf p bs v = ([], false) by rw [HANS.out, if_neg (by rw [q]; decide)])
      have HW := Aside0.mk q
      clear q
      go_enter Try.func30, Try.ntmps30
      go_wp2_with (first | (go_at_call 56; refine (hcall.out).mono ?_; rintro e w1 ⟨gv, rfl, hb, hview⟩; have HV1 := Aside0.mk hview; have HB1 := Aside0.mk (below_step (below_alloc (Below.refl w.heap.size w) _) hb); clear hb hview hcall) | (go_at_call 63; refine (hasBlock_any v HV1.out HN.out).mono ?_; rintro e w2 ⟨rfl, rfl⟩; rw [HW.out]))
      go_ret2
      exact ⟨_, by rw [HQ.out]; rfl, by rw [HQ.out]; exact Kd.R_nil _ _ _ _ _, HB1.out⟩
  · have hcall := Aside0.mk (viewOf_no (c := c) p bs (w.alloc (.cells #[.int .i64 p, .slice A bs.length c] 30)) (Kd.C_below hr W1) hc hg)
    have HA := Aside0.mk (show ansAheadOf p bs v = ([], false) by rw [ansAheadOf, hg]; rfl)
    clear hr hc hg W1
    go_enter Try.func30, Try.ntmps30
    go_wp2_with (go_at_call 56; refine (hcall.out).mono ?_; rintro e w1 ⟨rfl, hb⟩; have HB1 := Aside0.mk (below_step (below_alloc (Below.refl w.heap.size w) _) hb); clear hb hcall)
    go_ret2
    exact ⟨_, by rw [HA.out]; rfl, by rw [HA.out]; exact Kd.R_nil _ _ _ _ _, HB1.out⟩
end Go.Proofs.Ytghlbhijkhkgkaa.PA
