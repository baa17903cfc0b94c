/- The flow seat: impl.reach and impl.listOf over the rows of next; impl.ReachedBlocks by hand. -/
import Derived.Test.YtghlbhijkhkgkaaRbMe
import Derived.Test.YtghlbhijkhkgkaaRbMi
namespace Go.Proofs.Ytghlbhijkhkgkaa.PA
open Go.RowKit Go.Proofs.YtghlbhijkhkgkaaW.PrintWords Go.Proofs.YtghlbhijkhkgkaaW.PrintLast Go.Proofs.YtghlbhijkhkgkaaW.PrintMore
set_option linter.unusedVariables false
theorem RW.C {W : World} {g B H : Nat} {rows : List (List Int)} (h : RW W g B H rows) (hn : rows.length ≤ 1000) : Kd.C (Kd.slice 3 (Kd.int .i64)) W (some ⟨g, 0, none⟩) rows.length rows := by
  refine ⟨rfl, by omega, fun _ => ⟨_, rfl, fun j p hj => ?_⟩⟩
  obtain ⟨hl, e⟩ := List.getElem?_eq_some_iff.1 hj
  obtain ⟨A, c, hz, hR⟩ := h.at_row hl
  have e2 : rows.getD j [] = p := by rw [List.getD_eq_getElem?_getD, hj]; rfl
  rw [e2] at hz hR
  refine ⟨[.slice A p.length c], rfl, ⟨A, c, rfl, (Kd.R_reads' hR).2.1, (Kd.R_reads' hR).2.2⟩, fun i u hu => ?_⟩
  cases i with
  | succ i => simp at hu
  | zero =>
    simp only [List.getElem?_cons_zero, Option.some.injEq] at hu
    subst hu
    rw [← hz]
    show W.cell? (Addr.add ⟨g, 0, none⟩ (j * 1 + 0)) = W.cell? ⟨g, j, none⟩
    rw [Nat.mul_one, Nat.add_zero, add_plain]
theorem reach_any {W : World} {g B H c : Nat} {rows : List (List Int)} (h : RW W g B H rows) (hok : RowsOk rows) (hc : rows.length ≤ c) (a but : Int) (ha : 0 ≤ a ∧ a < (rows.length : Int)) :
    Calls Try.prog 73 #[.slice (some ⟨g, 0, none⟩) rows.length c, .int .i64 a, .int .i64 but] W fun e w' => ∃ v : Value, e = .returned v ∧ Kd.bool.R 4 w' W.heap.size (fun _ => True) v (reachL rows a but) ∧ Below W.heap.size W w' := by
  obtain ⟨k, hk⟩ := Ev.rounds (reach_is hok ha but)
  exact impl_reach.calls k (some ⟨g, 0, none⟩) c rows a but _ W (h.C hok.1) hc hk
theorem listOf_any {w : World} {A : Option Addr} {c : Nat} (l : List Bool) (hl : l.length ≤ 1000) (hr : Kd.bool.C w A l.length l) (hc : l.length ≤ c) :
    Calls Try.prog 72 #[.slice A l.length c] w fun e w' => ∃ v : Value, e = .returned v ∧ (Kd.int .i64).R 3 w' w.heap.size (fun _ => True) v (numsL l.length (rdOf false l)) ∧ Below w.heap.size w w' := by
  obtain ⟨k, hk⟩ := Ev.rounds (listOf_is l hl)
  exact impl_listOf.calls k A c l _ w hr hc hk
/-- The blocks that are reached. -/
noncomputable def ansReachedBlocks (p : Int) (bs : List S87) : List Int × Bool := if goodB p bs = true then (fromL (nextL bs) 0 (-1), true) else ([], false)
set_option maxHeartbeats 2000000 in
set_option maxRecDepth 100000 in
theorem implReachedBlocks_any {A : Option Addr} {c : Nat} (p : Int) (bs : List S87) (w : World) (hr : Kd.C k87 w A bs.length bs) (hc : bs.length ≤ c) :
    Calls Try.prog 32 #[.agg #[.int .i64 p, .slice A bs.length c]] w fun e w' => ∃ v0 : Value, e = .returned (.tuple #[v0, .bool (ansReachedBlocks p bs).2]) ∧ (Kd.int .i64).R 3 w' w.heap.size (fun _ => True) v0 (ansReachedBlocks p bs).1 ∧ Below w.heap.size w w' := by
  have W1 := below_alloc (Below.refl w.heap.size w) (.cells #[.int .i64 p, .slice A bs.length c] 30)
  rcases Bool.eq_false_or_eq_true (goodB p bs) with hg | hg
  · have hcall := Aside0.mk (viewOf_yes (c := c) p bs (w.alloc (.cells #[.int .i64 p, .slice A bs.length c] 30)) (Kd.C_below hr W1) hc hg)
    have hgr := rows_of_good hg
    have HOK := Aside0.mk (rows_ok hgr)
    have HN := Aside0.mk hgr.len
    have HGJ := Aside0.mk (show ∀ b ∈ bs, b.f4.length ≤ 2 from fun b hb => by obtain ⟨k, hk, rfl⟩ := List.getElem_of_mem hb; have := hgr.two k hk; rwa [rd_nat bs k hk] at this)
    have HA := Aside0.mk (show ansReachedBlocks p bs = (fromL (nextL bs) 0 (-1), true) by rw [ansReachedBlocks, if_pos hg])
    have HNL := Aside0.mk (nextL_len bs)
    have H0 := Aside0.mk (show (0 : Int) ≤ 0 ∧ (0 : Int) < ((nextL bs).length : Int) by rw [nextL_len]; have := hgr.one; omega)
    clear hr hc hg hgr W1
    go_enter Try.func32, Try.ntmps32
    go_wp2_with (go_at_call 56; refine (hcall.out).mono ?_; rintro e w1 ⟨gv, rfl, hb, hview⟩; have HV1 := Aside0.mk hview; have HB1 := Aside0.mk (below_step (below_alloc (Below.refl w.heap.size w) _) hb); clear hb hview hcall)
    refine (next_any p gv bs w1 HV1.out HN.out HGJ.out).mono ?_
    rintro e w3 ⟨g, cap, H, rfl, hcap, hnx⟩
    have HRW := Aside0.mk (RW.of_NX hnx)
    have HB3 := Aside0.mk (below_step HB1.out hnx.below)
    have HCAP := Aside0.mk hcap
    clear hnx hcap HV1 HB1
    have T73 := reach_any (c := cap) HRW.out HOK.out (by rw [HNL.out]; exact HCAP.out) 0 (-1) H0.out
    rw [HNL.out] at T73
    have T := Aside0.mk T73
    clear T73
    go_wp2_with (go_at_call 73; refine (T.out).mono ?_; rintro e w4 ⟨v4, rfl, hR, hb⟩; have HR4 := Aside0.mk hR; have HB4 := Aside0.mk (below_step HB3.out hb); clear hR hb T)
    obtain ⟨A4, c4, rfl⟩ := Kd.R_slice HR4.out
    refine (listOf_any (c := c4) _ (by rw [reachL_len]; exact HOK.out.1) (Kd.R_reads' HR4.out).2.2 (Kd.R_reads' HR4.out).2.1).mono ?_
    rintro e w5 ⟨v5, rfl, hR, hb⟩
    rw [listOf_reach] at hR
    have HR5 := Aside0.mk hR
    have HB5 := Aside0.mk (below_step HB4.out hb)
    clear hR hb
    go_wp2
    go_ret2
    exact ⟨_, by rw [HA.out]; rfl, by rw [HA.out]; exact Kd.R_lower HR5.out HB4.out.size, HB5.out⟩
  · have hcall := Aside0.mk (viewOf_no (c := c) p bs (w.alloc (.cells #[.int .i64 p, .slice A bs.length c] 30)) (Kd.C_below hr W1) hc hg)
    have HA := Aside0.mk (show ansReachedBlocks p bs = ([], false) by rw [ansReachedBlocks, hg]; rfl)
    clear hr hc hg W1
    go_enter Try.func32, Try.ntmps32
    go_wp2_with (go_at_call 56; refine (hcall.out).mono ?_; rintro e w1 ⟨rfl, hb⟩; have HB1 := Aside0.mk (below_step (below_alloc (Below.refl w.heap.size w) _) hb); clear hb hcall)
    go_ret2
    exact ⟨_, by rw [HA.out]; rfl, by rw [HA.out]; exact Kd.R_nil _ _ _ _ _, HB1.out⟩
end Go.Proofs.Ytghlbhijkhkgkaa.PA
