/- The flow seat: LoopOf: the program by hand, the reference in plain words. -/
import Derived.Test.YtghlbhijkhkgkaaLbQb
import Derived.Test.YtghlbhijkhkgkaaLbPAz13
import Derived.WalkSpells
namespace Go.Proofs.Ytghlbhijkhkgkaa.PA
open Go.RowKit Go.Proofs.YtghlbhijkhkgkaaW.PrintWords Go.Proofs.YtghlbhijkhkgkaaW.PrintLast Go.Proofs.YtghlbhijkhkgkaaW.PrintMore
set_option linter.unusedVariables false
/-- What LoopOf answers. -/
noncomputable def ansLoopOf (p : Int) (bs : List S87) (v : Int) : List Int × Bool := if goodB p bs = true then if within v 0 ((bs.length : Int) - 1) = true then if loopL (nextL bs) v = [] then ([], false) else (loopL (nextL bs) v, true) else ([], false) else ([], false)
set_option maxHeartbeats 2000000 in
set_option maxRecDepth 100000 in
theorem implLoopOf_any {A : Option Addr} {c : Nat} (p : Int) (bs : List S87) (v : Int) (w : World) (hr : Kd.C k87 w A bs.length bs) (hc : bs.length ≤ c) :
    Calls Try.prog 45 #[.agg #[.int .i64 p, .slice A bs.length c], .int .i64 v] w fun e w' => ∃ v0 : Value, e = .returned (.tuple #[v0, .bool (ansLoopOf p bs v).2]) ∧ (Kd.int .i64).R 3 w' w.heap.size (fun _ => True) v0 (ansLoopOf p bs v).1 ∧ Below w.heap.size w w' := by
  have W1 := below_alloc (Below.refl w.heap.size w) (.cells #[.int .i64 p, .slice A bs.length c] 30)
  rcases Bool.eq_false_or_eq_true (goodB p bs) with hg | hg
  · have hcall := Aside0.mk (viewOf_yes (c := c) p bs (w.alloc (.cells #[.int .i64 p, .slice A bs.length c] 30)) (Kd.C_below hr W1) hc hg)
    have hgr := rows_of_good hg
    have HGJ := Aside0.mk (show ∀ b ∈ bs, b.f4.length ≤ 2 from fun b hb => by obtain ⟨k, hk, rfl⟩ := List.getElem_of_mem hb; have := hgr.two k hk; rwa [rd_nat bs k hk] at this)
    have HN := Aside0.mk hgr.len
    have HN1 := Aside0.mk hgr.one
    have HOK := Aside0.mk (rows_ok hgr)
    have hans : ansLoopOf p bs v = if within v 0 ((bs.length : Int) - 1) = true then if loopL (nextL bs) v = [] then ([], false) else (loopL (nextL bs) v, true) else ([], false) := by rw [ansLoopOf, if_pos hg]
    have HANS := Aside0.mk hans
    have HNL := Aside0.mk (nextL_len bs)
    clear hr hc hg hgr hans W1
    rcases Bool.eq_false_or_eq_true (within v 0 ((bs.length : Int) - 1)) with q | q
    · have hv : 0 ≤ v ∧ v < (bs.length : Int) := by simp [within] at q; omega
      have HQ := Aside0.mk (show ansLoopOf p bs v = if loopL (nextL bs) v = [] then ([], false) else (loopL (nextL bs) v, true) by rw [HANS.out, if_pos q])
      have HW := Aside0.mk q
      obtain ⟨vn, rfl⟩ := Int.eq_ofNat_of_zero_le hv.1
      have HV := Aside0.mk (show vn < (nextL bs).length by rw [HNL.out]; omega)
      clear q hv
      go_enter Try.func45, Try.ntmps45
      go_wp2_with (first | (go_at_call 56; refine (hcall.out).mono ?_; rintro e w1 ⟨gv, rfl, hb, hview⟩; have HV1 := Aside0.mk hview; have HB1 := Aside0.mk (below_step (below_alloc (Below.refl w.heap.size w) _) hb); clear hb hview hcall) | (go_at_call 63; refine (hasBlock_any (vn : Int) HV1.out HN.out).mono ?_; rintro e w2 ⟨rfl, rfl⟩; rw [HW.out]))
      refine (next_any p gv bs w2 HV1.out HN.out HGJ.out).mono ?_
      rintro e w3 ⟨g, cap, H, rfl, hcap, hnx⟩
      have HB3 := Aside0.mk (below_step HB1.out hnx.below)
      have hrw := RW.of_NX hnx
      have T82 := loop_any (A0 := some ⟨g, 0, none⟩) (c0 := cap) (nextL bs) w3 HOK.out (by rw [HNL.out]; exact HN1.out) (by rw [HNL.out]; exact HN.out) vn HV.out (hrw.C HOK.out.1) (by rw [HNL.out]; exact hcap)
      have hlo := loopL_nil (next := nextL bs) (head := (vn : Int)) ⟨by omega, by have := HV.out; omega⟩
      have HLO := Aside0.mk hlo
      rw [HNL.out] at T82
      have HT := Aside0.mk T82
      clear hnx hrw hcap HV1 T82 hlo
      go_wp2_with fail
      refine (HT.out).mono ?_
      rintro e w4 ⟨hcase, hb⟩
      have HB4 := Aside0.mk (below_step HB3.out hb)
      clear hb HT
      rcases hcase with ⟨h1, rfl⟩ | ⟨h1, v21, rfl, hR⟩
      · have HE := Aside0.mk (show ansLoopOf p bs (vn : Int) = ([], false) by rw [HQ.out, if_pos (HLO.out.2 h1)])
        have hneq : ∀ W : World, (binOp .neq 34 (.slice none 0 0) (.slice none 0 0)).run Try.prog W = .ok (.bool false) W := fun W => run_neq_slice_nil_any W 34 3 none 0 0 0 0 Try.underlying34
        clear h1
        go_wp2
        go_ret2
        exact ⟨_, by rw [HE.out]; rfl, by rw [HE.out]; exact Kd.R_nil _ _ _ _ _, HB4.out⟩
      · have hne : loopL (nextL bs) (vn : Int) ≠ [] := fun h => h1 (HLO.out.1 h)
        have HE := Aside0.mk (show ansLoopOf p bs (vn : Int) = (loopL (nextL bs) (vn : Int), true) by rw [HQ.out, if_neg hne])
        obtain ⟨g4, c4, e4, _⟩ := Kd.R_form hR (List.length_pos_iff.2 hne)
        subst e4
        have HR := Aside0.mk hR
        have hneq : ∀ W : World, (binOp .neq 34 (.slice (some ⟨g4, 0, none⟩) (loopL (nextL bs) (vn : Int)).length c4) (.slice none 0 0)).run Try.prog W = .ok (.bool true) W := fun W => run_neq_slice_nil_any W 34 3 (some ⟨g4, 0, none⟩) _ c4 0 0 Try.underlying34
        clear h1 hR hne
        go_wp2
        go_ret2
        exact ⟨_, by rw [HE.out]; rfl, by rw [HE.out]; exact Kd.R_lower HR.out HB3.out.size, HB4.out⟩
    · have HQ := Aside0.mk (show ansLoopOf p bs v = ([], false) by rw [HANS.out, if_neg (by rw [q]; decide)])
      have HW := Aside0.mk q
      clear q
      go_enter Try.func45, Try.ntmps45
      go_wp2_with (first | (go_at_call 56; refine (hcall.out).mono ?_; rintro e w1 ⟨gv, rfl, hb, hview⟩; have HV1 := Aside0.mk hview; have HB1 := Aside0.mk (below_step (below_alloc (Below.refl w.heap.size w) _) hb); clear hb hview hcall) | (go_at_call 63; refine (hasBlock_any v HV1.out HN.out).mono ?_; rintro e w2 ⟨rfl, rfl⟩; rw [HW.out]))
      go_ret2
      exact ⟨_, by rw [HQ.out]; rfl, by rw [HQ.out]; exact Kd.R_nil _ _ _ _ _, HB1.out⟩
  · have hcall := Aside0.mk (viewOf_no (c := c) p bs (w.alloc (.cells #[.int .i64 p, .slice A bs.length c] 30)) (Kd.C_below hr W1) hc hg)
    have HA := Aside0.mk (show ansLoopOf p bs v = ([], false) by rw [ansLoopOf, hg]; rfl)
    clear hr hc hg W1
    go_enter Try.func45, Try.ntmps45
    go_wp2_with (go_at_call 56; refine (hcall.out).mono ?_; rintro e w1 ⟨rfl, hb⟩; have HB1 := Aside0.mk (below_step (below_alloc (Below.refl w.heap.size w) _) hb); clear hb hcall)
    go_ret2
    exact ⟨_, by rw [HA.out]; rfl, by rw [HA.out]; exact Kd.R_nil _ _ _ _ _, HB1.out⟩
theorem specLoopOf_f (p : Int) (bs : List S87) (v : Int) : Ev (fun k => spec_LoopOf.f k p bs v) (ansLoopOf p bs v) := by
  unfold ansLoopOf
  have h0 := l13Is_f p bs v
  cases hg : goodB p bs with
  | false =>
    rw [hg, Bool.false_and] at h0
    exact Ev.congr (fun k => rfl) (Ev.bind h0 (Ev.congr (fun k => if_neg (by decide)) (Ev.now _)))
  | true =>
    have hgr := rows_of_good hg
    rw [hg, Bool.true_and] at h0
    rw [if_pos rfl]
    cases hw : within v 0 ((bs.length : Int) - 1) with
    | false =>
      rw [hw] at h0
      exact Ev.congr (fun k => rfl) (Ev.bind h0 (Ev.congr (fun k => if_neg (by decide)) (Ev.now _)))
    | true =>
      rw [hw] at h0
      rw [if_pos rfl]
      have hv : 0 ≤ v ∧ v < (bs.length : Int) := by simp [within] at hw; omega
      by_cases q : loopL (nextL bs) v = []
      · rw [if_pos q]
        exact Ev.congr (fun k => rfl) (Ev.bind h0 (Ev.congr (f := fun _ => some (([] : List Int), false)) (fun k => by rw [if_pos rfl, spec_l13Loop.is hgr k p v hv, Option.bind_some, if_pos (by rw [q]; rfl)]) (Ev.now _)))
      · rw [if_neg q]
        have hl : 0 < (loopL (nextL bs) v).length := List.length_pos_iff.2 q
        exact Ev.congr (fun k => rfl) (Ev.bind h0 (Ev.congr (f := fun _ => some (loopL (nextL bs) v, true)) (fun k => by rw [if_pos rfl, spec_l13Loop.is hgr k p v hv, Option.bind_some, if_neg (by omega), Option.bind_some]) (Ev.now _)))
theorem specLoopOf_any {A : Option Addr} {c : Nat} (p : Int) (bs : List S87) (v : Int) (w : World) (hr : Kd.C k87 w A bs.length bs) (hc : bs.length ≤ c) :
    Calls Try.prog 44 #[.agg #[.int .i64 p, .slice A bs.length c], .int .i64 v] w fun e w' => ∃ v0 : Value, e = .returned (.tuple #[v0, .bool (ansLoopOf p bs v).2]) ∧ (Kd.int .i64).R 3 w' w.heap.size (fun _ => True) v0 (ansLoopOf p bs v).1 ∧ Below w.heap.size w w' := by
  obtain ⟨k, hk⟩ := Ev.rounds (specLoopOf_f p bs v)
  exact spec_LoopOf.calls k p A c bs v _ _ w hr hc hk
theorem ansLoopOf_len (p : Int) (bs : List S87) (v : Int) : (ansLoopOf p bs v).1.length ≤ 1000 := by
  unfold ansLoopOf
  split
  · rename_i hg
    have h8 := (rows_of_good hg).len
    have hl := loopL_len (nextL bs) v
    rw [nextL_len] at hl
    split
    · split
      · simp
      · show (loopL (nextL bs) v).length ≤ 1000; omega
    · simp
  · simp
end Go.Proofs.Ytghlbhijkhkgkaa.PA
