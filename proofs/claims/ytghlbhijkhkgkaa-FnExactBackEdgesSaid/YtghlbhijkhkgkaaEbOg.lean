/- Parts of the walk. -/
import Derived.Test.YtghlbhijkhkgkaaEbOd
import Derived.Test.YtghlbhijkhkgkaaEbOe
import Derived.Test.YtghlbhijkhkgkaaEbOb
import Derived.Test.YtghlbhijkhkgkaaEbOi
section
/- The flow seat: the reference's Dominators in plain words. -/
namespace Go.Proofs.Ytghlbhijkhkgkaa.PA
open Go.RowKit Go.Proofs.YtghlbhijkhkgkaaW.PrintWords Go.Proofs.YtghlbhijkhkgkaaW.PrintLast Go.Proofs.YtghlbhijkhkgkaaW.PrintMore
set_option linter.unusedVariables false
theorem nil_small : SmallRows [] := ⟨by simp, fun r hr => by cases hr⟩
end Go.Proofs.Ytghlbhijkhkgkaa.PA
end
section
/- The flow seat: BackEdges: the program by hand, the reference in plain words. -/
namespace Go.Proofs.Ytghlbhijkhkgkaa.PA
open Go.RowKit Go.Proofs.YtghlbhijkhkgkaaW.PrintWords Go.Proofs.YtghlbhijkhkgkaaW.PrintLast Go.Proofs.YtghlbhijkhkgkaaW.PrintMore
set_option linter.unusedVariables false
/-- What BackEdges answers. -/
noncomputable def ansBackEdges (p : Int) (bs : List S87) : List (List Int) × Bool := if goodB p bs = true then (backsL (nextL bs) bs.length, true) else ([], false)
theorem backEdges_any {W : World} {g B H c : Nat} {next : List (List Int)} (h : RW W g B H next) (hok : RowsOk next) (h1 : 0 < next.length) (h8 : next.length ≤ 8) (hc : next.length ≤ c) :
    Calls Try.prog 80 #[.slice (some ⟨g, 0, none⟩) next.length c] W fun e w' => ∃ v : Value, e = .returned v ∧ Kd.S kR 34 w' W.heap.size (fun _ => True) v (backsL next next.length) ∧ Below W.heap.size W w' := by
  obtain ⟨k, hk⟩ := Ev.rounds (edges_f next hok h1 h8)
  exact impl_backEdges.calls k (some ⟨g, 0, none⟩) c next _ W (h.C hok.1) hc hk
set_option maxHeartbeats 2000000 in
set_option maxRecDepth 100000 in
theorem implBackEdges_any {A : Option Addr} {c : Nat} (p : Int) (bs : List S87) (w : World) (hr : Kd.C k87 w A bs.length bs) (hc : bs.length ≤ c) :
    Calls Try.prog 43 #[.agg #[.int .i64 p, .slice A bs.length c]] w fun e w' => ∃ v0 : Value, e = .returned (.tuple #[v0, .bool (ansBackEdges p bs).2]) ∧ Kd.S kR 34 w' w.heap.size (fun _ => True) v0 (ansBackEdges p bs).1 ∧ Below w.heap.size w w' := by
  have W1 := below_alloc (Below.refl w.heap.size w) (.cells #[.int .i64 p, .slice A bs.length c] 30)
  rcases Bool.eq_false_or_eq_true (goodB p bs) with hg | hg
  · have hcall := Aside0.mk (viewOf_yes (c := c) p bs (w.alloc (.cells #[.int .i64 p, .slice A bs.length c] 30)) (Kd.C_below hr W1) hc hg)
    have hgr := rows_of_good hg
    have HOK := Aside0.mk (rows_ok hgr)
    have HN := Aside0.mk hgr.len
    have HN1 := Aside0.mk hgr.one
    have HGJ := Aside0.mk (show ∀ b ∈ bs, b.f4.length ≤ 2 from fun b hb => by obtain ⟨k, hk, rfl⟩ := List.getElem_of_mem hb; have := hgr.two k hk; rwa [rd_nat bs k hk] at this)
    have HA := Aside0.mk (show ansBackEdges p bs = (backsL (nextL bs) bs.length, true) by rw [ansBackEdges, if_pos hg])
    have HNL := Aside0.mk (nextL_len bs)
    clear hr hc hg hgr W1
    go_enter Try.func43, Try.ntmps43
    go_wp2_with (go_at_call 56; refine (hcall.out).mono ?_; rintro e w1 ⟨gv, rfl, hb, hview⟩; have HV1 := Aside0.mk hview; have HB1 := Aside0.mk (below_step (below_alloc (Below.refl w.heap.size w) _) hb); clear hb hview hcall)
    refine (next_any p gv bs w1 HV1.out HN.out HGJ.out).mono ?_
    rintro e w3 ⟨g, cap, H, rfl, hcap, hnx⟩
    have HRW := Aside0.mk (RW.of_NX hnx)
    have HB3 := Aside0.mk (below_step HB1.out hnx.below)
    have HCAP := Aside0.mk hcap
    clear hnx hcap HV1 HB1
    have T80 := backEdges_any (c := cap) HRW.out HOK.out (by rw [HNL.out]; exact HN1.out) (by rw [HNL.out]; exact HN.out) (by rw [HNL.out]; exact HCAP.out)
    rw [HNL.out] at T80
    have T := Aside0.mk T80
    clear T80
    go_wp2_with fail
    refine (T.out).mono ?_
    rintro e w4 ⟨v4, rfl, hR, hb⟩
    have HR4 := Aside0.mk hR
    have HB4 := Aside0.mk (below_step HB3.out hb)
    clear hR hb T
    go_wp2
    go_ret2
    exact ⟨_, by rw [HA.out]; rfl, by rw [HA.out]; exact Kd.S_lower HR4.out HB3.out.size, HB4.out⟩
  · have hcall := Aside0.mk (viewOf_no (c := c) p bs (w.alloc (.cells #[.int .i64 p, .slice A bs.length c] 30)) (Kd.C_below hr W1) hc hg)
    have HA := Aside0.mk (show ansBackEdges p bs = ([], false) by rw [ansBackEdges, hg]; rfl)
    clear hr hc hg W1
    go_enter Try.func43, Try.ntmps43
    go_wp2_with (go_at_call 56; refine (hcall.out).mono ?_; rintro e w1 ⟨rfl, hb⟩; have HB1 := Aside0.mk (below_step (below_alloc (Below.refl w.heap.size w) _) hb); clear hb hcall)
    go_ret2
    exact ⟨_, by rw [HA.out]; rfl, by rw [HA.out]; exact Kd.S_nil _ _ _ _ _, HB1.out⟩
theorem specBackEdges_f (p : Int) (bs : List S87) : Ev (fun k => spec_BackEdges.f k p bs) (ansBackEdges p bs) := by
  unfold ansBackEdges
  cases hg : goodB p bs with
  | false => exact Ev.congr (fun k => by unfold spec_BackEdges.f spec_GoodFunc.f; rw [hg]; rfl) (Ev.now _)
  | true =>
    refine Ev.congr (fun k => ?_) (Ev.bind (f := fun _ t => some (t, true)) (backs_f p bs (rows_of_good hg)) (Ev.now _))
    unfold spec_BackEdges.f spec_GoodFunc.f
    rw [hg]
    rfl
theorem specBackEdges_any {A : Option Addr} {c : Nat} (p : Int) (bs : List S87) (w : World) (hr : Kd.C k87 w A bs.length bs) (hc : bs.length ≤ c) :
    Calls Try.prog 42 #[.agg #[.int .i64 p, .slice A bs.length c]] w fun e w' => ∃ v0 : Value, e = .returned (.tuple #[v0, .bool (ansBackEdges p bs).2]) ∧ Kd.S kR 34 w' w.heap.size (fun _ => True) v0 (ansBackEdges p bs).1 ∧ Below w.heap.size w w' := by
  obtain ⟨k, hk⟩ := Ev.rounds (specBackEdges_f p bs)
  exact spec_BackEdges.calls k p A c bs _ _ w hr hc hk
theorem ansBackEdges_small (p : Int) (bs : List S87) : SmallRows (ansBackEdges p bs).1 := by
  unfold ansBackEdges
  split
  · rename_i hg
    have h8 := (rows_of_good hg).len
    refine ⟨Nat.le_trans (backsL_len (by rw [nextL_len]; exact h8) bs.length) (by omega), fun r hr => ?_⟩
    simp only [backsL, List.mem_flatMap, List.mem_map] at hr
    obtain ⟨b, _, t, _, rfl⟩ := hr
    simp
  · exact nil_small
end Go.Proofs.Ytghlbhijkhkgkaa.PA
end
