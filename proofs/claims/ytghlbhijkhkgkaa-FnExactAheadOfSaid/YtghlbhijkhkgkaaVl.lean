/- The flow seat: impl.BlockOf by hand. -/
import Derived.Test.YtghlbhijkhkgkaaVk
import Derived.Test.YtghlbhijkhkgkaaVq
namespace Go.Proofs.Ytghlbhijkhkgkaa.PA
open Go.RowKit Go.Proofs.YtghlbhijkhkgkaaW.PrintWords Go.Proofs.YtghlbhijkhkgkaaW.PrintLast Go.Proofs.YtghlbhijkhkgkaaW.PrintMore
set_option linter.unusedVariables false
theorem viewOf_no {A : Option Addr} {c : Nat} (p : Int) (bs : List S87) (w : World) (hr : Kd.C k87 w A bs.length bs) (hc : bs.length ≤ c) (hg : goodB p bs = false) :
    Calls Try.prog 56 #[.agg #[.int .i64 p, .slice A bs.length c]] w fun e w' => e = .returned (.pointer none) ∧ Below w.heap.size w w' :=
  (viewOf_any p bs w hr hc).mono fun e w' h => ⟨by rcases h.2 with h2 | h2; exact h2.2; rw [hg] at h2; exact absurd h2.1 (by decide), h.1⟩
theorem viewOf_yes {A : Option Addr} {c : Nat} (p : Int) (bs : List S87) (w : World) (hr : Kd.C k87 w A bs.length bs) (hc : bs.length ≤ c) (hg : goodB p bs = true) :
    Calls Try.prog 56 #[.agg #[.int .i64 p, .slice A bs.length c]] w fun e w' => ∃ g, e = .returned (.pointer (some ⟨g, 0, none⟩)) ∧ Below w.heap.size w w' ∧ View w' g p A bs c (firstsF p bs bs.length) (blocksF p bs bs.length) (totF p bs bs.length) :=
  (viewOf_any p bs w hr hc).mono fun e w' h => by
    rcases h.2 with h2 | ⟨_, g, h2, h3⟩
    · rw [hg] at h2; exact absurd h2.1 (by decide)
    · exact ⟨g, h2, h.1, h3⟩
set_option maxHeartbeats 1000000 in
theorem implBlockOf_any {A : Option Addr} {c : Nat} (p : Int) (bs : List S87) (v : Int) (w : World) (hr : Kd.C k87 w A bs.length bs) (hc : bs.length ≤ c) :
    Calls Try.prog 19 #[.agg #[.int .i64 p, .slice A bs.length c], .int .i64 v] w fun e w' => e = .returned (.tuple #[.int .i64 (ansBlockOf p bs v).1, .bool (ansBlockOf p bs v).2]) ∧ Below w.heap.size w w' := by
  have HB := Aside0.mk (Below.refl w.heap.size w)
  have W1 := below_alloc (Below.refl w.heap.size w) (.cells #[.int .i64 p, .slice A bs.length c] 30)
  rcases Bool.eq_false_or_eq_true (goodB p bs) with hg | hg
  · have hcall := Aside0.mk (viewOf_yes (c := c) p bs (w.alloc (.cells #[.int .i64 p, .slice A bs.length c] 30)) (Kd.C_below hr W1) hc hg)
    obtain ⟨hp, hn, hf, ht⟩ := good_iff hg
    have htb := totF_bound p bs hp bs.length (Nat.le_refl _) hf
    have hbl := blocksF_length p bs hp bs.length (Nat.le_refl _)
    have hans : ansBlockOf p bs v = if within v 0 (totF p bs bs.length - 1) = true then ((blocksF p bs bs.length).getD v.toNat 0, true) else (0, false) := by rw [ansBlockOf, if_pos hg]
    obtain ⟨fs, hfs⟩ : ∃ x, x = firstsF p bs bs.length := ⟨_, rfl⟩
    obtain ⟨bl, hbl2⟩ : ∃ x, x = blocksF p bs bs.length := ⟨_, rfl⟩
    obtain ⟨tot, htot⟩ : ∃ x, x = totF p bs bs.length := ⟨_, rfl⟩
    rw [← hfs, ← hbl2, ← htot] at hcall
    rw [← hbl2, ← htot] at hans hbl
    rw [← htot] at htb ht
    have HANS := Aside0.mk hans
    have HBL := Aside0.mk hbl
    have HTB := Aside0.mk (And.intro htb.1 ht)
    clear hr hc hg hp hn hf hans hfs hbl2 htot hbl htb ht W1
    rcases Bool.eq_false_or_eq_true (within v 0 (tot - 1)) with q | q
    · have hv : 0 ≤ v ∧ v < (bl.length : Int) := by have := HBL.out; simp [within] at q; omega
      have HQ := Aside0.mk (show ansBlockOf p bs v = (rd bl v, true) by rw [HANS.out, if_pos q]; rfl)
      have p0 := eq_true hv.1
      have p1 := eq_true hv.2
      have HV := Aside0.mk hv
      have hvals := Aside0.mk ((vals1 tot v).trans q)
      clear hv q
      go_enter Try.func19, Try.ntmps19
      go_wp2_with (first | (go_at_call 56; refine (hcall.out).mono ?_; rintro e w1 ⟨g, rfl, hb, hview⟩; have HV1 := Aside0.mk hview; have HB1 := Aside0.mk (below_step (below_alloc (Below.refl w.heap.size w) _) hb); have h57 := Aside0.mk (valuesOK_any (A1 := some ⟨w1.heap.size, 0, none⟩) (c1 := 1) [v] (hview.alloc (.cells #[.int .i64 v] 3)) ⟨HTB.out.1, by have := HTB.out.2; omega⟩ (lit_C w1 v)); rw [hvals.out] at h57; clear hb hview hcall) | (go_at_call 57; refine (h57.out).mono ?_; rintro e w2 ⟨rfl, hb⟩; have HB2 := Aside0.mk (below_step (below_alloc HB1.out _) hb); obtain ⟨A3, c3, hz3, hz4, _⟩ := ((HV1.out.alloc (.cells #[.int .i64 v] 3)).below hb).cell3; obtain ⟨ad3, e3, hz5⟩ := Kd.at_int hz4 v HV.out.1 HV.out.2; cases e3; clear hb h57 hz4))
      go_ret2
      exact ⟨by rw [HQ.out]; rfl, HB2.out⟩
    · have HQ := Aside0.mk (show ansBlockOf p bs v = (0, false) by rw [HANS.out, if_neg (by rw [q]; decide)])
      have hvals := Aside0.mk ((vals1 tot v).trans q)
      clear q
      go_enter Try.func19, Try.ntmps19
      go_wp2_with (first | (go_at_call 56; refine (hcall.out).mono ?_; rintro e w1 ⟨g, rfl, hb, hview⟩; have HB1 := Aside0.mk (below_step (below_alloc (Below.refl w.heap.size w) _) hb); have h57 := Aside0.mk (valuesOK_any (A1 := some ⟨w1.heap.size, 0, none⟩) (c1 := 1) [v] (hview.alloc (.cells #[.int .i64 v] 3)) ⟨HTB.out.1, by have := HTB.out.2; omega⟩ (lit_C w1 v)); rw [hvals.out] at h57; clear hb hview hcall) | (go_at_call 57; refine (h57.out).mono ?_; rintro e w2 ⟨rfl, hb⟩; have HB2 := Aside0.mk (below_step (below_alloc HB1.out _) hb); clear hb h57))
      go_ret2
      exact ⟨by rw [HQ.out]; rfl, HB2.out⟩
  · have hcall := Aside0.mk (viewOf_no (c := c) p bs (w.alloc (.cells #[.int .i64 p, .slice A bs.length c] 30)) (Kd.C_below hr W1) hc hg)
    have HA := Aside0.mk (show ansBlockOf p bs v = (0, false) by rw [ansBlockOf, hg]; rfl)
    clear hr hc hg W1
    go_enter Try.func19, Try.ntmps19
    go_wp2_with (go_at_call 56; refine (hcall.out).mono ?_; rintro e w1 ⟨rfl, hb⟩; have HB1 := Aside0.mk (below_step (below_alloc (Below.refl w.heap.size w) _) hb); clear hb hcall)
    go_ret2
    exact ⟨by rw [HA.out]; rfl, HB1.out⟩
end Go.Proofs.Ytghlbhijkhkgkaa.PA
