/- The flow seat: impl.UsesOf by hand. -/
import Derived.Test.YtghlbhijkhkgkaaVn
import Derived.Test.YtghlbhijkhkgkaaVz
namespace Go.Proofs.Ytghlbhijkhkgkaa.PA
open Go.RowKit Go.Proofs.YtghlbhijkhkgkaaW.PrintWords Go.Proofs.YtghlbhijkhkgkaaW.PrintLast Go.Proofs.YtghlbhijkhkgkaaW.PrintMore
set_option linter.unusedVariables false
theorem wrap_next (a : Int) : wrap64 (wrap64 a + 1) = wrap64 (a + 1) := by
  unfold wrap64
  omega
/-- The counts under way. -/
structure CI (w0 : World) (h g N c : Nat) (vis : List Int) (W : World) : Prop where
  below : Below w0.heap.size w0 W
  hcell : W.cell? ⟨h, 0, none⟩ = some (.slice (some ⟨g, 0, none⟩) N c)
  hne : g ≠ h
  hg : w0.heap.size ≤ g
  row : ∃ cur : List Value, W.heap[g]? = some (.cells cur.toArray 3 (0, 0)) ∧ ∀ k : Nat, k < N → cur[k]? = some (.int .i64 (wrap64 (vis.count (k : Int) : Nat)))
section
variable {w0 W : World} {h g N c : Nat} {vis : List Int}
theorem CI.drewN (hI : CI w0 h g N c vis W) (n : Nat) : CI w0 h g N c vis (W.drewN n) := ⟨pw_below_drewN hI.below n, hI.hcell, hI.hne, hI.hg, hI.row⟩
theorem CI.put (hI : CI w0 h g N c vis W) (x : Nat) (hx : x < N) (u : Value) (hu : u = .int .i64 (wrap64 (wrap64 (vis.count (x : Int) : Nat) + 1))) : CI w0 h g N c (vis ++ [(x : Int)]) (W.setCell ⟨g, x, none⟩ u) := by
  obtain ⟨h1, h2, h3, h4, cur, h5, h6⟩ := hI
  subst hu
  refine ⟨below_set h1 h4, ?_, h3, h4, cur.set x (.int .i64 (wrap64 (wrap64 (vis.count (x : Int) : Nat) + 1))), by simpa using blk_set h5 x (.int .i64 (wrap64 (wrap64 (vis.count (x : Int) : Nat) + 1))), fun k hk => ?_⟩
  · rw [← h2]
    simp only [World.cell?, Below.heap_setCell W ⟨g, x, none⟩ _ h (fun e => h3 e.symm)]
  · rw [List.getElem?_set]
    by_cases e : x = k
    · subst e
      have hl : x < cur.length := (List.getElem?_eq_some_iff.1 (h6 x hk)).1
      rw [if_pos rfl, if_pos hl, wrap_next, List.count_append, List.count_singleton_self]
      congr 3
    · rw [if_neg e, h6 k hk, List.count_append, List.count_singleton, if_neg (by simp; omega)]
      simp
theorem CI.cell (hI : CI w0 h g N c vis W) (k : Nat) (hk : k < N) : W.cell? ⟨g, k, none⟩ = some (.int .i64 (wrap64 (vis.count (k : Int) : Nat))) := by
  obtain ⟨cur, h5, h6⟩ := hI.row
  rw [blk_cell h5 k]
  simpa using h6 k hk
set_option maxRecDepth 100000 in
theorem tick_any (x : Int) (ad : Addr) (hI : CI w0 h g N c vis W) (hx : 0 ≤ x ∧ x < (N : Int)) (hc : W.cell? ad = some (.int .i64 x)) :
    Calls Try.prog 104 #[.pointer (some ad), .pointer (some ⟨h, 0, none⟩)] W fun e W' => e = .returned (.tuple #[]) ∧ CI w0 h g N c (vis ++ [x]) W' := by
  obtain ⟨k, rfl⟩ := Int.eq_ofNat_of_zero_le hx.1
  have hk : k < N := by omega
  have y1 := hI.hcell
  have y2 := hI.cell k hk
  have hfz : W.frozen? ⟨g, k, none⟩ = false := by obtain ⟨cur, h5, h6⟩ := hI.row; exact blk_frozen h5 k
  have hlk := eq_true hk
  obtain ⟨a, ha⟩ : ∃ a, a = wrap64 (vis.count (k : Int) : Nat) := ⟨_, rfl⟩
  rw [← ha] at y2
  have HP := Aside0.mk (fun u (hu : u = Value.int .i64 (wrap64 (a + 1))) (n : Nat) => (hI.drewN n).put k hk u (by rw [hu, ha]))
  clear hI hx ha
  go_enter Try.func104, Try.ntmps104
  go_wp2
  refine region_tail 8 (by kernel_rfl) (by kernel_rfl) ?_
  simp only [List.take_succ_cons, List.take_zero, List.drop_succ_cons, List.drop_zero]
  repeat still_step
  refine wpStill_nil ?_
  go_wp2_with fail
  go_end0
  exact ⟨rfl, HP.out _ rfl 1⟩
end
theorem zero_form {w : World} {base N : Nat} {ok : Nat → Prop} {v : Value} (h : Kd.R (Kd.int .i64) 3 w base ok v (List.replicate ((N : Int)).toNat 0)) (hb : v.ownBlock.isSome = true) :
    ∃ g cap, ∃ cur : List Value, v = .slice (some ⟨g, 0, none⟩) N cap ∧ base ≤ g ∧ w.heap[g]? = some (.cells cur.toArray 3 (0, 0)) ∧ ∀ k : Nat, k < N → cur[k]? = some (.int .i64 0) := by
  have ho := Kd.own_of_R h
  rcases ho.2 with ⟨rfl, _⟩ | ⟨g, cap, cur, rfl, h1, h2, h3, h4, h5, h6⟩
  · simp [Value.ownBlock] at hb
  · refine ⟨g, cap, cur.toList, by simp, h1, by simpa using h2, fun k hk => ?_⟩
    simp [encs] at h6
    have h7 : (cur.toList.take N)[k]? = some (Value.int .i64 0) := by rw [h6, List.getElem?_replicate, if_pos hk]
    rwa [List.getElem?_take, if_pos hk] at h7
theorem used_ok {p : Int} {bs : List S87} (hg : goodB p bs = true) : ∀ b ∈ bs, (∀ x ∈ b.f1, ∀ y ∈ x.f2, 0 ≤ y ∧ y < totF p bs bs.length) ∧ (b.f2 ≠ 2 → 0 ≤ b.f3 ∧ b.f3 < totF p bs bs.length) ∧ ∀ x ∈ b.f4, ∀ y ∈ x.f1, 0 ≤ y ∧ y < totF p bs bs.length := fun b hb => by
  obtain ⟨k, hk, rfl⟩ := List.getElem_of_mem hb
  have g := good_at hg k hk
  rw [rd_nat bs k hk] at g
  refine ⟨fun x hx => (g.args x hx).2, fun h => ?_, fun x hx => (g.jump x hx).2.2⟩
  rcases g.ends with e | e | e
  · exact e.2.2
  · exact absurd e.1 h
  · exact e.2.2
theorem used_len {p : Int} {bs : List S87} (hg : goodB p bs = true) : (bs.flatMap useL).length ≤ 2000 := by
  obtain ⟨hp, hn, hf, ht⟩ := good_iff hg
  have := flat_len useL 249 bs (fun b hb => by
    obtain ⟨k, hk, rfl⟩ := List.getElem_of_mem hb
    have g := good_at hg k hk
    have gm := jump_len hf g
    rw [rd_nat bs k hk] at g gm
    have h1 := flat_len (fun x : S109 => x.f1) 4 bs[k].f4 gm
    have h2 := g.jumps
    have h3 := flat_len (fun x : S89 => x.f2) 3 bs[k].f1 (fun x hx => (g.args x hx).1)
    have h4 := g.ins
    unfold useL endL insL
    rw [List.length_append, List.length_append]
    split
    · rw [List.length_nil]; omega
    · rw [List.length_singleton]; omega)
  have := hn.2
  omega
theorem use_count (v : Int) : ∀ bs : List S87, (bs.flatMap useL).count v = (usesL bs).count v
  | [] => rfl
  | b :: bs => by
    have := use_count v bs
    unfold usesL at this ⊢
    unfold useL at this ⊢
    simp only [List.flatMap_cons, List.count_append] at this ⊢
    omega
set_option maxHeartbeats 1000000 in
theorem counts_any {A : Option Addr} {c : Nat} {fs bl : List Int} (p : Int) (gv : Nat) (bs : List S87) (w : World) (hv : View w gv p A bs c fs bl (totF p bs bs.length)) (hg : goodB p bs = true) :
    Calls Try.prog 60 #[.pointer (some ⟨gv, 0, none⟩)] w fun e w' => ∃ h g cap, e = .returned (.slice (some ⟨g, 0, none⟩) (totF p bs bs.length).toNat cap) ∧ CI w h g (totF p bs bs.length).toNat cap (bs.flatMap useL) w' := by
  obtain ⟨hp, hn, hf, ht⟩ := good_iff hg
  have htb := totF_bound p bs hp bs.length (Nat.le_refl _) hf
  have hok := used_ok hg
  obtain ⟨tot, htot⟩ : ∃ t, t = totF p bs bs.length := ⟨_, rfl⟩
  rw [← htot] at hv ht htb hok ⊢
  obtain ⟨N, rfl⟩ := Int.eq_ofNat_of_zero_le htb.1
  have HN := Aside0.mk (show N ≤ 80 by omega)
  have y4 := hv.cell4
  have HOK := Aside0.mk hok
  have HV := Aside0.mk hv
  have hlt := hv.lt
  have HB := Aside0.mk (Below.refl w.heap.size w)
  rw [Int.toNat_natCast]
  clear hv ht htb hok htot hp hn hf hg
  go_enter Try.func60, Try.ntmps60
  go_wp2_with ((with_reducible refine gate_dst (N := 8) rfl ?_); refine Kd.R_make (Kd.int .i64) _ 3 rfl (N := 8) rfl 34 _ _ rfl (N : Int) rfl rfl Try.underlying34 (.int .i64 0) 8 info3 rfl (by decide) (by omega) 0 (ok := fun _ => True) (okp := fun _ => True) rfl (fun _ hk => hk) trivial (by omega) (by have := HN.out; simp; omega) HB.out (Nat.le_refl _) ?_; intro v8 w3 ho hb hg_ hnew_; obtain ⟨g, cap, cur, rfl, hgB0, hgH0, hcur0⟩ := zero_form ho (by obtain ⟨b, e_, _⟩ := hnew_; rw [e_]; rfl); have HC := Aside0.mk (show w.heap.size ≤ g ∧ w3.heap[g]? = some (.cells cur.toArray 3 (0, 0)) ∧ ∀ k : Nat, k < N → cur[k]? = some (.int .i64 0) from ⟨hgB0, hgH0, hcur0⟩); have HB' := Aside0.mk hb; have hsz := hb.size; clear ho hb hg_ hnew_ hgB0 hgH0 hcur0)
  have HCI0 := Aside0.mk (show CI w w3.heap.size g N cap [] (w3.alloc (.cells #[.slice (some ⟨g, 0, none⟩) N cap] 34)) from ⟨below_alloc HB'.out _, by simp, by have := blk_lt HC.out.2.1; omega, HC.out.1, cur, blk_below HC.out.2.1 (below_alloc (Below.refl _ _) _), fun k hk => by rw [HC.out.2.2 k hk]; simp [wrap64]⟩)
  have hst : Stepper 104 #[.pointer (some ⟨w3.heap.size, 0, none⟩)] w (fun x => 0 ≤ x ∧ x < (N : Int)) (CI w w3.heap.size g N cap) := ⟨fun vis W h => h.below, enters_fn Try.func104 (by kernel_rfl) (by kernel_rfl), fun vis W ad x hI hx hc => tick_any x ad hI hx (pw_cell_below hI.below hc)⟩
  refine (uses_any hst ⟨gv, 0, none⟩ A c bs HV.out.cell1 HV.out.rows.1 HOK.out [] _ HCI0.out).mono ?_
  rintro e w4 ⟨rfl, hci⟩
  have y5 := hci.hcell
  have HCI := Aside0.mk hci
  clear hci hst HCI0
  go_wp2
  go_ret
  exact ⟨w3.heap.size, g, cap, rfl, by simpa using HCI.out⟩
set_option maxHeartbeats 1000000 in
theorem implUsesOf_any {A : Option Addr} {c : Nat} (p : Int) (bs : List S87) (v : Int) (w : World) (hr : Kd.C k87 w A bs.length bs) (hc : bs.length ≤ c) :
    Calls Try.prog 22 #[.agg #[.int .i64 p, .slice A bs.length c], .int .i64 v] w fun e w' => e = .returned (.tuple #[.int .i64 (ansUsesOf p bs v).1, .bool (ansUsesOf p bs v).2]) ∧ Below w.heap.size w w' := by
  have HB := Aside0.mk (Below.refl w.heap.size w)
  have W1 := below_alloc (Below.refl w.heap.size w) (.cells #[.int .i64 p, .slice A bs.length c] 30)
  rcases Bool.eq_false_or_eq_true (goodB p bs) with hg | hg
  · have hcall := Aside0.mk (viewOf_yes (c := c) p bs (w.alloc (.cells #[.int .i64 p, .slice A bs.length c] 30)) (Kd.C_below hr W1) hc hg)
    obtain ⟨hp, hn, hf, ht⟩ := good_iff hg
    have htb := totF_bound p bs hp bs.length (Nat.le_refl _) hf
    have hans : ansUsesOf p bs v = if within v 0 (totF p bs bs.length - 1) = true then ((((usesL bs).count v : Nat) : Int), true) else (0, false) := by rw [ansUsesOf, if_pos hg]
    have h60 : ∀ W gv fs bl, View W gv p A bs c fs bl (totF p bs bs.length) → Calls Try.prog 60 #[.pointer (some ⟨gv, 0, none⟩)] W fun e w' => ∃ h g cap, e = .returned (.slice (some ⟨g, 0, none⟩) (totF p bs bs.length).toNat cap) ∧ CI W h g (totF p bs bs.length).toNat cap (bs.flatMap useL) w' :=
      fun W gv fs bl hv => counts_any p gv bs W hv hg
    have hcv : wrap64 (((bs.flatMap useL).count v : Nat) : Int) = ((usesL bs).count v : Nat) := by
      have h1 := List.count_le_length (l := bs.flatMap useL) (a := v)
      have h2 := used_len hg
      rw [use_count] at h1 ⊢
      unfold wrap64
      omega
    obtain ⟨fs, hfs⟩ : ∃ x, x = firstsF p bs bs.length := ⟨_, rfl⟩
    obtain ⟨bl, hbl2⟩ : ∃ x, x = blocksF p bs bs.length := ⟨_, rfl⟩
    obtain ⟨tot, htot⟩ : ∃ x, x = totF p bs bs.length := ⟨_, rfl⟩
    rw [← hfs, ← hbl2, ← htot] at hcall
    rw [← htot] at hans htb ht h60
    obtain ⟨N, rfl⟩ := Int.eq_ofNat_of_zero_le htb.1
    rw [Int.toNat_natCast] at h60
    have H60 := Aside0.mk h60
    have HANS := Aside0.mk hans
    have HTB := Aside0.mk ht
    have HCV := Aside0.mk hcv
    clear hr hc hg hp hn hf hans hfs hbl2 htot htb ht W1 h60 hcv
    rcases Bool.eq_false_or_eq_true (within v 0 ((N : Int) - 1)) with q | q
    · have hv : 0 ≤ v ∧ v < (N : Int) := by simp [within] at q; omega
      obtain ⟨cnt, hcnt⟩ : ∃ z : Int, z = ((usesL bs).count v : Nat) := ⟨_, rfl⟩
      have HQ := Aside0.mk (show ansUsesOf p bs v = (cnt, true) by rw [HANS.out, if_pos q, hcnt])
      have HCELL := Aside0.mk (fun (W W0 : World) (h g cap : Nat) (hci : CI W0 h g N cap (bs.flatMap useL) W) => (by
        have h1 := hci.cell v.toNat (by omega)
        rw [Int.toNat_of_nonneg hv.1, HCV.out, ← hcnt] at h1
        exact h1 : W.cell? ⟨g, v.toNat, none⟩ = some (.int .i64 cnt)))
      have p0 := eq_true hv.1
      have p1 := eq_true hv.2
      have hvals := Aside0.mk ((vals1 (N : Int) v).trans q)
      clear hv q hcnt
      go_enter Try.func22, Try.ntmps22
      go_wp2_with (first | (go_at_call 56; refine (hcall.out).mono ?_; rintro e w1 ⟨g, rfl, hb, hview⟩; have HV1 := Aside0.mk hview; have HB1 := Aside0.mk (below_step (below_alloc (Below.refl w.heap.size w) _) hb); have h57 := Aside0.mk (valuesOK_any (A1 := some ⟨w1.heap.size, 0, none⟩) (c1 := 1) [v] (hview.alloc (.cells #[.int .i64 v] 3)) ⟨by omega, by have := HTB.out; omega⟩ (lit_C w1 v)); rw [hvals.out] at h57; clear hb hview hcall) | (go_at_call 57; refine (h57.out).mono ?_; rintro e w2 ⟨rfl, hb⟩; have HB2 := Aside0.mk (below_step (below_alloc HB1.out _) hb); have HV2 := Aside0.mk ((HV1.out.alloc (.cells #[.int .i64 v] 3)).below hb); clear hb h57) | (go_at_call 60; refine (H60.out _ _ _ _ HV2.out).mono ?_; rintro e w3 ⟨h3, g3, c3, rfl, hci⟩; have HB3 := Aside0.mk (below_step HB2.out hci.below); have hz5 := HCELL.out _ _ _ _ _ hci; clear hci))
      go_ret2
      exact ⟨by rw [HQ.out]; rfl, HB3.out⟩
    · have HQ := Aside0.mk (show ansUsesOf p bs v = (0, false) by rw [HANS.out, if_neg (by rw [q]; decide)])
      have hvals := Aside0.mk ((vals1 (N : Int) v).trans q)
      clear q
      go_enter Try.func22, Try.ntmps22
      go_wp2_with (first | (go_at_call 56; refine (hcall.out).mono ?_; rintro e w1 ⟨g, rfl, hb, hview⟩; have HB1 := Aside0.mk (below_step (below_alloc (Below.refl w.heap.size w) _) hb); have h57 := Aside0.mk (valuesOK_any (A1 := some ⟨w1.heap.size, 0, none⟩) (c1 := 1) [v] (hview.alloc (.cells #[.int .i64 v] 3)) ⟨by omega, by have := HTB.out; omega⟩ (lit_C w1 v)); rw [hvals.out] at h57; clear hb hview hcall) | (go_at_call 57; refine (h57.out).mono ?_; rintro e w2 ⟨rfl, hb⟩; have HB2 := Aside0.mk (below_step (below_alloc HB1.out _) hb); clear hb h57))
      go_ret2
      exact ⟨by rw [HQ.out]; rfl, HB2.out⟩
  · have hcall := Aside0.mk (viewOf_no (c := c) p bs (w.alloc (.cells #[.int .i64 p, .slice A bs.length c] 30)) (Kd.C_below hr W1) hc hg)
    have HA := Aside0.mk (show ansUsesOf p bs v = (0, false) by rw [ansUsesOf, hg]; rfl)
    clear hr hc hg W1
    go_enter Try.func22, Try.ntmps22
    go_wp2_with (go_at_call 56; refine (hcall.out).mono ?_; rintro e w1 ⟨rfl, hb⟩; have HB1 := Aside0.mk (below_step (below_alloc (Below.refl w.heap.size w) _) hb); clear hb hcall)
    go_ret2
    exact ⟨by rw [HA.out]; rfl, HB1.out⟩
end Go.Proofs.Ytghlbhijkhkgkaa.PA
