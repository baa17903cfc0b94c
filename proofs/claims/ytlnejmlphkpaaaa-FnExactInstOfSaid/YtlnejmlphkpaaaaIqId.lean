/- The graph seat: impl.trees by hand. -/
import Derived.Test.YtlnejmlphkpaaaaIqIc
import Derived.Test.YtlnejmlphkpaaaaIqGg
namespace Go.Proofs.Ytlnejmlphkpaaaa.PA
open Go.RowKit Go.Proofs.YtlnejmlphkpaaaaW.PrintWords Go.Proofs.YtlnejmlphkpaaaaW.PrintLast Go.Proofs.YtlnejmlphkpaaaaW.PrintMore
set_option linter.unusedVariables false
set_option linter.unusedSimpArgs false
structure TrR (w : World) (pile : List Tm) (ps qs : List (Option Addr)) (v3 v4 : Value) (lab : Nat → Nat) (W : World) : Prop where
 below : Below w.heap.size w W
 r3 : kPtr.R 115 W w.heap.size (fun k => lab k = 1) v3 ps
 r4 : kPtr.R 115 W w.heap.size (fun k => lab k = 2) v4 qs
 f : ForF W (fun k => lab k = 3 ∧ w.heap.size ≤ k) pile ps
 last : 0 < qs.length → ps.getLast? = qs.getLast?
def TreesP (w w' : World) (t : List S125) (v : Value) : Prop := match treeT t with
 | none => v = .slice none 0 0
 | some T => ∃ (a : Addr) (c' : Nat) (qs : List (Option Addr)) (p : Option Addr), v = .slice (some a) qs.length c' ∧ qs.length = t.length ∧ Kd.C kPtr w' (some a) qs.length qs ∧ qs.getLast? = some p ∧ TreeF w' (fun k => w.heap.size ≤ k) T p
theorem TreesP.nil {w w' : World} {t : List S125} (h : treeT t = none) : TreesP w w' t (.slice none 0 0) := by unfold TreesP; rw [h]
theorem treeT_one {t : List S125} {T : Tm} (h : 1 ≤ t.length ∧ t.length ≤ 40) (hr : runT [] t = some [T]) : treeT t = some T := by
 unfold treeT
 rw [if_pos h, hr]
theorem treeT_many {t : List S125} {pile : List Tm} (hr : runT [] t = some pile) (hp : pile.length ≠ 1) : treeT t = none := by
 unfold treeT
 split
 ·rw [hr]
  match pile, hp with
  | [], _ => rfl
  | [_], h => exact absurd rfl h
  | _ :: _ :: _, _ => rfl
 ·rfl
theorem treeT_stop {t : List S125} {pile : List Tm} {i : Nat} (hi : i < t.length) (h : runT [] (t.take i) = some pile) (hs : stepT pile t[i] = none) : treeT t = none := by
 unfold treeT
 split
 ·have e : t = t.take i ++ t[i] :: t.drop (i + 1) := by rw [← List.drop_eq_getElem_cons hi, List.take_append_drop]
  have : runT [] t = none := by
   rw [e, runT_app, h, Option.bind_some, runT, hs]
   rfl
  rw [this]
 ·rfl
theorem ForF_one {W : World} {ok : Nat → Prop} {T : Tm} {p : Option Addr} {N : Nat} (h : ForF W (fun k => ok k ∧ N ≤ k) [T] [p]) : TreeF W (fun k => N ≤ k) T p := by
 rw [ForF] at h
 obtain ⟨p', q', e, h4, _⟩ := h
 cases e
 exact TreeF.imp (fun k hk _ => hk.2) _ _ h4
theorem stepT_no {pile : List Tm} {x : S125} (h : ¬ (numI x.f0 x.f1 = true ∧ arI x.f0 ≤ (pile.length : Int))) : stepT pile x = none := by unfold stepT; rw [if_neg h]
theorem stepT_yes {pile : List Tm} {x : S125} (h : numI x.f0 x.f1 = true) (h2 : arI x.f0 ≤ (pile.length : Int)) : stepT pile x = some (pile.take (pile.length - (arI x.f0).toNat) ++ [.node x.f0 x.f1 (pile.drop (pile.length - (arI x.f0).toNat))]) := by unfold stepT; rw [if_pos ⟨h, h2⟩]
theorem run_next {t : List S125} {pile q : List Tm} {i : Nat} {x : S125} (hx : t[i]? = some x) (h : runT [] (t.take i) = some pile) (hs : stepT pile x = some q) : runT [] (t.take (i + 1)) = some q := by
 obtain ⟨hi, rfl⟩ := List.getElem?_eq_some_iff.1 hx
 rw [List.take_succ_eq_append_getElem hi, runT_app, h, Option.bind_some, runT, hs]
 rfl
theorem treeT_stop2 {t : List S125} {pile : List Tm} {i : Nat} {x : S125} (hx : t[i]? = some x) (h : runT [] (t.take i) = some pile) (hs : stepT pile x = none) : treeT t = none := by
 obtain ⟨hi, rfl⟩ := List.getElem?_eq_some_iff.1 hx
 exact treeT_stop hi h hs
theorem TrR.push {w W0 W1 W2 W3 : World} {pile : List Tm} {ps qs : List (Option Addr)} {v3 v4 v3' v4' : Value} {lab : Nat → Nat} {row3 row4 : Option Nat} {op n : Int} {frm gb ck : Nat} {Ak : Option Addr} {ks : List Tm}
  (h : TrR w pile ps qs v3 v4 lab W0) (hb1 : Below W0.heap.size W0 W1) (hf : frm ≤ pile.length) (hks : ks = pile.drop frm)
  (hg : W0.heap.size ≤ gb) (hgl : gb < W1.heap.size) (hbox : W1.heap[gb]? = some (.cells #[.int .i64 op, .int .i64 n, .slice Ak ks.length ck] 153 (0, 0))) (hck : ks.length ≤ ck)
  (hkids : Kd.F kPtr W1 (fun k => W0.heap.size ≤ k) Ak ks.length (ps.drop frm))
  (h3 : kPtr.R 115 W2 w.heap.size (fun k => (lab k = 1 ∧ k < W0.heap.size) ∨ W1.heap.size ≤ k) v3' (ps.take frm ++ [some ⟨gb, 0, none⟩])) (hg2 : W1.grownBy W2 row3) (hr3 : row3 = v3.ownBlock)
  (h4 : kPtr.R 115 W3 w.heap.size (fun k => (lab k = 2 ∧ k < W0.heap.size) ∨ W2.heap.size ≤ k) v4' (qs ++ [some ⟨gb, 0, none⟩])) (hb3 : Below w.heap.size w W3) (hg3 : W2.grownBy W3 row4) (hr4 : row4 = v4.ownBlock) :
  ∃ lab', TrR w (pile.take frm ++ [.node op n ks]) (ps.take frm ++ [some ⟨gb, 0, none⟩]) (qs ++ [some ⟨gb, 0, none⟩]) v3' v4' lab' W3 := by
 have hrow3 : ∀ k, row3 = some k → lab k = 1 ∧ k < W0.heap.size := fun k hk => by
  have := (Kd.R_bound h.r3).1 k (by rw [← hr3]; exact hk)
  exact ⟨this.1, this.2.2.1⟩
 have hrow4 : ∀ k, row4 = some k → lab k = 2 ∧ k < W0.heap.size := fun k hk => by
  have := (Kd.R_bound h.r4).1 k (by rw [← hr4]; exact hk)
  exact ⟨this.1, this.2.2.1⟩
 have s1 := hb1.size
 have s2 := hg2.size
 have s3 := hg3.size
 have hw := h.below.size
 have hfl : (pile.take frm).length = frm := by rw [List.length_take]; omega
 have hpl := ForF_len _ _ h.f
 refine ⟨fun k => if k < W0.heap.size then lab k else if k < W1.heap.size then 3 else if k < W2.heap.size then 1 else 2, hb3, ?_, ?_, ?_, fun _ => by simp⟩
 ·refine Kd.R_mono (Kd.R_grown (Kd.R_bound h3) hg3 (fun k hk he => ?_)) (fun k hk => ?_)
  ·have h5 := hrow4 k he.symm
   rcases hk.1 with h6 | h6
   ·have := h6.1; omega
   ·omega
  ·show (if k < W0.heap.size then lab k else if k < W1.heap.size then 3 else if k < W2.heap.size then 1 else 2) = 1
   rcases hk.1 with h6 | h6
   ·rw [if_pos h6.2]; exact h6.1
   ·rw [if_neg (by omega), if_neg (by omega), if_pos hk.2.2.1]
 ·refine Kd.R_mono h4 (fun k hk => ?_)
  show (if k < W0.heap.size then lab k else if k < W1.heap.size then 3 else if k < W2.heap.size then 1 else 2) = 2
  rcases hk with h6 | h6
  ·rw [if_pos h6.2]; exact h6.1
  ·rw [if_neg (by omega), if_neg (by omega), if_neg (by omega)]
 ·have step : ∀ k, (k < W0.heap.size → lab k = 3 ∧ w.heap.size ≤ k) → k < W1.heap.size → W3.heap[k]? = W1.heap[k]? := fun k hl hk => by
   rw [hg3.block k (by omega) (fun he => by
    have h5 := hrow4 k he.symm
    have := hl h5.2
    omega)]
   exact hg2.block k hk (fun he => by
    have h5 := hrow3 k he.symm
    have := hl h5.2
    omega)
  have okk : ∀ k, k < W1.heap.size → (k < W0.heap.size → lab k = 3 ∧ w.heap.size ≤ k) → ((if k < W0.heap.size then lab k else if k < W1.heap.size then 3 else if k < W2.heap.size then 1 else 2) = 3 ∧ w.heap.size ≤ k) := fun k hk hl => by
   by_cases h0 : k < W0.heap.size
   ·rw [if_pos h0]; exact hl h0
   ·rw [if_neg h0, if_pos hk]; exact ⟨rfl, by omega⟩
  have old1 : ForF W1 (fun k => k < W1.heap.size ∧ (k < W0.heap.size → lab k = 3 ∧ w.heap.size ≤ k)) pile ps := ForF.imp (fun k hk _ => hk) _ _ (ForF.step (fun k hk hl => hb1.block k hl) _ _ (ForF.imp (ok' := fun k => k < W1.heap.size ∧ (k < W0.heap.size → lab k = 3 ∧ w.heap.size ≤ k)) (fun k hk hl => ⟨by omega, fun _ => hk⟩) _ _ h.f))
  have new1 : TreeF W1 (fun k => k < W1.heap.size ∧ (k < W0.heap.size → lab k = 3 ∧ w.heap.size ≤ k)) (.node op n ks) (some ⟨gb, 0, none⟩) := by
   rw [TreeF]
   refine ⟨gb, Ak, ck, ps.drop frm, rfl, ⟨hgl, fun h0 => by omega⟩, hbox, hck, Kd.F_mono (Kd.F_bound hkids) (fun k hk => ⟨hk.2, fun h0 => by have := hk.1; omega⟩), ?_⟩
   rw [hks]
   have e : pile = pile.take frm ++ pile.drop frm := (List.take_append_drop frm pile).symm
   have old := old1
   rw [e, ForF_app, hfl] at old
   exact old.2.1
  refine ForF.imp (ok := fun k => k < W1.heap.size ∧ (k < W0.heap.size → lab k = 3 ∧ w.heap.size ≤ k)) (fun k hk _ => okk k hk.1 hk.2) _ _ (ForF.step (fun k hk hl => step k hk.2 hl) _ _ ?_)
  rw [ForF_app]
  have e : pile = pile.take frm ++ pile.drop frm := (List.take_append_drop frm pile).symm
  have old := old1
  rw [e, ForF_app, hfl] at old
  have hpt : (ps.take frm).length = frm := by rw [List.length_take]; omega
  rw [hfl]
  refine ⟨?_, ?_, by rw [List.length_append, hpt]; omega⟩
  ·rw [List.take_append_of_le_length (by omega), List.take_of_length_le (l := ps.take frm) (by omega)]
   exact old.1
  ·rw [List.drop_append_of_le_length (by omega), List.drop_of_length_le (l := ps.take frm) (by omega), List.nil_append, ForF]
   exact ⟨_, _, rfl, new1, by rw [ForF]⟩
set_option maxHeartbeats 8000000 in
set_option maxRecDepth 100000 in
theorem trees_any (t : List S125) {A : Option Addr} {c : Nat} (w : World) (h : Kd.C k125 w A t.length t) (hc : t.length ≤ c) :
  Calls Try.prog 143 #[.slice A t.length c] w fun e w' => ∃ v : Value, e = .returned v ∧ Below w.heap.size w w' ∧ TreesP w w' t v := by
 have HR := Aside0.mk h
 have hmax := Kd.C_max h
 have HB := Aside0.mk (Below.refl w.heap.size w)
 obtain ⟨n, hn⟩ : ∃ n, n = t.length := ⟨_, rfl⟩
 have HN := Aside0.mk hn
 rw [← hn] at hmax ⊢
 clear h hc hn
 by_cases hl : 1 ≤ n ∧ n ≤ 40
 ·have hw1 : within (n : Int) 1 40 = true := by unfold within; rw [decide_eq_true (by omega), decide_eq_true (by omega)]; rfl
  have T83 := Aside0.mk (fun W => within_any (n : Int) 1 40 W)
  rw [hw1] at T83
  have HL := Aside0.mk hl
  clear hw1 hl
  go_enter Try.func143, Try.ntmps143
  go_wp2_with (first | (go_at_call 83; refine (T83.out _).mono ?_; rintro e w1 ⟨rfl, rfl⟩) | ((with_reducible refine gate_dst (N := 13) rfl ?_); refine Kd.R_lit kPtr _ 115 ?hg (N := 13) ?hd (xs := ([] : List (Option Addr))) (inner := []) (ok := fun _ => True) (okp := fun _ => True) ?hr ?hp (fun _ hk => hk) trivial (Below.refl _ _) (Nat.le_refl _) (by simp) ?_; (case hd => rfl); (case hg => rfl); (case hr => first | (go_simp; done) | (go_simp; rfl)); (case hp => exact (Reps.none _ _)); intro v13 w3 ho hb hg_ hnew_; have HO3 := Aside0.mk ho; have HB3 := Aside0.mk hb; clear ho hb hg_ hnew_) | ((with_reducible refine gate_dst (N := 14) rfl ?_); refine Kd.R_lit kPtr _ 115 ?hg (N := 14) ?hd (xs := ([] : List (Option Addr))) (inner := []) (ok := fun _ => True) (okp := fun _ => True) ?hr ?hp (fun _ hk => hk) trivial (Below.refl _ _) (Nat.le_refl _) (by simp) ?_; (case hd => rfl); (case hg => rfl); (case hr => first | (go_simp; done) | (go_simp; rfl)); (case hp => exact (Reps.none _ _)); intro v14 w4 ho hb hg_ hnew_; have HO4 := Aside0.mk ho; have HB4 := Aside0.mk hb; clear ho hb hg_ hnew_))
  obtain ⟨A3, c3, e3⟩ := Kd.R_slice HO3.out
  obtain ⟨A4, c4, e4⟩ := Kd.R_slice HO4.out
  subst e3 e4
  have HI := Aside0.mk (show TrR w [] [] [] (.slice A3 0 c3) (.slice A4 0 c4) (fun k => if w3.heap.size ≤ k then 2 else 1) w4 from ⟨HB3.out.trans (HB4.out.mono HB3.out.size), Kd.R_below (Kd.R_mono (Kd.R_bound HO3.out) (fun k hk => by have := hk.2.2.1; rw [if_neg (by omega)])) HB4.out, Kd.R_lower (Kd.R_mono (Kd.R_bound HO4.out) (fun k hk => by rw [if_pos hk.2.1])) HB3.out.size, by rw [ForF], fun h => absurd h (by simp)⟩)
  clear HO3 HO4 HB3 HB4
  simp only [List.length_nil]
  go_loopg [3, 4, 17] n (fun gg s3 s4 s17 wr => ∃ (i : Nat) (pile : List Tm) (ps qs : List (Option Addr)) (A3 A4 : Option Addr) (c3 c4 : Nat) (lab : Nat → Nat), s17 = .int .i64 (i : Int) ∧ s3 = .slice A3 ps.length c3 ∧ s4 = .slice A4 qs.length c4 ∧ Aside0 (i ≤ n ∧ n - i ≤ gg ∧ runT [] (t.take i) = some pile ∧ pile.length ≤ i ∧ ps.length = pile.length ∧ qs.length = i) ∧ Aside0 (TrR w pile ps qs (.slice A3 ps.length c3) (.slice A4 qs.length c4) lab wr))
  case atStart => exact ⟨0, [], [], [], A3, A4, c3, c4, _, rfl, rfl, rfl, ⟨Nat.zero_le _, Nat.le_refl _, rfl, Nat.le_refl _, rfl, rfl⟩, HI⟩
  case round =>
   clear HI
   obtain ⟨i, pile, ps, qs, A3, A4, c3, c4, lab, rfl, rfl, rfl, HA, HT⟩ := hrel
   obtain ⟨wo, rfl⟩ : ∃ wo : World, wo = wr := ⟨_, rfl⟩
   by_cases hlt : i < n
   ·have p0 := eq_true (show (0 : Int) ≤ (i : Int) by omega)
    have q0 := eq_true (show (i : Int) < (n : Int) by omega)
    have hit : i < t.length := by rw [← HN.out]; exact hlt
    obtain ⟨ad, ea, hx0, hx1⟩ := at_T125 HR.out (i : Int) (by omega) (by omega)
    subst ea
    obtain ⟨x, hx⟩ : ∃ x, x = t[i] := ⟨_, rfl⟩
    have hxx : rd_T125 t (i : Int) = x := by rw [hx]; simp [rd_T125, List.getD_eq_getElem?_getD, List.getElem?_eq_getElem hit]
    rw [hxx] at hx0 hx1
    replace hx0 := (HT.out.below.cell (World.block_lt_of_cell? w _ hx0)).trans hx0
    replace hx1 := (HT.out.below.cell (World.block_lt_of_cell? w _ hx1)).trans hx1
    simp only [Int.toNat_natCast] at hx0 hx1
    have HX := Aside0.mk (show t[i]? = some x by rw [hx]; exact List.getElem?_eq_getElem hit)
    clear hx hxx hit
    obtain ⟨b1, hb1⟩ : ∃ b, b = numI x.f0 x.f1 := ⟨_, rfl⟩
    obtain ⟨an, han⟩ : ∃ a : Nat, (a : Int) = arI x.f0 := ⟨(arI x.f0).toNat, by have := arI_pos x.f0; omega⟩
    obtain ⟨np, hnp⟩ : ∃ a : Nat, a = ps.length := ⟨_, rfl⟩
    have HB1 := Aside0.mk hb1
    have HAN := Aside0.mk (And.intro han (arI_pos x.f0))
    have HNP := Aside0.mk hnp
    have T124 := Aside0.mk (fun W => impl_numOK.calls x.f0 x.f1 _ W (numOK_f x.f0 x.f1))
    have T125 := Aside0.mk (fun W => impl_arity.calls (0 + 1) x.f0 _ W (arity_j 0 x.f0))
    rw [← hb1] at T124
    rw [← han] at T125
    rw [← hnp]
    clear hb1 han hnp
    cases b1 with
    | false =>
     have HTN := Aside0.mk (treeT_stop2 HX.out HA.out.2.2.1 (by exact stepT_no (by rw [← HB1.out]; simp)))
     go_wp2_with (first | ((with_reducible refine gate_dst (N := 6) rfl ?_); refine box_event ?hg (N := 6) ?hd (cs := #[.int .i64 0, .int .i64 0]) (t := 125) ?hr ?_; (case hd => rfl); (case hg => rfl); (case hr => first | (go_simp; done) | (go_simp; rfl)); intro g6 hg w4 hbox hb; have HB4 := Aside0.mk hb; have H4 := Aside0.mk hbox; have G4 := Aside0.mk (Nat.le_of_eq hg.symm); clear hx0 hx1 hb hbox hg; have z0 := blk_cell H4.out 0; have z1 := blk_cell H4.out 1; (try simp only [List.getElem?_toArray, List.getElem?_cons_zero, List.getElem?_cons_succ] at z0 z1); have f0 := blk_frozen H4.out 0; have f1 := blk_frozen H4.out 1) | (go_at_call 124; refine (T124.out _).mono ?_; rintro e w5 ⟨rfl, hd⟩; have D5 := Aside0.mk (blk_below (blk_put (blk_put H4.out 0 (.int .i64 x.f0) rfl) 1 (.int .i64 x.f1) rfl) hd.below); have HB5 := Aside0.mk (below_step (below_set (j := 1) (v := .int .i64 x.f1) (below_set (j := 0) (v := .int .i64 x.f0) HB4.out G4.out) G4.out) hd.below); clear z0 z1 f0 f1 hd; have j0 := blk_cell D5.out 0; have j1 := blk_cell D5.out 1; (try simp only [List.getElem?_toArray, List.getElem?_cons_zero, List.getElem?_cons_succ, List.setIfInBounds_toArray, List.set_cons_zero, List.set_cons_succ] at j0 j1); clear T124))
     go_ret
     exact ⟨_, rfl, HT.out.below.trans (HB5.out.mono HT.out.below.size), TreesP.nil HTN.out⟩
    | true =>
     by_cases hle : an ≤ np
     ·obtain ⟨frm, hfrm⟩ : ∃ f : Nat, f = np - an := ⟨_, rfl⟩
      have q1 : ((np : Int) < (an : Int)) = False := eq_false (by omega)
      have hw7 : IntKind.i64.wrap ((np : Int) - (an : Int)) = (frm : Int) := by
       rw [i64_w]
       unfold wrap64
       have := HA.out
       have := HNP.out
       omega
      have HF := Aside0.mk (And.intro hfrm hle)
      clear hfrm hle
      go_wp2_with (first | ((with_reducible refine gate_dst (N := 6) rfl ?_); refine box_event ?hg (N := 6) ?hd (cs := #[.int .i64 0, .int .i64 0]) (t := 125) ?hr ?_; (case hd => rfl); (case hg => rfl); (case hr => first | (go_simp; done) | (go_simp; rfl)); intro g6 hg w4 hbox hb; have HB4 := Aside0.mk hb; have H4 := Aside0.mk hbox; have G4 := Aside0.mk (Nat.le_of_eq hg.symm); clear hx0 hx1 hb hbox hg; have z0 := blk_cell H4.out 0; have z1 := blk_cell H4.out 1; (try simp only [List.getElem?_toArray, List.getElem?_cons_zero, List.getElem?_cons_succ] at z0 z1); have f0 := blk_frozen H4.out 0; have f1 := blk_frozen H4.out 1) | (go_at_call 124; refine (T124.out _).mono ?_; rintro e w5 ⟨rfl, hd⟩; have D5 := Aside0.mk (blk_below (blk_put (blk_put H4.out 0 (.int .i64 x.f0) rfl) 1 (.int .i64 x.f1) rfl) hd.below); have HB5 := Aside0.mk (below_step (below_set (j := 1) (v := .int .i64 x.f1) (below_set (j := 0) (v := .int .i64 x.f0) HB4.out G4.out) G4.out) hd.below); clear z0 z1 f0 f1 hd; have j0 := blk_cell D5.out 0; have j1 := blk_cell D5.out 1; (try simp only [List.getElem?_toArray, List.getElem?_cons_zero, List.getElem?_cons_succ, List.setIfInBounds_toArray, List.set_cons_zero, List.set_cons_succ] at j0 j1); clear T124) | (go_at_call 125; refine (T125.out _).mono ?_; rintro e w6 ⟨rfl, hd⟩; have D6 := Aside0.mk (blk_below D5.out hd.below); have HB6 := Aside0.mk (below_step HB5.out hd.below); clear j0 j1 hd D5 HB5; have D5 := D6; have HB5 := HB6; have j0 := blk_cell D5.out 0; have j1 := blk_cell D5.out 1; (try simp only [List.getElem?_toArray, List.getElem?_cons_zero, List.getElem?_cons_succ, List.setIfInBounds_toArray, List.set_cons_zero, List.set_cons_succ] at j0 j1)))
      have hfn : frm ≤ np := by have := HF.out; omega
      have T157 := Aside0.mk (show ∀ W, Below wo.heap.size wo W → Calls Try.prog 157 #[.slice (if c3 = frm then A3 else A3.map (fun x => x.add frm)) (np - frm) (c3 - frm)] W fun e w' => ∃ v0_ : Value, e = .returned (v0_) ∧ Kd.R kPtr 115 w' W.heap.size (fun _ => True) v0_ (ps.drop frm) ∧ Below W.heap.size W w' from fun W hW => by
       have hR := Kd.R_below HT.out.r3 hW
       have hC := (Kd.R_reads' hR).2.2
       have hD := Kd.C_drop (c := c3) hC (m := frm) (by rw [← HNP.out]; exact hfn) (Kd.R_reads' hR).2.1
       rw [show frm * kPtr.sz = frm from Nat.mul_one frm] at hD
       have hl : (ps.drop frm).length = np - frm := by rw [List.length_drop, HNP.out]
       rw [← hl]
       exact clonePtr_any _ _ (ps.drop frm) W hD (by rw [hl]; have := HA.out; have := HNP.out; have := HL.out; omega))
      refine start_ (n := 11) (S := fun w' => w'.cell? ⟨g6, 0, none⟩ = some (.int .i64 x.f0) ∧ w'.cell? ⟨g6, 1, none⟩ = some (.int .i64 x.f1)) (ds := []) #[false, false, false, false, false, false, false, false, false, false, false] (by kernel_rfl) rfl rfl ⟨by simpa using j0, by simpa using j1⟩ (fun hHeld => ?_)
      have HB7 := Aside0.mk (below_drew1 HB5.out)
      have D7 := Aside0.mk (blk_drew D5.out)
      generalize w6.drew = w7 at HB7 D7 hHeld ⊢
      clear j0 j1
      refine pure_ (i := 0) (N := some 41) (v := ?_) (a' := ?_) #[true, false, false, false, false, false, false, false, false, false, false] rfl rfl (by kernel_rfl) (fun _ _ _ h => h) (Or.inl ⟨by rfl, ?_⟩) ?_ ?_
      rotate_left
      ·intro w'
       go_simp
       with_reducible rfl
      rotate_left
      ·simp only [Act.put, List.setIfInBounds_toArray, List.set_cons_zero, List.set_cons_succ]
       rfl
      refine take_ (i := 1) (N := some 42) (v := ?_) (a' := ?_) #[true, true, false, false, false, false, false, false, false, false, false] rfl rfl (by kernel_rfl) (fun _ _ _ h => h) (Or.inl ⟨by rfl, ?_⟩) hHeld ?_ ?_
      rotate_left
      ·rintro w' ⟨s0, s1⟩
       go_simp
       with_reducible rfl
      rotate_left
      ·simp only [Act.put, List.setIfInBounds_toArray, List.set_cons_zero, List.set_cons_succ]
       rfl
      refine pure_ (i := 2) (N := some 43) (v := ?_) (a' := ?_) #[true, true, true, false, false, false, false, false, false, false, false] rfl rfl (by kernel_rfl) (fun _ _ _ h => h) (Or.inl ⟨by rfl, ?_⟩) ?_ ?_
      rotate_left
      ·intro w'
       go_simp
       with_reducible rfl
      rotate_left
      ·simp only [Act.put, List.setIfInBounds_toArray, List.set_cons_zero, List.set_cons_succ]
       rfl
      refine take_ (i := 3) (N := some 44) (v := ?_) (a' := ?_) #[true, true, true, true, false, false, false, false, false, false, false] rfl rfl (by kernel_rfl) (fun _ _ _ h => h) (Or.inl ⟨by rfl, ?_⟩) hHeld ?_ ?_
      rotate_left
      ·rintro w' ⟨s0, s1⟩
       go_simp
       with_reducible rfl
      rotate_left
      ·simp only [Act.put, List.setIfInBounds_toArray, List.set_cons_zero, List.set_cons_succ]
       rfl
      refine pure_ (i := 4) (N := some 45) (v := ?_) (a' := ?_) #[true, true, true, true, true, false, false, false, false, false, false] rfl rfl (by kernel_rfl) (fun _ _ _ h => h) (Or.inl ⟨by rfl, ?_⟩) ?_ ?_
      rotate_left
      ·intro w'
       go_simp
       with_reducible rfl
      rotate_left
      ·simp only [Act.put, List.setIfInBounds_toArray, List.set_cons_zero, List.set_cons_succ]
       rfl
      refine pure_ (i := 5) (N := some 46) (v := ?_) (a' := ?_) #[true, true, true, true, true, true, false, false, false, false, false] rfl rfl (by kernel_rfl) (fun _ _ _ h => h) (Or.inl ⟨by rfl, ?_⟩) ?_ ?_
      rotate_left
      ·intro w'
       go_simp
       with_reducible rfl
      rotate_left
      ·simp only [Act.put, List.setIfInBounds_toArray, List.set_cons_zero, List.set_cons_succ]
       rfl
      refine pure_ (i := 6) (N := some 47) (v := ?_) (a' := ?_) #[true, true, true, true, true, true, true, false, false, false, false] rfl rfl (by kernel_rfl) (fun _ _ _ h => h) (Or.inl ⟨by rfl, ?_⟩) ?_ ?_
      rotate_left
      ·intro w'
       go_simp
       with_reducible rfl
      rotate_left
      ·simp only [Act.put, List.setIfInBounds_toArray, List.set_cons_zero, List.set_cons_succ]
       rfl
      refine one_ (i := 7) (N := some 48) #[true, true, true, true, true, true, true, true, false, false, false] rfl rfl (by kernel_rfl) (by decide) (fun K hK => ?_)
      refine goes_ Try.func157 (by kernel_rfl) rfl #[.slice (if c3 = frm then A3 else A3.map (fun x => x.add frm)) (np - frm) (c3 - frm)] (by rfl) rfl rfl (by (try simp only [List.map_toArray, List.map_cons, List.map_nil]); first | done | rfl) ?_
      refine (T157.out _ HB7.out).mono ?_
      rintro e w8 ⟨v48, rfl, ho, hb⟩
      obtain ⟨Ak, ck, rfl⟩ := Kd.R_slice ho
      obtain ⟨kl, hkl⟩ : ∃ k, k = (ps.drop frm).length := ⟨_, rfl⟩
      have HKL := Aside0.mk hkl
      rw [← hkl] at ho ⊢
      clear hkl
      refine ⟨_, rfl, ?_⟩
      have D8 := Aside0.mk (blk_below D7.out hb)
      have HK := Aside0.mk ho
      have HB8 := Aside0.mk (And.intro hb (below_step HB7.out hb))
      clear ho hb
      refine hK.out _ _ ⟨(blk_cell D8.out 0).trans rfl, (blk_cell D8.out 1).trans rfl⟩ (fun hHeld => ?_)
      clear hK K
      refine norm_ (a' := ?_) ?_ ?_
      rotate_left
      ·show Act.put _ (some 48) _ = _
       simp only [Act.put, List.setIfInBounds_toArray, List.set_cons_zero, List.set_cons_succ]
       rfl
      refine pure_ (i := 8) (N := some 49) (v := ?_) (a' := ?_) #[true, true, true, true, true, true, true, true, true, false, false] rfl rfl (by kernel_rfl) (fun _ _ _ h => h) (Or.inl ⟨by rfl, ?_⟩) ?_ ?_
      rotate_left
      ·intro w'
       go_simp
       with_reducible rfl
      rotate_left
      ·simp only [Act.put, List.setIfInBounds_toArray, List.set_cons_zero, List.set_cons_succ]
       rfl
      refine one_ (i := 9) (N := some 50) #[true, true, true, true, true, true, true, true, true, true, false] rfl rfl (by kernel_rfl) (by decide) (fun K hK => ?_)
      refine box_step (by rfl) (N := 50) rfl (cs := #[.int .i64 x.f0, .int .i64 x.f1, Value.slice Ak kl ck]) (t := 153) ?hr ?_
      case hr => first | (go_simp; done) | (go_simp; rfl)
      intro gb hgb w9 hbx hb
      have D9 := Aside0.mk (blk_below D8.out hb)
      have HX9 := Aside0.mk (And.intro hgb (And.intro hbx hb))
      clear hgb hbx hb
      refine hK.out _ _ ⟨(blk_cell D9.out 0).trans rfl, (blk_cell D9.out 1).trans rfl⟩ (fun hHeld => ?_)
      clear hK K
      refine norm_ (a' := ?_) ?_ ?_
      rotate_left
      ·show Act.put _ (some 50) _ = _
       simp only [Act.put, List.setIfInBounds_toArray, List.set_cons_zero, List.set_cons_succ]
       rfl
      refine pure_ (i := 10) (N := some 8) (v := ?_) (a' := ?_) #[true, true, true, true, true, true, true, true, true, true, true] rfl rfl (by kernel_rfl) (fun _ _ _ h => h) (Or.inl ⟨by rfl, ?_⟩) ?_ ?_
      rotate_left
      ·intro w'
       go_simp
       with_reducible rfl
      rotate_left
      ·simp only [Act.put, List.setIfInBounds_toArray, List.set_cons_zero, List.set_cons_succ]
       rfl
      refine done_ (by kernel_rfl) ?_
      obtain ⟨hg0, hbx0, hb0⟩ := HX9.out
      have hB9 : Below wo.heap.size wo w9 := below_step HB8.out.2 hb0
      have h8 := HB8.out.2.size
      have h7 := HB7.out.size
      have hplen := Aside0.mk HA.out.2.2.2.2.1
      have hklen := Aside0.mk (show kl = np - frm by rw [HKL.out, List.length_drop, HNP.out])
      have HFP := Aside0.mk (show frm ≤ pile.length by have := HA.out; have := HNP.out; omega)
      have R3 := Aside0.mk (Kd.R_mono (Kd.R_below (Kd.R_take (m := frm) (Kd.R_bound HT.out.r3) (by rw [← HNP.out]; exact hfn)) hB9) (fun k hk => (show (lab k = 1 ∧ k < wo.heap.size) ∨ w9.heap.size ≤ k from .inl ⟨hk.1, hk.2.2.1⟩)))
      have R4 := Aside0.mk (Kd.R_mono (Kd.R_below (Kd.R_bound HT.out.r4) hB9) (fun k hk => (show lab k = 2 ∧ k < wo.heap.size from ⟨hk.1, hk.2.2.1⟩)))
      have HG9 := Aside0.mk (show wo.heap.size ≤ gb ∧ gb < w9.heap.size from ⟨by omega, blk_lt hbx0⟩)
      have HBX := Aside0.mk hbx0
      have HB9 := Aside0.mk (And.intro hB9 (HT.out.below.trans (hB9.mono HT.out.below.size)))
      have HKF := Aside0.mk (show Kd.F kPtr w9 (fun k => wo.heap.size ≤ k) Ak kl (ps.drop frm) from Kd.F_mono (Kd.F_below (Kd.R_F (Kd.R_bound HK.out)) hb0) (fun k hk => Nat.le_trans h7 hk.2.1))
      have HCK := Aside0.mk (Kd.R_reads' HK.out).2.1
      have hp2 := (Kd.R_reads' HT.out.r3).2.1
      rw [← HNP.out] at hp2
      have p2 := eq_true (show (frm : Int) ≤ (c3 : Int) by omega)
      have hln : (ps.take frm).length = frm := by rw [List.length_take, ← HNP.out]; omega
      have HLN := Aside0.mk hln
      have hcw := HB9.out.2.size
      clear hg0 hbx0 hb0 hB9 h8 h7 hp2 HX9 HB8 D9 D8 D7 hln hw7
      clear hHeld
      obtain ⟨nq, hnq⟩ : ∃ k, k = qs.length := ⟨_, rfl⟩
      have HNQ := Aside0.mk hnq
      rw [← hnq]
      have hbig : (frm + 1) * 8 ≤ 140737488355328 ∧ (nq + 1) * 8 ≤ 140737488355328 := by
       have := HA.out
       have := HNP.out
       have := HL.out
       omega
      have HBIG := Aside0.mk hbig
      have hwi : w.heap.size ≤ w9.heap.size := hcw
      have HWI := Aside0.mk hwi
      clear hnq hbig hwi hcw
      clear T157
      generalize Value.slice (if c3 = frm then A3 else A3.map (fun x => x.add frm)) (np - frm) (c3 - frm) = v47
      go_wp2_with (first | ((with_reducible refine gate_dst (N := 56) rfl ?_); refine Kd.R_append kPtr (w0 := w) w.heap.size rfl (.tmp 53) (.tmp 55) 150 115 (.pointer none) 8 rfl Try.underlying150 info115 rfl (by decide) (by omega) (.slice A3 frm c3) (ps.take frm) (some ⟨gb, 0, none⟩) [.pointer (some ⟨gb, 0, none⟩)] (fun k => (lab k = 1 ∧ k < wo.heap.size) ∨ w9.heap.size ≤ k) (fun _ => False) rfl rfl rfl (fun _ hk => hk.elim) (fun k hk => .inr hk) R3.out HB9.out.2 HWI.out (by rw [HLN.out]; exact HBIG.out.1) ?_; intro v56 w10 ho hb hgr hat; obtain ⟨A56, c56, e56⟩ := Kd.R_slice ho; rw [List.length_append, List.length_singleton, HLN.out] at e56; subst e56; have HR10 := Aside0.mk ho; have HB10 := Aside0.mk hb; have HG10 := Aside0.mk hgr; have R4B := Aside0.mk (Kd.R_mono (Kd.R_grown R4.out hgr (fun k hk e => by have h9 := HB9.out.1.size; rcases R3.out.1 k e.symm with h2 | h2 <;> have := hk.1 <;> have := hk.2 <;> omega)) (fun k hk => (show (lab k = 2 ∧ k < wo.heap.size) ∨ w10.heap.size ≤ k from .inl hk))); have HWI2 := Aside0.mk (Nat.le_trans HWI.out hgr.size); clear ho hb hgr hat) | ((with_reducible refine gate_dst (N := 60) rfl ?_); refine Kd.R_append kPtr (w0 := w) w.heap.size rfl (.tmp 57) (.tmp 59) 150 115 (.pointer none) 8 rfl Try.underlying150 info115 rfl (by decide) (by omega) (.slice A4 nq c4) qs (some ⟨gb, 0, none⟩) [.pointer (some ⟨gb, 0, none⟩)] (fun k => (lab k = 2 ∧ k < wo.heap.size) ∨ w10.heap.size ≤ k) (fun _ => False) rfl rfl rfl (fun _ hk => hk.elim) (fun k hk => .inr hk) (by rw [HNQ.out]; exact R4B.out) HB10.out HWI2.out (by rw [← HNQ.out]; exact HBIG.out.2) ?_; intro v60 w11 ho hb hgr hat; obtain ⟨A60, c60, e60⟩ := Kd.R_slice ho; rw [List.length_append, List.length_singleton, ← HNQ.out] at e60; subst e60; have HR11 := Aside0.mk ho; have HB11 := Aside0.mk hb; have HG11 := Aside0.mk hgr; clear ho hb hgr hat))
      have hs3 : (Value.slice A3 frm c3).ownBlock = (Value.slice A3 ps.length c3).ownBlock := by cases A3 <;> rfl
      have hs4 : (Value.slice A4 nq c4).ownBlock = (Value.slice A4 qs.length c4).ownBlock := by cases A4 <;> rfl
      obtain ⟨lab', HT'⟩ := TrR.push (ks := pile.drop frm) (frm := frm) (gb := gb) (ck := ck) (Ak := Ak) (op := x.f0) (n := x.f1) HT.out HB9.out.1 HFP.out rfl HG9.out.1 HG9.out.2 (by rw [List.length_drop, ← hplen.out, ← HNP.out, ← hklen.out]; exact HBX.out) (by rw [List.length_drop, ← hplen.out, ← HNP.out, ← hklen.out]; exact HCK.out) (by rw [List.length_drop, ← hplen.out, ← HNP.out, ← hklen.out]; exact HKF.out) HR10.out HG10.out hs3 HR11.out HB11.out HG11.out hs4
      have hst : stepT pile x = some (pile.take frm ++ [.node x.f0 x.f1 (pile.drop frm)]) := by
       have h1 := stepT_yes (pile := pile) HB1.out.symm (by rw [← HAN.out.1, ← hplen.out, ← HNP.out]; have := HF.out; omega)
       have h2 : pile.length - (arI x.f0).toNat = frm := by have := HF.out; have := hplen.out; have := HNP.out; have := HAN.out; omega
       rw [h2] at h1
       exact h1
      have hrun := run_next HX.out HA.out.2.2.1 hst
      have hfp := HFP.out
      have hq := HA.out.2.2.2.2.2
      have hA := HA.out
      have hpl := hplen.out
      have hnp := HNP.out
      have hnq := HNQ.out
      clear HA HT
      go_roundg (n - (i + 1))
      case measure => omega
      case rel =>
       refine ⟨i + 1, pile.take frm ++ [.node x.f0 x.f1 (pile.drop frm)], ps.take frm ++ [some ⟨gb, 0, none⟩], qs ++ [some ⟨gb, 0, none⟩], A56, A60, c56, c60, lab', by push_cast; rfl, ?_, ?_, ⟨by omega, by omega, hrun, ?_, ?_, ?_⟩, ?_⟩
       ·rw [List.length_append, List.length_singleton, HLN.out]
       ·rw [List.length_append, List.length_singleton, hnq]
       ·rw [List.length_append, List.length_singleton, List.length_take]; omega
       ·rw [List.length_append, List.length_singleton, List.length_append, List.length_singleton, List.length_take, List.length_take]; omega
       ·rw [List.length_append, List.length_singleton, hq]
       ·rw [List.length_append, List.length_singleton, HLN.out, List.length_append, List.length_singleton, ← hnq]
        exact ⟨HT'⟩
     ·have q1 : ((np : Int) < (an : Int)) = True := eq_true (by omega)
      have HTN := Aside0.mk (treeT_stop2 HX.out HA.out.2.2.1 (by exact stepT_no (by rw [← HAN.out.1]; have := HA.out; have := HNP.out; omega)))
      clear hle
      go_wp2_with (first | ((with_reducible refine gate_dst (N := 6) rfl ?_); refine box_event ?hg (N := 6) ?hd (cs := #[.int .i64 0, .int .i64 0]) (t := 125) ?hr ?_; (case hd => rfl); (case hg => rfl); (case hr => first | (go_simp; done) | (go_simp; rfl)); intro g6 hg w4 hbox hb; have HB4 := Aside0.mk hb; have H4 := Aside0.mk hbox; have G4 := Aside0.mk (Nat.le_of_eq hg.symm); clear hx0 hx1 hb hbox hg; have z0 := blk_cell H4.out 0; have z1 := blk_cell H4.out 1; (try simp only [List.getElem?_toArray, List.getElem?_cons_zero, List.getElem?_cons_succ] at z0 z1); have f0 := blk_frozen H4.out 0; have f1 := blk_frozen H4.out 1) | (go_at_call 124; refine (T124.out _).mono ?_; rintro e w5 ⟨rfl, hd⟩; have D5 := Aside0.mk (blk_below (blk_put (blk_put H4.out 0 (.int .i64 x.f0) rfl) 1 (.int .i64 x.f1) rfl) hd.below); have HB5 := Aside0.mk (below_step (below_set (j := 1) (v := .int .i64 x.f1) (below_set (j := 0) (v := .int .i64 x.f0) HB4.out G4.out) G4.out) hd.below); clear z0 z1 f0 f1 hd; have j0 := blk_cell D5.out 0; have j1 := blk_cell D5.out 1; (try simp only [List.getElem?_toArray, List.getElem?_cons_zero, List.getElem?_cons_succ, List.setIfInBounds_toArray, List.set_cons_zero, List.set_cons_succ] at j0 j1); clear T124) | (go_at_call 125; refine (T125.out _).mono ?_; rintro e w6 ⟨rfl, hd⟩; have D6 := Aside0.mk (blk_below D5.out hd.below); have HB6 := Aside0.mk (below_step HB5.out hd.below); clear j0 j1 hd D5 HB5; have D5 := D6; have HB5 := HB6; have j0 := blk_cell D5.out 0; have j1 := blk_cell D5.out 1; (try simp only [List.getElem?_toArray, List.getElem?_cons_zero, List.getElem?_cons_succ, List.setIfInBounds_toArray, List.set_cons_zero, List.set_cons_succ] at j0 j1)))
      go_ret
      exact ⟨_, rfl, HT.out.below.trans (HB6.out.mono HT.out.below.size), TreesP.nil HTN.out⟩
   ·have cj : decide (i < n) = false := decide_eq_false hlt
    have hi : i = n := by have := HA.out.1; omega
    have hrun : runT [] t = some pile := by
     have h := HA.out.2.2.1
     rw [hi, HN.out, List.take_length] at h
     exact h
    obtain ⟨lp, hlp⟩ : ∃ lp, lp = ps.length := ⟨_, rfl⟩
    have HLP := Aside0.mk hlp
    rw [← hlp]
    by_cases h1 : lp = 1
    ·obtain ⟨T, hpile⟩ : ∃ T, pile = [T] := by
      have h2 := HA.out.2.2.2.2.1
      exact List.length_eq_one_iff.mp (by omega)
     have HT2 := Aside0.mk (treeT_one (by rw [← HN.out]; exact HL.out) (by rw [hrun, hpile]))
     have e1 : ((lp : Int) != 1) = false := by rw [h1]; rfl
     have HP := Aside0.mk hpile
     have HI2 := Aside0.mk hi
     clear hrun hpile hlp h1 hi hlt
     go_wp2
     go_ret
     refine ⟨_, rfl, HT.out.below, ?_⟩
     have hq : qs.length = n := by have := HA.out; have := HI2.out; omega
     have hq0 : 0 < qs.length := by have := HL.out; omega
     obtain ⟨a4, ea, hC⟩ : ∃ a4, A4 = some a4 ∧ Kd.C kPtr wo A4 qs.length qs := by
      have hC := (Kd.R_reads' HT.out.r4).2.2
      obtain ⟨ad, e, _⟩ := at_ptr hC 0 (by omega) (by omega)
      exact ⟨ad, e, hC⟩
     subst ea
     have hlast := HT.out.last hq0
     have hf := HT.out.f
     rw [HP.out] at hf
     have hps : ∃ p, ps = [p] := by
      have h2 := HA.out.2.2.2.2.1
      rw [HP.out] at h2
      match ps, h2 with
      | [p], _ => exact ⟨p, rfl⟩
     obtain ⟨p, rfl⟩ := hps
     unfold TreesP
     rw [HT2.out]
     exact ⟨a4, c4, qs, p, rfl, by rw [hq, HN.out], hC, hlast.symm, ForF_one hf⟩
    ·have HT2 := Aside0.mk (treeT_many hrun (by have := HA.out.2.2.2.2.1; omega))
     have e1 : ((lp : Int) != 1) = true := bne_iff_ne.mpr (by omega)
     clear hrun hlp h1 hi hlt
     go_wp2
     go_ret
     exact ⟨_, rfl, HT.out.below, TreesP.nil HT2.out⟩
 ·have hw1 : within (n : Int) 1 40 = false := by
   unfold within
   by_cases h1 : 1 ≤ n
   ·rw [decide_eq_false (show ¬ (n : Int) ≤ 40 by omega), Bool.and_false]
   ·rw [decide_eq_false (show ¬ (1 : Int) ≤ (n : Int) by omega), Bool.false_and]
  have T83 := Aside0.mk (fun W => within_any (n : Int) 1 40 W)
  rw [hw1] at T83
  have HT := Aside0.mk (show treeT t = none by rw [treeT, if_neg (by rw [← HN.out]; exact hl)])
  clear hw1 hl
  go_enter Try.func143, Try.ntmps143
  go_wp2_with (go_at_call 83; refine (T83.out _).mono ?_; rintro e w1 ⟨rfl, rfl⟩)
  go_ret
  exact ⟨_, rfl, Below.refl _ _, TreesP.nil HT.out⟩
end Go.Proofs.Ytlnejmlphkpaaaa.PA
