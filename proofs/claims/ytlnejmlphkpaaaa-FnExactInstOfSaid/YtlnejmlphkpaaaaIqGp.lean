/- The graph seat: GoodGraph of the implementation by hand. -/
import Derived.Test.YtlnejmlphkpaaaaIqGn
import Derived.Test.YtlnejmlphkpaaaaIqGh0
namespace Go.Proofs.Ytlnejmlphkpaaaa.PA
open Go.RowKit Go.Proofs.YtlnejmlphkpaaaaW.PrintWords Go.Proofs.YtlnejmlphkpaaaaW.PrintLast Go.Proofs.YtlnejmlphkpaaaaW.PrintMore
set_option linter.unusedVariables false
set_option linter.unusedSimpArgs false
theorem still_on {P : Program} {ops : Array Oper} {w : World} {Q : Act → Prop} {a : Act} {o : Oper} {rest : List Oper} (hw : Region.wanted o (yielded ops a.tmps) = true) (h : ∀ K : Act → Prop, (∀ a, wpStill P ops w Q rest a → K a) → o.still P a w K) : wpStill P ops w Q (o :: rest) a :=
 wpStill_step fun K hK => by rw [hw, if_pos rfl]; exact h K hK
theorem gr_closure {A0 A1 : Option Addr} {c0 c1 n : Nat} {parts : List Int} (g : Nat) (x : Int) (W : World) (hg : W.heap[g]? = some (.cells #[.slice A0 n c0, .slice A1 parts.length c1] 32 (0, 0))) (hr : Kd.C (Kd.int .i64) W A1 parts.length parts) (h0 : 0 ≤ x) (h1 : x < parts.length) :
  Calls Try.prog 93 #[.int .i64 x, .pointer (some ⟨g, 0, none⟩)] W fun e W' => e = .returned (.bool (rd parts x != x)) ∧ W = W' := by
 have hcell : W.cell? ⟨g, 1, none⟩ = some (.slice A1 parts.length c1) := (blk_cell hg 1).trans rfl
 obtain ⟨ad, e, hx⟩ := Kd.at_int hr x h0 h1
 cases e
 clear hg hr
 have p0 := eq_true h0
 have q0 := eq_true h1
 clear h0 h1
 go_enter Try.func93, Try.ntmps93
 go_wp2
 go_ret
 exact ⟨rfl, rfl⟩
theorem alike_calls {A B : Option Addr} {c d : Nat} (x y : S36) (hx : x.f2.length ≤ 1000) (w : World) (h : Kd.C (Kd.int .i64) w A x.f2.length x.f2) (hc : x.f2.length ≤ c) (h' : Kd.C (Kd.int .i64) w B y.f2.length y.f2) (hd : y.f2.length ≤ d) :
  Calls Try.prog 94 #[.agg #[.int .i64 x.f0, .int .i64 x.f1, .slice A x.f2.length c], .agg #[.int .i64 y.f0, .int .i64 y.f1, .slice B y.f2.length d]] w fun e w' => e = .returned (.bool (alikeB x y)) ∧ Below w.heap.size w w' := by
 obtain ⟨k, hk⟩ := Ev.rounds (ialike_f x y hx)
 exact impl_alike.calls k _ _ A c x.f2 _ _ B d y.f2 _ w h hc h' hd hk
theorem roots_any (parts kids : List Int) : rootsB parts kids = !(kids.any fun c => rd parts c != c) := by
 refine Bool.eq_iff_iff.2 ?_
 rw [roots_iff, Bool.not_eq_true', List.any_eq_false]
 refine forall_congr' fun y => forall_congr' fun _ => ?_
 simp
set_option maxHeartbeats 8000000 in
set_option maxRecDepth 100000 in
theorem impl_good_calls {A0 A1 : Option Addr} {c0 c1 : Nat} {nodes : List S36} {parts : List Int} (w : World) (h0 : Kd.C k36 w A0 nodes.length nodes) (l0 : nodes.length ≤ c0) (h1 : Kd.C (Kd.int .i64) w A1 parts.length parts) (l1 : parts.length ≤ c1) :
  Calls Try.prog 36 #[.agg #[.slice A0 nodes.length c0, .slice A1 parts.length c1]] w fun e w' => e = .returned (.bool (goodG nodes parts)) ∧ Below w.heap.size w w' := by
 have T75 := Aside0.mk (fun W (hW : Below w.heap.size w W) => loose_calls (A0 := A0) W (Kd.C_below h0 hW) l0)
 have HR0 := Aside0.mk h0
 have HR1 := Aside0.mk h1
 have HL1 := Aside0.mk l1
 have HL0 := Aside0.mk l0
 have hm0 := Kd.C_max h0
 have hm1 := Kd.C_max h1
 obtain ⟨o1, ho1⟩ : ∃ o : Obj, o = .cells #[.slice A0 nodes.length c0, .slice A1 parts.length c1] 32 := ⟨_, rfl⟩
 have B1 := Aside0.mk (show (w.alloc o1).heap[w.heap.size]? = some (.cells #[.slice A0 nodes.length c0, .slice A1 parts.length c1] 32 (0, 0)) from by rw [← ho1]; exact blk_new w o1)
 have HB1 := Aside0.mk (show Below w.heap.size w (w.alloc o1) from below_alloc (Below.refl _ _) _)
 subst ho1
 clear h0 h1 l0 l1
 obtain ⟨good, hgood⟩ : ∃ r, r = goodG nodes parts := ⟨_, rfl⟩
 rw [← hgood]
 by_cases hlen : (parts.length : Int) = (nodes.length : Int)
 ·have e1 : ((parts.length : Int) != (nodes.length : Int)) = false := bne_eq_false_iff_eq.mpr hlen
  have e2 : ((parts.length : Int) == (nodes.length : Int)) = true := beq_iff_eq.mpr hlen
  have HLEN := Aside0.mk hlen
  rcases Bool.eq_false_or_eq_true (nodesB nodes) with hn | hn
  ·have hmost : nodes.length ≤ 120 := by
    simp only [nodesB, Bool.and_eq_true, decide_eq_true_eq] at hn
    exact hn.1
   have hlp : parts.length ≤ 1000 := by omega
   have HN := Aside0.mk hn
   have HMOST := Aside0.mk hmost
   have T76 := Aside0.mk (fun W (hW : Below w.heap.size w W) => parts_calls (A := A1) W (Kd.C_below HR1.out hW) HL1.out hlp)
   rw [hn] at T75
   clear hmost hlp hlen
   rcases Bool.eq_false_or_eq_true (partsB parts) with hp | hp
   ·rw [hp] at T76
    have HG := Aside0.mk (show good = allFrom nodes.length (graphAt nodes parts) 0 by rw [hgood, goodG, hn, hp, e2]; rfl)
    clear hp hn hgood e2
    go_enter Try.func36, Try.ntmps36
    go_wp2_with (first | (go_at_call 75; refine (T75.out _ (by repeat (first | exact Below.refl _ _ | apply below_alloc | apply pw_below_drewN | apply below_drew1))).mono ?_; rintro e w7 ⟨rfl, hb⟩; have HB7 := Aside0.mk (HB1.out.trans (hb.mono HB1.out.size)); have D1 := blk_below B1.out hb; have k0 := blk_cell D1 0; have k1 := blk_cell D1 1; have HD1 := Aside0.mk D1; (try simp only [List.getElem?_toArray, List.getElem?_cons_zero, List.getElem?_cons_succ] at k0 k1); clear hb D1) | (go_at_call 76; refine (T76.out _ HB7.out).mono ?_; rintro e w8 ⟨rfl, hb⟩; have HB8 := Aside0.mk (HB7.out.trans (hb.mono HB7.out.size)); have D1 := blk_below HD1.out hb; clear k0 k1; have j0 := blk_cell D1 0; have j1 := blk_cell D1 1; have HE1 := Aside0.mk D1; (try simp only [List.getElem?_toArray, List.getElem?_cons_zero, List.getElem?_cons_succ] at j0 j1); clear hb D1))
    have hkids : ∀ k, k < nodes.length → (rd_T36 nodes (k : Int)).f2.length ≤ 3 := fun k hk => node_kids (nodes_at HN.out k hk).2.1
    have hin : ∀ k, k < nodes.length → ∀ y ∈ (rd_T36 nodes (k : Int)).f2, 0 ≤ y ∧ y < (parts.length : Int) := fun k hk y hy => by have := (nodes_at HN.out k hk).2.2 y hy; have := HLEN.out; omega
    have HKI := Aside0.mk hkids
    have HIN := Aside0.mk hin
    clear hkids hin j0 j1 e1
    go_loopg [29] nodes.length (fun gg v29 wr => ∃ x : Nat, v29 = .int .i64 (x : Int) ∧ Aside0 (x ≤ nodes.length ∧ nodes.length - x ≤ gg ∧ good = allFrom nodes.length (graphAt nodes parts) x) ∧ Aside0 (Below w.heap.size w wr) ∧ Aside0 (wr.heap[w.heap.size]? = some (.cells #[.slice A0 nodes.length c0, .slice A1 parts.length c1] 32 (0, 0))))
    case atStart => exact ⟨0, rfl, ⟨Nat.zero_le _, Nat.le_refl _, HG.out⟩, HB8, HE1⟩
    case round =>
     obtain ⟨x, rfl, HA, HB, HX⟩ := hrel
     by_cases hlt : x < nodes.length
     ·have p : 0 ≤ (x : Int) := by omega
      have q : (x : Int) < (nodes.length : Int) := by omega
      have cc0 : decide ((x : Int) < (nodes.length : Int)) = true := decide_eq_true q
      obtain ⟨ad, A2, c2, e, hx0, hx1, hx2, hl2, hi2⟩ := at_T36 HR0.out x p q
      cases e
      have HKX := Aside0.mk (HKI.out x hlt)
      have HINX := Aside0.mk (HIN.out x hlt)
      obtain ⟨nx, hnx⟩ : ∃ y, y = rd_T36 nodes (x : Int) := ⟨_, rfl⟩
      rw [← hnx] at hx0 hx1 hx2 hl2 hi2 HKX HINX
      replace hx0 := (HB.out.cell (World.block_lt_of_cell? w _ hx0)).trans hx0
      replace hx1 := (HB.out.cell (World.block_lt_of_cell? w _ hx1)).trans hx1
      replace hx2 := (HB.out.cell (World.block_lt_of_cell? w _ hx2)).trans hx2
      simp only [Int.toNat_natCast] at hx0 hx1 hx2
      have HKC := Aside0.mk hi2
      have HKL := Aside0.mk hl2
      have HNX := Aside0.mk hnx
      have HLT := Aside0.mk hlt
      have hbx := Aside0.mk (blk_lt HX.out)
      clear hi2 hl2 hnx
      have p0 := eq_true p
      have q0 := eq_true q
      have j0 := blk_cell HX.out 0
      have j1 := blk_cell HX.out 1
      try simp only [List.getElem?_toArray, List.getElem?_cons_zero, List.getElem?_cons_succ] at j0 j1
      rcases Bool.eq_false_or_eq_true (nx.f2.any fun c => rd parts c != c) with hq | hq
      ·have HQ := Aside0.mk hq
       clear hq hlt p q
       go_wp2_with (first | ((with_reducible refine gate_dst (N := 4) rfl ?_); refine box_event ?hg (N := 4) ?hd (cs := #[.int .i64 0, .int .i64 0, .slice none 0 0]) (t := 36) ?hr ?_; (case hd => rfl); (case hg => rfl); (case hr => first | (go_simp; done) | (go_simp; rfl)); intro g4 hg w4 hbox hb; have HB4 := Aside0.mk (below_step HB.out hb); have H4 := Aside0.mk hbox; have HX4 := Aside0.mk (blk_below HX.out hb); have G4 := Aside0.mk ((by rw [hg]; exact below_size HB.out) : w.heap.size ≤ g4); have N4 := Aside0.mk ((by rw [hg]; exact Nat.ne_of_lt hbx.out) : w.heap.size ≠ g4); clear j0 j1 hx0 hx1 hx2 hb hbox hg; have z0 := blk_cell H4.out 0; have z1 := blk_cell H4.out 1; have z2 := blk_cell H4.out 2; (try simp only [List.getElem?_toArray, List.getElem?_cons_zero, List.getElem?_cons_succ] at z0 z1 z2); have f0 := blk_frozen H4.out 0; have f1 := blk_frozen H4.out 1; have f2 := blk_frozen H4.out 2) | (go_at_call 92; refine (sl_ContainsFunc_int A2 c2 nx.f2 93 #[.pointer (some ⟨w.heap.size, 0, none⟩)] (fun c => rd parts c != c) _ (Kd.C_below HKC.out (by repeat (first | exact HB4.out | refine below_set ?_ G4.out | apply pw_below_drewN | apply below_drew1))) (enters_fn (P := Try.prog) Try.func93 (by kernel_rfl) rfl) ?hp).mono ?_; (case hp => exact fun y hy => gr_closure w.heap.size y _ (blk_far (blk_far (blk_far HX4.out N4.out _) N4.out _) N4.out _) (Kd.C_below HR1.out (by repeat (first | exact HB4.out | refine below_set ?_ G4.out | apply pw_below_drewN | apply below_drew1))) (HINX.out y hy).1 (HINX.out y hy).2); rw [HQ.out]; rintro e w7 ⟨rfl, rfl⟩))
       go_ret
       refine ⟨?_, by repeat (first | exact HB4.out | refine below_set ?_ G4.out | apply pw_below_drewN | apply below_drew1)⟩
       rw [HA.out.2.2, allFrom_stop HLT.out (by rw [graphAt, roots_any, ← HNX.out, HQ.out]; rfl)]
       rfl
      ·have HQ := Aside0.mk hq
       have p2 := eq_true (show (x : Int) ≤ (c0 : Int) by have := HL0.out; omega)
       clear hq hlt
       go_wp2_with (first | ((with_reducible refine gate_dst (N := 4) rfl ?_); refine box_event ?hg (N := 4) ?hd (cs := #[.int .i64 0, .int .i64 0, .slice none 0 0]) (t := 36) ?hr ?_; (case hd => rfl); (case hg => rfl); (case hr => first | (go_simp; done) | (go_simp; rfl)); intro g4 hg w4 hbox hb; have HB4 := Aside0.mk (below_step HB.out hb); have H4 := Aside0.mk hbox; have HX4 := Aside0.mk (blk_below HX.out hb); have G4 := Aside0.mk ((by rw [hg]; exact below_size HB.out) : w.heap.size ≤ g4); have N4 := Aside0.mk ((by rw [hg]; exact Nat.ne_of_lt hbx.out) : w.heap.size ≠ g4); clear j0 j1 hx0 hx1 hx2 hb hbox hg; have z0 := blk_cell H4.out 0; have z1 := blk_cell H4.out 1; have z2 := blk_cell H4.out 2; (try simp only [List.getElem?_toArray, List.getElem?_cons_zero, List.getElem?_cons_succ] at z0 z1 z2); have f0 := blk_frozen H4.out 0; have f1 := blk_frozen H4.out 1; have f2 := blk_frozen H4.out 2) | (go_at_call 92; refine (sl_ContainsFunc_int A2 c2 nx.f2 93 #[.pointer (some ⟨w.heap.size, 0, none⟩)] (fun c => rd parts c != c) _ (Kd.C_below HKC.out (by repeat (first | exact HB4.out | refine below_set ?_ G4.out | apply pw_below_drewN | apply below_drew1))) (enters_fn (P := Try.prog) Try.func93 (by kernel_rfl) rfl) ?hp).mono ?_; (case hp => exact fun y hy => gr_closure w.heap.size y _ (blk_far (blk_far (blk_far HX4.out N4.out _) N4.out _) N4.out _) (Kd.C_below HR1.out (by repeat (first | exact HB4.out | refine below_set ?_ G4.out | apply pw_below_drewN | apply below_drew1))) (HINX.out y hy).1 (HINX.out y hy).2); rw [HQ.out]; rintro e w7 ⟨rfl, rfl⟩; have D4 := Aside0.mk (show (((w4.setCell ⟨g4, 0, none⟩ (.int .i64 nx.f0)).setCell ⟨g4, 1, none⟩ (.int .i64 nx.f1)).setCell ⟨g4, 2, none⟩ (.slice A2 nx.f2.length c2)).heap[g4]? = some (.cells #[.int .i64 nx.f0, .int .i64 nx.f1, .slice A2 nx.f2.length c2] 36 (0, 0)) from blk_put (blk_put (blk_put H4.out 0 _ rfl) 1 _ rfl) 2 _ rfl); have DX := Aside0.mk (blk_far (p := ⟨g4, 2, none⟩) (blk_far (p := ⟨g4, 1, none⟩) (blk_far (p := ⟨g4, 0, none⟩) HX4.out N4.out (.int .i64 nx.f0)) N4.out (.int .i64 nx.f1)) N4.out (.slice A2 nx.f2.length c2)); have DB := Aside0.mk (below_set (j := 2) (v := .slice A2 nx.f2.length c2) (below_set (j := 1) (v := .int .i64 nx.f1) (below_set (j := 0) (v := .int .i64 nx.f0) HB4.out G4.out) G4.out) G4.out); generalize ((w4.setCell ⟨g4, 0, none⟩ (.int .i64 nx.f0)).setCell ⟨g4, 1, none⟩ (.int .i64 nx.f1)).setCell ⟨g4, 2, none⟩ (.slice A2 nx.f2.length c2) = w5 at *; clear z0 z1 z2 f0 f1 f2 H4 HX4 HB4; have j0 := blk_cell DX.out 0; have j1 := blk_cell DX.out 1; (try simp only [List.getElem?_toArray, List.getElem?_cons_zero, List.getElem?_cons_succ] at j0 j1)))
       clear j0 j1 p2
       go_loopg [43] x (fun gg v43 wq => ∃ i : Nat, v43 = .int .i64 (i : Int) ∧ Aside0 (i ≤ x ∧ x - i ≤ gg ∧ likesB nodes parts x = allFrom x (likeAt nodes parts x) i) ∧ Aside0 (Below w.heap.size w wq) ∧ Aside0 (wq.heap[w.heap.size]? = some (.cells #[.slice (some ad) nodes.length c0, .slice A1 parts.length c1] 32 (0, 0))) ∧ Aside0 (wq.heap[g4]? = some (.cells #[.int .i64 nx.f0, .int .i64 nx.f1, .slice A2 nx.f2.length c2] 36 (0, 0))))
       case atStart => exact ⟨0, rfl, ⟨Nat.zero_le _, Nat.le_refl _, likes_at _ _ _⟩, DB, DX, D4⟩
       case round =>
        clear D4 DX DB
        obtain ⟨i, rfl, IA, IB, IX, I4⟩ := hrel
        by_cases hil : i < x
        ·have pi : 0 ≤ (i : Int) := by omega
         have qi : (i : Int) < (nodes.length : Int) := by omega
         have ri : (i : Int) < (x : Int) := by omega
         have ci : decide ((i : Int) < (x : Int)) = true := decide_eq_true ri
         obtain ⟨ad', A3, c3, e, gx0, gx1, gx2, gl2, gi2⟩ := at_T36 HR0.out i pi qi
         cases e
         obtain ⟨ap, ea, hpi⟩ := Kd.at_int HR1.out (i : Int) pi (by have := HLEN.out; omega)
         cases ea
         obtain ⟨ap', ea, hpx⟩ := Kd.at_int HR1.out (x : Int) p (by have := HLEN.out; omega)
         cases ea
         obtain ⟨ny, hny⟩ : ∃ y, y = rd_T36 nodes (i : Int) := ⟨_, rfl⟩
         obtain ⟨vi, hvi⟩ : ∃ y, y = rd parts (i : Int) := ⟨_, rfl⟩
         obtain ⟨vx, hvx⟩ : ∃ y, y = rd parts (x : Int) := ⟨_, rfl⟩
         rw [← hny] at gx0 gx1 gx2 gl2 gi2
         rw [← hvi] at hpi
         rw [← hvx] at hpx
         have HLK := Aside0.mk (show likeAt nodes parts x i = (!alikeB nx ny || (vi == vx)) by rw [likeAt, ← HNX.out, ← hny, ← hvi, ← hvx])
         clear hny hvi hvx
         replace gx0 := (IB.out.cell (World.block_lt_of_cell? w _ gx0)).trans gx0
         replace gx1 := (IB.out.cell (World.block_lt_of_cell? w _ gx1)).trans gx1
         replace gx2 := (IB.out.cell (World.block_lt_of_cell? w _ gx2)).trans gx2
         simp only [Int.toNat_natCast] at gx0 gx1 gx2 hpi hpx
         have HPI := Aside0.mk hpi
         have HPX := Aside0.mk hpx
         have HYC := Aside0.mk gi2
         have HYL := Aside0.mk gl2
         have HIL := Aside0.mk hil
         have hbi := Aside0.mk (blk_lt IX.out)
         have hb4 := Aside0.mk (blk_lt I4.out)
         clear gi2 gl2 hpi hpx hil
         have p1 := eq_true pi
         have q1 := eq_true ri
         have q2 := eq_true (show (i : Int) < (parts.length : Int) by have := HLEN.out; omega)
         have q3 := eq_true (show (x : Int) < (parts.length : Int) by have := HLEN.out; omega)
         go_wp2_with (first | ((with_reducible refine gate_dst (N := 6) rfl ?_); refine box_event ?hg (N := 6) ?hd (cs := #[.int .i64 0, .int .i64 0, .slice none 0 0]) (t := 36) ?hr ?_; (case hd => rfl); (case hg => rfl); (case hr => first | (go_simp; done) | (go_simp; rfl)); intro g6 hg w6 hbox hb; have IB6 := Aside0.mk (below_step IB.out hb); have H6 := Aside0.mk hbox; have IX6 := Aside0.mk (blk_below IX.out hb); have I46 := Aside0.mk (blk_below I4.out hb); have G6 := Aside0.mk ((by rw [hg]; exact below_size IB.out) : w.heap.size ≤ g6); have N6 := Aside0.mk ((by rw [hg]; exact Nat.ne_of_lt hbi.out) : w.heap.size ≠ g6); have N46 := Aside0.mk ((by rw [hg]; exact Nat.ne_of_lt hb4.out) : g4 ≠ g6); clear gx0 gx1 gx2 hb hbox hg; have z0 := blk_cell H6.out 0; have z1 := blk_cell H6.out 1; have z2 := blk_cell H6.out 2; (try simp only [List.getElem?_toArray, List.getElem?_cons_zero, List.getElem?_cons_succ] at z0 z1 z2); have f0 := blk_frozen H6.out 0; have f1 := blk_frozen H6.out 1; have f2 := blk_frozen H6.out 2))
         have D6 := Aside0.mk (show (((w6.setCell ⟨g6, 0, none⟩ (.int .i64 ny.f0)).setCell ⟨g6, 1, none⟩ (.int .i64 ny.f1)).setCell ⟨g6, 2, none⟩ (.slice A3 ny.f2.length c3)).heap[g6]? = some (.cells #[.int .i64 ny.f0, .int .i64 ny.f1, .slice A3 ny.f2.length c3] 36 (0, 0)) from blk_put (blk_put (blk_put H6.out 0 _ rfl) 1 _ rfl) 2 _ rfl)
         have DX := Aside0.mk (blk_far (p := ⟨g6, 2, none⟩) (blk_far (p := ⟨g6, 1, none⟩) (blk_far (p := ⟨g6, 0, none⟩) IX6.out N6.out (.int .i64 ny.f0)) N6.out (.int .i64 ny.f1)) N6.out (.slice A3 ny.f2.length c3))
         have D4 := Aside0.mk (blk_far (p := ⟨g6, 2, none⟩) (blk_far (p := ⟨g6, 1, none⟩) (blk_far (p := ⟨g6, 0, none⟩) I46.out N46.out (.int .i64 ny.f0)) N46.out (.int .i64 ny.f1)) N46.out (.slice A3 ny.f2.length c3))
         have DB := Aside0.mk (below_set (j := 2) (v := .slice A3 ny.f2.length c3) (below_set (j := 1) (v := .int .i64 ny.f1) (below_set (j := 0) (v := .int .i64 ny.f0) IB6.out G6.out) G6.out) G6.out)
         generalize ((w6.setCell ⟨g6, 0, none⟩ (.int .i64 ny.f0)).setCell ⟨g6, 1, none⟩ (.int .i64 ny.f1)).setCell ⟨g6, 2, none⟩ (.slice A3 ny.f2.length c3) = wF at *
         clear z0 z1 z2 f0 f1 f2 H6 IX6 I46 IB6
         have HXI := Aside0.mk ((DB.out.cell (World.block_lt_of_cell? w _ HPI.out)).trans HPI.out)
         have HXX := Aside0.mk ((DB.out.cell (World.block_lt_of_cell? w _ HPX.out)).trans HPX.out)
         have s1 := HXI.out
         have s2 := HXX.out
         have j1 := blk_cell DX.out 1
         have k0 := blk_cell D4.out 0
         have k1 := blk_cell D4.out 1
         have k2 := blk_cell D4.out 2
         have m0 := blk_cell D6.out 0
         have m1 := blk_cell D6.out 1
         have m2 := blk_cell D6.out 2
         try simp only [List.getElem?_toArray, List.getElem?_cons_zero, List.getElem?_cons_succ] at j1 k0 k1 k2 m0 m1 m2
         by_cases hv : vi = vx
         ·have cv : (vi != vx) = false := bne_eq_false_iff_eq.mpr hv
          have HT := Aside0.mk (show likeAt nodes parts x i = true by rw [HLK.out, beq_iff_eq.mpr hv, Bool.or_true])
          clear hv
          go_quiet (fail)
          go_wp2
          go_roundg (x - (i + 1))
          case measure => have := IA.out; have := HIL.out; omega
          case rel => exact ⟨i + 1, by first | rfl | (rw [wnext i x HIL.out (by have := HLT.out; have := HMOST.out; omega)]; rfl) | rw [wnext i x HIL.out (by have := HLT.out; have := HMOST.out; omega)], ⟨by have := HIL.out; omega, Nat.le_refl _, by rw [IA.out.2.2, allFrom_step HIL.out HT.out]⟩, ⟨by repeat (first | exact DB.out | apply pw_below_drewN | apply below_drew1)⟩, ⟨by repeat (first | exact DX.out | apply blk_drewN | apply blk_drew)⟩, ⟨by repeat (first | exact D4.out | apply blk_drewN | apply blk_drew)⟩⟩
         ·have cv : (vi != vx) = true := bne_iff_ne.mpr hv
          have T94 := Aside0.mk (fun W (hW : Below w.heap.size w W) => alike_calls (A := A2) (B := A3) nx ny (by have := HKX.out; omega) W (Kd.C_below HKC.out hW) HKL.out (Kd.C_below HYC.out hW) HYL.out)
          rcases Bool.eq_false_or_eq_true (alikeB nx ny) with ha | ha
          ·have HT := Aside0.mk (show likeAt nodes parts x i = false by rw [HLK.out, ha, beq_eq_false_iff_ne.mpr hv]; rfl)
           rw [ha] at T94
           clear hv ha
           refine region_tail 14 (by kernel_rfl) (by kernel_rfl) ?_
           simp only [List.take_succ_cons, List.take_zero, List.drop_succ_cons, List.drop_zero]
           iterate 12 (with_reducible refine wpStill_step (fun K hK => ?_); go_simp; with_reducible refine hK _ ?_; clear hK K)
           iterate 2 (with_reducible refine still_on ?h1 (fun K hK => ?_); (case h1 => kernel_rfl); go_simp; with_reducible refine hK _ ?_; clear hK K)
           with_reducible refine wpStill_nil ?_
           go_wp2_with (go_at_call 94; refine (T94.out _ (by repeat (first | exact DB.out | apply below_drew1))).mono ?_; rintro e w9 ⟨rfl, hb⟩; have HB9 := Aside0.mk (below_step (by repeat (first | exact DB.out | apply below_drew1)) hb); clear hb)
           go_ret
           refine ⟨?_, HB9.out⟩
           rw [HA.out.2.2, allFrom_stop HLT.out (by rw [graphAt, IA.out.2.2, allFrom_stop HIL.out HT.out, Bool.and_false])]
           rfl
          ·have HT := Aside0.mk (show likeAt nodes parts x i = true by rw [HLK.out, ha]; rfl)
           rw [ha] at T94
           clear hv ha
           refine region_tail 14 (by kernel_rfl) (by kernel_rfl) ?_
           simp only [List.take_succ_cons, List.take_zero, List.drop_succ_cons, List.drop_zero]
           iterate 12 (with_reducible refine wpStill_step (fun K hK => ?_); go_simp; with_reducible refine hK _ ?_; clear hK K)
           iterate 2 (with_reducible refine still_on ?h1 (fun K hK => ?_); (case h1 => kernel_rfl); go_simp; with_reducible refine hK _ ?_; clear hK K)
           with_reducible refine wpStill_nil ?_
           go_wp2_with (go_at_call 94; refine (T94.out _ (by repeat (first | exact DB.out | apply below_drew1))).mono ?_; rintro e w9 ⟨rfl, hb⟩; have HB9 := Aside0.mk (below_step (by repeat (first | exact DB.out | apply below_drew1)) hb); have DX9 := Aside0.mk (blk_below (blk_drew DX.out) hb); have D49 := Aside0.mk (blk_below (blk_drew D4.out) hb); clear hb)
           go_roundg (x - (i + 1))
           case measure => have := IA.out; have := HIL.out; omega
           case rel => exact ⟨i + 1, by first | rfl | (rw [wnext i x HIL.out (by have := HLT.out; have := HMOST.out; omega)]; rfl) | rw [wnext i x HIL.out (by have := HLT.out; have := HMOST.out; omega)], ⟨by have := HIL.out; omega, Nat.le_refl _, by rw [IA.out.2.2, allFrom_step HIL.out HT.out]⟩, HB9, DX9, D49⟩
        ·have ci : decide ((i : Int) < (x : Int)) = false := decide_eq_false (by omega)
         have cj : decide (i < x) = false := decide_eq_false hil
         have HE := Aside0.mk (show graphAt nodes parts x = true by
          have e : i = x := by have := IA.out.1; omega
          rw [graphAt, IA.out.2.2, e, allFrom_end, roots_any, ← HNX.out, HQ.out]; rfl)
         clear hil
         go_wp2
         go_roundg (nodes.length - (x + 1))
         case measure => have := HA.out; have := HLT.out; omega
         case rel => exact ⟨x + 1, by first | rfl | (rw [wnext x nodes.length HLT.out (by have := HMOST.out; omega)]; rfl) | rw [wnext x nodes.length HLT.out (by have := HMOST.out; omega)], ⟨by have := HLT.out; omega, Nat.le_refl _, by rw [HA.out.2.2, allFrom_step HLT.out HE.out]⟩, IB, IX⟩
     ·have cc0 : decide ((x : Int) < (nodes.length : Int)) = false := decide_eq_false (by omega)
      have cc1 : decide (x < nodes.length) = false := decide_eq_false hlt
      have HE := Aside0.mk (show good = true by
       have e : x = nodes.length := by have := HA.out.1; omega
       rw [HA.out.2.2, e]
       exact allFrom_end)
      clear hlt
      go_wp2
      go_ret
      exact ⟨by rw [HE.out]; rfl, HB.out⟩
   ·rw [hp] at T76
    have HG := Aside0.mk (show good = false by rw [hgood, goodG, hn, hp, e2]; rfl)
    clear hp hn hgood e2
    go_enter Try.func36, Try.ntmps36
    go_wp2_with (first | (go_at_call 75; refine (T75.out _ (by repeat (first | exact Below.refl _ _ | apply below_alloc | apply pw_below_drewN | apply below_drew1))).mono ?_; rintro e w7 ⟨rfl, hb⟩; have HB7 := Aside0.mk (HB1.out.trans (hb.mono HB1.out.size)); have D1 := blk_below B1.out hb; have k0 := blk_cell D1 0; have k1 := blk_cell D1 1; have HD1 := Aside0.mk D1; (try simp only [List.getElem?_toArray, List.getElem?_cons_zero, List.getElem?_cons_succ] at k0 k1); clear hb D1) | (go_at_call 76; refine (T76.out _ HB7.out).mono ?_; rintro e w8 ⟨rfl, hb⟩; have HB8 := Aside0.mk (HB7.out.trans (hb.mono HB7.out.size)); clear hb))
    go_ret
    exact ⟨by rw [HG.out]; rfl, HB8.out⟩
  ·rw [hn] at T75
   have HG := Aside0.mk (show good = false by rw [hgood, goodG, hn]; rfl)
   clear hn hgood e2 hlen
   go_enter Try.func36, Try.ntmps36
   go_wp2_with (first | (go_at_call 75; refine (T75.out _ (by repeat (first | exact Below.refl _ _ | apply below_alloc | apply pw_below_drewN | apply below_drew1))).mono ?_; rintro e w7 ⟨rfl, hb⟩; have HB7 := Aside0.mk (HB1.out.trans (hb.mono HB1.out.size)); clear hb))
   go_ret
   exact ⟨by rw [HG.out]; rfl, HB7.out⟩
 ·have e1 : ((parts.length : Int) != (nodes.length : Int)) = true := bne_iff_ne.mpr hlen
  have HG := Aside0.mk (show good = false by
   rw [hgood, goodG, beq_eq_false_iff_ne.mpr hlen]
   cases nodesB nodes <;> rfl)
  clear hgood hlen
  go_enter Try.func36, Try.ntmps36
  go_wp2
  go_ret
  exact ⟨by rw [HG.out]; rfl, HB1.out⟩
end Go.Proofs.Ytlnejmlphkpaaaa.PA
