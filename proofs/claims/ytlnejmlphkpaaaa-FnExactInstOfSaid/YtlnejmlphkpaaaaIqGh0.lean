/- The graph seat: spec.GoodGraph by hand (printed by gen/mkgq0.py). -/
import Derived.Test.YtlnejmlphkpaaaaIqGe
namespace Go.Proofs.Ytlnejmlphkpaaaa.PA
open Go.RowKit Go.Proofs.YtlnejmlphkpaaaaW.PrintWords Go.Proofs.YtlnejmlphkpaaaaW.PrintLast Go.Proofs.YtlnejmlphkpaaaaW.PrintMore
set_option linter.unusedVariables false
set_option linter.unusedSimpArgs false
def tf (n m : Nat) : Array Bool := (List.replicate n true ++ List.replicate m false).toArray
def rootAt (parts kids : List Int) (j : Nat) : Bool := rd parts (rd kids (j : Int)) == rd kids (j : Int)
def likeAt (nodes : List S36) (parts : List Int) (k i : Nat) : Bool := !alikeB (rd_T36 nodes (k : Int)) (rd_T36 nodes (i : Int)) || (rd parts (i : Int) == rd parts (k : Int))
def graphAt (nodes : List S36) (parts : List Int) (k : Nat) : Bool := rootsB parts (rd_T36 nodes (k : Int)).f2 && likesB nodes parts k
theorem likes_at (nodes : List S36) (parts : List Int) (k : Nat) : likesB nodes parts k = allFrom k (likeAt nodes parts k) 0 := rfl
theorem salike_calls {A B : Option Addr} {c d : Nat} (x y : S36) (hx : x.f2.length ≤ 1000) (w : World) (h : Kd.C (Kd.int .i64) w A x.f2.length x.f2) (hc : x.f2.length ≤ c) (h' : Kd.C (Kd.int .i64) w B y.f2.length y.f2) (hd : y.f2.length ≤ d) :
  Calls Try.prog 104 #[.agg #[.int .i64 x.f0, .int .i64 x.f1, .slice A x.f2.length c], .agg #[.int .i64 y.f0, .int .i64 y.f1, .slice B y.f2.length d]] w fun e w' => e = .returned (.bool (alikeB x y)) ∧ Below w.heap.size w w' := by
 obtain ⟨k, hk⟩ := Ev.rounds (alike_f x y hx)
 exact spec_l6Alike.calls k _ _ A c x.f2 _ _ B d y.f2 _ w h hc h' hd hk
set_option maxHeartbeats 8000000 in
set_option maxRecDepth 100000 in
theorem good_calls {A0 A1 : Option Addr} {c0 c1 : Nat} {nodes : List S36} {parts : List Int} (w : World) (h0 : Kd.C k36 w A0 nodes.length nodes) (l0 : nodes.length ≤ c0) (h1 : Kd.C (Kd.int .i64) w A1 parts.length parts) (l1 : parts.length ≤ c1) :
  Calls Try.prog 43 #[.agg #[.slice A0 nodes.length c0, .slice A1 parts.length c1]] w fun e w' => e = .returned (.bool (goodG nodes parts)) ∧ Below w.heap.size w w' := by
 obtain ⟨kn, hkn⟩ := Ev.rounds (nodes_f nodes)
 obtain ⟨kp, hkp⟩ := Ev.rounds (parts_f parts)
 have T80 := Aside0.mk (fun W (hW : Below w.heap.size w W) => spec_l6Nodes.calls kn A0 c0 nodes _ W (Kd.C_below h0 hW) l0 hkn)
 have T81 := Aside0.mk (show ∀ W, Below w.heap.size w W → Calls Try.prog 81 #[.slice A1 parts.length c1] W fun e w' => e = .returned (.bool (partsB parts)) ∧ Below W.heap.size W w' from fun W hW => (spec_GoodParts.calls kp A1 c1 parts _ W (Kd.C_below h1 hW) l1 hkp).mono fun e w' h => ⟨h.1, h.2.below⟩)
 have HR0 := Aside0.mk h0
 have HR1 := Aside0.mk h1
 have hm0 := Kd.C_max h0
 have hm1 := Kd.C_max h1
 obtain ⟨o1, ho1⟩ : ∃ o : Obj, o = .cells #[.slice A0 nodes.length c0, .slice A1 parts.length c1] 32 := ⟨_, rfl⟩
 have B1 := Aside0.mk (show (w.alloc o1).heap[w.heap.size]? = some (.cells #[.slice A0 nodes.length c0, .slice A1 parts.length c1] 32 (0, 0)) from by rw [← ho1]; exact blk_new w o1)
 have HB1 := Aside0.mk (show Below w.heap.size w (w.alloc o1) from below_alloc (Below.refl _ _) _)
 subst ho1
 clear h0 h1 l0 l1 hkn hkp
 obtain ⟨good, hgood⟩ : ∃ r, r = goodG nodes parts := ⟨_, rfl⟩
 rw [← hgood]
 rcases Bool.eq_false_or_eq_true (nodesB nodes) with hn | hn
 ·rw [hn] at T80
  by_cases hlen : (parts.length : Int) = (nodes.length : Int)
  ·have e1 : ((parts.length : Int) != (nodes.length : Int)) = false := bne_eq_false_iff_eq.mpr hlen
   have e2 : ((parts.length : Int) == (nodes.length : Int)) = true := beq_iff_eq.mpr hlen
   have HLEN := Aside0.mk hlen
   have HMOST := Aside0.mk (show nodes.length ≤ 120 by
    have h := hn
    simp only [nodesB, Bool.and_eq_true, decide_eq_true_eq] at h
    exact h.1)
   have HN := Aside0.mk hn
   clear hlen
   rcases Bool.eq_false_or_eq_true (partsB parts) with hp | hp
   ·rw [hp] at T81
    have HG := Aside0.mk (show good = allFrom nodes.length (graphAt nodes parts) 0 by rw [hgood, goodG, hn, hp, e2]; rfl)
    clear hp hn hgood e2
    go_enter Try.func43, Try.ntmps43
    go_wp2_with (first | (go_at_call 80; refine (T80.out _ (by repeat (first | exact Below.refl _ _ | apply below_alloc | apply pw_below_drewN | apply below_drew1))).mono ?_; rintro e w7 ⟨rfl, hb⟩; have HB7 := Aside0.mk (HB1.out.trans (hb.mono HB1.out.size)); have HD1 := Aside0.mk (blk_below B1.out hb); have k0 := blk_cell HD1.out 0; have k1 := blk_cell HD1.out 1; (try simp only [List.getElem?_toArray, List.getElem?_cons_zero, List.getElem?_cons_succ] at k0 k1); clear hb) | (go_at_call 81; refine (T81.out _ HB7.out).mono ?_; rintro e w8 ⟨rfl, hb⟩; have HB8 := Aside0.mk (below_step HB7.out hb); have HE1 := Aside0.mk (blk_below HD1.out hb); clear hb k0 k1; have k0 := blk_cell HE1.out 0; have k1 := blk_cell HE1.out 1; (try simp only [List.getElem?_toArray, List.getElem?_cons_zero, List.getElem?_cons_succ] at k0 k1)))
    have HKI := Aside0.mk (show ∀ k, k < nodes.length → (rd_T36 nodes (k : Int)).f2.length ≤ 3 from fun k hk => node_kids (nodes_at HN.out k hk).2.1)
    have HIN := Aside0.mk (show ∀ k, k < nodes.length → ∀ y ∈ (rd_T36 nodes (k : Int)).f2, 0 ≤ y ∧ y < (parts.length : Int) from fun k hk y hy => by have := (nodes_at HN.out k hk).2.2 y hy; have := HLEN.out; omega)
    clear k0 k1 e1
    go_loopg [30] nodes.length (fun gg v30 wr => ∃ x : Nat, v30 = .int .i64 (x : Int) ∧ Aside0 (x ≤ nodes.length ∧ nodes.length - x ≤ gg ∧ good = allFrom nodes.length (graphAt nodes parts) x) ∧ Aside0 (Below w.heap.size w wr) ∧ Aside0 (wr.heap[w.heap.size]? = some (.cells #[.slice A0 nodes.length c0, .slice A1 parts.length c1] 32 (0, 0))))
    case atStart => exact ⟨0, rfl, ⟨Nat.zero_le _, Nat.le_refl _, HG.out⟩, HB8, HE1⟩
    case round =>
     obtain ⟨x, rfl, HA, HB, HX⟩ := hrel
     by_cases hlt : x < nodes.length
     ·have p : 0 ≤ (x : Int) := by omega
      have q : (x : Int) < (nodes.length : Int) := by omega
      obtain ⟨ad, A2, c2, e, hx0, hx1, hx2, hl2, hi2⟩ := at_T36 HR0.out x p q
      cases e
      have HKX := Aside0.mk (HKI.out x hlt)
      have HINX := Aside0.mk (HIN.out x hlt)
      obtain ⟨nx, hnx⟩ : ∃ y, y = rd_T36 nodes (x : Int) := ⟨_, rfl⟩
      rw [← hnx] at hx0 hx1 hx2 hl2 hi2 HKX HINX
      replace hx0 := (HB.out.cell (World.block_lt_of_cell? w _ hx0)).trans hx0
      replace hx1 := (HB.out.cell (World.block_lt_of_cell? w _ hx1)).trans hx1
      replace hx2 := (HB.out.cell (World.block_lt_of_cell? w _ hx2)).trans hx2
      simp only [Int.toNat_natCast] at hx0 hx1 hx2
      have HKC := Aside0.mk hi2
      have HKL := Aside0.mk hl2
      have HNX := Aside0.mk hnx
      have HLT := Aside0.mk hlt
      have hbx := Aside0.mk (blk_lt HX.out)
      clear hi2 hl2 hnx
      have p0 := eq_true p
      have q0 := eq_true q
      have j0 := blk_cell HX.out 0
      have j1 := blk_cell HX.out 1
      simp only [List.getElem?_toArray, List.getElem?_cons_zero, List.getElem?_cons_succ] at j0 j1
      clear hlt p q
      go_wp2_with (first | ((with_reducible refine gate_dst (N := 4) rfl ?_); refine box_event ?hg (N := 4) ?hd (cs := #[.int .i64 0, .int .i64 0, .slice none 0 0]) (t := 36) ?hr ?_; (case hd => rfl); (case hg => rfl); (case hr => first | (go_simp; done) | (go_simp; rfl)); intro g4 hg w4 hbox hb; have HB4 := Aside0.mk (below_step HB.out hb); have H4 := Aside0.mk hbox; have HX4 := Aside0.mk (blk_below HX.out hb); have G4 := Aside0.mk ((by rw [hg]; exact below_size HB.out) : w.heap.size ≤ g4); have N4 := Aside0.mk ((by rw [hg]; exact Nat.ne_of_lt hbx.out) : w.heap.size ≠ g4); clear j0 j1 hx0 hx1 hx2 hb hbox hg; have z0 := blk_cell H4.out 0; have z1 := blk_cell H4.out 1; have z2 := blk_cell H4.out 2; (try simp only [List.getElem?_toArray, List.getElem?_cons_zero, List.getElem?_cons_succ] at z0 z1 z2); have f0 := blk_frozen H4.out 0; have f1 := blk_frozen H4.out 1; have f2 := blk_frozen H4.out 2) | ((with_reducible refine gate_store (t := 36) (p := 4) rfl ?_); refine store_event (t := 36) (p := 4) (v := ?vo) (w1 := ((w4.setCell ⟨g4, 0, none⟩ (.int .i64 nx.f0)).setCell ⟨g4, 1, none⟩ (.int .i64 nx.f1)).setCell ⟨g4, 2, none⟩ (.slice A2 nx.f2.length c2)) ?hg ?ho ?hn ?hr ?_; (case ho => rfl); (case hg => rfl); (case hn => rfl); (case hr => first | (go_simp; done) | (go_simp; rfl)); intro wF hw; have D4 := Aside0.mk (show wF.heap[g4]? = some (.cells #[.int .i64 nx.f0, .int .i64 nx.f1, .slice A2 nx.f2.length c2] 36 (0, 0)) from by rw [hw]; exact blk_put (blk_put (blk_put H4.out 0 _ rfl) 1 _ rfl) 2 _ rfl); have DX := Aside0.mk (show wF.heap[w.heap.size]? = some (.cells #[.slice (some ad) nodes.length c0, .slice A1 parts.length c1] 32 (0, 0)) from by rw [hw]; exact blk_far (p := ⟨g4, 2, none⟩) (blk_far (p := ⟨g4, 1, none⟩) (blk_far (p := ⟨g4, 0, none⟩) HX4.out N4.out _) N4.out _) N4.out _); have DB := Aside0.mk (show Below w.heap.size w wF from by rw [hw]; exact below_set (j := 2) (v := .slice A2 nx.f2.length c2) (below_set (j := 1) (v := .int .i64 nx.f1) (below_set (j := 0) (v := .int .i64 nx.f0) HB4.out G4.out) G4.out) G4.out); clear z0 z1 z2 f0 f1 f2 H4 HX4 HB4 hw; have d2 := blk_cell D4.out 2; (try simp only [List.getElem?_toArray, List.getElem?_cons_zero, List.getElem?_cons_succ] at d2)))
      obtain ⟨m, hm⟩ : ∃ m, m = nx.f2.length := ⟨_, rfl⟩
      have HM := Aside0.mk hm
      rw [← hm] at d2 ⊢
      clear hm
      go_loopg [38] m (fun gg v38 wq => ∃ j : Nat, v38 = .int .i64 (j : Int) ∧ Aside0 (j ≤ m ∧ m - j ≤ gg ∧ rootsB parts nx.f2 = allFrom m (rootAt parts nx.f2) j) ∧ wF = wq)
      case atStart => exact ⟨0, rfl, ⟨Nat.zero_le _, Nat.le_refl _, by rw [HM.out]; rfl⟩, rfl⟩
      case round =>
       clear d2
       obtain ⟨j, rfl, JA, rfl⟩ := hrel
       by_cases hjl : j < m
       ·have hj2 : j < nx.f2.length := by rw [← HM.out]; exact hjl
        obtain ⟨ak, ek, hk⟩ := Kd.at_int (Kd.C_below HKC.out DB.out) (j : Int) (by omega) (by omega)
        subst ek
        obtain ⟨y, hy⟩ : ∃ y, y = rd nx.f2 (j : Int) := ⟨_, rfl⟩
        have hin := HINX.out y (by rw [hy, rd_at _ j hj2]; exact List.getElem_mem hj2)
        obtain ⟨ap, ep, hpy⟩ := Kd.at_int (Kd.C_below HR1.out DB.out) y hin.1 hin.2
        subst ep
        obtain ⟨vy, hvy⟩ : ∃ v, v = rd parts y := ⟨_, rfl⟩
        rw [← hy] at hk
        rw [← hvy] at hpy
        simp only [Int.toNat_natCast] at hk
        have e5 : (vy != y) = !rootAt parts nx.f2 j := by unfold rootAt; rw [← hy, ← hvy]; rfl
        have p1 := eq_true (show (0 : Int) ≤ (j : Int) by omega)
        have q1 := eq_true (show (j : Int) < (m : Int) by omega)
        have p2 := eq_true hin.1
        have q2 := eq_true hin.2
        have j1 := blk_cell DX.out 1
        simp only [List.getElem?_toArray, List.getElem?_cons_zero, List.getElem?_cons_succ] at j1
        have hwr : wrap64 ((j : Int) + 1) = ((j + 1 : Nat) : Int) := by have := HKX.out; have := HM.out; unfold wrap64; omega
        have HWR := Aside0.mk hwr
        have HJL := Aside0.mk hjl
        clear hin hy hvy hj2 hwr hjl
        cases hr : rootAt parts nx.f2 j with
        | true =>
         have HT := Aside0.mk hr
         rw [hr] at e5
         clear hr
         go_wp2
         have hJ := JA.out
         have hJL := HJL.out
         clear JA HJL
         go_roundg (m - (j + 1))
         case measure => omega
         case rel => exact ⟨j + 1, by rw [HWR.out], ⟨by omega, Nat.le_refl _, by rw [hJ.2.2, allFrom_step hJL HT.out]⟩, rfl⟩
        | false =>
         have HT := Aside0.mk hr
         rw [hr] at e5
         clear hr
         go_wp2
         go_ret
         refine ⟨?_, DB.out⟩
         rw [HA.out.2.2, allFrom_stop HLT.out (by rw [graphAt, ← HNX.out, JA.out.2.2, allFrom_stop HJL.out HT.out]; rfl)]
         rfl
       ·have cj : decide ((j : Int) < (m : Int)) = false := decide_eq_false (by omega)
        have cj2 : decide (j < m) = false := decide_eq_false hjl
        have HQ := Aside0.mk (show rootsB parts nx.f2 = true by
         have e : j = m := by have := JA.out.1; omega
         rw [JA.out.2.2, e]
         exact allFrom_end)
        clear hjl JA
        go_wp2
        go_loopg [7] x (fun gg v7 wq => ∃ i : Nat, v7 = .int .i64 (i : Int) ∧ Aside0 (i ≤ x ∧ x - i ≤ gg ∧ likesB nodes parts x = allFrom x (likeAt nodes parts x) i) ∧ Aside0 (Below w.heap.size w wq) ∧ Aside0 (wq.heap[w.heap.size]? = some (.cells #[.slice (some ad) nodes.length c0, .slice A1 parts.length c1] 32 (0, 0))) ∧ Aside0 (wq.heap[g4]? = some (.cells #[.int .i64 nx.f0, .int .i64 nx.f1, .slice A2 nx.f2.length c2] 36 (0, 0))))
        case atStart => exact ⟨0, rfl, ⟨Nat.zero_le _, Nat.le_refl _, likes_at _ _ _⟩, DB, DX, D4⟩
        case round =>
         clear D4 DX DB
         obtain ⟨i, rfl, IA, IB, IX, I4⟩ := hrel
         obtain ⟨wo, rfl⟩ : ∃ wo : World, wo = wr := ⟨_, rfl⟩
         by_cases hil : i < x
         ·have pi : 0 ≤ (i : Int) := by omega
          have qi : (i : Int) < (nodes.length : Int) := by have := HLT.out; omega
          have ri : (i : Int) < (x : Int) := by omega
          have ci : decide ((i : Int) < (x : Int)) = true := decide_eq_true ri
          obtain ⟨ad', A3, c3, e, gx0, gx1, gx2, gl2, gi2⟩ := at_T36 HR0.out i pi qi
          cases e
          obtain ⟨ap, ea, hpi⟩ := Kd.at_int HR1.out (i : Int) pi (by have := HLEN.out; omega)
          subst ea
          obtain ⟨ap', ea, hpx⟩ := Kd.at_int HR1.out (x : Int) (by omega) (by have := HLEN.out; have := HLT.out; omega)
          cases ea
          obtain ⟨ny, hny⟩ : ∃ y, y = rd_T36 nodes (i : Int) := ⟨_, rfl⟩
          obtain ⟨vi, hvi⟩ : ∃ y, y = rd parts (i : Int) := ⟨_, rfl⟩
          obtain ⟨vx, hvx⟩ : ∃ y, y = rd parts (x : Int) := ⟨_, rfl⟩
          rw [← hny] at gx0 gx1 gx2 gl2 gi2
          rw [← hvi] at hpi
          rw [← hvx] at hpx
          have HLK := Aside0.mk (show likeAt nodes parts x i = (!alikeB nx ny || (vi == vx)) by rw [likeAt, ← HNX.out, ← hny, ← hvi, ← hvx])
          clear hny hvi hvx
          replace gx0 := (IB.out.cell (World.block_lt_of_cell? w _ gx0)).trans gx0
          replace gx1 := (IB.out.cell (World.block_lt_of_cell? w _ gx1)).trans gx1
          replace gx2 := (IB.out.cell (World.block_lt_of_cell? w _ gx2)).trans gx2
          replace hpi := (IB.out.cell (World.block_lt_of_cell? w _ hpi)).trans hpi
          replace hpx := (IB.out.cell (World.block_lt_of_cell? w _ hpx)).trans hpx
          simp only [Int.toNat_natCast] at gx0 gx1 gx2 hpi hpx
          have T104 := Aside0.mk (fun W (hW : Below w.heap.size w W) => salike_calls (A := A2) (B := A3) nx ny (by have := HKX.out; omega) W (Kd.C_below HKC.out hW) HKL.out (Kd.C_below gi2 hW) gl2)
          have HIL := Aside0.mk hil
          clear gi2 gl2 hil
          have p1 := eq_true pi
          have q1 := eq_true ri
          have q2 := eq_true qi
          have q3 := eq_true (show (i : Int) < (parts.length : Int) by have := HLEN.out; omega)
          have q4 := eq_true (show (x : Int) < (parts.length : Int) by have := HLEN.out; have := HLT.out; omega)
          have k0 := blk_cell I4.out 0
          have k1 := blk_cell I4.out 1
          have k2 := blk_cell I4.out 2
          have j0 := blk_cell IX.out 0
          have j1 := blk_cell IX.out 1
          simp only [List.getElem?_toArray, List.getElem?_cons_zero, List.getElem?_cons_succ] at j0 j1 k0 k1 k2
          clear pi qi ri
          rcases Bool.eq_false_or_eq_true (alikeB nx ny) with ha | ha
          ·rw [ha] at T104
           by_cases hv : vi = vx
           ·have cv : (vi != vx) = false := bne_eq_false_iff_eq.mpr hv
            have HT := Aside0.mk (show likeAt nodes parts x i = true by rw [HLK.out, beq_iff_eq.mpr hv, Bool.or_true])
            clear hv ha
            go_wp2_with fail
            go_region_held3 (fun w' => w'.cell? ⟨g4, 0, none⟩ = some (.int .i64 nx.f0) ∧ w'.cell? ⟨g4, 1, none⟩ = some (.int .i64 nx.f1) ∧ w'.cell? ⟨g4, 2, none⟩ = some (.slice A2 nx.f2.length c2) ∧ w'.cell? ⟨w.heap.size, 0, none⟩ = some (.slice (some ad) nodes.length c0) ∧ w'.cell? ⟨w.heap.size, 1, none⟩ = some (.slice (some ap) parts.length c1) ∧ w'.cell? (ad.add (i * 3)) = some (.int .i64 ny.f0) ∧ w'.cell? ⟨(ad.add (i * 3)).block, (ad.add (i * 3)).off + 1, none⟩ = some (.int .i64 ny.f1) ∧ w'.cell? ⟨(ad.add (i * 3)).block, (ad.add (i * 3)).off + 2, none⟩ = some (.slice A3 ny.f2.length c3) ∧ w'.cell? (ap.add i) = some (.int .i64 vi) ∧ w'.cell? (ap.add x) = some (.int .i64 vx))
             (first
              | go_keep
              | (go_split_ands; refine ⟨?_, ?_, ?_, ?_, ?_, ?_, ?_, ?_, ?_, ?_⟩ <;> (exact pw_cell_below hbr (by assumption))))
             (first | (go_at_call 104; refine (T104.out _ (below_drew1 IB.out)).mono ?_; rintro e w9 ⟨rfl, hbr⟩; have HB9 := Aside0.mk (below_step (below_drew1 IB.out) hbr); have DX9 := Aside0.mk (blk_below (blk_drew IX.out) hbr); have D49 := Aside0.mk (blk_below (blk_drew I4.out) hbr)))
            go_wp2
            go_roundg (x - (i + 1))
            case measure => have := IA.out; have := HIL.out; omega
            case rel => exact ⟨i + 1, by rw [wnext i x HIL.out (by have := HLT.out; have := HMOST.out; omega)], ⟨by have := HIL.out; omega, Nat.le_refl _, by rw [IA.out.2.2, allFrom_step HIL.out HT.out]⟩, HB9, DX9, D49⟩
           ·have cv : (vi != vx) = true := bne_iff_ne.mpr hv
            have HT := Aside0.mk (show likeAt nodes parts x i = false by rw [HLK.out, ha, beq_eq_false_iff_ne.mpr hv]; rfl)
            clear hv ha
            go_wp2_with fail
            go_region_held3 (fun w' => w'.cell? ⟨g4, 0, none⟩ = some (.int .i64 nx.f0) ∧ w'.cell? ⟨g4, 1, none⟩ = some (.int .i64 nx.f1) ∧ w'.cell? ⟨g4, 2, none⟩ = some (.slice A2 nx.f2.length c2) ∧ w'.cell? ⟨w.heap.size, 0, none⟩ = some (.slice (some ad) nodes.length c0) ∧ w'.cell? ⟨w.heap.size, 1, none⟩ = some (.slice (some ap) parts.length c1) ∧ w'.cell? (ad.add (i * 3)) = some (.int .i64 ny.f0) ∧ w'.cell? ⟨(ad.add (i * 3)).block, (ad.add (i * 3)).off + 1, none⟩ = some (.int .i64 ny.f1) ∧ w'.cell? ⟨(ad.add (i * 3)).block, (ad.add (i * 3)).off + 2, none⟩ = some (.slice A3 ny.f2.length c3) ∧ w'.cell? (ap.add i) = some (.int .i64 vi) ∧ w'.cell? (ap.add x) = some (.int .i64 vx))
             (first
              | go_keep
              | (go_split_ands; refine ⟨?_, ?_, ?_, ?_, ?_, ?_, ?_, ?_, ?_, ?_⟩ <;> (exact pw_cell_below hbr (by assumption))))
             (first | (go_at_call 104; refine (T104.out _ (below_drew1 IB.out)).mono ?_; rintro e w9 ⟨rfl, hbr⟩; have HB9 := Aside0.mk (below_step (below_drew1 IB.out) hbr); have DX9 := Aside0.mk (blk_below (blk_drew IX.out) hbr); have D49 := Aside0.mk (blk_below (blk_drew I4.out) hbr)))
            go_wp2
            go_ret
            refine ⟨?_, HB9.out⟩
            rw [HA.out.2.2, allFrom_stop HLT.out (by rw [graphAt, IA.out.2.2, allFrom_stop HIL.out HT.out, Bool.and_false])]
            rfl
          ·have HT := Aside0.mk (show likeAt nodes parts x i = true by rw [HLK.out, ha]; rfl)
           rw [ha] at T104
           clear ha
           go_wp2_with fail
           refine start_ (n := 20) (S := fun w' => w'.cell? ⟨g4, 0, none⟩ = some (.int .i64 nx.f0) ∧ w'.cell? ⟨g4, 1, none⟩ = some (.int .i64 nx.f1) ∧ w'.cell? ⟨g4, 2, none⟩ = some (.slice A2 nx.f2.length c2) ∧ w'.cell? ⟨w.heap.size, 0, none⟩ = some (.slice (some ad) nodes.length c0) ∧ w'.cell? ⟨w.heap.size, 1, none⟩ = some (.slice (some ap) parts.length c1) ∧ w'.cell? (ad.add (i * 3)) = some (.int .i64 ny.f0) ∧ w'.cell? ⟨(ad.add (i * 3)).block, (ad.add (i * 3)).off + 1, none⟩ = some (.int .i64 ny.f1) ∧ w'.cell? ⟨(ad.add (i * 3)).block, (ad.add (i * 3)).off + 2, none⟩ = some (.slice A3 ny.f2.length c3)) (ds := []) (tf 0 20) (by kernel_rfl) rfl rfl ⟨by simpa using k0, by simpa using k1, by simpa using k2, by simpa using j0, by simpa using j1, by simpa using gx0, by simpa using gx1, by simpa using gx2⟩ (fun hHeld => ?_)
           have IB8 := Aside0.mk (below_drew1 IB.out)
           have IX8 := Aside0.mk (blk_drew IX.out)
           have I48 := Aside0.mk (blk_drew I4.out)
           generalize wo.drew = w8 at IB8 IX8 I48 hHeld ⊢
           clear k0 k1 k2 j0 j1 gx0 gx1 gx2 hpi hpx
           have hH8 := Aside0.mk hHeld
           refine pure_ (i := 1) (N := some 56) (v := ?_) (a' := ?_) #[false, true, false, false, false, false, false, false, false, false, false, false, false, false, false, false, false, false, false, false] rfl rfl (by kernel_rfl) (fun _ _ _ h => h) (Or.inl ⟨by rfl, ?_⟩) ?_ ?_
           rotate_left
           ·intro w'
            go_simp
            with_reducible rfl
           rotate_left
           ·simp only [Act.put, List.setIfInBounds_toArray, List.set_cons_zero, List.set_cons_succ]
            rfl
           refine pure_ (i := 3) (N := some 58) (v := ?_) (a' := ?_) #[false, true, false, true, false, false, false, false, false, false, false, false, false, false, false, false, false, false, false, false] rfl rfl (by kernel_rfl) (fun _ _ _ h => h) (Or.inl ⟨by rfl, ?_⟩) ?_ ?_
           rotate_left
           ·intro w'
            go_simp
            with_reducible rfl
           rotate_left
           ·simp only [Act.put, List.setIfInBounds_toArray, List.set_cons_zero, List.set_cons_succ]
            rfl
           refine take_ (i := 0) (N := some 55) (v := ?_) (a' := ?_) #[true, true, false, true, false, false, false, false, false, false, false, false, false, false, false, false, false, false, false, false] rfl rfl (by kernel_rfl) (fun _ _ _ h => h) (Or.inl ⟨by rfl, ?_⟩) hHeld ?_ ?_
           rotate_left
           ·rintro w' ⟨s0, s1, s2, s3, s4, s5, s6, s7⟩
            go_simp
            with_reducible rfl
           rotate_left
           ·simp only [Act.put, List.setIfInBounds_toArray, List.set_cons_zero, List.set_cons_succ]
            rfl
           refine take_ (i := 2) (N := some 57) (v := ?_) (a' := ?_) #[true, true, true, true, false, false, false, false, false, false, false, false, false, false, false, false, false, false, false, false] rfl rfl (by kernel_rfl) (fun _ _ _ h => h) (Or.inl ⟨by rfl, ?_⟩) hHeld ?_ ?_
           rotate_left
           ·rintro w' ⟨s0, s1, s2, s3, s4, s5, s6, s7⟩
            go_simp
            with_reducible rfl
           rotate_left
           ·simp only [Act.put, List.setIfInBounds_toArray, List.set_cons_zero, List.set_cons_succ]
            rfl
           refine pure_ (i := 4) (N := some 59) (v := ?_) (a' := ?_) #[true, true, true, true, true, false, false, false, false, false, false, false, false, false, false, false, false, false, false, false] rfl rfl (by kernel_rfl) (fun _ _ _ h => h) (Or.inl ⟨by rfl, ?_⟩) ?_ ?_
           rotate_left
           ·intro w'
            go_simp
            with_reducible rfl
           rotate_left
           ·simp only [Act.put, List.setIfInBounds_toArray, List.set_cons_zero, List.set_cons_succ]
            rfl
           refine take_ (i := 5) (N := some 60) (v := ?_) (a' := ?_) #[true, true, true, true, true, true, false, false, false, false, false, false, false, false, false, false, false, false, false, false] rfl rfl (by kernel_rfl) (fun _ _ _ h => h) (Or.inl ⟨by rfl, ?_⟩) hHeld ?_ ?_
           rotate_left
           ·rintro w' ⟨s0, s1, s2, s3, s4, s5, s6, s7⟩
            go_simp
            with_reducible rfl
           rotate_left
           ·simp only [Act.put, List.setIfInBounds_toArray, List.set_cons_zero, List.set_cons_succ]
            rfl
           refine one_ (i := 6) (N := some 61) (tf 7 13) rfl rfl (by kernel_rfl) (by decide) (fun K hK => ?_)
           refine goes_ Try.func104 (by kernel_rfl) rfl #[.agg #[.int .i64 nx.f0, .int .i64 nx.f1, .slice A2 nx.f2.length c2], .agg #[.int .i64 ny.f0, .int .i64 ny.f1, .slice A3 ny.f2.length c3]] (by rfl) rfl rfl (by (try simp only [List.map_toArray, List.map_cons, List.map_nil]); first | done | rfl) ?_
           refine (T104.out _ IB8.out).mono ?_
           rintro e w9 ⟨rfl, hbr⟩
           refine ⟨_, rfl, ?_⟩
           have HB9 := Aside0.mk (below_step IB8.out hbr)
           have DX9 := Aside0.mk (blk_below IX8.out hbr)
           have D49 := Aside0.mk (blk_below I48.out hbr)
           obtain ⟨s0, s1, s2, s3, s4, s5, s6, s7⟩ := hH8.out
           refine hK.out _ _ ⟨pw_cell_below hbr s0, pw_cell_below hbr s1, pw_cell_below hbr s2, pw_cell_below hbr s3, pw_cell_below hbr s4, pw_cell_below hbr s5, pw_cell_below hbr s6, pw_cell_below hbr s7⟩ (fun hHeld => ?_)
           clear hK K
           refine norm_ (a' := ?_) ?_ ?_
           rotate_left
           ·show Act.put _ (some 61) _ = _
            simp only [Act.put, List.setIfInBounds_toArray, List.set_cons_zero, List.set_cons_succ]
            rfl
           refine pure_ (i := 7) (N := some 62) (v := ?_) (a' := ?_) (tf 8 12) rfl rfl (by kernel_rfl) (fun _ _ _ h => h) (Or.inl ⟨by rfl, ?_⟩) ?_ ?_
           rotate_left
           ·intro w'
            go_simp
            with_reducible rfl
           rotate_left
           ·simp only [Act.put, List.setIfInBounds_toArray, List.set_cons_zero, List.set_cons_succ]
            rfl
           refine pure_ (i := 8) (N := some 63) (v := undef) (a' := ?_) (tf 9 11) rfl rfl (by kernel_rfl) (fun _ _ _ h => h) (Or.inr ⟨by rfl, rfl⟩) ?_ ?_
           rotate_left
           ·simp only [Act.put, List.setIfInBounds_toArray, List.set_cons_zero, List.set_cons_succ]
            rfl
           refine pure_ (i := 9) (N := some 64) (v := undef) (a' := ?_) (tf 10 10) rfl rfl (by kernel_rfl) (fun _ _ _ h => h) (Or.inr ⟨by rfl, rfl⟩) ?_ ?_
           rotate_left
           ·simp only [Act.put, List.setIfInBounds_toArray, List.set_cons_zero, List.set_cons_succ]
            rfl
           refine pure_ (i := 10) (N := some 65) (v := undef) (a' := ?_) (tf 11 9) rfl rfl (by kernel_rfl) (fun _ _ _ h => h) (Or.inr ⟨by rfl, rfl⟩) ?_ ?_
           rotate_left
           ·simp only [Act.put, List.setIfInBounds_toArray, List.set_cons_zero, List.set_cons_succ]
            rfl
           refine pure_ (i := 11) (N := some 66) (v := undef) (a' := ?_) (tf 12 8) rfl rfl (by kernel_rfl) (fun _ _ _ h => h) (Or.inr ⟨by rfl, rfl⟩) ?_ ?_
           rotate_left
           ·simp only [Act.put, List.setIfInBounds_toArray, List.set_cons_zero, List.set_cons_succ]
            rfl
           refine pure_ (i := 12) (N := some 67) (v := undef) (a' := ?_) (tf 13 7) rfl rfl (by kernel_rfl) (fun _ _ _ h => h) (Or.inr ⟨by rfl, rfl⟩) ?_ ?_
           rotate_left
           ·simp only [Act.put, List.setIfInBounds_toArray, List.set_cons_zero, List.set_cons_succ]
            rfl
           refine pure_ (i := 13) (N := some 68) (v := undef) (a' := ?_) (tf 14 6) rfl rfl (by kernel_rfl) (fun _ _ _ h => h) (Or.inr ⟨by rfl, rfl⟩) ?_ ?_
           rotate_left
           ·simp only [Act.put, List.setIfInBounds_toArray, List.set_cons_zero, List.set_cons_succ]
            rfl
           refine pure_ (i := 14) (N := some 69) (v := undef) (a' := ?_) (tf 15 5) rfl rfl (by kernel_rfl) (fun _ _ _ h => h) (Or.inr ⟨by rfl, rfl⟩) ?_ ?_
           rotate_left
           ·simp only [Act.put, List.setIfInBounds_toArray, List.set_cons_zero, List.set_cons_succ]
            rfl
           refine pure_ (i := 15) (N := some 70) (v := undef) (a' := ?_) (tf 16 4) rfl rfl (by kernel_rfl) (fun _ _ _ h => h) (Or.inr ⟨by rfl, rfl⟩) ?_ ?_
           rotate_left
           ·simp only [Act.put, List.setIfInBounds_toArray, List.set_cons_zero, List.set_cons_succ]
            rfl
           refine pure_ (i := 16) (N := some 71) (v := undef) (a' := ?_) (tf 17 3) rfl rfl (by kernel_rfl) (fun _ _ _ h => h) (Or.inr ⟨by rfl, rfl⟩) ?_ ?_
           rotate_left
           ·simp only [Act.put, List.setIfInBounds_toArray, List.set_cons_zero, List.set_cons_succ]
            rfl
           refine pure_ (i := 17) (N := some 72) (v := undef) (a' := ?_) (tf 18 2) rfl rfl (by kernel_rfl) (fun _ _ _ h => h) (Or.inr ⟨by rfl, rfl⟩) ?_ ?_
           rotate_left
           ·simp only [Act.put, List.setIfInBounds_toArray, List.set_cons_zero, List.set_cons_succ]
            rfl
           refine pure_ (i := 18) (N := some 73) (v := undef) (a' := ?_) (tf 19 1) rfl rfl (by kernel_rfl) (fun _ _ _ h => h) (Or.inr ⟨by rfl, rfl⟩) ?_ ?_
           rotate_left
           ·simp only [Act.put, List.setIfInBounds_toArray, List.set_cons_zero, List.set_cons_succ]
            rfl
           refine pure_ (i := 19) (N := some 74) (v := ?_) (a' := ?_) (tf 20 0) rfl rfl (by kernel_rfl) (fun _ _ _ h => h) (Or.inl ⟨by rfl, ?_⟩) ?_ ?_
           rotate_left
           ·intro w'
            go_simp
            with_reducible rfl
           rotate_left
           ·simp only [Act.put, List.setIfInBounds_toArray, List.set_cons_zero, List.set_cons_succ]
            rfl
           refine done_ (by kernel_rfl) ?_
           clear hHeld
           go_wp2

           go_roundg (x - (i + 1))
           case measure => have := IA.out; have := HIL.out; omega
           case rel => exact ⟨i + 1, by rw [wnext i x HIL.out (by have := HLT.out; have := HMOST.out; omega)], ⟨by have := HIL.out; omega, Nat.le_refl _, by rw [IA.out.2.2, allFrom_step HIL.out HT.out]⟩, HB9, DX9, D49⟩
         ·have ci : decide ((i : Int) < (x : Int)) = false := decide_eq_false (by omega)
          have cj2 : decide (i < x) = false := decide_eq_false hil
          have HE := Aside0.mk (show graphAt nodes parts x = true by
           have e : i = x := by have := IA.out.1; omega
           rw [graphAt, IA.out.2.2, e, allFrom_end, ← HNX.out, HQ.out]; rfl)
          clear hil
          go_wp2
          go_roundg (nodes.length - (x + 1))
          case measure => have := HA.out; have := HLT.out; omega
          case rel => exact ⟨x + 1, by rw [wnext x nodes.length HLT.out (by have := HMOST.out; omega)], ⟨by have := HLT.out; omega, Nat.le_refl _, by rw [HA.out.2.2, allFrom_step HLT.out HE.out]⟩, IB, IX⟩
     ·have cc0 : decide ((x : Int) < (nodes.length : Int)) = false := decide_eq_false (by omega)
      have cc1 : decide (x < nodes.length) = false := decide_eq_false hlt
      have HE := Aside0.mk (show good = true by
       have e : x = nodes.length := by have := HA.out.1; omega
       rw [HA.out.2.2, e]
       exact allFrom_end)
      clear hlt
      go_wp2
      go_ret
      exact ⟨by rw [HE.out]; rfl, HB.out⟩
   ·rw [hp] at T81
    have HG := Aside0.mk (show good = false by rw [hgood, goodG, hn, hp, e2]; rfl)
    clear hp hn hgood e2
    go_enter Try.func43, Try.ntmps43
    go_wp2_with (first | (go_at_call 80; refine (T80.out _ (by repeat (first | exact Below.refl _ _ | apply below_alloc | apply pw_below_drewN | apply below_drew1))).mono ?_; rintro e w7 ⟨rfl, hb⟩; have HB7 := Aside0.mk (HB1.out.trans (hb.mono HB1.out.size)); have HD1 := Aside0.mk (blk_below B1.out hb); have k0 := blk_cell HD1.out 0; have k1 := blk_cell HD1.out 1; (try simp only [List.getElem?_toArray, List.getElem?_cons_zero, List.getElem?_cons_succ] at k0 k1); clear hb) | (go_at_call 81; refine (T81.out _ HB7.out).mono ?_; rintro e w8 ⟨rfl, hb⟩; have HB8 := Aside0.mk (below_step HB7.out hb); have HE1 := Aside0.mk (blk_below HD1.out hb); clear hb k0 k1; have k0 := blk_cell HE1.out 0; have k1 := blk_cell HE1.out 1; (try simp only [List.getElem?_toArray, List.getElem?_cons_zero, List.getElem?_cons_succ] at k0 k1)))
    go_ret
    exact ⟨by rw [HG.out]; rfl, HB8.out⟩
  ·have e1 : ((parts.length : Int) != (nodes.length : Int)) = true := bne_iff_ne.mpr hlen
   have HG := Aside0.mk (show good = false by rw [hgood, goodG, hn, beq_eq_false_iff_ne.mpr hlen]; rfl)
   clear hn hgood hlen
   go_enter Try.func43, Try.ntmps43
   go_wp2_with (go_at_call 80; refine (T80.out _ (by repeat (first | exact Below.refl _ _ | apply below_alloc | apply pw_below_drewN | apply below_drew1))).mono ?_; rintro e w7 ⟨rfl, hb⟩; have HB7 := Aside0.mk (HB1.out.trans (hb.mono HB1.out.size)); have HD1 := Aside0.mk (blk_below B1.out hb); have k0 := blk_cell HD1.out 0; have k1 := blk_cell HD1.out 1; (try simp only [List.getElem?_toArray, List.getElem?_cons_zero, List.getElem?_cons_succ] at k0 k1); clear hb)
   go_ret
   exact ⟨by rw [HG.out]; rfl, HB7.out⟩
 ·rw [hn] at T80
  have HG := Aside0.mk (show good = false by rw [hgood, goodG, hn]; rfl)
  clear hn hgood
  go_enter Try.func43, Try.ntmps43
  go_wp2_with (go_at_call 80; refine (T80.out _ (by repeat (first | exact Below.refl _ _ | apply below_alloc | apply pw_below_drewN | apply below_drew1))).mono ?_; rintro e w7 ⟨rfl, hb⟩; have HB7 := Aside0.mk (HB1.out.trans (hb.mono HB1.out.size)); have HD1 := Aside0.mk (blk_below B1.out hb); have k0 := blk_cell HD1.out 0; have k1 := blk_cell HD1.out 1; (try simp only [List.getElem?_toArray, List.getElem?_cons_zero, List.getElem?_cons_succ] at k0 k1); clear hb)
  go_ret
  exact ⟨by rw [HG.out]; rfl, HB7.out⟩
end Go.Proofs.Ytlnejmlphkpaaaa.PA
