/- The graph seat: spec.InstOf by hand (printed by gen/mkjg.py). -/
import Derived.Test.YtlnejmlphkpaaaaIqIk
import Derived.Test.YtlnejmlphkpaaaaIqJc
namespace Go.Proofs.Ytlnejmlphkpaaaa.PA
open Go.RowKit Go.Proofs.YtlnejmlphkpaaaaW.PrintWords Go.Proofs.YtlnejmlphkpaaaaW.PrintLast Go.Proofs.YtlnejmlphkpaaaaW.PrintMore
set_option linter.unusedVariables false
set_option linter.unusedSimpArgs false
set_option maxHeartbeats 8000000 in
set_option maxRecDepth 100000 in
theorem specInstOf_any {A0 A1 A A2 : Option Addr} {c0 c1 c c2 : Nat} (nodes : List S36) (parts : List Int) (t : List S125) (b : List Int) (w : World) (h0 : Kd.C k36 w A0 nodes.length nodes) (l0 : nodes.length ≤ c0) (h1 : Kd.C (Kd.int .i64) w A1 parts.length parts) (l1 : parts.length ≤ c1) (h2 : Kd.C k125 w A t.length t) (l2 : t.length ≤ c) (h3 : Kd.C (Kd.int .i64) w A2 b.length b) (l3 : b.length ≤ c2) :
  Calls Try.prog 50 #[.agg #[.slice A0 nodes.length c0, .slice A1 parts.length c1], .slice A t.length c, .slice A2 b.length c2] w fun e w' => ∃ v0 v1 : Value, e = .returned (.tuple #[.agg #[v0, v1], .int .i64 (ansInstOf nodes parts t b).2.1, .bool (ansInstOf nodes parts t b).2.2]) ∧ Kd.S k36 36 w' w.heap.size (fun k => some k ≠ v1.ownBlock) v0 (ansInstOf nodes parts t b).1.1 ∧ (Kd.int .i64).R 3 w' w.heap.size (fun _ => True) v1 (ansInstOf nodes parts t b).1.2 ∧ Below w.heap.size w w' := by
 have T43 := Aside0.mk (fun W (hW : Below w.heap.size w W) => good_calls (A0 := A0) (A1 := A1) W (Kd.C_below h0 hW) l0 (Kd.C_below h1 hW) l1)
 have T110 := Aside0.mk (fun W (hW : Below w.heap.size w W) => pat_calls (A := A) W (Kd.C_below h2 hW) l2)
 have hm0 := Kd.C_max h0
 have hm1 := Kd.C_max h1
 have HBC := Aside0.mk h3
 obtain ⟨l0n, hl0n⟩ : ∃ m, m = nodes.length := ⟨_, rfl⟩
 obtain ⟨l1n, hl1n⟩ : ∃ m, m = parts.length := ⟨_, rfl⟩
 obtain ⟨tn, htn⟩ : ∃ m, m = t.length := ⟨_, rfl⟩
 obtain ⟨bn, hbn⟩ : ∃ m, m = b.length := ⟨_, rfl⟩
 have HN := Aside0.mk (And.intro hl0n (And.intro hl1n htn))
 have HBL := Aside0.mk hbn
 rw [← hbn] at HBC
 rcases Bool.eq_false_or_eq_true (goodG nodes parts) with hg | hg
 ·have hgr := goodG_iff.1 hg
  have hks : ∀ y ∈ nodes, y.f2.length ≤ 1000 := (good_GI (G := (nodes, parts)) hgr).kids
  rw [hg] at T43
  have T111 := Aside0.mk (fun W (hW : Below w.heap.size w W) => bind_calls (A0 := A0) (A1 := A1) (A := A2) W hg (Kd.C_below h0 hW) l0 (Kd.C_below h1 hW) l1 (Kd.C_below h3 hW) l3)
  rcases Bool.eq_false_or_eq_true (patB t) with hp | hp
  ·obtain ⟨T, hT⟩ : ∃ T, treeT t = some T := Option.isSome_iff_exists.1 (by have h := hp; unfold patB at h; rw [Bool.and_eq_true] at h; exact h.1)
   have h7 : t.length ≤ 7 := by have h := hp; unfold patB at h; rw [Bool.and_eq_true, decide_eq_true_eq] at h; exact h.2
   rw [hp] at T110
   rcases Bool.eq_false_or_eq_true (bindB (nodes, parts) b) with hbb | hbb
   ·have hb4 : b.length = 4 := by
     have h := hbb
     unfold bindB at h
     rw [Bool.and_eq_true, decide_eq_true_eq] at h
     exact h.1
    have HBN := Aside0.mk (show bn = 4 by omega)
    rw [hbb] at T111
    obtain ⟨r, hvo, hvc⟩ := vars_calls (A := A) (c := c) (t := t) (by omega)
    have T112 := Aside0.mk (fun W (hW : Below w.heap.size w W) => hvc W (Kd.C_below h2 hW) l2)
    have HLT := Aside0.mk (vars_lt hT hvo)
    have hsv := sure_vars hvo b
    obtain ⟨vn, hvn⟩ : ∃ m, m = r.length := ⟨_, rfl⟩
    have HVN := Aside0.mk hvn
    rcases Bool.eq_false_or_eq_true (sureB b t) with hs | hs
    ·have hall : goodG nodes parts = true ∧ t.length ≤ 7 ∧ bindB (nodes, parts) b = true ∧ sureB b t = true := ⟨hg, h7, hbb, hs⟩
     have HSU := Aside0.mk (show ∀ x ∈ r, decide (rd b x < 0) = false from fun x hx => by
      rw [hsv, List.all_eq_true] at hs
      have := of_decide_eq_true (hs x hx)
      exact decide_eq_false (by omega))
     have T62 := Aside0.mk (fun W (hW : Below w.heap.size w W) => own_calls (A0 := A0) (A1 := A1) W (Kd.C_below h0 hW) l0 (Kd.C_below h1 hW) l1 (by have := hgr.most; omega) (by have := hgr.most; have := hgr.len; omega) hks)
     have hts := treeT_some hT
     have T103 := Aside0.mk (show ∀ (W0 W : World) lab v0 v1, GV W0 lab v0 v1 (nodes, parts) W → (∀ k, k < W0.heap.size → lab k = 0) → Below w.heap.size w W → w.heap.size ≤ W0.heap.size → Calls Try.prog 103 #[.agg #[v0, v1], .slice A tn c, .int .i64 ((tn - 1 : Nat) : Int), .slice A2 bn c2] W (AddPost b T (nodes, parts) W0 W lab) from fun W0 W lab v0 v1 hgv hl hW hsz => by
      have h := l6Add_any b (Ab := A2) (cb := c2) t (At := A) (ct := c) hts.2.2.2 l2 _ T [] [] (Nat.le_refl _) hts.2.1 (by rw [List.nil_append, List.append_nil]; exact hts.1) W0 W lab v0 v1 (nodes, parts) (fun k => k < w.heap.size) hgv (good_GI hgr) (by have := hgr.most; have h3 := hts.2.2.2; rw [hts.1] at h3; dsimp only; omega) (BX.of (bind_ok hT hbb hs)) (fun k hk hc => by have h1 := hl k (Nat.lt_of_lt_of_le hk hsz); unfold Ch2 at hc; omega) (Kd.F_step (Kd.C_F heap125 h2) (fun k hk _ => hW.block k hk)) (Kd.F_step (Kd.C_F (Kd.heap_int _) h3) (fun k hk _ => hW.block k hk))
      rw [show ((([] : List S125).length + T.post.length : Nat) : Int) - 1 = ((tn - 1 : Nat) : Int) by rw [htn]; have h3 := hts.2.2.1; rw [hts.1] at h3 ⊢; simp only [List.length_nil]; omega] at h
      rw [htn, hbn]
      rw [htn] at h
      exact h)
     obtain ⟨pk, hpk⟩ : ∃ p, p = addR b T (nodes, parts) := ⟨_, rfl⟩
     have HANS := Aside0.mk (ansI_spec hT hall)
     unfold AddPost at T103
     rw [← hpk] at HANS T103
     obtain ⟨p1, hp1⟩ : ∃ m, m = pk.1.1.length := ⟨_, rfl⟩
     obtain ⟨p2, hp2⟩ : ∃ m, m = pk.1.2.length := ⟨_, rfl⟩
     have HPK := Aside0.mk (And.intro hp1 hp2)
     have htn1 : 1 ≤ tn := by rw [htn]; exact hts.2.2.1
     have htn40 : tn ≤ 40 := by rw [htn]; exact hts.2.2.2
     have hw1 : IntKind.i64.wrap ((tn : Int) - 1) = ((tn - 1 : Nat) : Int) := by rw [i64_w]; unfold wrap64; omega
     rw [← hl0n, ← hl1n] at T43 T62 T111
     rw [← hbn] at T111
     rw [← htn] at T110 T112
     rw [← hl0n, ← hl1n, ← htn, ← hbn]
     clear h0 h1 h2 h3 l0 l1 l2 l3 hg hgr hks hT hm0 hm1 hl0n hl1n htn hpk hp1 hp2 hts hp h7 hbb hb4 hvo hvc hsv hs hall hbn hvn
     rcases Bool.eq_false_or_eq_true (goodG pk.1.1 pk.1.2) with hgg | hgg
     ·have HGG := Aside0.mk hgg
      have HA0 := Aside0.mk (show ansInstOf nodes parts t b = (pk.1, pk.2, true) by rw [HANS.out, if_pos hgg])
      clear HANS hgg
      go_enter Try.func50, Try.ntmps50
      go_wp2_with (first | ((with_reducible refine gate_dst (N := 3) rfl ?_); refine box_event ?hg (N := 3) ?hd (cs := #[.slice A0 l0n c0, .slice A1 l1n c1]) (t := 32) ?hr ?_; (case hd => rfl); (case hg => rfl); (case hr => first | (go_simp; done) | (go_simp; rfl)); intro g2 hga w1 hbox hb; have B1 := Aside0.mk hbox; have HB1 := Aside0.mk hb; have HGA := Aside0.mk (Nat.le_of_eq hga.symm); clear hbox hb hga) | ((with_reducible refine gate_dst (N := 6) rfl ?_); refine box_event ?hg (N := 6) ?hd (cs := #[.slice none 0 0, .slice none 0 0]) (t := 32) ?hr ?_; (case hd => rfl); (case hg => rfl); (case hr => first | (go_simp; done) | (go_simp; rfl)); intro g4 hgz w2 hbox hb; have D2 := Aside0.mk (blk_below B1.out hb); have D4 := Aside0.mk hbox; have HB2 := Aside0.mk (below_step HB1.out hb); have HLO := Aside0.mk (show w.heap.size ≤ g2 ∧ g2 < g4 ∧ g4 < w2.heap.size from ⟨HGA.out, by rw [hgz]; exact blk_lt B1.out, blk_lt hbox⟩); clear hbox hb hgz B1; have k0 := blk_cell D2.out 0; have k1 := blk_cell D2.out 1; (try simp only [List.getElem?_toArray, List.getElem?_cons_zero, List.getElem?_cons_succ] at k0 k1); have z0 := blk_cell D4.out 0; have z1 := blk_cell D4.out 1; (try simp only [List.getElem?_toArray, List.getElem?_cons_zero, List.getElem?_cons_succ] at z0 z1); have f0 := blk_frozen D4.out 0; have f1 := blk_frozen D4.out 1; have HL2 := Aside0.mk (blk_lt D4.out)) | (go_at_call 43; refine (T43.out _ HB2.out).mono ?_; rintro e w3 ⟨rfl, hb⟩; have D2' := Aside0.mk (blk_below D2.out hb); have D4' := Aside0.mk (blk_below D4.out hb); have HB3 := Aside0.mk (below_step HB2.out hb); have HL3 := Aside0.mk (Nat.lt_of_lt_of_le HL2.out hb.size); clear hb D2 D4 k0 k1 z0 z1 f0 f1 T43; have D2 := D2'; have D4 := D4'; clear D2' D4'; have k0 := blk_cell D2.out 0; have k1 := blk_cell D2.out 1; (try simp only [List.getElem?_toArray, List.getElem?_cons_zero, List.getElem?_cons_succ] at k0 k1); have z0 := blk_cell D4.out 0; have z1 := blk_cell D4.out 1; (try simp only [List.getElem?_toArray, List.getElem?_cons_zero, List.getElem?_cons_succ] at z0 z1); have f0 := blk_frozen D4.out 0; have f1 := blk_frozen D4.out 1) | (go_at_call 110; refine (T110.out _ HB3.out).mono ?_; rintro e w4 ⟨rfl, hb⟩; have D2' := Aside0.mk (blk_below D2.out hb); have D4' := Aside0.mk (blk_below D4.out hb); have HB4 := Aside0.mk (below_step HB3.out hb); have HL4 := Aside0.mk (Nat.lt_of_lt_of_le HL3.out hb.size); clear hb D2 D4 k0 k1 z0 z1 f0 f1 T110; have D2 := D2'; have D4 := D4'; clear D2' D4'; have k0 := blk_cell D2.out 0; have k1 := blk_cell D2.out 1; (try simp only [List.getElem?_toArray, List.getElem?_cons_zero, List.getElem?_cons_succ] at k0 k1); have z0 := blk_cell D4.out 0; have z1 := blk_cell D4.out 1; (try simp only [List.getElem?_toArray, List.getElem?_cons_zero, List.getElem?_cons_succ] at z0 z1); have f0 := blk_frozen D4.out 0; have f1 := blk_frozen D4.out 1) | (go_at_call 111; refine (T111.out _ HB4.out).mono ?_; rintro e w5 ⟨rfl, hb⟩; have D2' := Aside0.mk (blk_below D2.out hb); have D4' := Aside0.mk (blk_below D4.out hb); have HB5 := Aside0.mk (below_step HB4.out hb); have HL5 := Aside0.mk (Nat.lt_of_lt_of_le HL4.out hb.size); clear hb D2 D4 k0 k1 z0 z1 f0 f1 T111; have D2 := D2'; have D4 := D4'; clear D2' D4'; have k0 := blk_cell D2.out 0; have k1 := blk_cell D2.out 1; (try simp only [List.getElem?_toArray, List.getElem?_cons_zero, List.getElem?_cons_succ] at k0 k1); have z0 := blk_cell D4.out 0; have z1 := blk_cell D4.out 1; (try simp only [List.getElem?_toArray, List.getElem?_cons_zero, List.getElem?_cons_succ] at z0 z1); have f0 := blk_frozen D4.out 0; have f1 := blk_frozen D4.out 1) | (go_at_call 112; refine (T112.out _ HB5.out).mono ?_; rintro e w6 ⟨v0, rfl, hr, hb⟩; obtain ⟨Av, cv, rfl⟩ := Kd.R_slice hr; have HV := Aside0.mk (Kd.R_reads' hr).2.2; have hvm := Kd.C_max HV.out; rw [← HVN.out] at hvm ⊢; clear hr; have D2' := Aside0.mk (blk_below D2.out hb); have D4' := Aside0.mk (blk_below D4.out hb); have HB6 := Aside0.mk (below_step HB5.out hb); have HL6 := Aside0.mk (Nat.lt_of_lt_of_le HL5.out hb.size); clear hb D2 D4 k0 k1 z0 z1 f0 f1 T112; have D2 := D2'; have D4 := D4'; clear D2' D4'; have k0 := blk_cell D2.out 0; have k1 := blk_cell D2.out 1; (try simp only [List.getElem?_toArray, List.getElem?_cons_zero, List.getElem?_cons_succ] at k0 k1); have z0 := blk_cell D4.out 0; have z1 := blk_cell D4.out 1; (try simp only [List.getElem?_toArray, List.getElem?_cons_zero, List.getElem?_cons_succ] at z0 z1); have f0 := blk_frozen D4.out 0; have f1 := blk_frozen D4.out 1))
      go_loopg [31] vn (fun gg v31 wr => ∃ i : Nat, v31 = .int .i64 (i : Int) ∧ Aside0 (i ≤ vn ∧ vn - i ≤ gg) ∧ Aside0 (True) ∧ w6 = wr)
      case atStart => exact ⟨0, rfl, ⟨Nat.zero_le _, Nat.le_refl _⟩, ⟨trivial⟩, rfl⟩
      case round =>
       obtain ⟨i, rfl, HA, HQ, rfl⟩ := hrel
       by_cases hlt : i < vn
       ·have p0 := eq_true (show (0 : Int) ≤ (i : Int) by omega)
        have q0 := eq_true (show (i : Int) < (vn : Int) by omega)
        have hi : i < r.length := by rw [← HVN.out]; exact hlt
        obtain ⟨ad, ea, hx⟩ := Kd.at_int HV.out (i : Int) (by omega) (by omega)
        subst ea
        obtain ⟨x, hxx⟩ : ∃ x, x = rd r (i : Int) := ⟨_, rfl⟩
        have hxm : x ∈ r := by rw [hxx, rd_at r i hi]; exact List.getElem_mem hi
        have HX := Aside0.mk hxx
        rw [← hxx] at hx
        simp only [Int.toNat_natCast] at hx
        have hlx := HLT.out x hxm
        obtain ⟨ab, eb, hy⟩ := Kd.at_int (Kd.C_below HBC.out HB6.out) x hlx.1 (by have := hlx.2; have := HBN.out; omega)
        subst eb
        have p1 := eq_true hlx.1
        have q1 := eq_true (show x < (bn : Int) by have := hlx.2; have := HBN.out; omega)
        have hwr : wrap64 ((i : Int) + 1) = ((i + 1 : Nat) : Int) := by unfold wrap64; omega
        have HWR := Aside0.mk hwr
        have HL := Aside0.mk hlt
        have HXM := Aside0.mk hxm
        have HI := Aside0.mk hi
        clear hi hxx hxm hlx hwr hlt
        have d0 := HSU.out x HXM.out
        obtain ⟨y, hyy⟩ : ∃ y, y = rd b x := ⟨_, rfl⟩
        rw [← hyy] at hy d0
        clear hyy
        go_wp2
        have hA := HA.out
        have hL := HL.out
        clear HA HL
        go_roundg (vn - (i + 1))
        case measure => omega
        case rel => exact ⟨i + 1, by rw [HWR.out], ⟨by omega, Nat.le_refl _⟩, ⟨trivial⟩, rfl⟩
       ·have cj : decide ((i : Int) < (vn : Int)) = false := decide_eq_false (by omega)
        obtain rfl : i = vn := by have := HA.out.1; omega
        clear HA HQ HV hvm
        go_wp2_with (first | (go_at_call 62; refine (T62.out _ HB6.out).mono ?_; rintro e w7 ⟨u0, u1, rfl, hs, hr, hb⟩; obtain ⟨Au, cu, rfl⟩ := Kd.S_slice hs; obtain ⟨Aw, cw, rfl⟩ := Kd.R_slice hr; obtain ⟨lab, hgv, hold⟩ := gv_new hs hr hb; rw [← HN.out.1, ← HN.out.2.1] at hgv ⊢; have HGV7 := Aside0.mk hgv; have HOLD := Aside0.mk hold; have HB7 := Aside0.mk (below_step HB6.out hb); have D47 := Aside0.mk (blk_below D4.out hb); clear hs hr hb hgv hold k0 k1 z0 z1 f0 f1 D4 D2 T62) | (go_at_call 103; refine (T103.out w6 w7 lab _ _ HGV7.out HOLD.out HB7.out HB6.out.size).mono ?_; rintro e w8 ⟨u0, u1, lab', rfl, hgv, hold6, hk⟩; obtain ⟨Ap, cp, rfl⟩ := Kd.S_slice hgv.s; obtain ⟨Aq, cq, rfl⟩ := Kd.R_slice hgv.r; rw [← HPK.out.1, ← HPK.out.2] at hgv ⊢; have HGV8 := Aside0.mk hgv; have D48 := Aside0.mk (blk_kept D47.out hk (fun hc => by have h1 := HOLD.out g4 HL6.out; unfold Ch2 at hc; omega)); clear hgv hold6 hk T103 D47) | ((with_reducible refine gate_dst (N := 11) rfl ?_); refine box_event ?hg (N := 11) ?hd (cs := #[.slice none 0 0, .slice none 0 0]) (t := 32) ?hr ?_; (case hd => rfl); (case hg => rfl); (case hr => first | (go_simp; done) | (go_simp; rfl)); intro g7 hg w9 hbox hb; have H9 := Aside0.mk hbox; have G9 := Aside0.mk (And.intro hg hb); have z0 := blk_cell hbox 0; have z1 := blk_cell hbox 1; (try simp only [List.getElem?_toArray, List.getElem?_cons_zero, List.getElem?_cons_succ] at z0 z1); have f0 := blk_frozen hbox 0; have f1 := blk_frozen hbox 1; clear hg hbox hb) | ((with_reducible refine gate_store (t := 32) (p := 11) rfl ?_); refine store_event (t := 32) (p := 11) (v := ?vo) (w1 := (w9.setCell ⟨g7, 0, none⟩ (.slice Ap p1 cp)).setCell ⟨g7, 1, none⟩ (.slice Aq p2 cq)) ?hg ?ho ?hn ?hr ?_; (case ho => rfl); (case hg => rfl); (case hn => rfl); (case hr => first | (go_simp; done) | (go_simp; rfl)); intro w10 hw; have hbb : Below w8.heap.size w8 w10 := (by rw [hw]; exact (G9.out.2.setCell (p := ⟨g7, 0, none⟩) (Nat.le_of_eq G9.out.1.symm) _).setCell (p := ⟨g7, 1, none⟩) (Nat.le_of_eq G9.out.1.symm) _); have H10 := Aside0.mk (show w10.heap[g7]? = some (.cells #[.slice Ap p1 cp, .slice Aq p2 cq] 32 (0, 0)) from by rw [hw]; exact blk_put (blk_put H9.out 0 _ rfl) 1 _ rfl); have D410 := Aside0.mk (blk_below D48.out hbb); have HGV10 := Aside0.mk (HGV8.out.move (lab' := labOn w8 lab' (fun _ => 0)) (HGV8.out.below.trans (hbb.mono HGV8.out.below.size)) (fun k hk _ => labOn_old hk) (fun k _ hk => hbb.block k hk)); clear z0 z1 f0 f1 hw hbb D48; have k0 := blk_cell H10.out 0; have k1 := blk_cell H10.out 1; (try simp only [List.getElem?_toArray, List.getElem?_cons_zero, List.getElem?_cons_succ] at k0 k1)) | (go_at_call 43; have h43 := good_calls w10 (A0 := Ap) (A1 := Aq) (c0 := cp) (c1 := cq) (nodes := pk.1.1) (parts := pk.1.2) (by have h := (Kd.S_reads' HGV10.out.s); rw [HPK.out.1] at h; exact h.2.2) (by have h := (Kd.S_reads' HGV10.out.s); rw [HPK.out.1] at h; exact h.2.1) (by have h := (Kd.R_reads' HGV10.out.r); rw [HPK.out.2] at h; exact h.2.2) (by have h := (Kd.R_reads' HGV10.out.r); rw [HPK.out.2] at h; exact h.2.1); rw [← HPK.out.1, ← HPK.out.2, HGG.out] at h43; refine h43.mono ?_; rintro e w11 ⟨rfl, hb⟩; have H11 := Aside0.mk (blk_below H10.out hb); have D411 := Aside0.mk (blk_below D410.out hb); have HGV11 := Aside0.mk (HGV10.out.move (lab' := labOn w10 (labOn w8 lab' (fun _ => 0)) (fun _ => 0)) (HGV10.out.below.trans (hb.mono HGV10.out.below.size)) (fun k hk _ => labOn_old hk) (fun k _ hk => hb.block k hk)); clear hb k0 k1 H10 D410 h43; have k0 := blk_cell H11.out 0; have k1 := blk_cell H11.out 1; (try simp only [List.getElem?_toArray, List.getElem?_cons_zero, List.getElem?_cons_succ] at k0 k1); have z0 := blk_cell D411.out 0; have z1 := blk_cell D411.out 1; (try simp only [List.getElem?_toArray, List.getElem?_cons_zero, List.getElem?_cons_succ] at z0 z1); have f0 := blk_frozen D411.out 0; have f1 := blk_frozen D411.out 1))
        refine bodyPost_ret (results_ctt (p := 6) (u := 7) (v := 8) rfl _ _ g4 32 #[.slice Ap p1 cp, .slice Aq p2 cq] (0, 0) _ rfl (blk_put (blk_put D411.out 0 _ rfl) 1 _ rfl) Try.underlying32 rfl (by kernel_rfl)) rfl ?_
        have hlo := HLO.out
        have hl4 := HL6.out
        have hS := HGV11.out.s
        have hR := HGV11.out.r
        rw [HPK.out.1] at hS
        rw [HPK.out.2] at hR
        refine ⟨.slice Ap p1 cp, .slice Aq p2 cq, by rw [HA0.out]; rfl, ?_, ?_, ((HB6.out.trans (HGV11.out.below.mono HB6.out.size)).setCell (p := ⟨g4, 0, none⟩) (by dsimp only; omega) _).setCell (p := ⟨g4, 1, none⟩) (by dsimp only; omega) _⟩
        ·rw [HA0.out, HPK.out.1, HPK.out.2]
         exact Kd.S_lower (Kd.S_mono (Kd.S_far (p := ⟨g4, 1, none⟩) (Kd.S_far (p := ⟨g4, 0, none⟩) (Kd.S_bound hS) (fun k hk => by have h1 := hk.2.1; dsimp only; omega) _) (fun k hk => by have h1 := hk.2.1; dsimp only; omega) _) (fun k hk he => by have h3 := hR.1 k he.symm; have h4 := hk.1; omega)) HB6.out.size
        ·rw [HA0.out, HPK.out.1, HPK.out.2]
         exact Kd.R_lower (Kd.R_mono (Kd.R_far (p := ⟨g4, 1, none⟩) (Kd.R_far (p := ⟨g4, 0, none⟩) (Kd.R_bound hR) (fun k hk => by have h1 := hk.2.1; dsimp only; omega) _) (fun k hk => by have h1 := hk.2.1; dsimp only; omega) _) (fun k hk => trivial)) HB6.out.size
     ·have HGG := Aside0.mk hgg
      have HA0 := Aside0.mk (show ansInstOf nodes parts t b = (([], []), 0, false) by rw [HANS.out, hgg, if_neg (by simp)])
      clear HANS hgg
      go_enter Try.func50, Try.ntmps50
      go_wp2_with (first | ((with_reducible refine gate_dst (N := 3) rfl ?_); refine box_event ?hg (N := 3) ?hd (cs := #[.slice A0 l0n c0, .slice A1 l1n c1]) (t := 32) ?hr ?_; (case hd => rfl); (case hg => rfl); (case hr => first | (go_simp; done) | (go_simp; rfl)); intro g2 hga w1 hbox hb; have B1 := Aside0.mk hbox; have HB1 := Aside0.mk hb; have HGA := Aside0.mk (Nat.le_of_eq hga.symm); clear hbox hb hga) | ((with_reducible refine gate_dst (N := 6) rfl ?_); refine box_event ?hg (N := 6) ?hd (cs := #[.slice none 0 0, .slice none 0 0]) (t := 32) ?hr ?_; (case hd => rfl); (case hg => rfl); (case hr => first | (go_simp; done) | (go_simp; rfl)); intro g4 hgz w2 hbox hb; have D2 := Aside0.mk (blk_below B1.out hb); have D4 := Aside0.mk hbox; have HB2 := Aside0.mk (below_step HB1.out hb); have HLO := Aside0.mk (show w.heap.size ≤ g2 ∧ g2 < g4 ∧ g4 < w2.heap.size from ⟨HGA.out, by rw [hgz]; exact blk_lt B1.out, blk_lt hbox⟩); clear hbox hb hgz B1; have k0 := blk_cell D2.out 0; have k1 := blk_cell D2.out 1; (try simp only [List.getElem?_toArray, List.getElem?_cons_zero, List.getElem?_cons_succ] at k0 k1); have z0 := blk_cell D4.out 0; have z1 := blk_cell D4.out 1; (try simp only [List.getElem?_toArray, List.getElem?_cons_zero, List.getElem?_cons_succ] at z0 z1); have f0 := blk_frozen D4.out 0; have f1 := blk_frozen D4.out 1; have HL2 := Aside0.mk (blk_lt D4.out)) | (go_at_call 43; refine (T43.out _ HB2.out).mono ?_; rintro e w3 ⟨rfl, hb⟩; have D2' := Aside0.mk (blk_below D2.out hb); have D4' := Aside0.mk (blk_below D4.out hb); have HB3 := Aside0.mk (below_step HB2.out hb); have HL3 := Aside0.mk (Nat.lt_of_lt_of_le HL2.out hb.size); clear hb D2 D4 k0 k1 z0 z1 f0 f1 T43; have D2 := D2'; have D4 := D4'; clear D2' D4'; have k0 := blk_cell D2.out 0; have k1 := blk_cell D2.out 1; (try simp only [List.getElem?_toArray, List.getElem?_cons_zero, List.getElem?_cons_succ] at k0 k1); have z0 := blk_cell D4.out 0; have z1 := blk_cell D4.out 1; (try simp only [List.getElem?_toArray, List.getElem?_cons_zero, List.getElem?_cons_succ] at z0 z1); have f0 := blk_frozen D4.out 0; have f1 := blk_frozen D4.out 1) | (go_at_call 110; refine (T110.out _ HB3.out).mono ?_; rintro e w4 ⟨rfl, hb⟩; have D2' := Aside0.mk (blk_below D2.out hb); have D4' := Aside0.mk (blk_below D4.out hb); have HB4 := Aside0.mk (below_step HB3.out hb); have HL4 := Aside0.mk (Nat.lt_of_lt_of_le HL3.out hb.size); clear hb D2 D4 k0 k1 z0 z1 f0 f1 T110; have D2 := D2'; have D4 := D4'; clear D2' D4'; have k0 := blk_cell D2.out 0; have k1 := blk_cell D2.out 1; (try simp only [List.getElem?_toArray, List.getElem?_cons_zero, List.getElem?_cons_succ] at k0 k1); have z0 := blk_cell D4.out 0; have z1 := blk_cell D4.out 1; (try simp only [List.getElem?_toArray, List.getElem?_cons_zero, List.getElem?_cons_succ] at z0 z1); have f0 := blk_frozen D4.out 0; have f1 := blk_frozen D4.out 1) | (go_at_call 111; refine (T111.out _ HB4.out).mono ?_; rintro e w5 ⟨rfl, hb⟩; have D2' := Aside0.mk (blk_below D2.out hb); have D4' := Aside0.mk (blk_below D4.out hb); have HB5 := Aside0.mk (below_step HB4.out hb); have HL5 := Aside0.mk (Nat.lt_of_lt_of_le HL4.out hb.size); clear hb D2 D4 k0 k1 z0 z1 f0 f1 T111; have D2 := D2'; have D4 := D4'; clear D2' D4'; have k0 := blk_cell D2.out 0; have k1 := blk_cell D2.out 1; (try simp only [List.getElem?_toArray, List.getElem?_cons_zero, List.getElem?_cons_succ] at k0 k1); have z0 := blk_cell D4.out 0; have z1 := blk_cell D4.out 1; (try simp only [List.getElem?_toArray, List.getElem?_cons_zero, List.getElem?_cons_succ] at z0 z1); have f0 := blk_frozen D4.out 0; have f1 := blk_frozen D4.out 1) | (go_at_call 112; refine (T112.out _ HB5.out).mono ?_; rintro e w6 ⟨v0, rfl, hr, hb⟩; obtain ⟨Av, cv, rfl⟩ := Kd.R_slice hr; have HV := Aside0.mk (Kd.R_reads' hr).2.2; have hvm := Kd.C_max HV.out; rw [← HVN.out] at hvm ⊢; clear hr; have D2' := Aside0.mk (blk_below D2.out hb); have D4' := Aside0.mk (blk_below D4.out hb); have HB6 := Aside0.mk (below_step HB5.out hb); have HL6 := Aside0.mk (Nat.lt_of_lt_of_le HL5.out hb.size); clear hb D2 D4 k0 k1 z0 z1 f0 f1 T112; have D2 := D2'; have D4 := D4'; clear D2' D4'; have k0 := blk_cell D2.out 0; have k1 := blk_cell D2.out 1; (try simp only [List.getElem?_toArray, List.getElem?_cons_zero, List.getElem?_cons_succ] at k0 k1); have z0 := blk_cell D4.out 0; have z1 := blk_cell D4.out 1; (try simp only [List.getElem?_toArray, List.getElem?_cons_zero, List.getElem?_cons_succ] at z0 z1); have f0 := blk_frozen D4.out 0; have f1 := blk_frozen D4.out 1))
      go_loopg [31] vn (fun gg v31 wr => ∃ i : Nat, v31 = .int .i64 (i : Int) ∧ Aside0 (i ≤ vn ∧ vn - i ≤ gg) ∧ Aside0 (True) ∧ w6 = wr)
      case atStart => exact ⟨0, rfl, ⟨Nat.zero_le _, Nat.le_refl _⟩, ⟨trivial⟩, rfl⟩
      case round =>
       obtain ⟨i, rfl, HA, HQ, rfl⟩ := hrel
       by_cases hlt : i < vn
       ·have p0 := eq_true (show (0 : Int) ≤ (i : Int) by omega)
        have q0 := eq_true (show (i : Int) < (vn : Int) by omega)
        have hi : i < r.length := by rw [← HVN.out]; exact hlt
        obtain ⟨ad, ea, hx⟩ := Kd.at_int HV.out (i : Int) (by omega) (by omega)
        subst ea
        obtain ⟨x, hxx⟩ : ∃ x, x = rd r (i : Int) := ⟨_, rfl⟩
        have hxm : x ∈ r := by rw [hxx, rd_at r i hi]; exact List.getElem_mem hi
        have HX := Aside0.mk hxx
        rw [← hxx] at hx
        simp only [Int.toNat_natCast] at hx
        have hlx := HLT.out x hxm
        obtain ⟨ab, eb, hy⟩ := Kd.at_int (Kd.C_below HBC.out HB6.out) x hlx.1 (by have := hlx.2; have := HBN.out; omega)
        subst eb
        have p1 := eq_true hlx.1
        have q1 := eq_true (show x < (bn : Int) by have := hlx.2; have := HBN.out; omega)
        have hwr : wrap64 ((i : Int) + 1) = ((i + 1 : Nat) : Int) := by unfold wrap64; omega
        have HWR := Aside0.mk hwr
        have HL := Aside0.mk hlt
        have HXM := Aside0.mk hxm
        have HI := Aside0.mk hi
        clear hi hxx hxm hlx hwr hlt
        have d0 := HSU.out x HXM.out
        obtain ⟨y, hyy⟩ : ∃ y, y = rd b x := ⟨_, rfl⟩
        rw [← hyy] at hy d0
        clear hyy
        go_wp2
        have hA := HA.out
        have hL := HL.out
        clear HA HL
        go_roundg (vn - (i + 1))
        case measure => omega
        case rel => exact ⟨i + 1, by rw [HWR.out], ⟨by omega, Nat.le_refl _⟩, ⟨trivial⟩, rfl⟩
       ·have cj : decide ((i : Int) < (vn : Int)) = false := decide_eq_false (by omega)
        obtain rfl : i = vn := by have := HA.out.1; omega
        clear HA HQ HV hvm
        go_wp2_with (first | (go_at_call 62; refine (T62.out _ HB6.out).mono ?_; rintro e w7 ⟨u0, u1, rfl, hs, hr, hb⟩; obtain ⟨Au, cu, rfl⟩ := Kd.S_slice hs; obtain ⟨Aw, cw, rfl⟩ := Kd.R_slice hr; obtain ⟨lab, hgv, hold⟩ := gv_new hs hr hb; rw [← HN.out.1, ← HN.out.2.1] at hgv ⊢; have HGV7 := Aside0.mk hgv; have HOLD := Aside0.mk hold; have HB7 := Aside0.mk (below_step HB6.out hb); have D47 := Aside0.mk (blk_below D4.out hb); clear hs hr hb hgv hold k0 k1 z0 z1 f0 f1 D4 D2 T62) | (go_at_call 103; refine (T103.out w6 w7 lab _ _ HGV7.out HOLD.out HB7.out HB6.out.size).mono ?_; rintro e w8 ⟨u0, u1, lab', rfl, hgv, hold6, hk⟩; obtain ⟨Ap, cp, rfl⟩ := Kd.S_slice hgv.s; obtain ⟨Aq, cq, rfl⟩ := Kd.R_slice hgv.r; rw [← HPK.out.1, ← HPK.out.2] at hgv ⊢; have HGV8 := Aside0.mk hgv; have D48 := Aside0.mk (blk_kept D47.out hk (fun hc => by have h1 := HOLD.out g4 HL6.out; unfold Ch2 at hc; omega)); clear hgv hold6 hk T103 D47) | ((with_reducible refine gate_dst (N := 11) rfl ?_); refine box_event ?hg (N := 11) ?hd (cs := #[.slice none 0 0, .slice none 0 0]) (t := 32) ?hr ?_; (case hd => rfl); (case hg => rfl); (case hr => first | (go_simp; done) | (go_simp; rfl)); intro g7 hg w9 hbox hb; have H9 := Aside0.mk hbox; have G9 := Aside0.mk (And.intro hg hb); have z0 := blk_cell hbox 0; have z1 := blk_cell hbox 1; (try simp only [List.getElem?_toArray, List.getElem?_cons_zero, List.getElem?_cons_succ] at z0 z1); have f0 := blk_frozen hbox 0; have f1 := blk_frozen hbox 1; clear hg hbox hb) | ((with_reducible refine gate_store (t := 32) (p := 11) rfl ?_); refine store_event (t := 32) (p := 11) (v := ?vo) (w1 := (w9.setCell ⟨g7, 0, none⟩ (.slice Ap p1 cp)).setCell ⟨g7, 1, none⟩ (.slice Aq p2 cq)) ?hg ?ho ?hn ?hr ?_; (case ho => rfl); (case hg => rfl); (case hn => rfl); (case hr => first | (go_simp; done) | (go_simp; rfl)); intro w10 hw; have hbb : Below w8.heap.size w8 w10 := (by rw [hw]; exact (G9.out.2.setCell (p := ⟨g7, 0, none⟩) (Nat.le_of_eq G9.out.1.symm) _).setCell (p := ⟨g7, 1, none⟩) (Nat.le_of_eq G9.out.1.symm) _); have H10 := Aside0.mk (show w10.heap[g7]? = some (.cells #[.slice Ap p1 cp, .slice Aq p2 cq] 32 (0, 0)) from by rw [hw]; exact blk_put (blk_put H9.out 0 _ rfl) 1 _ rfl); have D410 := Aside0.mk (blk_below D48.out hbb); have HGV10 := Aside0.mk (HGV8.out.move (lab' := labOn w8 lab' (fun _ => 0)) (HGV8.out.below.trans (hbb.mono HGV8.out.below.size)) (fun k hk _ => labOn_old hk) (fun k _ hk => hbb.block k hk)); clear z0 z1 f0 f1 hw hbb D48; have k0 := blk_cell H10.out 0; have k1 := blk_cell H10.out 1; (try simp only [List.getElem?_toArray, List.getElem?_cons_zero, List.getElem?_cons_succ] at k0 k1)) | (go_at_call 43; have h43 := good_calls w10 (A0 := Ap) (A1 := Aq) (c0 := cp) (c1 := cq) (nodes := pk.1.1) (parts := pk.1.2) (by have h := (Kd.S_reads' HGV10.out.s); rw [HPK.out.1] at h; exact h.2.2) (by have h := (Kd.S_reads' HGV10.out.s); rw [HPK.out.1] at h; exact h.2.1) (by have h := (Kd.R_reads' HGV10.out.r); rw [HPK.out.2] at h; exact h.2.2) (by have h := (Kd.R_reads' HGV10.out.r); rw [HPK.out.2] at h; exact h.2.1); rw [← HPK.out.1, ← HPK.out.2, HGG.out] at h43; refine h43.mono ?_; rintro e w11 ⟨rfl, hb⟩; have H11 := Aside0.mk (blk_below H10.out hb); have D411 := Aside0.mk (blk_below D410.out hb); have HGV11 := Aside0.mk (HGV10.out.move (lab' := labOn w10 (labOn w8 lab' (fun _ => 0)) (fun _ => 0)) (HGV10.out.below.trans (hb.mono HGV10.out.below.size)) (fun k hk _ => labOn_old hk) (fun k _ hk => hb.block k hk)); clear hb k0 k1 H10 D410 h43; have k0 := blk_cell H11.out 0; have k1 := blk_cell H11.out 1; (try simp only [List.getElem?_toArray, List.getElem?_cons_zero, List.getElem?_cons_succ] at k0 k1); have z0 := blk_cell D411.out 0; have z1 := blk_cell D411.out 1; (try simp only [List.getElem?_toArray, List.getElem?_cons_zero, List.getElem?_cons_succ] at z0 z1); have f0 := blk_frozen D411.out 0; have f1 := blk_frozen D411.out 1))
        refine bodyPost_ret (results_ctt (p := 6) (u := 7) (v := 8) rfl _ _ g4 32 #[.slice none 0 0, .slice none 0 0] (0, 0) _ rfl (blk_put (blk_put D411.out 0 _ rfl) 1 _ rfl) Try.underlying32 rfl (by kernel_rfl)) rfl ?_
        have hlo := HLO.out
        refine ⟨_, _, by rw [HA0.out]; rfl, by rw [HA0.out]; exact Kd.S_nil _ _ _ _ _, by rw [HA0.out]; exact Kd.R_nil _ _ _ _ _, ((HB6.out.trans (HGV11.out.below.mono HB6.out.size)).setCell (p := ⟨g4, 0, none⟩) (by dsimp only; omega) _).setCell (p := ⟨g4, 1, none⟩) (by dsimp only; omega) _⟩
    ·have HA0 := Aside0.mk (ansI_no (nodes := nodes) (parts := parts) (t := t) (b := b) (fun h => by rw [hs] at h; exact absurd h.2.2.2 (by simp)))
     have HNS := Aside0.mk (show ¬ ∀ x, x ∈ r → 0 ≤ rd b x from fun h => by
      rw [hsv, List.all_eq_false] at hs
      obtain ⟨x, hx, h1⟩ := hs
      exact h1 (decide_eq_true (by have := h x hx; omega)))
     rw [← hl0n, ← hl1n] at T43 T111
     rw [← hbn] at T111
     rw [← htn] at T110 T112
     rw [← hl0n, ← hl1n, ← htn, ← hbn]
     clear h0 h1 h2 h3 l0 l1 l2 l3 hg hgr hks hT hm0 hm1 hl0n hl1n htn hp h7 hbb hb4 hvo hvc hsv hs hbn hvn
     go_enter Try.func50, Try.ntmps50
     go_wp2_with (first | ((with_reducible refine gate_dst (N := 3) rfl ?_); refine box_event ?hg (N := 3) ?hd (cs := #[.slice A0 l0n c0, .slice A1 l1n c1]) (t := 32) ?hr ?_; (case hd => rfl); (case hg => rfl); (case hr => first | (go_simp; done) | (go_simp; rfl)); intro g2 hga w1 hbox hb; have B1 := Aside0.mk hbox; have HB1 := Aside0.mk hb; have HGA := Aside0.mk (Nat.le_of_eq hga.symm); clear hbox hb hga) | ((with_reducible refine gate_dst (N := 6) rfl ?_); refine box_event ?hg (N := 6) ?hd (cs := #[.slice none 0 0, .slice none 0 0]) (t := 32) ?hr ?_; (case hd => rfl); (case hg => rfl); (case hr => first | (go_simp; done) | (go_simp; rfl)); intro g4 hgz w2 hbox hb; have D2 := Aside0.mk (blk_below B1.out hb); have D4 := Aside0.mk hbox; have HB2 := Aside0.mk (below_step HB1.out hb); have HLO := Aside0.mk (show w.heap.size ≤ g2 ∧ g2 < g4 ∧ g4 < w2.heap.size from ⟨HGA.out, by rw [hgz]; exact blk_lt B1.out, blk_lt hbox⟩); clear hbox hb hgz B1; have k0 := blk_cell D2.out 0; have k1 := blk_cell D2.out 1; (try simp only [List.getElem?_toArray, List.getElem?_cons_zero, List.getElem?_cons_succ] at k0 k1); have z0 := blk_cell D4.out 0; have z1 := blk_cell D4.out 1; (try simp only [List.getElem?_toArray, List.getElem?_cons_zero, List.getElem?_cons_succ] at z0 z1); have f0 := blk_frozen D4.out 0; have f1 := blk_frozen D4.out 1; have HL2 := Aside0.mk (blk_lt D4.out)) | (go_at_call 43; refine (T43.out _ HB2.out).mono ?_; rintro e w3 ⟨rfl, hb⟩; have D2' := Aside0.mk (blk_below D2.out hb); have D4' := Aside0.mk (blk_below D4.out hb); have HB3 := Aside0.mk (below_step HB2.out hb); have HL3 := Aside0.mk (Nat.lt_of_lt_of_le HL2.out hb.size); clear hb D2 D4 k0 k1 z0 z1 f0 f1 T43; have D2 := D2'; have D4 := D4'; clear D2' D4'; have k0 := blk_cell D2.out 0; have k1 := blk_cell D2.out 1; (try simp only [List.getElem?_toArray, List.getElem?_cons_zero, List.getElem?_cons_succ] at k0 k1); have z0 := blk_cell D4.out 0; have z1 := blk_cell D4.out 1; (try simp only [List.getElem?_toArray, List.getElem?_cons_zero, List.getElem?_cons_succ] at z0 z1); have f0 := blk_frozen D4.out 0; have f1 := blk_frozen D4.out 1) | (go_at_call 110; refine (T110.out _ HB3.out).mono ?_; rintro e w4 ⟨rfl, hb⟩; have D2' := Aside0.mk (blk_below D2.out hb); have D4' := Aside0.mk (blk_below D4.out hb); have HB4 := Aside0.mk (below_step HB3.out hb); have HL4 := Aside0.mk (Nat.lt_of_lt_of_le HL3.out hb.size); clear hb D2 D4 k0 k1 z0 z1 f0 f1 T110; have D2 := D2'; have D4 := D4'; clear D2' D4'; have k0 := blk_cell D2.out 0; have k1 := blk_cell D2.out 1; (try simp only [List.getElem?_toArray, List.getElem?_cons_zero, List.getElem?_cons_succ] at k0 k1); have z0 := blk_cell D4.out 0; have z1 := blk_cell D4.out 1; (try simp only [List.getElem?_toArray, List.getElem?_cons_zero, List.getElem?_cons_succ] at z0 z1); have f0 := blk_frozen D4.out 0; have f1 := blk_frozen D4.out 1) | (go_at_call 111; refine (T111.out _ HB4.out).mono ?_; rintro e w5 ⟨rfl, hb⟩; have D2' := Aside0.mk (blk_below D2.out hb); have D4' := Aside0.mk (blk_below D4.out hb); have HB5 := Aside0.mk (below_step HB4.out hb); have HL5 := Aside0.mk (Nat.lt_of_lt_of_le HL4.out hb.size); clear hb D2 D4 k0 k1 z0 z1 f0 f1 T111; have D2 := D2'; have D4 := D4'; clear D2' D4'; have k0 := blk_cell D2.out 0; have k1 := blk_cell D2.out 1; (try simp only [List.getElem?_toArray, List.getElem?_cons_zero, List.getElem?_cons_succ] at k0 k1); have z0 := blk_cell D4.out 0; have z1 := blk_cell D4.out 1; (try simp only [List.getElem?_toArray, List.getElem?_cons_zero, List.getElem?_cons_succ] at z0 z1); have f0 := blk_frozen D4.out 0; have f1 := blk_frozen D4.out 1) | (go_at_call 112; refine (T112.out _ HB5.out).mono ?_; rintro e w6 ⟨v0, rfl, hr, hb⟩; obtain ⟨Av, cv, rfl⟩ := Kd.R_slice hr; have HV := Aside0.mk (Kd.R_reads' hr).2.2; have hvm := Kd.C_max HV.out; rw [← HVN.out] at hvm ⊢; clear hr; have D2' := Aside0.mk (blk_below D2.out hb); have D4' := Aside0.mk (blk_below D4.out hb); have HB6 := Aside0.mk (below_step HB5.out hb); have HL6 := Aside0.mk (Nat.lt_of_lt_of_le HL5.out hb.size); clear hb D2 D4 k0 k1 z0 z1 f0 f1 T112; have D2 := D2'; have D4 := D4'; clear D2' D4'; have k0 := blk_cell D2.out 0; have k1 := blk_cell D2.out 1; (try simp only [List.getElem?_toArray, List.getElem?_cons_zero, List.getElem?_cons_succ] at k0 k1); have z0 := blk_cell D4.out 0; have z1 := blk_cell D4.out 1; (try simp only [List.getElem?_toArray, List.getElem?_cons_zero, List.getElem?_cons_succ] at z0 z1); have f0 := blk_frozen D4.out 0; have f1 := blk_frozen D4.out 1))
     go_loopg [31] vn (fun gg v31 wr => ∃ i : Nat, v31 = .int .i64 (i : Int) ∧ Aside0 (i ≤ vn ∧ vn - i ≤ gg) ∧ Aside0 (∀ z ∈ r.take i, ¬ rd b z < 0) ∧ w6 = wr)
     case atStart => exact ⟨0, rfl, ⟨Nat.zero_le _, Nat.le_refl _⟩, ⟨fun z hz => by simp at hz⟩, rfl⟩
     case round =>
      obtain ⟨i, rfl, HA, HQ, rfl⟩ := hrel
      by_cases hlt : i < vn
      ·have p0 := eq_true (show (0 : Int) ≤ (i : Int) by omega)
       have q0 := eq_true (show (i : Int) < (vn : Int) by omega)
       have hi : i < r.length := by rw [← HVN.out]; exact hlt
       obtain ⟨ad, ea, hx⟩ := Kd.at_int HV.out (i : Int) (by omega) (by omega)
       subst ea
       obtain ⟨x, hxx⟩ : ∃ x, x = rd r (i : Int) := ⟨_, rfl⟩
       have hxm : x ∈ r := by rw [hxx, rd_at r i hi]; exact List.getElem_mem hi
       have HX := Aside0.mk hxx
       rw [← hxx] at hx
       simp only [Int.toNat_natCast] at hx
       have hlx := HLT.out x hxm
       obtain ⟨ab, eb, hy⟩ := Kd.at_int (Kd.C_below HBC.out HB6.out) x hlx.1 (by have := hlx.2; have := HBN.out; omega)
       subst eb
       have p1 := eq_true hlx.1
       have q1 := eq_true (show x < (bn : Int) by have := hlx.2; have := HBN.out; omega)
       have hwr : wrap64 ((i : Int) + 1) = ((i + 1 : Nat) : Int) := by unfold wrap64; omega
       have HWR := Aside0.mk hwr
       have HL := Aside0.mk hlt
       have HXM := Aside0.mk hxm
       have HI := Aside0.mk hi
       clear hi hxx hxm hlx hwr hlt
       obtain ⟨y, hyy⟩ : ∃ y, y = rd b x := ⟨_, rfl⟩
       rw [← hyy] at hy
       have HY := Aside0.mk hyy
       clear hyy
       by_cases hneg : y < 0
       ·have d0 : decide (y < 0) = true := decide_eq_true hneg
        clear hneg
        go_wp2
        refine bodyPost_ret (results_ctt (p := 6) (u := 7) (v := 8) rfl _ _ g4 32 #[.slice none 0 0, .slice none 0 0] (0, 0) _ rfl (blk_put (blk_put D4.out 0 _ rfl) 1 _ rfl) Try.underlying32 rfl (by kernel_rfl)) rfl ?_
        have hlo := HLO.out
        refine ⟨_, _, by rw [HA0.out]; rfl, by rw [HA0.out]; exact Kd.S_nil _ _ _ _ _, by rw [HA0.out]; exact Kd.R_nil _ _ _ _ _, (HB6.out.setCell (p := ⟨g4, 0, none⟩) (by dsimp only; omega) _).setCell (p := ⟨g4, 1, none⟩) (by dsimp only; omega) _⟩
       ·have d0 : decide (y < 0) = false := decide_eq_false hneg
        have HNG := Aside0.mk hneg
        clear hneg
        go_wp2
        have hA := HA.out
        have hL := HL.out
        clear HA HL
        go_roundg (vn - (i + 1))
        case measure => omega
        case rel => exact ⟨i + 1, by rw [HWR.out], ⟨by omega, Nat.le_refl _⟩, ⟨fun z hz => by rw [List.take_succ_eq_append_getElem HI.out] at hz; rcases List.mem_append.1 hz with hz | hz; exact HQ.out z hz; rw [List.mem_singleton] at hz; rw [hz, ← rd_at r i HI.out, ← HX.out, ← HY.out]; exact HNG.out⟩, rfl⟩
      ·have cj : decide ((i : Int) < (vn : Int)) = false := decide_eq_false (by omega)
       obtain rfl : i = vn := by have := HA.out.1; omega
       exact absurd (fun z hz => Int.not_lt.1 (HQ.out z (by rw [HVN.out, List.take_length]; exact hz))) HNS.out
   ·have HA0 := Aside0.mk (ansI_no (nodes := nodes) (parts := parts) (t := t) (b := b) (fun h => by rw [hbb] at h; exact absurd h.2.2.1 (by simp)))
    rw [hbb] at T111
    rw [← hl0n, ← hl1n] at T43 T111
    rw [← hbn] at T111
    rw [← htn] at T110
    rw [← hl0n, ← hl1n, ← htn, ← hbn]
    clear h0 h1 h2 h3 l0 l1 l2 l3 hg hgr hks hT hm0 hm1 hl0n hl1n htn hp h7 hbb hbn
    go_enter Try.func50, Try.ntmps50
    go_wp2_with (first | ((with_reducible refine gate_dst (N := 3) rfl ?_); refine box_event ?hg (N := 3) ?hd (cs := #[.slice A0 l0n c0, .slice A1 l1n c1]) (t := 32) ?hr ?_; (case hd => rfl); (case hg => rfl); (case hr => first | (go_simp; done) | (go_simp; rfl)); intro g2 hga w1 hbox hb; have B1 := Aside0.mk hbox; have HB1 := Aside0.mk hb; have HGA := Aside0.mk (Nat.le_of_eq hga.symm); clear hbox hb hga) | ((with_reducible refine gate_dst (N := 6) rfl ?_); refine box_event ?hg (N := 6) ?hd (cs := #[.slice none 0 0, .slice none 0 0]) (t := 32) ?hr ?_; (case hd => rfl); (case hg => rfl); (case hr => first | (go_simp; done) | (go_simp; rfl)); intro g4 hgz w2 hbox hb; have D2 := Aside0.mk (blk_below B1.out hb); have D4 := Aside0.mk hbox; have HB2 := Aside0.mk (below_step HB1.out hb); have HLO := Aside0.mk (show w.heap.size ≤ g2 ∧ g2 < g4 ∧ g4 < w2.heap.size from ⟨HGA.out, by rw [hgz]; exact blk_lt B1.out, blk_lt hbox⟩); clear hbox hb hgz B1; have k0 := blk_cell D2.out 0; have k1 := blk_cell D2.out 1; (try simp only [List.getElem?_toArray, List.getElem?_cons_zero, List.getElem?_cons_succ] at k0 k1); have z0 := blk_cell D4.out 0; have z1 := blk_cell D4.out 1; (try simp only [List.getElem?_toArray, List.getElem?_cons_zero, List.getElem?_cons_succ] at z0 z1); have f0 := blk_frozen D4.out 0; have f1 := blk_frozen D4.out 1; have HL2 := Aside0.mk (blk_lt D4.out)) | (go_at_call 43; refine (T43.out _ HB2.out).mono ?_; rintro e w3 ⟨rfl, hb⟩; have D2' := Aside0.mk (blk_below D2.out hb); have D4' := Aside0.mk (blk_below D4.out hb); have HB3 := Aside0.mk (below_step HB2.out hb); have HL3 := Aside0.mk (Nat.lt_of_lt_of_le HL2.out hb.size); clear hb D2 D4 k0 k1 z0 z1 f0 f1 T43; have D2 := D2'; have D4 := D4'; clear D2' D4'; have k0 := blk_cell D2.out 0; have k1 := blk_cell D2.out 1; (try simp only [List.getElem?_toArray, List.getElem?_cons_zero, List.getElem?_cons_succ] at k0 k1); have z0 := blk_cell D4.out 0; have z1 := blk_cell D4.out 1; (try simp only [List.getElem?_toArray, List.getElem?_cons_zero, List.getElem?_cons_succ] at z0 z1); have f0 := blk_frozen D4.out 0; have f1 := blk_frozen D4.out 1) | (go_at_call 110; refine (T110.out _ HB3.out).mono ?_; rintro e w4 ⟨rfl, hb⟩; have D2' := Aside0.mk (blk_below D2.out hb); have D4' := Aside0.mk (blk_below D4.out hb); have HB4 := Aside0.mk (below_step HB3.out hb); have HL4 := Aside0.mk (Nat.lt_of_lt_of_le HL3.out hb.size); clear hb D2 D4 k0 k1 z0 z1 f0 f1 T110; have D2 := D2'; have D4 := D4'; clear D2' D4'; have k0 := blk_cell D2.out 0; have k1 := blk_cell D2.out 1; (try simp only [List.getElem?_toArray, List.getElem?_cons_zero, List.getElem?_cons_succ] at k0 k1); have z0 := blk_cell D4.out 0; have z1 := blk_cell D4.out 1; (try simp only [List.getElem?_toArray, List.getElem?_cons_zero, List.getElem?_cons_succ] at z0 z1); have f0 := blk_frozen D4.out 0; have f1 := blk_frozen D4.out 1) | (go_at_call 111; refine (T111.out _ HB4.out).mono ?_; rintro e w5 ⟨rfl, hb⟩; have D2' := Aside0.mk (blk_below D2.out hb); have D4' := Aside0.mk (blk_below D4.out hb); have HB5 := Aside0.mk (below_step HB4.out hb); have HL5 := Aside0.mk (Nat.lt_of_lt_of_le HL4.out hb.size); clear hb D2 D4 k0 k1 z0 z1 f0 f1 T111; have D2 := D2'; have D4 := D4'; clear D2' D4'; have k0 := blk_cell D2.out 0; have k1 := blk_cell D2.out 1; (try simp only [List.getElem?_toArray, List.getElem?_cons_zero, List.getElem?_cons_succ] at k0 k1); have z0 := blk_cell D4.out 0; have z1 := blk_cell D4.out 1; (try simp only [List.getElem?_toArray, List.getElem?_cons_zero, List.getElem?_cons_succ] at z0 z1); have f0 := blk_frozen D4.out 0; have f1 := blk_frozen D4.out 1))
    refine bodyPost_ret (results_ctt (p := 6) (u := 7) (v := 8) rfl _ _ g4 32 #[.slice none 0 0, .slice none 0 0] (0, 0) _ rfl (blk_put (blk_put D4.out 0 _ rfl) 1 _ rfl) Try.underlying32 rfl (by kernel_rfl)) rfl ?_
    have hlo := HLO.out
    refine ⟨_, _, by rw [HA0.out]; rfl, by rw [HA0.out]; exact Kd.S_nil _ _ _ _ _, by rw [HA0.out]; exact Kd.R_nil _ _ _ _ _, (HB5.out.setCell (p := ⟨g4, 0, none⟩) (by dsimp only; omega) _).setCell (p := ⟨g4, 1, none⟩) (by dsimp only; omega) _⟩
  ·have HA0 := Aside0.mk (show ansInstOf nodes parts t b = (([], []), 0, false) by
    cases h : treeT t with
    | none => exact ansI_none h
    | some T => exact ansI_no (fun hh => by unfold patB at hp; rw [h, decide_eq_true hh.2.1] at hp; simp at hp))
   rw [hp] at T110
   rw [← hl0n, ← hl1n] at T43
   rw [← htn] at T110
   rw [← hl0n, ← hl1n, ← htn, ← hbn]
   clear h0 h1 h2 h3 l0 l1 l2 l3 hg hgr hks hm0 hm1 hl0n hl1n htn hp T111 hbn
   go_enter Try.func50, Try.ntmps50
   go_wp2_with (first | ((with_reducible refine gate_dst (N := 3) rfl ?_); refine box_event ?hg (N := 3) ?hd (cs := #[.slice A0 l0n c0, .slice A1 l1n c1]) (t := 32) ?hr ?_; (case hd => rfl); (case hg => rfl); (case hr => first | (go_simp; done) | (go_simp; rfl)); intro g2 hga w1 hbox hb; have B1 := Aside0.mk hbox; have HB1 := Aside0.mk hb; have HGA := Aside0.mk (Nat.le_of_eq hga.symm); clear hbox hb hga) | ((with_reducible refine gate_dst (N := 6) rfl ?_); refine box_event ?hg (N := 6) ?hd (cs := #[.slice none 0 0, .slice none 0 0]) (t := 32) ?hr ?_; (case hd => rfl); (case hg => rfl); (case hr => first | (go_simp; done) | (go_simp; rfl)); intro g4 hgz w2 hbox hb; have D2 := Aside0.mk (blk_below B1.out hb); have D4 := Aside0.mk hbox; have HB2 := Aside0.mk (below_step HB1.out hb); have HLO := Aside0.mk (show w.heap.size ≤ g2 ∧ g2 < g4 ∧ g4 < w2.heap.size from ⟨HGA.out, by rw [hgz]; exact blk_lt B1.out, blk_lt hbox⟩); clear hbox hb hgz B1; have k0 := blk_cell D2.out 0; have k1 := blk_cell D2.out 1; (try simp only [List.getElem?_toArray, List.getElem?_cons_zero, List.getElem?_cons_succ] at k0 k1); have z0 := blk_cell D4.out 0; have z1 := blk_cell D4.out 1; (try simp only [List.getElem?_toArray, List.getElem?_cons_zero, List.getElem?_cons_succ] at z0 z1); have f0 := blk_frozen D4.out 0; have f1 := blk_frozen D4.out 1; have HL2 := Aside0.mk (blk_lt D4.out)) | (go_at_call 43; refine (T43.out _ HB2.out).mono ?_; rintro e w3 ⟨rfl, hb⟩; have D2' := Aside0.mk (blk_below D2.out hb); have D4' := Aside0.mk (blk_below D4.out hb); have HB3 := Aside0.mk (below_step HB2.out hb); have HL3 := Aside0.mk (Nat.lt_of_lt_of_le HL2.out hb.size); clear hb D2 D4 k0 k1 z0 z1 f0 f1 T43; have D2 := D2'; have D4 := D4'; clear D2' D4'; have k0 := blk_cell D2.out 0; have k1 := blk_cell D2.out 1; (try simp only [List.getElem?_toArray, List.getElem?_cons_zero, List.getElem?_cons_succ] at k0 k1); have z0 := blk_cell D4.out 0; have z1 := blk_cell D4.out 1; (try simp only [List.getElem?_toArray, List.getElem?_cons_zero, List.getElem?_cons_succ] at z0 z1); have f0 := blk_frozen D4.out 0; have f1 := blk_frozen D4.out 1) | (go_at_call 110; refine (T110.out _ HB3.out).mono ?_; rintro e w4 ⟨rfl, hb⟩; have D2' := Aside0.mk (blk_below D2.out hb); have D4' := Aside0.mk (blk_below D4.out hb); have HB4 := Aside0.mk (below_step HB3.out hb); have HL4 := Aside0.mk (Nat.lt_of_lt_of_le HL3.out hb.size); clear hb D2 D4 k0 k1 z0 z1 f0 f1 T110; have D2 := D2'; have D4 := D4'; clear D2' D4'; have k0 := blk_cell D2.out 0; have k1 := blk_cell D2.out 1; (try simp only [List.getElem?_toArray, List.getElem?_cons_zero, List.getElem?_cons_succ] at k0 k1); have z0 := blk_cell D4.out 0; have z1 := blk_cell D4.out 1; (try simp only [List.getElem?_toArray, List.getElem?_cons_zero, List.getElem?_cons_succ] at z0 z1); have f0 := blk_frozen D4.out 0; have f1 := blk_frozen D4.out 1))
   refine bodyPost_ret (results_ctt (p := 6) (u := 7) (v := 8) rfl _ _ g4 32 #[.slice none 0 0, .slice none 0 0] (0, 0) _ rfl (blk_put (blk_put D4.out 0 _ rfl) 1 _ rfl) Try.underlying32 rfl (by kernel_rfl)) rfl ?_
   have hlo := HLO.out
   refine ⟨_, _, by rw [HA0.out]; rfl, by rw [HA0.out]; exact Kd.S_nil _ _ _ _ _, by rw [HA0.out]; exact Kd.R_nil _ _ _ _ _, (HB4.out.setCell (p := ⟨g4, 0, none⟩) (by dsimp only; omega) _).setCell (p := ⟨g4, 1, none⟩) (by dsimp only; omega) _⟩
 ·have HA0 := Aside0.mk (ansI_no (nodes := nodes) (parts := parts) (t := t) (b := b) (fun h => by rw [hg] at h; exact absurd h.1 (by simp)))
  rw [hg, ← hl0n, ← hl1n] at T43
  rw [← hl0n, ← hl1n, ← htn, ← hbn]
  clear h0 h1 h2 h3 l0 l1 l2 l3 hg hm0 hm1 hl0n hl1n htn T110 hbn
  go_enter Try.func50, Try.ntmps50
  go_wp2_with (first | ((with_reducible refine gate_dst (N := 3) rfl ?_); refine box_event ?hg (N := 3) ?hd (cs := #[.slice A0 l0n c0, .slice A1 l1n c1]) (t := 32) ?hr ?_; (case hd => rfl); (case hg => rfl); (case hr => first | (go_simp; done) | (go_simp; rfl)); intro g2 hga w1 hbox hb; have B1 := Aside0.mk hbox; have HB1 := Aside0.mk hb; have HGA := Aside0.mk (Nat.le_of_eq hga.symm); clear hbox hb hga) | ((with_reducible refine gate_dst (N := 6) rfl ?_); refine box_event ?hg (N := 6) ?hd (cs := #[.slice none 0 0, .slice none 0 0]) (t := 32) ?hr ?_; (case hd => rfl); (case hg => rfl); (case hr => first | (go_simp; done) | (go_simp; rfl)); intro g4 hgz w2 hbox hb; have D2 := Aside0.mk (blk_below B1.out hb); have D4 := Aside0.mk hbox; have HB2 := Aside0.mk (below_step HB1.out hb); have HLO := Aside0.mk (show w.heap.size ≤ g2 ∧ g2 < g4 ∧ g4 < w2.heap.size from ⟨HGA.out, by rw [hgz]; exact blk_lt B1.out, blk_lt hbox⟩); clear hbox hb hgz B1; have k0 := blk_cell D2.out 0; have k1 := blk_cell D2.out 1; (try simp only [List.getElem?_toArray, List.getElem?_cons_zero, List.getElem?_cons_succ] at k0 k1); have z0 := blk_cell D4.out 0; have z1 := blk_cell D4.out 1; (try simp only [List.getElem?_toArray, List.getElem?_cons_zero, List.getElem?_cons_succ] at z0 z1); have f0 := blk_frozen D4.out 0; have f1 := blk_frozen D4.out 1; have HL2 := Aside0.mk (blk_lt D4.out)) | (go_at_call 43; refine (T43.out _ HB2.out).mono ?_; rintro e w3 ⟨rfl, hb⟩; have D2' := Aside0.mk (blk_below D2.out hb); have D4' := Aside0.mk (blk_below D4.out hb); have HB3 := Aside0.mk (below_step HB2.out hb); have HL3 := Aside0.mk (Nat.lt_of_lt_of_le HL2.out hb.size); clear hb D2 D4 k0 k1 z0 z1 f0 f1 T43; have D2 := D2'; have D4 := D4'; clear D2' D4'; have k0 := blk_cell D2.out 0; have k1 := blk_cell D2.out 1; (try simp only [List.getElem?_toArray, List.getElem?_cons_zero, List.getElem?_cons_succ] at k0 k1); have z0 := blk_cell D4.out 0; have z1 := blk_cell D4.out 1; (try simp only [List.getElem?_toArray, List.getElem?_cons_zero, List.getElem?_cons_succ] at z0 z1); have f0 := blk_frozen D4.out 0; have f1 := blk_frozen D4.out 1))
  refine bodyPost_ret (results_ctt (p := 6) (u := 7) (v := 8) rfl _ _ g4 32 #[.slice none 0 0, .slice none 0 0] (0, 0) _ rfl (blk_put (blk_put D4.out 0 _ rfl) 1 _ rfl) Try.underlying32 rfl (by kernel_rfl)) rfl ?_
  have hlo := HLO.out
  refine ⟨_, _, by rw [HA0.out]; rfl, by rw [HA0.out]; exact Kd.S_nil _ _ _ _ _, by rw [HA0.out]; exact Kd.R_nil _ _ _ _ _, (HB3.out.setCell (p := ⟨g4, 0, none⟩) (by dsimp only; omega) _).setCell (p := ⟨g4, 1, none⟩) (by dsimp only; omega) _⟩
end Go.Proofs.Ytlnejmlphkpaaaa.PA
