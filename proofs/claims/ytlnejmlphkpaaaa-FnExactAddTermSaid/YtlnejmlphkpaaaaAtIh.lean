/- The graph seat: impl.AddTerm by hand (printed by gen/mkih.py). -/
import Derived.Test.YtlnejmlphkpaaaaAtIg
import Derived.Test.YtlnejmlphkpaaaaAtGt
import Derived.Test.YtlnejmlphkpaaaaAtGh
namespace Go.Proofs.Ytlnejmlphkpaaaa.PA
open Go.RowKit Go.Proofs.YtlnejmlphkpaaaaW.PrintWords Go.Proofs.YtlnejmlphkpaaaaW.PrintLast Go.Proofs.YtlnejmlphkpaaaaW.PrintMore
set_option linter.unusedVariables false
set_option linter.unusedSimpArgs false
theorem ansT_none {nodes : List S36} {parts : List Int} {t : List S125} (h : treeT t = none) : ansAddTerm nodes parts t = (([], []), 0, false) := by rw [ansAddTerm, h]
theorem ansT_bad {nodes : List S36} {parts : List Int} {t : List S125} (h : goodG nodes parts = false) : ansAddTerm nodes parts t = (([], []), 0, false) := by
  rw [ansAddTerm]
  cases treeT t with
  | none => rfl
  | some T => dsimp only; rw [h, if_neg (by simp)]
theorem ansT_good {nodes : List S36} {parts : List Int} {t : List S125} {T : Tm} (h : goodG nodes parts = true) (hT : treeT t = some T) : ansAddTerm nodes parts t = if (addI [] T (nodes, parts)).2 < 0 then (([], []), 0, false) else ((addI [] T (nodes, parts)).1, (addI [] T (nodes, parts)).2, true) := by
  have hk := addR_ok [] _ T (Nat.le_refl _) (treeT_some hT).2.1 (nodes, parts) (goodG_iff.1 h) (BOk.nil _ _)
  rw [ansAddTerm, hT]
  dsimp only
  by_cases hl : (addR [] T (nodes, parts)).1.1.length ≤ 120
  · obtain ⟨_, e, hc, _⟩ := hk.1 hl
    rw [if_pos ⟨h, hl⟩, e, if_neg (by have := hc.1.1; omega)]
  · rw [if_neg (fun hh => hl hh.2), if_pos (hk.2 (by omega))]
/-- A fresh graph behind a fresh pointer. -/
theorem gp_new {w8 w9 w11 : World} {nodes : List S36} {parts : List Int} {v0 v1 : Value} {g : Nat} (hs : Kd.S k36 36 w9 w8.heap.size (fun k => some k ≠ v1.ownBlock) v0 nodes) (hr : (Kd.int .i64).R 3 w9 w8.heap.size (fun _ => True) v1 parts) (hb : Below w8.heap.size w8 w9) (hb2 : Below w9.heap.size w9 w11) (hg : w9.heap.size ≤ g) (hh : w11.heap[g]? = some (.cells #[v0, v1] 32 (0, 0))) :
    GP w8 (fun k => if k < w8.heap.size then 0 else if k = g then 4 else if some k = v1.ownBlock then 2 else 1) g (nodes, parts) w11 ∧ ∀ k, k < w8.heap.size → ¬ Chg (fun k => if k < w8.heap.size then 0 else if k = g then 4 else if some k = v1.ownBlock then 2 else 1) k := by
  have hz := hb.size
  refine ⟨⟨hb.trans (hb2.mono hz), by omega, ?_, v0, v1, hh, ?_, ?_⟩, fun k hk hc => ?_⟩
  · show (if g < w8.heap.size then 0 else if g = g then 4 else _) = 4
    rw [if_neg (by omega), if_pos rfl]
  · refine Kd.S_below (Kd.S_mono (Kd.S_bound hs) (fun k hk => ?_)) hb2
    show (if k < w8.heap.size then 0 else if k = g then 4 else if some k = v1.ownBlock then 2 else 1) = 1
    rw [if_neg (by have := hk.2.1; omega), if_neg (by have := hk.2.2.1; omega), if_neg hk.1]
  · refine Kd.R_below (Kd.R_mono (Kd.R_tight rfl (Kd.R_bound hr)) (fun k hk => ?_)) hb2
    have h1 := (Kd.R_bound hr).1 k hk.symm
    show (if k < w8.heap.size then 0 else if k = g then 4 else if some k = v1.ownBlock then 2 else 1) = 2
    rw [if_neg (by have := h1.2.1; omega), if_neg (by have := h1.2.2.1; omega), if_pos hk]
  · have e : (fun k => if k < w8.heap.size then 0 else if k = g then 4 else if some k = v1.ownBlock then 2 else 1) k = 0 := if_pos hk
    unfold Chg at hc
    rw [e] at hc
    omega
set_option maxHeartbeats 8000000 in
set_option maxRecDepth 100000 in
theorem implAddTerm_any {A0 A1 A : Option Addr} {c0 c1 c : Nat} (nodes : List S36) (parts : List Int) (t : List S125) (w : World) (h0 : Kd.C k36 w A0 nodes.length nodes) (l0 : nodes.length ≤ c0) (h1 : Kd.C (Kd.int .i64) w A1 parts.length parts) (l1 : parts.length ≤ c1) (h2 : Kd.C k125 w A t.length t) (l2 : t.length ≤ c) :
    Calls Try.prog 41 #[.agg #[.slice A0 nodes.length c0, .slice A1 parts.length c1], .slice A t.length c] w fun e w' => ∃ v0 v1 : Value, e = .returned (.tuple #[.agg #[v0, v1], .int .i64 (ansAddTerm nodes parts t).2.1, .bool (ansAddTerm nodes parts t).2.2]) ∧ Kd.S k36 36 w' w.heap.size (fun k => some k ≠ v1.ownBlock) v0 (ansAddTerm nodes parts t).1.1 ∧ (Kd.int .i64).R 3 w' w.heap.size (fun _ => True) v1 (ansAddTerm nodes parts t).1.2 ∧ Below w.heap.size w w' := by
  have T36 := Aside0.mk (fun W (hW : Below w.heap.size w W) => impl_good_calls (A0 := A0) (A1 := A1) W (Kd.C_below h0 hW) l0 (Kd.C_below h1 hW) l1)
  have T98 := Aside0.mk (fun W (hW : Below w.heap.size w W) => treeOf_any t W (Kd.C_below h2 hW) l2)
  obtain ⟨o1, ho1⟩ : ∃ o : Obj, o = .cells #[.slice A0 nodes.length c0, .slice A1 parts.length c1] 32 := ⟨_, rfl⟩
  obtain ⟨o3, ho3⟩ : ∃ o : Obj, o = .cells #[.slice none 0 0, .slice none 0 0] 32 := ⟨_, rfl⟩
  have B1 := Aside0.mk (show ((w.alloc o1).alloc o3).heap[w.heap.size]? = some (.cells #[.slice A0 nodes.length c0, .slice A1 parts.length c1] 32 (0, 0)) from by rw [← ho1]; exact blk_alloc (blk_new w o1) _)
  have B3 := Aside0.mk (show ((w.alloc o1).alloc o3).heap[w.heap.size + 1]? = some (.cells #[.slice none 0 0, .slice none 0 0] 32 (0, 0)) from by rw [← ho3]; simpa using blk_new (w.alloc o1) o3)
  have HB0 := Aside0.mk (show Below w.heap.size w ((w.alloc o1).alloc o3) from below_alloc (below_alloc (Below.refl _ _) _) _)
  have HSZ0 := Aside0.mk (show ((w.alloc o1).alloc o3).heap.size = w.heap.size + 2 by simp)
  subst ho1 ho3
  have hm0 := Kd.C_max h0
  have hm1 := Kd.C_max h1
  have HR0 := Aside0.mk h0
  have HR1 := Aside0.mk h1
  have HL0 := Aside0.mk l0
  have HL1 := Aside0.mk l1
  cases htt : treeT t with
  | none =>
    have HTN := Aside0.mk htt
    have HA := Aside0.mk (ansT_none (nodes := nodes) (parts := parts) htt)
    clear h0 h1 h2 l0 l1 l2 htt
    go_enter Try.func41, Try.ntmps41
    go_wp2_with (go_at_call 98; refine (T98.out _ HB0.out).mono ?_; rintro e w7 ⟨p, rfl, hb, hp⟩; obtain rfl := TreeP.none HTN.out hp; have HB7 := Aside0.mk (HB0.out.trans (hb.mono HB0.out.size)); have HZ7 := Aside0.mk (show w.heap.size + 2 ≤ w7.heap.size by rw [← HSZ0.out]; exact hb.size); have D1 := blk_below B1.out hb; have D3 := blk_below B3.out hb; have HD1 := Aside0.mk D1; have HD3 := Aside0.mk D3; have k0 := blk_cell D1 0; have k1 := blk_cell D1 1; have z0 := blk_cell D3 0; have z1 := blk_cell D3 1; (try simp only [List.getElem?_toArray, List.getElem?_cons_zero, List.getElem?_cons_succ] at k0 k1 z0 z1); have f0 := blk_frozen D3 0; have f1 := blk_frozen D3 1; clear hb D1 D3 hp)
    refine bodyPost_ret (results_ctt (p := 4) (u := 5) (v := 6) rfl _ _ (w.heap.size + 1) 32 #[.slice none 0 0, .slice none 0 0] (0, 0) _ rfl (blk_put (blk_put HD3.out 0 _ rfl) 1 _ rfl) Try.underlying32 rfl (by kernel_rfl)) rfl ?_
    refine ⟨_, _, by rw [HA.out]; rfl, by rw [HA.out]; exact Kd.S_nil _ _ _ _ _, by rw [HA.out]; exact Kd.R_nil _ _ _ _ _, (HB7.out.setCell (p := ⟨w.heap.size + 1, 0, none⟩) (by dsimp only; omega) _).setCell (p := ⟨w.heap.size + 1, 1, none⟩) (by dsimp only; omega) _⟩
  | some T =>
    have HTN := Aside0.mk htt
    rcases Bool.eq_false_or_eq_true (goodG nodes parts) with hg | hg
    · have hgr := goodG_iff.1 hg
      rw [hg] at T36
      have hks : ∀ y ∈ nodes, y.f2.length ≤ 1000 := (good_GI (G := (nodes, parts)) hgr).kids
      have T66 := Aside0.mk (fun W (hW : Below w.heap.size w W) => cloneG_calls (A0 := A0) (A1 := A1) W (Kd.C_below h0 hW) l0 (Kd.C_below h1 hW) l1 (by have := hgr.most; omega) (by have := hgr.most; have := hgr.len; omega) hks)
      have HANS := Aside0.mk (ansT_good hg htt)
      have T101 := Aside0.mk (fun (W0 W : World) lab g gp (hgp : GP W0 lab g (nodes, parts) W) (hT : TreeF W (fun k => w.heap.size + 2 ≤ k ∧ k < W0.heap.size) T (some ⟨gp, 0, none⟩)) (hl : ∀ k, k < W0.heap.size → ¬ Chg lab k) => putTree_any [] (Ab := none) (cb := 0) (fun _ => rfl) (Nat.le_refl _) _ T (Nat.le_refl _) (treeT_some htt).2.1 W0 W lab g (nodes, parts) (some ⟨gp, 0, none⟩) (fun k => w.heap.size + 2 ≤ k ∧ k < W0.heap.size) hgp (good_GW hgr) (fun h => absurd rfl h) hT (fun k hk => hl k hk.2) (Kd.F_nil _ _ _))
      obtain ⟨pk, hpk⟩ : ∃ p, p = addI [] T (nodes, parts) := ⟨_, rfl⟩
      unfold PutT at T101
      rw [← hpk] at HANS T101
      simp only [List.length_nil] at T101
      clear h0 h1 h2 l0 l1 l2 hg hgr hks hpk htt
      by_cases hneg : pk.2 < 0
      · have HA := Aside0.mk (show ansAddTerm nodes parts t = (([], []), 0, false) by rw [HANS.out, if_pos hneg])
        have d0 : (pk.2 < 0) = True := eq_true hneg
        clear HANS hneg
        go_enter Try.func41, Try.ntmps41
        go_wp2_with (first | (go_at_call 98; refine (T98.out _ HB0.out).mono ?_; rintro e w7 ⟨p, rfl, hb, hp⟩; have hp2 := TreeP.some HTN.out hp; obtain ⟨gp, egp⟩ := TreeF_some hp2; subst egp; have HT7 := Aside0.mk (show TreeF w7 (fun k => w.heap.size + 2 ≤ k) T (some ⟨gp, 0, none⟩) by rw [← HSZ0.out]; exact hp2); clear hp2; have HB7 := Aside0.mk (HB0.out.trans (hb.mono HB0.out.size)); have HZ7 := Aside0.mk (show w.heap.size + 2 ≤ w7.heap.size by rw [← HSZ0.out]; exact hb.size); have D1 := blk_below B1.out hb; have D3 := blk_below B3.out hb; have HD1 := Aside0.mk D1; have HD3 := Aside0.mk D3; have k0 := blk_cell D1 0; have k1 := blk_cell D1 1; have z0 := blk_cell D3 0; have z1 := blk_cell D3 1; (try simp only [List.getElem?_toArray, List.getElem?_cons_zero, List.getElem?_cons_succ] at k0 k1 z0 z1); have f0 := blk_frozen D3 0; have f1 := blk_frozen D3 1; clear hb D1 D3 hp) | (go_at_call 36; refine (T36.out _ HB7.out).mono ?_; rintro e w8 ⟨rfl, hb⟩; have HB8 := Aside0.mk (HB7.out.trans (hb.mono HB7.out.size)); have HZ8 := Aside0.mk (Nat.le_trans HZ7.out hb.size); have HT8 := Aside0.mk (TreeF.step (fun k _ hk => hb.block k hk) _ _ HT7.out); have D1 := blk_below HD1.out hb; have D3 := blk_below HD3.out hb; clear k0 k1 z0 z1 f0 f1 HD1 HD3; have HD1 := Aside0.mk D1; have HD3 := Aside0.mk D3; have k0 := blk_cell D1 0; have k1 := blk_cell D1 1; have z0 := blk_cell D3 0; have z1 := blk_cell D3 1; (try simp only [List.getElem?_toArray, List.getElem?_cons_zero, List.getElem?_cons_succ] at k0 k1 z0 z1); have f0 := blk_frozen D3 0; have f1 := blk_frozen D3 1; clear hb D1 D3) | (go_at_call 66; refine (T66.out _ HB8.out).mono ?_; rintro e w9 ⟨u0, u1, rfl, hs, hr, hb⟩; obtain ⟨Au, cu, rfl⟩ := Kd.S_slice hs; obtain ⟨Av, cv, rfl⟩ := Kd.R_slice hr; have HS9 := Aside0.mk hs; have HR9 := Aside0.mk hr; have HB9 := Aside0.mk hb; clear hs hr hb k0 k1 z0 z1 f0 f1) | ((with_reducible refine gate_dst (N := 8) rfl ?_); refine box_event ?hg (N := 8) ?hd (cs := #[.slice none 0 0, .slice none 0 0]) (t := 32) ?hr ?_; (case hd => rfl); (case hg => rfl); (case hr => first | (go_simp; done) | (go_simp; rfl)); intro g8 hg w10 hbox hb; have H8 := Aside0.mk hbox; have G8 := Aside0.mk hg; have HB10 := Aside0.mk hb; have z0 := blk_cell hbox 0; have z1 := blk_cell hbox 1; (try simp only [List.getElem?_toArray, List.getElem?_cons_zero, List.getElem?_cons_succ] at z0 z1); have f0 := blk_frozen hbox 0; have f1 := blk_frozen hbox 1; clear hg hbox hb) | ((with_reducible refine gate_store (t := 32) (p := 8) rfl ?_); refine store_event (t := 32) (p := 8) (v := ?vo) (w1 := (w10.setCell ⟨g8, 0, none⟩ (.slice Au nodes.length cu)).setCell ⟨g8, 1, none⟩ (.slice Av parts.length cv)) ?hg ?ho ?hn ?hr ?_; (case ho => rfl); (case hg => rfl); (case hn => rfl); (case hr => first | (go_simp; done) | (go_simp; rfl)); intro w11 hw; have hbb : Below w9.heap.size w9 w11 := (by rw [hw]; exact (HB10.out.setCell (p := ⟨g8, 0, none⟩) (Nat.le_of_eq G8.out.symm) _).setCell (p := ⟨g8, 1, none⟩) (Nat.le_of_eq G8.out.symm) _); have HGP := Aside0.mk (gp_new HS9.out HR9.out HB9.out hbb (Nat.le_of_eq G8.out.symm) (show w11.heap[g8]? = some (.cells #[.slice Au nodes.length cu, .slice Av parts.length cv] 32 (0, 0)) from by rw [hw]; exact blk_put (blk_put H8.out 0 _ rfl) 1 _ rfl)); have HBB := Aside0.mk (HB9.out.trans (hbb.mono HB9.out.size)); clear z0 z1 f0 f1 hw hbb) | (go_at_call 101; refine (T101.out w8 w11 _ g8 gp HGP.out.1 (TreeF.step (fun k _ hk => HBB.out.block k hk) _ _ (TreeF.imp (fun k hk hl => ⟨hk, hl⟩) _ _ HT8.out)) (fun k hk => HGP.out.2 k hk)).mono ?_; rintro e w12 ⟨rfl, lab', hgp, hlo, hkk⟩; obtain ⟨u0, u1, hgb, hs, hr⟩ := hgp.ex; obtain ⟨Ap, cp, rfl⟩ := Kd.S_slice hs; obtain ⟨Aq, cq, rfl⟩ := Kd.R_slice hr; have HS12 := Aside0.mk hs; have HR12 := Aside0.mk hr; have HB12 := Aside0.mk hgp.below; have n0 := blk_cell hgb 0; have n1 := blk_cell hgb 1; have D3 := blk_kept (blk_below HD3.out HBB.out) hkk (HGP.out.2 _ (by have := HZ8.out; omega)); have z0 := blk_cell D3 0; have z1 := blk_cell D3 1; (try simp only [List.getElem?_toArray, List.getElem?_cons_zero, List.getElem?_cons_succ] at n0 n1 z0 z1); have f0 := blk_frozen D3 0; have f1 := blk_frozen D3 1; have HF3 := Aside0.mk D3; clear hgb hs hr hkk hgp hlo D3))
        refine bodyPost_ret (results_ctt (p := 4) (u := 5) (v := 6) rfl _ _ (w.heap.size + 1) 32 #[.slice none 0 0, .slice none 0 0] (0, 0) _ rfl (blk_put (blk_put HF3.out 0 _ rfl) 1 _ rfl) Try.underlying32 rfl (by kernel_rfl)) rfl ?_
        refine ⟨_, _, by rw [HA.out]; rfl, by rw [HA.out]; exact Kd.S_nil _ _ _ _ _, by rw [HA.out]; exact Kd.R_nil _ _ _ _ _, ((HB8.out.trans (HB12.out.mono HB8.out.size)).setCell (p := ⟨w.heap.size + 1, 0, none⟩) (by dsimp only; omega) _).setCell (p := ⟨w.heap.size + 1, 1, none⟩) (by dsimp only; omega) _⟩
      · have HA := Aside0.mk (show ansAddTerm nodes parts t = (pk.1, pk.2, true) by rw [HANS.out, if_neg hneg])
        have d0 : (pk.2 < 0) = False := eq_false hneg
        clear HANS hneg
        go_enter Try.func41, Try.ntmps41
        go_wp2_with (first | (go_at_call 98; refine (T98.out _ HB0.out).mono ?_; rintro e w7 ⟨p, rfl, hb, hp⟩; have hp2 := TreeP.some HTN.out hp; obtain ⟨gp, egp⟩ := TreeF_some hp2; subst egp; have HT7 := Aside0.mk (show TreeF w7 (fun k => w.heap.size + 2 ≤ k) T (some ⟨gp, 0, none⟩) by rw [← HSZ0.out]; exact hp2); clear hp2; have HB7 := Aside0.mk (HB0.out.trans (hb.mono HB0.out.size)); have HZ7 := Aside0.mk (show w.heap.size + 2 ≤ w7.heap.size by rw [← HSZ0.out]; exact hb.size); have D1 := blk_below B1.out hb; have D3 := blk_below B3.out hb; have HD1 := Aside0.mk D1; have HD3 := Aside0.mk D3; have k0 := blk_cell D1 0; have k1 := blk_cell D1 1; have z0 := blk_cell D3 0; have z1 := blk_cell D3 1; (try simp only [List.getElem?_toArray, List.getElem?_cons_zero, List.getElem?_cons_succ] at k0 k1 z0 z1); have f0 := blk_frozen D3 0; have f1 := blk_frozen D3 1; clear hb D1 D3 hp) | (go_at_call 36; refine (T36.out _ HB7.out).mono ?_; rintro e w8 ⟨rfl, hb⟩; have HB8 := Aside0.mk (HB7.out.trans (hb.mono HB7.out.size)); have HZ8 := Aside0.mk (Nat.le_trans HZ7.out hb.size); have HT8 := Aside0.mk (TreeF.step (fun k _ hk => hb.block k hk) _ _ HT7.out); have D1 := blk_below HD1.out hb; have D3 := blk_below HD3.out hb; clear k0 k1 z0 z1 f0 f1 HD1 HD3; have HD1 := Aside0.mk D1; have HD3 := Aside0.mk D3; have k0 := blk_cell D1 0; have k1 := blk_cell D1 1; have z0 := blk_cell D3 0; have z1 := blk_cell D3 1; (try simp only [List.getElem?_toArray, List.getElem?_cons_zero, List.getElem?_cons_succ] at k0 k1 z0 z1); have f0 := blk_frozen D3 0; have f1 := blk_frozen D3 1; clear hb D1 D3) | (go_at_call 66; refine (T66.out _ HB8.out).mono ?_; rintro e w9 ⟨u0, u1, rfl, hs, hr, hb⟩; obtain ⟨Au, cu, rfl⟩ := Kd.S_slice hs; obtain ⟨Av, cv, rfl⟩ := Kd.R_slice hr; have HS9 := Aside0.mk hs; have HR9 := Aside0.mk hr; have HB9 := Aside0.mk hb; clear hs hr hb k0 k1 z0 z1 f0 f1) | ((with_reducible refine gate_dst (N := 8) rfl ?_); refine box_event ?hg (N := 8) ?hd (cs := #[.slice none 0 0, .slice none 0 0]) (t := 32) ?hr ?_; (case hd => rfl); (case hg => rfl); (case hr => first | (go_simp; done) | (go_simp; rfl)); intro g8 hg w10 hbox hb; have H8 := Aside0.mk hbox; have G8 := Aside0.mk hg; have HB10 := Aside0.mk hb; have z0 := blk_cell hbox 0; have z1 := blk_cell hbox 1; (try simp only [List.getElem?_toArray, List.getElem?_cons_zero, List.getElem?_cons_succ] at z0 z1); have f0 := blk_frozen hbox 0; have f1 := blk_frozen hbox 1; clear hg hbox hb) | ((with_reducible refine gate_store (t := 32) (p := 8) rfl ?_); refine store_event (t := 32) (p := 8) (v := ?vo) (w1 := (w10.setCell ⟨g8, 0, none⟩ (.slice Au nodes.length cu)).setCell ⟨g8, 1, none⟩ (.slice Av parts.length cv)) ?hg ?ho ?hn ?hr ?_; (case ho => rfl); (case hg => rfl); (case hn => rfl); (case hr => first | (go_simp; done) | (go_simp; rfl)); intro w11 hw; have hbb : Below w9.heap.size w9 w11 := (by rw [hw]; exact (HB10.out.setCell (p := ⟨g8, 0, none⟩) (Nat.le_of_eq G8.out.symm) _).setCell (p := ⟨g8, 1, none⟩) (Nat.le_of_eq G8.out.symm) _); have HGP := Aside0.mk (gp_new HS9.out HR9.out HB9.out hbb (Nat.le_of_eq G8.out.symm) (show w11.heap[g8]? = some (.cells #[.slice Au nodes.length cu, .slice Av parts.length cv] 32 (0, 0)) from by rw [hw]; exact blk_put (blk_put H8.out 0 _ rfl) 1 _ rfl)); have HBB := Aside0.mk (HB9.out.trans (hbb.mono HB9.out.size)); clear z0 z1 f0 f1 hw hbb) | (go_at_call 101; refine (T101.out w8 w11 _ g8 gp HGP.out.1 (TreeF.step (fun k _ hk => HBB.out.block k hk) _ _ (TreeF.imp (fun k hk hl => ⟨hk, hl⟩) _ _ HT8.out)) (fun k hk => HGP.out.2 k hk)).mono ?_; rintro e w12 ⟨rfl, lab', hgp, hlo, hkk⟩; obtain ⟨u0, u1, hgb, hs, hr⟩ := hgp.ex; obtain ⟨Ap, cp, rfl⟩ := Kd.S_slice hs; obtain ⟨Aq, cq, rfl⟩ := Kd.R_slice hr; have HS12 := Aside0.mk hs; have HR12 := Aside0.mk hr; have HB12 := Aside0.mk hgp.below; have n0 := blk_cell hgb 0; have n1 := blk_cell hgb 1; have D3 := blk_kept (blk_below HD3.out HBB.out) hkk (HGP.out.2 _ (by have := HZ8.out; omega)); have z0 := blk_cell D3 0; have z1 := blk_cell D3 1; (try simp only [List.getElem?_toArray, List.getElem?_cons_zero, List.getElem?_cons_succ] at n0 n1 z0 z1); have f0 := blk_frozen D3 0; have f1 := blk_frozen D3 1; have HF3 := Aside0.mk D3; clear hgb hs hr hkk hgp hlo D3))
        refine bodyPost_ret (results_ctt (p := 4) (u := 5) (v := 6) rfl _ _ (w.heap.size + 1) 32 #[.slice Ap pk.1.1.length cp, .slice Aq pk.1.2.length cq] (0, 0) _ rfl (blk_put (blk_put HF3.out 0 _ rfl) 1 _ rfl) Try.underlying32 rfl (by kernel_rfl)) rfl ?_
        refine ⟨_, _, by rw [HA.out]; rfl, ?_, ?_, ((HB8.out.trans (HB12.out.mono HB8.out.size)).setCell (p := ⟨w.heap.size + 1, 0, none⟩) (by dsimp only; omega) _).setCell (p := ⟨w.heap.size + 1, 1, none⟩) (by dsimp only; omega) _⟩
        · rw [HA.out]
          exact Kd.S_lower (Kd.S_mono (Kd.S_far (p := ⟨w.heap.size + 1, 1, none⟩) (Kd.S_far (p := ⟨w.heap.size + 1, 0, none⟩) (Kd.S_bound HS12.out) (fun k hk => by have h1 := hk.2.1; have h2 := HZ8.out; dsimp only; omega) _) (fun k hk => by have h1 := hk.2.1; have h2 := HZ8.out; dsimp only; omega) _) (fun k hk he => by have h3 := HR12.out.1 k he.symm; have h4 := hk.1; omega)) HB8.out.size
        · rw [HA.out]
          exact Kd.R_lower (Kd.R_mono (Kd.R_far (p := ⟨w.heap.size + 1, 1, none⟩) (Kd.R_far (p := ⟨w.heap.size + 1, 0, none⟩) (Kd.R_bound HR12.out) (fun k hk => by have h1 := hk.2.1; have h2 := HZ8.out; dsimp only; omega) _) (fun k hk => by have h1 := hk.2.1; have h2 := HZ8.out; dsimp only; omega) _) (fun k hk => trivial)) HB8.out.size
    · rw [hg] at T36
      have HA := Aside0.mk (ansT_bad (t := t) hg)
      clear h0 h1 h2 l0 l1 l2 hg htt
      go_enter Try.func41, Try.ntmps41
      go_wp2_with (first | (go_at_call 98; refine (T98.out _ HB0.out).mono ?_; rintro e w7 ⟨p, rfl, hb, hp⟩; have hp2 := TreeP.some HTN.out hp; obtain ⟨gp, egp⟩ := TreeF_some hp2; subst egp; have HT7 := Aside0.mk (show TreeF w7 (fun k => w.heap.size + 2 ≤ k) T (some ⟨gp, 0, none⟩) by rw [← HSZ0.out]; exact hp2); clear hp2; have HB7 := Aside0.mk (HB0.out.trans (hb.mono HB0.out.size)); have HZ7 := Aside0.mk (show w.heap.size + 2 ≤ w7.heap.size by rw [← HSZ0.out]; exact hb.size); have D1 := blk_below B1.out hb; have D3 := blk_below B3.out hb; have HD1 := Aside0.mk D1; have HD3 := Aside0.mk D3; have k0 := blk_cell D1 0; have k1 := blk_cell D1 1; have z0 := blk_cell D3 0; have z1 := blk_cell D3 1; (try simp only [List.getElem?_toArray, List.getElem?_cons_zero, List.getElem?_cons_succ] at k0 k1 z0 z1); have f0 := blk_frozen D3 0; have f1 := blk_frozen D3 1; clear hb D1 D3 hp) | (go_at_call 36; refine (T36.out _ HB7.out).mono ?_; rintro e w8 ⟨rfl, hb⟩; have HB8 := Aside0.mk (HB7.out.trans (hb.mono HB7.out.size)); have HZ8 := Aside0.mk (Nat.le_trans HZ7.out hb.size); have HT8 := Aside0.mk (TreeF.step (fun k _ hk => hb.block k hk) _ _ HT7.out); have D1 := blk_below HD1.out hb; have D3 := blk_below HD3.out hb; clear k0 k1 z0 z1 f0 f1 HD1 HD3; have HD1 := Aside0.mk D1; have HD3 := Aside0.mk D3; have k0 := blk_cell D1 0; have k1 := blk_cell D1 1; have z0 := blk_cell D3 0; have z1 := blk_cell D3 1; (try simp only [List.getElem?_toArray, List.getElem?_cons_zero, List.getElem?_cons_succ] at k0 k1 z0 z1); have f0 := blk_frozen D3 0; have f1 := blk_frozen D3 1; clear hb D1 D3))
      refine bodyPost_ret (results_ctt (p := 4) (u := 5) (v := 6) rfl _ _ (w.heap.size + 1) 32 #[.slice none 0 0, .slice none 0 0] (0, 0) _ rfl (blk_put (blk_put HD3.out 0 _ rfl) 1 _ rfl) Try.underlying32 rfl (by kernel_rfl)) rfl ?_
      refine ⟨_, _, by rw [HA.out]; rfl, by rw [HA.out]; exact Kd.S_nil _ _ _ _ _, by rw [HA.out]; exact Kd.R_nil _ _ _ _ _, (HB8.out.setCell (p := ⟨w.heap.size + 1, 0, none⟩) (by dsimp only; omega) _).setCell (p := ⟨w.heap.size + 1, 1, none⟩) (by dsimp only; omega) _⟩
end Go.Proofs.Ytlnejmlphkpaaaa.PA
