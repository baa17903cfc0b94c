/- The graph seat: the walk of laws.FnExactAddTerm (printed by gen/mkim.py). -/
import Derived.Test.YtlnejmlphkpaaaaAtIl
namespace Go.Proofs.Ytlnejmlphkpaaaa.PA
open Go.RowKit Go.Proofs.YtlnejmlphkpaaaaW.PrintWords Go.Proofs.YtlnejmlphkpaaaaW.PrintLast Go.Proofs.YtlnejmlphkpaaaaW.PrintMore
set_option linter.unusedVariables false
set_option linter.unusedSimpArgs false
set_option maxHeartbeats 16000000 in
set_option maxRecDepth 100000 in
theorem law_AddTerm (nodes : List S27) (parts : List Int) (t : List S127) {A0 A1 A : Option Addr} {c0 c1 c : Nat} (w : World) (h0 : Kd.C k27 w A0 nodes.length nodes) (l0 : nodes.length ≤ c0) (h1 : Kd.C (Kd.int .i64) w A1 parts.length parts) (l1 : parts.length ≤ c1) (h2 : Kd.C k127 w A t.length t) (l2 : t.length ≤ c) (hf : FitG nodes parts) (hft : t.length ≤ Max) :
    Calls Try.prog 7 #[.agg #[.slice A0 nodes.length c0, .slice A1 parts.length c1], .slice A t.length c] w fun e w' => e = .returned (.bool true) ∧ Below w.heap.size w w' := by
  obtain ⟨o1, ho1⟩ : ∃ o : Obj, o = .cells #[.slice A0 nodes.length c0, .slice A1 parts.length c1] 25 := ⟨_, rfl⟩
  have B2 := Aside0.mk (show (w.alloc o1).heap[w.heap.size]? = some (.cells #[.slice A0 nodes.length c0, .slice A1 parts.length c1] 25 (0, 0)) from by rw [← ho1]; exact blk_new w o1)
  have HB0 := Aside0.mk (show Below w.heap.size w (w.alloc o1) from below_alloc (Below.refl _ _) _)
  have HZ0 := Aside0.mk (show w.heap.size < (w.alloc o1).heap.size by simp)
  subst ho1
  obtain ⟨r, hev, hsm⟩ := szG_any nodes parts 1048576 (by omega) (by omega) hf
  obtain ⟨kz, hkz⟩ := Ev.rounds hev
  have T10 := Aside0.mk (fun W (hW : Below w.heap.size w W) => laws_szEGraph.calls kz A0 c0 nodes A1 c1 parts 1048576 r W (Kd.C_below h0 hW) l0 (Kd.C_below h1 hW) l1 hkz)
  by_cases hr0 : r < 0
  · have d0 : decide (r < 0) = true := decide_eq_true hr0
    clear h0 h1 h2 l0 l1 l2 hf hft hev hsm hkz hr0
    go_enter Try.func7, Try.ntmps7
    go_wp2_with (go_at_call 10; refine (T10.out _ (by repeat (first | exact HB0.out | apply pw_below_drewN | apply below_drew1))).mono ?_; rintro e w1 ⟨rfl, hb⟩; have HB1 := Aside0.mk (HB0.out.trans (hb.mono HB0.out.size)); clear hb)
    go_ret
    exact ⟨rfl, HB1.out⟩
  have d0 : decide (r < 0) = false := decide_eq_false hr0
  obtain ⟨g0, g1, hsm⟩ := hsm.resolve_left hr0
  obtain ⟨r2, he2, hs2⟩ := szT_any t r g0 g1 hft
  have T46 := Aside0.mk (show ∀ W, Below w.heap.size w W → Calls Try.prog 46 #[.slice A t.length c, .int .i64 r] W fun e w' => e = .returned (.int .i64 r2) ∧ Below W.heap.size W w' from fun W hW => (laws_szNodeS.calls A c t r r2 W (Kd.C_below h2 hW) l2 he2).mono fun e w' h => ⟨h.1, h.2.below⟩)
  by_cases hr2 : r2 < 0
  · have d2 : decide (r2 < 0) = true := decide_eq_true hr2
    clear h0 h1 h2 l0 l1 l2 hf hft hev hsm hkz hr0 hr2 hs2 he2 g0 g1
    go_enter Try.func7, Try.ntmps7
    go_wp2_with (first | (go_at_call 10; refine (T10.out _ (by repeat (first | exact HB0.out | apply pw_below_drewN | apply below_drew1))).mono ?_; rintro e w1 ⟨rfl, hb⟩; have HB1 := Aside0.mk (HB0.out.trans (hb.mono HB0.out.size)); clear hb) | (go_at_call 46; refine (T46.out _ HB1.out).mono ?_; rintro e w2 ⟨rfl, hb⟩; have HB2 := Aside0.mk (HB1.out.trans (hb.mono HB1.out.size)); clear hb))
    go_ret
    exact ⟨rfl, HB2.out⟩
  have d2 : decide (r2 < 0) = false := decide_eq_false hr2
  have htl : t.length ≤ 1048576 := by
    rcases hs2 with h | h
    · exact absurd h hr2
    · exact h.2.2
  have T13 := Aside0.mk (fun W (hW : Below w.heap.size w W) => toG_any hsm W (Kd.C_below h0 hW) l0 (Kd.C_below h1 hW) l1)
  have T47 := Aside0.mk (fun W (hW : Below w.heap.size w W) => toT_any htl W (Kd.C_below h2 hW) l2)
  have hNl : (nodes.map cN).length ≤ 1048576 := by rw [List.length_map]; exact hsm.1.1
  have hNk : ∀ y ∈ nodes.map cN, y.f2.length ≤ 1048576 := fun y hy => by
    obtain ⟨z, hz, rfl⟩ := List.mem_map.1 hy
    exact hsm.1.2 z hz
  have hPl := hsm.2
  obtain ⟨N, hN⟩ : ∃ N, N = nodes.map cN := ⟨_, rfl⟩
  rw [← hN] at T13 hNl hNk
  obtain ⟨tT, htT⟩ : ∃ tT, tT = t.map cT := ⟨_, rfl⟩
  have hTl : tT.length ≤ 1048576 := by rw [htT, List.length_map]; exact htl
  rw [← htT] at T47
  obtain ⟨s1, s2, s3⟩ := ansT_small N parts tT
  have T42 := Aside0.mk (fun W v v' (hg : GC W v N parts) (hx : TC W v' tT) => (by
    obtain ⟨A, c, A', c', rfl, e1, e2, e3, e4⟩ := hg
    obtain ⟨B, d, rfl, e5, e6⟩ := hx
    exact specAddTerm_any N parts tT W e1 e2 e3 e4 e5 e6 : Calls Try.prog 42 #[v, v'] W fun e w' => ∃ v0 v1 : Value, e = .returned (.tuple #[.agg #[v0, v1], .int .i64 (ansAddTerm N parts tT).2.1, .bool (ansAddTerm N parts tT).2.2]) ∧ Kd.S k36 36 w' W.heap.size (fun k => some k ≠ v1.ownBlock) v0 (ansAddTerm N parts tT).1.1 ∧ (Kd.int .i64).R 3 w' W.heap.size (fun _ => True) v1 (ansAddTerm N parts tT).1.2 ∧ Below W.heap.size W w'))
  have T41 := Aside0.mk (fun W v v' (hg : GC W v N parts) (hx : TC W v' tT) => (by
    obtain ⟨A, c, A', c', rfl, e1, e2, e3, e4⟩ := hg
    obtain ⟨B, d, rfl, e5, e6⟩ := hx
    exact implAddTerm_any N parts tT W e1 e2 e3 e4 e5 e6 : Calls Try.prog 41 #[v, v'] W fun e w' => ∃ v0 v1 : Value, e = .returned (.tuple #[.agg #[v0, v1], .int .i64 (ansAddTerm N parts tT).2.1, .bool (ansAddTerm N parts tT).2.2]) ∧ Kd.S k36 36 w' W.heap.size (fun k => some k ≠ v1.ownBlock) v0 (ansAddTerm N parts tT).1.1 ∧ (Kd.int .i64).R 3 w' W.heap.size (fun _ => True) v1 (ansAddTerm N parts tT).1.2 ∧ Below W.heap.size W w'))
  obtain ⟨a1, ha1⟩ : ∃ y, y = (ansAddTerm N parts tT).1.1 := ⟨_, rfl⟩
  obtain ⟨a2, ha2⟩ : ∃ y, y = (ansAddTerm N parts tT).1.2 := ⟨_, rfl⟩
  obtain ⟨ai, hai⟩ : ∃ y, y = (ansAddTerm N parts tT).2.1 := ⟨_, rfl⟩
  obtain ⟨ab, hab⟩ : ∃ y, y = (ansAddTerm N parts tT).2.2 := ⟨_, rfl⟩
  rw [← ha1, ← ha2, ← hai, ← hab] at T42 T41
  rw [← ha1] at s1 s2
  rw [← ha2] at s3
  have HS1 := Aside0.mk (And.intro s1 (And.intro s2 s3))
  have HNL := Aside0.mk (And.intro hNl (And.intro hNk hPl))
  have HTL2 := Aside0.mk hTl
  have hab' : (ab != ab) = false := by simp
  have hai' : (ai != ai) = false := by simp
  have FA := Aside0.mk True.intro
  have FB := Aside0.mk True.intro
  have y0 := True.intro
  have y1 := True.intro
  clear h0 h1 h2 l0 l1 l2 hf hft hev hsm hkz hr0 hr2 hs2 he2 g0 g1 htl hNl hNk hPl hN hTl htT ha1 ha2 hai hab s1 s2 s3
  go_enter Try.func7, Try.ntmps7
  go_wp2_with (first | (go_at_call 10; refine (T10.out _ HB0.out).mono ?_; rintro e w1 ⟨rfl, hb⟩; have HB1 := Aside0.mk (HB0.out.trans (hb.mono HB0.out.size)); have HK2 := Aside0.mk (blk_below B2.out hb); clear hb y0 y1 T10) | (go_at_call 46; refine (T46.out _ HB1.out).mono ?_; rintro e w2 ⟨rfl, hb⟩; have HB2 := Aside0.mk (HB1.out.trans (hb.mono HB1.out.size)); have HK3 := Aside0.mk (blk_below HK2.out hb); clear hb HK2; have y0 := blk_cell HK3.out 0; have y1 := blk_cell HK3.out 1; (try simp only [List.getElem?_toArray, List.getElem?_cons_zero, List.getElem?_cons_succ] at y0 y1)) | (go_at_call 13; have hfa := FA.out; refine (T13.out _ HB2.out).mono ?_; rintro e wB ⟨v0, v1, rfl, hs, hr, hb⟩; obtain ⟨A5, d5, rfl⟩ := Kd.S_slice hs; obtain ⟨B5, e5, rfl⟩ := Kd.R_slice hr; have HS5 := Aside0.mk hs; have HR5 := Aside0.mk hr; have HBB := Aside0.mk (HB2.out.trans (hb.mono HB2.out.size)); have HK4 := Aside0.mk (blk_below HK3.out hb); clear hfa FA hs hr hb y0 y1 HK3) | (go_at_call 47; have hfa := FB.out; refine (T47.out _ HBB.out).mono ?_; rintro e wC ⟨v2, rfl, hr, hb⟩; obtain ⟨C5, f5, rfl⟩ := Kd.R_slice hr; have HT5 := Aside0.mk hr; have HBC := Aside0.mk (HBB.out.trans (hb.mono HBB.out.size)); have HBBC := Aside0.mk hb; have HK5 := Aside0.mk (blk_below HK4.out hb); clear hfa FB hr hb HK4) | (go_at_call 42; refine (T42.out wC (.agg #[.slice A5 N.length d5, .slice B5 parts.length e5]) (.slice C5 tT.length f5) ⟨_, _, _, _, rfl, Kd.C_below (Kd.S_reads' HS5.out).2.2 HBBC.out, (Kd.S_reads' HS5.out).2.1, Kd.C_below (Kd.R_reads' HR5.out).2.2 HBBC.out, (Kd.R_reads' HR5.out).2.1⟩ ⟨_, _, rfl, (Kd.R_reads' HT5.out).2.2, (Kd.R_reads' HT5.out).2.1⟩).mono ?_; rintro e wD ⟨u0, u1, rfl, hs, hr, hb⟩; obtain ⟨Au, cu, rfl⟩ := Kd.S_slice hs; obtain ⟨Av, cv, rfl⟩ := Kd.R_slice hr; have HS6 := Aside0.mk hs; have HR6 := Aside0.mk hr; have HBD := Aside0.mk (HBC.out.trans (hb.mono HBC.out.size)); have HZD := Aside0.mk hb.size; have HK6 := Aside0.mk (blk_below HK5.out hb); have HKL := Aside0.mk (blk_lt HK6.out); clear hs hr hb HK5 T42 HS5 HR5 HT5 HBBC HBB) | ((with_reducible refine gate_dst (N := 6) rfl ?_); refine box_event ?hg (N := 6) ?hd (cs := #[.slice none 0 0, .slice none 0 0]) (t := 32) ?hr ?_; (case hd => rfl); (case hg => rfl); (case hr => first | (go_simp; done) | (go_simp; rfl)); intro g6 hg wX hbox hb; have G6 := Aside0.mk hg; have C6 := Aside0.mk hbox; have HB6 := Aside0.mk hb; have HK7 := Aside0.mk (blk_below HK6.out hb); have z0 := blk_cell hbox 0; have z1 := blk_cell hbox 1; (try simp only [List.getElem?_toArray, List.getElem?_cons_zero, List.getElem?_cons_succ] at z0 z1); have f0 := blk_frozen hbox 0; have f1 := blk_frozen hbox 1; clear hg hbox hb HK6) | ((with_reducible refine gate_store (t := 32) (p := 6) rfl ?_); refine store_event (t := 32) (p := 6) (v := ?vo6) (w1 := (wX.setCell ⟨g6, 0, none⟩ (.slice Au a1.length cu)).setCell ⟨g6, 1, none⟩ (.slice Av a2.length cv)) ?hg ?ho ?hn ?hr ?_; (case ho => rfl); (case hg => rfl); (case hn => rfl); (case hr => first | (go_simp; done) | (go_simp; rfl)); intro wE hw; have HX6 := Aside0.mk (LG.mk_ (w := w) HS6.out HR6.out G6.out C6.out HB6.out hw HBC.out.size); have hbe : Below wD.heap.size wD wE := (by rw [hw]; exact (HB6.out.setCell (p := ⟨g6, 0, none⟩) (Nat.le_of_eq G6.out.symm) _).setCell (p := ⟨g6, 1, none⟩) (Nat.le_of_eq G6.out.symm) _); have hke : wE.heap[w.heap.size]? = some (.cells #[.slice A0 nodes.length c0, .slice A1 parts.length c1] 25 (0, 0)) := (by rw [hw]; exact blk_far (p := ⟨g6, 1, none⟩) (blk_far (p := ⟨g6, 0, none⟩) HK7.out (by have := G6.out; have := HKL.out; dsimp only; omega) _) (by have := G6.out; have := HKL.out; dsimp only; omega) _); have HA := Aside0.mk (show LA7 w #[.slice A0 nodes.length c0, .slice A1 parts.length c1] g6 (.slice Au a1.length cu) (.slice Av a2.length cv) a1 a2 wE.heap.size wE from ⟨below_step HBD.out hbe, hke, HX6.out.k, Kd.S_mono (Kd.S_bound HX6.out.s) (fun k hk => hk.2.2.1), Kd.R_mono (Kd.R_bound HX6.out.r) (fun k hk => hk.2.2.1), blk_lt hke, blk_lt HX6.out.k⟩); clear z0 z1 f0 f1 hw hbe hke HX6 HS6 HR6 G6 C6 HB6 HK7 HBC HBD HZD HKL; have y0 := blk_cell HA.out.k2 0; have y1 := blk_cell HA.out.k2 1; (try simp only [List.getElem?_toArray, List.getElem?_cons_zero, List.getElem?_cons_succ] at y0 y1)) | (go_at_call 13; refine (T13.out _ HA.out.hb).mono ?_; rintro e wF ⟨v0, v1, rfl, hs, hr, hb⟩; obtain ⟨A9, d9, rfl⟩ := Kd.S_slice hs; obtain ⟨B9, e9, rfl⟩ := Kd.R_slice hr; have HS9 := Aside0.mk hs; have HR9 := Aside0.mk hr; have HAB := Aside0.mk (HA.out.below hb); have HZB := Aside0.mk hb.size; clear hs hr hb y0 y1) | ((with_reducible refine gate_dst (N := 9) rfl ?_); refine box_event ?hg (N := 9) ?hd (cs := #[.slice none 0 0, .slice none 0 0]) (t := 32) ?hr ?_; (case hd => rfl); (case hg => rfl); (case hr => first | (go_simp; done) | (go_simp; rfl)); intro g9 hg wG hbox hb; have G9 := Aside0.mk hg; have C9 := Aside0.mk hbox; have HB9 := Aside0.mk hb; have HAC := Aside0.mk (HAB.out.below hb); have z0 := blk_cell hbox 0; have z1 := blk_cell hbox 1; (try simp only [List.getElem?_toArray, List.getElem?_cons_zero, List.getElem?_cons_succ] at z0 z1); have f0 := blk_frozen hbox 0; have f1 := blk_frozen hbox 1; clear hg hbox hb HAB) | ((with_reducible refine gate_store (t := 32) (p := 9) rfl ?_); refine store_event (t := 32) (p := 9) (v := ?vo9) (w1 := (wG.setCell ⟨g9, 0, none⟩ (.slice A9 N.length d9)).setCell ⟨g9, 1, none⟩ (.slice B9 parts.length e9)) ?hg ?ho ?hn ?hr ?_; (case ho => rfl); (case hg => rfl); (case hn => rfl); (case hr => first | (go_simp; done) | (go_simp; rfl)); intro wH hw; have HX9 := Aside0.mk (LG.mk_ HS9.out HR9.out G9.out C9.out HB9.out hw HA.out.hb.size); have E9 := Aside0.mk (show wE.heap.size ≤ g9 by rw [G9.out]; exact HZB.out); have HAD := Aside0.mk (HAC.out.kept (below_box HAC.out.hb (Nat.le_trans HA.out.hb.size E9.out) hw) (kept_box hw) (fun k hk e => by have := E9.out; omega)); have L9 := Aside0.mk (blk_lt HX9.out.k); clear z0 z1 f0 f1 hw HAC HS9 HR9 G9 C9 HB9 HZB; skip) | (go_at_call 47; refine (T47.out _ HAD.out.hb).mono ?_; rintro e wI ⟨v2, rfl, hr, hb⟩; obtain ⟨C10, f10, rfl⟩ := Kd.R_slice hr; have HT10 := Aside0.mk (LT.mk_ (w := w) hr HAD.out.hb.size); have HAF := Aside0.mk (HAD.out.below hb); have HXF := Aside0.mk (HX9.out.below hb); have HZF := Aside0.mk hb.size; clear hr hb HX9 HAD; have y0 := blk_cell HXF.out.k 0; have y1 := blk_cell HXF.out.k 1; (try simp only [List.getElem?_toArray, List.getElem?_cons_zero, List.getElem?_cons_succ] at y0 y1)) | (go_at_call 41; refine (T41.out wI (.agg #[.slice A9 N.length d9, .slice B9 parts.length e9]) (.slice C10 tT.length f10) ⟨_, _, _, _, rfl, (Kd.S_reads' HXF.out.s).2.2, (Kd.S_reads' HXF.out.s).2.1, (Kd.R_reads' HXF.out.r).2.2, (Kd.R_reads' HXF.out.r).2.1⟩ ⟨_, _, rfl, (Kd.R_reads' HT10.out).2.2, (Kd.R_reads' HT10.out).2.1⟩).mono ?_; rintro e wJ ⟨u0, u1, rfl, hs, hr, hb⟩; obtain ⟨A11, d11, rfl⟩ := Kd.S_slice hs; obtain ⟨B11, e11, rfl⟩ := Kd.R_slice hr; have HS11 := Aside0.mk hs; have HR11 := Aside0.mk hr; have HWI := Aside0.mk HAF.out.hb.size; have HAI := Aside0.mk (HAF.out.below hb); have HXI := Aside0.mk (HXF.out.below hb); have HTI := Aside0.mk (HT10.out.below hb); have HZI := Aside0.mk hb.size; clear hs hr hb y0 y1 HXF HT10 HAF) | ((with_reducible refine gate_dst (N := 11) rfl ?_); refine box_event ?hg (N := 11) ?hd (cs := #[.slice none 0 0, .slice none 0 0]) (t := 32) ?hr ?_; (case hd => rfl); (case hg => rfl); (case hr => first | (go_simp; done) | (go_simp; rfl)); intro g11 hg wK hbox hb; have G11 := Aside0.mk hg; have C11 := Aside0.mk hbox; have HB11 := Aside0.mk hb; have HAJ := Aside0.mk (HAI.out.below hb); have HXJ := Aside0.mk (HXI.out.below hb); have HTJ := Aside0.mk (HTI.out.below hb); have z0 := blk_cell hbox 0; have z1 := blk_cell hbox 1; (try simp only [List.getElem?_toArray, List.getElem?_cons_zero, List.getElem?_cons_succ] at z0 z1); have f0 := blk_frozen hbox 0; have f1 := blk_frozen hbox 1; clear hg hbox hb HAI HXI HTI) | ((with_reducible refine gate_store (t := 32) (p := 11) rfl ?_); refine store_event (t := 32) (p := 11) (v := ?vo11) (w1 := (wK.setCell ⟨g11, 0, none⟩ (.slice A11 a1.length d11)).setCell ⟨g11, 1, none⟩ (.slice B11 a2.length e11)) ?hg ?ho ?hn ?hr ?_; (case ho => rfl); (case hg => rfl); (case hn => rfl); (case hr => first | (go_simp; done) | (go_simp; rfl)); intro wL hw; have HX11 := Aside0.mk (LG.mk_ HS11.out HR11.out G11.out C11.out HB11.out hw HWI.out); have E11 := Aside0.mk (show wI.heap.size ≤ g11 by rw [G11.out]; exact HZI.out); have HAK := Aside0.mk (HAJ.out.kept (below_box HAJ.out.hb (Nat.le_trans HWI.out E11.out) hw) (kept_box hw) (fun k hk e => by have := E11.out; have := HZF.out; have := L9.out; have := E9.out; omega)); have HXK := Aside0.mk (HXJ.out.kept (kept_box hw) (fun k h1 h2 e => by have := E11.out; have := HZF.out; have := L9.out; omega) E9.out); have HTK := Aside0.mk (HTJ.out.kept (kept_box hw) (fun k h1 h2 e => by have := E11.out; omega)); have L11 := Aside0.mk (blk_lt HX11.out.k); clear z0 z1 f0 f1 hw HAJ HXJ HTJ HS11 HR11 G11 C11 HB11 HZI HWI; have y0 := blk_cell HX11.out.k 0; have y1 := blk_cell HX11.out.k 1; have y2 := blk_cell HAK.out.k6 0; have y3 := blk_cell HAK.out.k6 1; (try simp only [List.getElem?_toArray, List.getElem?_cons_zero, List.getElem?_cons_succ] at y0 y1 y2 y3)) | (go_at_call 16; refine (eqG_any (by have := HS1.out.1; omega) (fun y hy => by have := HS1.out.2.1 y hy; omega) (by have := HS1.out.2.2; omega) _ (Kd.S_reads' HX11.out.s).2.2 (Kd.S_reads' HX11.out.s).2.1 (Kd.R_reads' HX11.out.r).2.2 (Kd.R_reads' HX11.out.r).2.1 (Kd.S_reads' HAK.out.s6).2.2 (Kd.S_reads' HAK.out.s6).2.1 (Kd.R_reads' HAK.out.r6).2.2 (Kd.R_reads' HAK.out.r6).2.1).mono ?_; rintro e wM ⟨rfl, hb⟩; have HAL := Aside0.mk (HAK.out.below hb); have HXL9 := Aside0.mk (HXK.out.below hb); have HTL := Aside0.mk (HTK.out.below hb); have HGL := Aside0.mk (HX11.out.below hb); clear hb y0 y1 y2 y3 HAK HXK HTK HX11))
  have y0 := blk_cell HXL9.out.k 0
  have y1 := blk_cell HXL9.out.k 1
  have y2 := blk_cell HAL.out.k2 0
  have y3 := blk_cell HAL.out.k2 1
  simp only [List.getElem?_toArray, List.getElem?_cons_zero, List.getElem?_cons_succ] at y0 y1 y2 y3
  go_region_held3 (fun w' => w'.cell? ⟨g9, 0, none⟩ = some (.slice A9 N.length d9) ∧ w'.cell? ⟨g9, 1, none⟩ = some (.slice B9 parts.length e9) ∧ w'.cell? ⟨w.heap.size, 0, none⟩ = some (.slice A0 nodes.length c0) ∧ w'.cell? ⟨w.heap.size, 1, none⟩ = some (.slice A1 parts.length c1))
    (first
      | go_keep
      | (go_split_ands
         refine ⟨?_, ?_, ?_, ?_⟩ <;> (exact pw_cell_below hbr (by assumption))))
    (first | (go_at_call 13; refine (T13.out _ (below_drew1 HAL.out.hb)).mono ?_; rintro e w7 ⟨v0, v1, rfl, hs, hr, hbr⟩; obtain ⟨P9, p9, rfl⟩ := Kd.S_slice hs; obtain ⟨Q9, q9, rfl⟩ := Kd.R_slice hr; have HB7 := Aside0.mk (below_step (below_drew1 (Below.refl wM.heap.size wM)) hbr); have HS7 := Aside0.mk hs; have HR7 := Aside0.mk hr; clear hs hr) | (go_at_call 16; refine (eqG_any HNL.out.1 HNL.out.2.1 HNL.out.2.2 _ (Kd.C_below (Kd.S_reads' HXL9.out.s).2.2 HB7.out) (Kd.S_reads' HXL9.out.s).2.1 (Kd.C_below (Kd.R_reads' HXL9.out.r).2.2 HB7.out) (Kd.R_reads' HXL9.out.r).2.1 (Kd.S_reads' HS7.out).2.2 (Kd.S_reads' HS7.out).2.1 (Kd.R_reads' HR7.out).2.2 (Kd.R_reads' HR7.out).2.1).mono ?_; rintro e w8 ⟨rfl, hbr⟩; have HB8 := Aside0.mk (below_step HB7.out hbr)))
  have HAM := Aside0.mk (HAL.out.below HB8.out)
  have HXM := Aside0.mk (HXL9.out.below HB8.out)
  have HTM := Aside0.mk (HTL.out.below HB8.out)
  have HGM := Aside0.mk (HGL.out.below HB8.out)
  clear HAL HXL9 HTL HGL HB7 HB8 HS7 HR7 y0 y1 y2 y3
  go_wp2_with (first | (go_at_call 47; refine (T47.out _ HAM.out.hb).mono ?_; rintro e wN ⟨v2, rfl, hr, hb⟩; obtain ⟨C7, f7, rfl⟩ := Kd.R_slice hr; have HT7 := Aside0.mk hr; have HAN := Aside0.mk (HAM.out.below hb); have HXN := Aside0.mk (HXM.out.below hb); have HTN := Aside0.mk (HTM.out.below hb); have HGN := Aside0.mk (HGM.out.below hb); clear hr hb HAM HXM HTM HGM) | (go_at_call 48; refine (eqT_any tT HTL2.out _ (Kd.R_reads' HTN.out).2.2 (Kd.R_reads' HTN.out).2.1 (Kd.R_reads' HT7.out).2.2 (Kd.R_reads' HT7.out).2.1).mono ?_; rintro e wO ⟨rfl, hb⟩; have HAO := Aside0.mk (HAN.out.below hb); have HXO := Aside0.mk (HXN.out.below hb); have HTO := Aside0.mk (HTN.out.below hb); have HGO := Aside0.mk (HGN.out.below hb); clear hb HAN HXN HTN HGN HT7; have y0 := blk_cell HXO.out.k 0; have y1 := blk_cell HXO.out.k 1; (try simp only [List.getElem?_toArray, List.getElem?_cons_zero, List.getElem?_cons_succ] at y0 y1)))
  have hqb := eN_le N 1 HNL.out.2.1
  have T18 := Aside0.mk (markG_any (w0 := w) N parts rfl rfl HNL.out.1 HNL.out.2.1 HNL.out.2.2 HAO.out.hb HXO.out.s HXO.out.r (fun k h1 h2 => h1.2 h2.2))
  obtain ⟨q, hq⟩ : ∃ q, q = eN N 1 := ⟨_, rfl⟩
  rw [← hq] at T18 hqb
  have hN1 := HNL.out.1
  have hP1 := HNL.out.2.2
  have hT1 := HTL2.out
  have T49 := Aside0.mk (fun (W : World) (P : Nat → Prop) (u : Value) hB ho => markT_any (w0 := w) (w := W) (P := P) (u := u) tT (q + (parts.length : Int)) (by omega) (by omega) hT1 hB ho)
  have e4 : (q + (parts.length : Int) + 2 * (tT.length : Int) < 0) = False := eq_false (by omega)
  have hqa := eN_le a1 1 (fun y hy => by have := HS1.out.2.1 y hy; omega)
  obtain ⟨qa, hqa2⟩ : ∃ q, q = eN a1 1 := ⟨_, rfl⟩
  have e5 : (qa + (a2.length : Int) < 0) = False := eq_false (by omega)
  have HQA := Aside0.mk hqa2
  clear hq hqb hN1 hP1 hT1 hqa hqa2
  refine T18.out.mono ?_
  rintro e wP ⟨rfl, _, _, hb, hk⟩
  have HAP := Aside0.mk (HAO.out.kept hb hk (fun k hk h => h.elim (fun h => by have := h.1.1; omega) (fun h => by have := h.1.1; omega)))
  have HTP := Aside0.mk (HTO.out.kept hk (fun k h1 h2 h => by have := L9.out; exact h.elim (fun h => by have := h.1.2; omega) (fun h => by have := h.1.2; omega)))
  have HGP := Aside0.mk (HGO.out.kept hk (fun k h1 h2 h => by have := L9.out; have := HZF.out; exact h.elim (fun h => by have := h.1.2; omega) (fun h => by have := h.1.2; omega)) E11.out)
  clear hb hk y0 y1 HAO HTO HGO HXO T18
  go_wp2_with (first | (go_at_call 49; refine (T49.out _ _ _ HAP.out.hb HTP.out).mono ?_; rintro e wQ ⟨rfl, hb, hk⟩; have HAQ := Aside0.mk (HAP.out.kept hb hk (fun k hk h => by have := E9.out; have := L9.out; have := h.1; omega)); have HGQ := Aside0.mk (HGP.out.kept hk (fun k h1 h2 h => by have := h.2; omega) E11.out); clear hb hk HAP HTP HGP; have y0 := blk_cell HGQ.out.k 0; have y1 := blk_cell HGQ.out.k 1; have y2 := blk_cell HAQ.out.k6 0; have y3 := blk_cell HAQ.out.k6 1; (try simp only [List.getElem?_toArray, List.getElem?_cons_zero, List.getElem?_cons_succ] at y0 y1 y2 y3)) | (go_at_call 16; refine (eqG_any (by have := HS1.out.1; omega) (fun y hy => by have := HS1.out.2.1 y hy; omega) (by have := HS1.out.2.2; omega) _ (Kd.S_reads' HGQ.out.s).2.2 (Kd.S_reads' HGQ.out.s).2.1 (Kd.R_reads' HGQ.out.r).2.2 (Kd.R_reads' HGQ.out.r).2.1 (Kd.S_reads' HAQ.out.s6).2.2 (Kd.S_reads' HAQ.out.s6).2.1 (Kd.R_reads' HAQ.out.r6).2.2 (Kd.R_reads' HAQ.out.r6).2.1).mono ?_; rintro e wR ⟨rfl, hb⟩; have HAR := Aside0.mk (HAQ.out.below hb); have HGR := Aside0.mk (HGQ.out.below hb); clear hb y0 y1 y2 y3 HAQ HGQ; have y0 := blk_cell HGR.out.k 0; have y1 := blk_cell HGR.out.k 1; (try simp only [List.getElem?_toArray, List.getElem?_cons_zero, List.getElem?_cons_succ] at y0 y1)))
  have T18b := Aside0.mk (markG_any (w0 := w) a1 a2 rfl rfl (by have := HS1.out.1; omega) (fun y hy => by have := HS1.out.2.1 y hy; omega) (by have := HS1.out.2.2; omega) HAR.out.hb HGR.out.s HGR.out.r (fun k h1 h2 => h1.2 h2.2))
  rw [← HQA.out] at T18b
  refine T18b.out.mono ?_
  rintro e wT ⟨rfl, hs, hr, hb, hk⟩
  have HAT := Aside0.mk (HAR.out.kept hb hk (fun k hk h => by have := E9.out; have := L9.out; have := HZF.out; exact h.elim (fun h => by have := h.1.1; omega) (fun h => by have := h.1.1; omega)))
  have HGT := Aside0.mk (show LG w wI.heap.size g11 (.slice A11 a1.length d11) (.slice B11 a2.length e11) (mN a1 1) (mI a2.length qa) wT from ⟨blk_kept HGR.out.k hk (fun h => h.elim (fun h => Nat.lt_irrefl _ h.1.2) (fun h => Nat.lt_irrefl _ h.1.2)), hs, hr⟩)
  have T20 := Aside0.mk (show ∀ W, LG w wI.heap.size g11 (.slice A11 a1.length d11) (.slice B11 a2.length e11) (mN a1 1) (mI a2.length qa) W → Calls Try.prog 20 #[.agg #[.slice A11 a1.length d11, .slice B11 a2.length e11], .int .i64 1] W fun e w' => e = .returned (.int .i64 (qa + (a2.length : Int))) ∧ Below W.heap.size W w' from fun W hG => by
    rw [HQA.out] at hG ⊢
    exact heldG_any a1 a2.length (by have := HS1.out.1; omega) (fun y hy => by have := HS1.out.2.1 y hy; omega) (by have := HS1.out.2.2; omega) (by have h := (Kd.S_reads' hG.s).2.2; rwa [mN_len] at h) (Kd.S_reads' hG.s).2.1 (by have h := (Kd.R_reads' hG.r).2.2; rwa [mI_len] at h) (Kd.R_reads' hG.r).2.1)
  have e6 : (qa + (a2.length : Int) != qa + (a2.length : Int)) = false := by simp
  clear hs hr hb hk T18b HAR HGR y0 y1 T49
  have y0 := blk_cell HGT.out.k 0
  have y1 := blk_cell HGT.out.k 1
  simp only [List.getElem?_toArray, List.getElem?_cons_zero, List.getElem?_cons_succ] at y0 y1
  go_wp2_with (first | (go_at_call 20; refine (T20.out _ HGT.out).mono ?_; rintro e w31 ⟨rfl, hb⟩; have HA31 := Aside0.mk (HAT.out.below hb); have HG31 := Aside0.mk (HGT.out.below hb); clear hb y0 y1 HAT HGT; have y0 := blk_cell HA31.out.k2 0; have y1 := blk_cell HA31.out.k2 1; (try simp only [List.getElem?_toArray, List.getElem?_cons_zero, List.getElem?_cons_succ] at y0 y1)) | (go_at_call 13; refine (T13.out _ HA31.out.hb).mono ?_; rintro e w32 ⟨v0, v1, rfl, hs, hr, hb⟩; obtain ⟨A13, d13, rfl⟩ := Kd.S_slice hs; obtain ⟨B13, e13, rfl⟩ := Kd.R_slice hr; have HS13 := Aside0.mk hs; have HR13 := Aside0.mk hr; have HA32 := Aside0.mk (HA31.out.below hb); have HG32 := Aside0.mk (HG31.out.below hb); clear hs hr hb y0 y1 HA31 HG31) | (go_at_call 47; refine (T47.out _ HA32.out.hb).mono ?_; rintro e wU ⟨v2, rfl, hr, hb⟩; obtain ⟨C13, f13, rfl⟩ := Kd.R_slice hr; have HT13 := Aside0.mk hr; have HBU := Aside0.mk hb; have HA33 := Aside0.mk (HA32.out.below hb); have HG33 := Aside0.mk (HG32.out.below hb); have HZT := Aside0.mk (blk_lt HG33.out.k); have HWU := Aside0.mk HA33.out.hb.size; clear hr hb HA32 HG32) | (go_at_call 41; refine (T41.out wU (.agg #[.slice A13 N.length d13, .slice B13 parts.length e13]) (.slice C13 tT.length f13) ⟨_, _, _, _, rfl, Kd.C_below (Kd.S_reads' HS13.out).2.2 HBU.out, (Kd.S_reads' HS13.out).2.1, Kd.C_below (Kd.R_reads' HR13.out).2.2 HBU.out, (Kd.R_reads' HR13.out).2.1⟩ ⟨_, _, rfl, (Kd.R_reads' HT13.out).2.2, (Kd.R_reads' HT13.out).2.1⟩).mono ?_; rintro e wV ⟨u0, u1, rfl, hs, hr, hb⟩; obtain ⟨A17, d17, rfl⟩ := Kd.S_slice hs; obtain ⟨B17, e17, rfl⟩ := Kd.R_slice hr; have HS17 := Aside0.mk hs; have HR17 := Aside0.mk hr; have HZU := Aside0.mk hb.size; have HAV := Aside0.mk (HA33.out.below hb); have HGV := Aside0.mk (HG33.out.below hb); clear hs hr hb HA33 HG33 HS13 HR13 HT13 HBU T41) | ((with_reducible refine gate_dst (N := 17) rfl ?_); refine box_event ?hg (N := 17) ?hd (cs := #[.slice none 0 0, .slice none 0 0]) (t := 32) ?hr ?_; (case hd => rfl); (case hg => rfl); (case hr => first | (go_simp; done) | (go_simp; rfl)); intro g17 hg wZ0 hbox hb; have G17 := Aside0.mk hg; have C17 := Aside0.mk hbox; have HB17 := Aside0.mk hb; have HAX := Aside0.mk (HAV.out.below hb); have HGX := Aside0.mk (HGV.out.below hb); have z0 := blk_cell hbox 0; have z1 := blk_cell hbox 1; (try simp only [List.getElem?_toArray, List.getElem?_cons_zero, List.getElem?_cons_succ] at z0 z1); have f0 := blk_frozen hbox 0; have f1 := blk_frozen hbox 1; clear hg hbox hb HAV HGV) | ((with_reducible refine gate_store (t := 32) (p := 17) rfl ?_); refine store_event (t := 32) (p := 17) (v := ?vo17) (w1 := (wZ0.setCell ⟨g17, 0, none⟩ (.slice A17 a1.length d17)).setCell ⟨g17, 1, none⟩ (.slice B17 a2.length e17)) ?hg ?ho ?hn ?hr ?_; (case ho => rfl); (case hg => rfl); (case hn => rfl); (case hr => first | (go_simp; done) | (go_simp; rfl)); intro wZ hw; have HX17 := Aside0.mk (LG.mk_ (w := w) HS17.out HR17.out G17.out C17.out HB17.out hw HWU.out); have E17 := Aside0.mk (show wU.heap.size ≤ g17 by rw [G17.out]; exact HZU.out); have HAZ := Aside0.mk (HAX.out.kept (below_box HAX.out.hb (Nat.le_trans HWU.out E17.out) hw) (kept_box hw) (fun k hk e => by have := E17.out; have := HZT.out; have := L11.out; have := E11.out; have := HZF.out; have := L9.out; have := E9.out; omega)); have HGZ := Aside0.mk (HGX.out.kept (kept_box hw) (fun k h1 h2 e => by have := E17.out; have := HZT.out; have := L11.out; omega) E11.out); clear z0 z1 f0 f1 hw HAX HGX HS17 HR17 G17 C17 HB17 HZU; have y0 := blk_cell HX17.out.k 0; have y1 := blk_cell HX17.out.k 1; have y2 := blk_cell HAZ.out.k6 0; have y3 := blk_cell HAZ.out.k6 1; (try simp only [List.getElem?_toArray, List.getElem?_cons_zero, List.getElem?_cons_succ] at y0 y1 y2 y3)) | (go_at_call 16; refine (eqG_any (by have := HS1.out.1; omega) (fun y hy => by have := HS1.out.2.1 y hy; omega) (by have := HS1.out.2.2; omega) _ (Kd.S_reads' HX17.out.s).2.2 (Kd.S_reads' HX17.out.s).2.1 (Kd.R_reads' HX17.out.r).2.2 (Kd.R_reads' HX17.out.r).2.1 (Kd.S_reads' HAZ.out.s6).2.2 (Kd.S_reads' HAZ.out.s6).2.1 (Kd.R_reads' HAZ.out.r6).2.2 (Kd.R_reads' HAZ.out.r6).2.1).mono ?_; rintro e wY ⟨rfl, hb⟩; have HAY := Aside0.mk (HAZ.out.below hb); have HGY := Aside0.mk (HGZ.out.below hb); clear hb y0 y1 y2 y3 HX17 HAZ HGZ; have y0 := blk_cell HGY.out.k 0; have y1 := blk_cell HGY.out.k 1; (try simp only [List.getElem?_toArray, List.getElem?_cons_zero, List.getElem?_cons_succ] at y0 y1)))
  refine (T20.out _ HGY.out).mono ?_
  rintro e wW ⟨rfl, hb⟩
  have HAW := Aside0.mk (HAY.out.below hb)
  clear hb y0 y1
  go_wp2
  go_ret
  exact ⟨rfl, HAW.out.hb⟩
end Go.Proofs.Ytlnejmlphkpaaaa.PA
