/- The graph seat: the reference's l6Put by hand. -/
import Derived.Test.YtlnejmlphkpaaaaIqGb
import Derived.StillTailTactics
namespace Go.Proofs.Ytlnejmlphkpaaaa.PA
open Go.RowKit Go.Proofs.YtlnejmlphkpaaaaW.PrintWords Go.Proofs.YtlnejmlphkpaaaaW.PrintLast Go.Proofs.YtlnejmlphkpaaaaW.PrintMore
set_option linter.unusedVariables false
open Go in
theorem region_tail {P : Program} {id : Nat} {Q : Exit → Act → World → Prop} {a : Act} {w : World} {l : List Oper} (n : Nat) (hm : P.follows .mixedOrders = true) (hB : Region.lexTailB .any l.toArray n = true)
  (h : wpStill P l.toArray w.drew (fun a' => wpList P l.toArray Q (l.drop n) a' w.drew) (l.take n) a) : (Code.region id l.toArray true).wp P Q a w := wp_region_still_tail n hm hB h
def putN (nodes : List S36) (parts : List Int) (x : S36) : (List S36 × List Int) × Int := if 0 ≤ findN nodes parts x then ((nodes, parts), findN nodes parts x) else ((nodes ++ [x], parts ++ [(nodes.length : Int)]), (nodes.length : Int))
set_option maxHeartbeats 2000000 in
set_option maxRecDepth 100000 in
theorem l6Put_any (W0 w : World) (lab : Nat → Nat) (v0 v1 v2 : Value) (nodes : List S36) (parts : List Int) (x : S36) (hB : Below W0.heap.size W0 w) (hS : Kd.S k36 36 w W0.heap.size (fun k => lab k = 1) v0 nodes) (hP : (Kd.int .i64).R 3 w W0.heap.size (fun k => lab k = 2) v1 parts) (hK : (Kd.int .i64).R 3 w W0.heap.size (fun k => lab k = 3) v2 x.f2)
  (hl : nodes.length ≤ 1000) (hp : parts.length = nodes.length) (hks : ∀ y ∈ nodes, y.f2.length ≤ 1000) :
  Calls Try.prog 61 #[.agg #[v0, v1], .agg #[.int .i64 x.f0, .int .i64 x.f1, v2]] w fun e w' => ∃ v0' v1' : Value, e = .returned (.tuple #[.agg #[v0', v1'], .int .i64 (putN nodes parts x).2]) ∧ Kd.S k36 36 w' W0.heap.size (fun k => some k ≠ v1'.ownBlock ∧ (((lab k = 1 ∨ lab k = 3) ∧ k < w.heap.size) ∨ w.heap.size ≤ k)) v0' (putN nodes parts x).1.1 ∧ (Kd.int .i64).R 3 w' W0.heap.size (fun k => (lab k = 2 ∧ k < w.heap.size) ∨ w.heap.size ≤ k) v1' (putN nodes parts x).1.2 ∧ Below W0.heap.size W0 w' ∧ Kept w w' (fun k => lab k = 1 ∨ lab k = 2 ∨ lab k = 3) := by
 obtain ⟨A0, c0, rfl⟩ := Kd.S_slice hS
 obtain ⟨A1, c1, rfl⟩ := Kd.R_slice hP
 obtain ⟨A2, c2, rfl⟩ := Kd.R_slice hK
 have T122 := Aside0.mk (show ∀ W, Below w.heap.size w W → Calls Try.prog 122 #[.agg #[.slice A0 nodes.length c0, .slice A1 parts.length c1], .agg #[.int .i64 x.f0, .int .i64 x.f1, .slice A2 x.f2.length c2]] W fun e w' => e = .returned (.int .i64 (findN nodes parts x)) ∧ Below W.heap.size W w' from fun W hW => by
  obtain ⟨k, hk⟩ := Ev.rounds (find_is hks (by omega) hp x)
  exact spec_l6Find.calls k A0 c0 nodes A1 c1 parts x.f0 x.f1 A2 c2 x.f2 _ W (Kd.C_below (Kd.S_reads' hS).2.2 hW) (Kd.S_reads' hS).2.1 (Kd.C_below (Kd.R_reads' hP).2.2 hW) (Kd.R_reads' hP).2.1 (Kd.C_below (Kd.R_reads' hK).2.2 hW) (Kd.R_reads' hK).2.1 hk)
 obtain ⟨fnd, hfnd⟩ : ∃ fnd, fnd = findN nodes parts x := ⟨_, rfl⟩
 have HPN := Aside0.mk (show putN nodes parts x = if 0 ≤ fnd then ((nodes, parts), fnd) else ((nodes ++ [x], parts ++ [(nodes.length : Int)]), (nodes.length : Int)) by rw [putN, hfnd])
 rw [← hfnd] at T122
 have HB := Aside0.mk hB
 have HS := Aside0.mk hS
 have HP := Aside0.mk hP
 have HK := Aside0.mk hK
 have HL := Aside0.mk hl
 have HPL := Aside0.mk hp
 have hm0 := Kd.C_max (Kd.S_reads' hS).2.2
 have hm1 := Kd.C_max (Kd.R_reads' hP).2.2
 clear hS hP hK hB hl hp hks hfnd
 obtain ⟨o1, ho1⟩ : ∃ o : Obj, o = .cells #[.slice A0 nodes.length c0, .slice A1 parts.length c1] 32 := ⟨_, rfl⟩
 obtain ⟨o2, ho2⟩ : ∃ o : Obj, o = .cells #[.int .i64 x.f0, .int .i64 x.f1, .slice A2 x.f2.length c2] 36 := ⟨_, rfl⟩
 obtain ⟨o3, ho3⟩ : ∃ o : Obj, o = .cells #[.slice none 0 0, .slice none 0 0] 32 := ⟨_, rfl⟩
 have B1 := Aside0.mk (show (((w.alloc o1).alloc o2).alloc o3).heap[w.heap.size]? = some (.cells #[.slice A0 nodes.length c0, .slice A1 parts.length c1] 32 (0, 0)) from by rw [← ho1]; exact blk_alloc (blk_alloc (blk_new w o1) _) _)
 have B2 := Aside0.mk (show (((w.alloc o1).alloc o2).alloc o3).heap[w.heap.size + 1]? = some (.cells #[.int .i64 x.f0, .int .i64 x.f1, .slice A2 x.f2.length c2] 36 (0, 0)) from by rw [← ho2]; exact blk_alloc (by simpa using blk_new (w.alloc o1) o2) _)
 have B3 := Aside0.mk (show (((w.alloc o1).alloc o2).alloc o3).heap[w.heap.size + 1 + 1]? = some (.cells #[.slice none 0 0, .slice none 0 0] 32 (0, 0)) from by rw [← ho3]; simpa using blk_new ((w.alloc o1).alloc o2) o3)
 have HB3 := Aside0.mk (show Below w.heap.size w (((w.alloc o1).alloc o2).alloc o3) from below_alloc (below_alloc (below_alloc (Below.refl _ _) _) _) _)
 have hsz := (show (((w.alloc o1).alloc o2).alloc o3).heap.size = w.heap.size + 3 by simp)
 have HSZ := Aside0.mk hsz
 clear hsz
 subst ho1 ho2 ho3
 by_cases q : 0 ≤ fnd
 ·have HQ := Aside0.mk (show putN nodes parts x = ((nodes, parts), fnd) by rw [HPN.out, if_pos q])
  have d0 : (fnd ≥ 0) = True := eq_true q
  clear HPN
  go_enter Try.func61, Try.ntmps61
  go_wp2_with (go_at_call 122; refine (T122.out _ (by repeat (first | exact Below.refl _ _ | apply below_alloc | apply pw_below_drewN | apply below_drew1))).mono ?_; rintro e w7 ⟨rfl, hb⟩; have HB7 := Aside0.mk (HB3.out.trans (hb.mono HB3.out.size)); have D1 := blk_below B1.out hb; have D3 := blk_below B3.out hb; have k0 := blk_cell D1 0; have k1 := blk_cell D1 1; have k2 := blk_cell D3 0; have k3 := blk_cell D3 1; have f2 := blk_frozen D3 0; have f3 := blk_frozen D3 1; have HD3 := Aside0.mk D3; simp only [List.getElem?_toArray, List.getElem?_cons_zero, List.getElem?_cons_succ] at k0 k1 k2 k3; clear hb D1 D3)
  have HSW := Aside0.mk (Kd.S_below (Kd.S_mono (Kd.S_bound HS.out) (fun k hk => (show lab k = 1 ∧ k < w.heap.size from ⟨hk.1, hk.2.2.1⟩))) HB7.out)
  have HPW := Aside0.mk (Kd.R_below (Kd.R_mono (Kd.R_bound HP.out) (fun k hk => (show lab k = 2 ∧ k < w.heap.size from ⟨hk.1, hk.2.2.1⟩))) HB7.out)
  refine bodyPost_ret (results_ct (p := 4) (u := 5) rfl _ _ (w.heap.size + 1 + 1) 32 #[.slice A0 nodes.length c0, .slice A1 parts.length c1] (0, 0) _ rfl (blk_put (blk_put HD3.out 0 _ rfl) 1 _ rfl) Try.underlying32 rfl (by kernel_rfl)) rfl ?_
  refine ⟨_, _, by rw [HQ.out]; rfl, ?_, ?_, ?_, ((Kept.of_below HB7.out _).setCell (p := ⟨w.heap.size + 1 + 1, 0, none⟩) (.inr (by dsimp only; omega)) _).setCell (p := ⟨w.heap.size + 1 + 1, 1, none⟩) (.inr (by dsimp only; omega)) _⟩
  ·rw [HQ.out]
   exact Kd.S_mono (Kd.S_far (p := ⟨w.heap.size + 1 + 1, 1, none⟩) (Kd.S_far (p := ⟨w.heap.size + 1 + 1, 0, none⟩) HSW.out (fun k hk => by have := hk.2; dsimp only; omega) _) (fun k hk => by have := hk.2; dsimp only; omega) _) (fun k hk => ⟨fun e => by have := HP.out.1 k e.symm; have := hk.1; omega, .inl ⟨.inl hk.1, hk.2⟩⟩)
  ·rw [HQ.out]
   exact Kd.R_mono (Kd.R_far (p := ⟨w.heap.size + 1 + 1, 1, none⟩) (Kd.R_far (p := ⟨w.heap.size + 1 + 1, 0, none⟩) HPW.out (fun k hk => by have := hk.2; dsimp only; omega) _) (fun k hk => by have := hk.2; dsimp only; omega) _) (fun k hk => .inl hk)
  ·have hbw := HB.out.size
   exact ((HB.out.trans (HB7.out.mono hbw)).setCell (p := ⟨w.heap.size + 1 + 1, 0, none⟩) (by dsimp only; omega) _).setCell (p := ⟨w.heap.size + 1 + 1, 1, none⟩) (by dsimp only; omega) _
 ·have HQ := Aside0.mk (show putN nodes parts x = ((nodes ++ [x], parts ++ [(nodes.length : Int)]), (nodes.length : Int)) by rw [HPN.out, if_neg q])
  have d0 : (fnd ≥ 0) = False := eq_false q
  clear HPN
  go_enter Try.func61, Try.ntmps61
  go_wp2_with (first | (go_at_call 122; refine (T122.out _ (by repeat (first | exact Below.refl _ _ | apply below_alloc | apply pw_below_drewN | apply below_drew1))).mono ?_; rintro e w7 ⟨rfl, hb⟩; have HB7 := Aside0.mk (HB3.out.trans (hb.mono HB3.out.size)); have D1 := blk_below B1.out hb; have D2 := blk_below B2.out hb; have D3 := blk_below B3.out hb; have k0 := blk_cell D1 0; have k1 := blk_cell D1 1; have k20 := blk_cell D2 0; have k21 := blk_cell D2 1; have k22 := blk_cell D2 2; have k30 := blk_cell D3 0; have k31 := blk_cell D3 1; have f10 := blk_frozen D1 0; have f11 := blk_frozen D1 1; have f30 := blk_frozen D3 0; have f31 := blk_frozen D3 1; have HD1 := Aside0.mk D1; have HD2 := Aside0.mk D2; have HD3 := Aside0.mk D3; simp only [List.getElem?_toArray, List.getElem?_cons_zero, List.getElem?_cons_succ] at k0 k1 k20 k21 k22 k30 k31; have HSW := Aside0.mk (Kd.S_below (Kd.S_mono (Kd.S_bound HS.out) (fun k hk => (show lab k = 1 ∧ k < w.heap.size from ⟨hk.1, hk.2.2.1⟩))) HB7.out); have HPW := Aside0.mk (Kd.R_below (Kd.R_mono (Kd.R_bound HP.out) (fun k hk => (show lab k = 2 ∧ k < w.heap.size from ⟨hk.1, hk.2.2.1⟩))) HB7.out); have HKW := Aside0.mk (Kd.R_below (Kd.R_mono (Kd.R_bound HK.out) (fun k hk => (show lab k = 3 ∧ k < w.heap.size from ⟨hk.1, hk.2.2.1⟩))) HB7.out); have HBW := Aside0.mk (HB.out.trans (HB7.out.mono HB.out.size)); clear hb D1 D2 D3) | ((with_reducible refine gate_dst (N := 20) rfl ?_); refine Kd.R_append (Kd.int .i64) (w0 := W0) W0.heap.size rfl (.tmp 15) (.tmp 19) 23 3 (.int .i64 0) 8 rfl Try.underlying23 info3 rfl (by decide) (by omega) (.slice A1 parts.length c1) parts (nodes.length : Int) [.int .i64 (nodes.length : Int)] (fun k => (lab k = 2 ∧ k < w.heap.size) ∨ w7.heap.size ≤ k) (fun _ => False) rfl rfl rfl (fun _ hk => hk.elim) (fun k hk => .inr hk) (Kd.R_mono HPW.out (fun _ h => .inl h)) HBW.out HBW.out.size (by have := HL.out; have := HPL.out; omega) ?_; intro v20 w8 ho hb hgr hat; obtain ⟨A20, c20, e20⟩ := Kd.R_slice ho; rw [List.length_append, List.length_singleton] at e20; subst e20; have E1 := blk_grown HD1.out hgr (Kd.R_ne HPW.out HD1.out (by decide)); have E2 := blk_grown HD2.out hgr (Kd.R_ne HPW.out HD2.out (by decide)); have E3 := blk_grown HD3.out hgr (Kd.R_ne HPW.out HD3.out (by decide)); clear k0 k1 k20 k21 k22 k30 k31 f10 f11 f30 f31; have k0 := blk_cell E1 0; have k1 := blk_cell E1 1; have k20 := blk_cell E2 0; have k21 := blk_cell E2 1; have k22 := blk_cell E2 2; have f11 := blk_frozen E1 1; have f10 := blk_frozen E1 0; have f30 := blk_frozen E3 0; have f31 := blk_frozen E3 1; have k30 := blk_cell E3 0; have k31 := blk_cell E3 1; simp only [List.getElem?_toArray, List.getElem?_cons_zero, List.getElem?_cons_succ] at k0 k1 k20 k21 k22 k30 k31; have HE1 := Aside0.mk E1; have HE2 := Aside0.mk E2; have HE3 := Aside0.mk E3; have HO8 := Aside0.mk (Kd.R_mono (Kd.R_bound ho) (fun k hk => (show ((lab k = 2 ∧ k < w.heap.size) ∨ w7.heap.size ≤ k) ∧ k < w8.heap.size from ⟨hk.1, hk.2.2.1⟩))); have HB8 := Aside0.mk hb; have HS8 := Aside0.mk (Kd.S_grown HSW.out hgr (fun k hk e => by have := HP.out.1 k e.symm; have := hk.1; omega)); have HK8 := Aside0.mk (Kd.R_grown HKW.out hgr (fun k hk e => by have := HP.out.1 k e.symm; have := hk.1; omega)); have HZ8 := Aside0.mk hgr.size; have HKP8 := Aside0.mk (show Kept w w8 (fun k => lab k = 1 ∨ lab k = 2 ∨ lab k = 3) from Kept.of_grown hgr (Kept.of_below HB7.out _) (fun k hk => .inl (.inr (.inl (HP.out.1 k hk))))); clear E1 E2 E3 ho hb hgr hat) | ((with_reducible refine gate_dst (N := 26) rfl ?_); refine Kd.S_append k36 (w0 := W0) W0.heap.size rfl (.tmp 23) (.tmp 25) 30 36 (.agg #[(.int .i64 0), (.int .i64 0), (.slice none 0 0)]) 40 rfl Try.underlying30 info36 rfl (by decide) (by omega) (.slice A0 nodes.length c0) nodes x [.int .i64 x.f0, .int .i64 x.f1, .slice A2 x.f2.length c2] (fun k => ((lab k = 1 ∨ lab k = 3) ∧ k < w.heap.size) ∨ w8.heap.size ≤ k) (fun k => lab k = 3 ∧ k < w.heap.size) rfl (by show (Value.slice (some ⟨w8.heap.size, 0, none⟩) 1 1 : Value) = _; simp [World.setCell]) (k36_mkM _ _ _ x (Kd.R_far (p := ⟨w.heap.size, 1, none⟩) HK8.out (fun k hk => by have := hk.2; dsimp only; omega) _)) (fun k hk => ⟨.inl ⟨.inr hk.1, hk.2⟩, fun e => by have := (Kd.S_R HS.out).1 k e.symm; have := hk.1; omega⟩) (fun k hk => .inr (by simpa [World.setCell] using hk)) (Kd.S_mono (Kd.S_far (p := ⟨w.heap.size, 1, none⟩) HS8.out (fun k hk => by have := hk.2; dsimp only; omega) _) (fun k hk => ⟨.inl ⟨.inl hk.1, hk.2⟩, fun h => by have := h.1; have := hk.1; omega⟩)) (HB8.out.setCell (p := ⟨w.heap.size, 1, none⟩) HB.out.size _) (HB8.out.setCell (p := ⟨w.heap.size, 1, none⟩) HB.out.size _).size (by have := HL.out; omega) ?_; intro v26 wA ho hb hgr hat; obtain ⟨A26, c26, e26⟩ := Kd.S_slice ho; rw [List.length_append, List.length_singleton] at e26; subst e26; have hS9 := Kd.S_far (p := ⟨w.heap.size, 1, none⟩) HS8.out (fun k hk => (by have := hk.2; dsimp only; omega)) (.slice A20 (parts.length + 1) c20); have hp1 : (w8.setCell ⟨w.heap.size, 1, none⟩ (.slice A20 (parts.length + 1) c20)).heap[w.heap.size]? = some (.cells #[.slice A0 nodes.length c0, .slice A20 (parts.length + 1) c20] 32 (0, 0)) := blk_put HE1.out 1 _ rfl; have G1 := blk_grown hp1 hgr (Kd.S_ne hS9 hp1 (by decide)); have hp3 := (Below.heap_setCell w8 ⟨w.heap.size, 1, none⟩ (.slice A20 (parts.length + 1) c20) (w.heap.size + 1 + 1) (by dsimp only; omega)).trans HE3.out; have G3 := blk_grown hp3 hgr (Kd.S_ne hS9 hp3 (by decide)); have HRA := Aside0.mk (Kd.R_grown (Kd.R_set HO8.out HE1.out (by decide) 1 (.slice A20 (parts.length + 1) c20)) hgr (fun k hk e => by have h1 := (Kd.S_R HS.out).1 k e.symm; have h2 := Kd.R_lt (Kd.S_R HS.out) k e.symm; have h3 := HB7.out.size; rcases hk.1 with hk | hk <;> omega)); clear k0 k1 k20 k21 k22 k30 k31 f10 f11 f30 f31; have k0 := blk_cell G1 0; have k1 := blk_cell G1 1; have f10 := blk_frozen G1 0; have HG1 := Aside0.mk G1; have HG3 := Aside0.mk G3; simp only [List.getElem?_toArray, List.getElem?_cons_zero, List.getElem?_cons_succ] at k0 k1; have HKPA := Aside0.mk (show Kept w wA (fun k => lab k = 1 ∨ lab k = 2 ∨ lab k = 3) from Kept.of_grown hgr (HKP8.out.setCell (p := ⟨w.heap.size, 1, none⟩) (.inr (Nat.le_refl _)) _) (fun k hk => .inl (.inl ((Kd.S_R HS.out).1 k hk)))); have HSA := Aside0.mk ho; have HBA := Aside0.mk hb; clear ho hb hgr hat hS9 hp1 hp3 G1 G3))
  have hq1 : (wA.setCell ⟨w.heap.size, 0, none⟩ (.slice A26 (nodes.length + 1) c26)).heap[w.heap.size]? = some (.cells #[.slice A26 (nodes.length + 1) c26, .slice A20 (parts.length + 1) c20] 32 (0, 0)) := blk_put HG1.out 0 _ rfl
  have hq3 := (Below.heap_setCell wA ⟨w.heap.size, 0, none⟩ (.slice A26 (nodes.length + 1) c26) (w.heap.size + 1 + 1) (by dsimp only; omega)).trans HG3.out
  have HWB := Aside0.mk (show Kd.S k36 36 (wA.setCell ⟨w.heap.size, 0, none⟩ (.slice A26 (nodes.length + 1) c26)) W0.heap.size (fun k => ((lab k = 1 ∨ lab k = 3) ∧ k < w.heap.size) ∨ w8.heap.size ≤ k) (.slice A26 (nodes.length + 1) c26) (nodes ++ [x]) ∧ (Kd.int .i64).R 3 (wA.setCell ⟨w.heap.size, 0, none⟩ (.slice A26 (nodes.length + 1) c26)) W0.heap.size (fun k => ((lab k = 2 ∧ k < w.heap.size) ∨ w7.heap.size ≤ k) ∧ k < w8.heap.size) (.slice A20 (parts.length + 1) c20) (parts ++ [(nodes.length : Int)]) ∧ Below W0.heap.size W0 (wA.setCell ⟨w.heap.size, 0, none⟩ (.slice A26 (nodes.length + 1) c26)) ∧ Kept w (wA.setCell ⟨w.heap.size, 0, none⟩ (.slice A26 (nodes.length + 1) c26)) (fun k => lab k = 1 ∨ lab k = 2 ∨ lab k = 3) from ⟨Kd.S_set HSA.out HG1.out (by decide) 0 _, Kd.R_set HRA.out HG1.out (by decide) 0 _, HBA.out.setCell (p := ⟨w.heap.size, 0, none⟩) HB.out.size _, HKPA.out.setCell (p := ⟨w.heap.size, 0, none⟩) (.inr (Nat.le_refl _)) _⟩)
  generalize wA.setCell ⟨w.heap.size, 0, none⟩ (.slice A26 (nodes.length + 1) c26) = wB at hq1 hq3 HWB ⊢
  clear k0 k1 f10
  have b0 : wB.cell? ⟨w.heap.size, 0, none⟩ = some (.slice A26 (nodes.length + 1) c26) := by rw [blk_cell hq1 0]; rfl
  have b1 : wB.cell? ⟨w.heap.size, 1, none⟩ = some (.slice A20 (parts.length + 1) c20) := by rw [blk_cell hq1 1]; rfl
  have HQ1 := Aside0.mk (blk_drew hq1)
  have HQ3 := Aside0.mk (blk_drew hq3)
  refine start_ (n := 7) (S := fun w' => w'.cell? ⟨w.heap.size, 0, none⟩ = some (.slice A26 (nodes.length + 1) c26) ∧ w'.cell? ⟨w.heap.size, 1, none⟩ = some (.slice A20 (parts.length + 1) c20)) (ds := []) #[false, false, false, false, false, false, false] (by kernel_rfl) rfl rfl ⟨by simpa using b0, by simpa using b1⟩ (fun hHeld => ?_)
  have HWC := Aside0.mk (show Kd.S k36 36 wB.drew W0.heap.size (fun k => ((lab k = 1 ∨ lab k = 3) ∧ k < w.heap.size) ∨ w8.heap.size ≤ k) (.slice A26 (nodes.length + 1) c26) (nodes ++ [x]) ∧ (Kd.int .i64).R 3 wB.drew W0.heap.size (fun k => ((lab k = 2 ∧ k < w.heap.size) ∨ w7.heap.size ≤ k) ∧ k < w8.heap.size) (.slice A20 (parts.length + 1) c20) (parts ++ [(nodes.length : Int)]) ∧ Below W0.heap.size W0 wB.drew ∧ Kept w wB.drew (fun k => lab k = 1 ∨ lab k = 2 ∨ lab k = 3) from ⟨Kd.S_drew HWB.out.1, Kd.R_drew HWB.out.2.1, below_drew1 HWB.out.2.2.1, HWB.out.2.2.2.drew⟩)
  generalize wB.drew = wC at HQ1 HQ3 HWC hHeld ⊢
  refine take_ (i := 0) (N := some 28) (v := ?_) (a' := ?_) #[true, false, false, false, false, false, false] rfl rfl (by kernel_rfl) (fun _ _ _ h => h) (Or.inl ⟨by rfl, ?_⟩) hHeld ?_ ?_
  rotate_left
  ·intro w' hw'
   go_simp
   with_reducible rfl
  rotate_left
  ·simp only [Act.put, List.setIfInBounds_toArray, List.set_cons_zero, List.set_cons_succ]
   rfl
  refine pure_ (i := 1) (N := some 29) (v := ?_) (a' := ?_) #[true, true, false, false, false, false, false] rfl rfl (by kernel_rfl) (fun _ _ _ h => h) (Or.inl ⟨by rfl, ?_⟩) ?_ ?_
  rotate_left
  ·intro w'
   go_simp
   with_reducible rfl
  rotate_left
  ·simp only [Act.put, List.setIfInBounds_toArray, List.set_cons_zero, List.set_cons_succ]
   rfl
  refine take_ (i := 2) (N := some 30) (v := ?_) (a' := ?_) #[true, true, true, false, false, false, false] rfl rfl (by kernel_rfl) (fun _ _ _ h => h) (Or.inl ⟨by rfl, ?_⟩) hHeld ?_ ?_
  rotate_left
  ·intro w' hw'
   go_simp
   with_reducible rfl
  rotate_left
  ·simp only [Act.put, List.setIfInBounds_toArray, List.set_cons_zero, List.set_cons_succ]
   rfl
  refine pure_ (i := 3) (N := some 31) (v := ?_) (a' := ?_) #[true, true, true, true, false, false, false] rfl rfl (by kernel_rfl) (fun _ _ _ h => h) (Or.inl ⟨by rfl, ?_⟩) ?_ ?_
  rotate_left
  ·intro w'
   go_simp
   with_reducible rfl
  rotate_left
  ·simp only [Act.put, List.setIfInBounds_toArray, List.set_cons_zero, List.set_cons_succ]
   rfl
  refine pure_ (i := 4) (N := some 32) (v := ?_) (a' := ?_) #[true, true, true, true, true, false, false] rfl rfl (by kernel_rfl) (fun _ _ _ h => h) (Or.inl ⟨by rfl, ?_⟩) ?_ ?_
  rotate_left
  ·intro w'
   go_simp
   with_reducible rfl
  rotate_left
  ·simp only [Act.put, List.setIfInBounds_toArray, List.set_cons_zero, List.set_cons_succ]
   rfl
  have z0 : wC.cell? ⟨w.heap.size + 1 + 1, 0, none⟩ = some (.slice none 0 0) := by rw [blk_cell HQ3.out 0]; rfl
  have z1 : wC.cell? ⟨w.heap.size + 1 + 1, 1, none⟩ = some (.slice none 0 0) := by rw [blk_cell HQ3.out 1]; rfl
  have g0 := blk_frozen HQ3.out 0
  have g1 := blk_frozen HQ3.out 1
  have E1 := (Below.heap_setCell (wC.setCell ⟨w.heap.size + 1 + 1, 0, none⟩ (.slice A26 (nodes.length + 1) c26)) ⟨w.heap.size + 1 + 1, 1, none⟩ (.slice A20 (parts.length + 1) c20) w.heap.size (by dsimp only; omega)).trans ((Below.heap_setCell wC ⟨w.heap.size + 1 + 1, 0, none⟩ (.slice A26 (nodes.length + 1) c26) w.heap.size (by dsimp only; omega)).trans HQ1.out)
  have E3 : ((wC.setCell ⟨w.heap.size + 1 + 1, 0, none⟩ (.slice A26 (nodes.length + 1) c26)).setCell ⟨w.heap.size + 1 + 1, 1, none⟩ (.slice A20 (parts.length + 1) c20)).heap[w.heap.size + 1 + 1]? = some (.cells #[.slice A26 (nodes.length + 1) c26, .slice A20 (parts.length + 1) c20] 32 (0, 0)) := blk_put (blk_put HQ3.out 0 _ rfl) 1 _ rfl
  have HEE := Aside0.mk (And.intro E1 E3)
  have F3 : (wC.setCell ⟨w.heap.size + 1 + 1, 0, none⟩ (.slice A26 (nodes.length + 1) c26)).heap[w.heap.size + 1 + 1]? = some (.cells #[.slice A26 (nodes.length + 1) c26, .slice none 0 0] 32 (0, 0)) := blk_put HQ3.out 0 _ rfl
  have HWD := Aside0.mk (show Kd.S k36 36 ((wC.setCell ⟨w.heap.size + 1 + 1, 0, none⟩ (.slice A26 (nodes.length + 1) c26)).setCell ⟨w.heap.size + 1 + 1, 1, none⟩ (.slice A20 (parts.length + 1) c20)) W0.heap.size (fun k => ((lab k = 1 ∨ lab k = 3) ∧ k < w.heap.size) ∨ w8.heap.size ≤ k) (.slice A26 (nodes.length + 1) c26) (nodes ++ [x]) ∧ (Kd.int .i64).R 3 ((wC.setCell ⟨w.heap.size + 1 + 1, 0, none⟩ (.slice A26 (nodes.length + 1) c26)).setCell ⟨w.heap.size + 1 + 1, 1, none⟩ (.slice A20 (parts.length + 1) c20)) W0.heap.size (fun k => ((lab k = 2 ∧ k < w.heap.size) ∨ w7.heap.size ≤ k) ∧ k < w8.heap.size) (.slice A20 (parts.length + 1) c20) (parts ++ [(nodes.length : Int)]) ∧ Below W0.heap.size W0 ((wC.setCell ⟨w.heap.size + 1 + 1, 0, none⟩ (.slice A26 (nodes.length + 1) c26)).setCell ⟨w.heap.size + 1 + 1, 1, none⟩ (.slice A20 (parts.length + 1) c20)) ∧ Kept w ((wC.setCell ⟨w.heap.size + 1 + 1, 0, none⟩ (.slice A26 (nodes.length + 1) c26)).setCell ⟨w.heap.size + 1 + 1, 1, none⟩ (.slice A20 (parts.length + 1) c20)) (fun k => lab k = 1 ∨ lab k = 2 ∨ lab k = 3) from ⟨Kd.S_set (Kd.S_set HWC.out.1 HQ3.out (by decide) 0 _) F3 (by decide) 1 _, Kd.R_set (Kd.R_set HWC.out.2.1 HQ3.out (by decide) 0 _) F3 (by decide) 1 _, by have hbw := HB.out.size; exact (HWC.out.2.2.1.setCell (p := ⟨w.heap.size + 1 + 1, 0, none⟩) (by dsimp only; omega) _).setCell (p := ⟨w.heap.size + 1 + 1, 1, none⟩) (by dsimp only; omega) _, (HWC.out.2.2.2.setCell (p := ⟨w.heap.size + 1 + 1, 0, none⟩) (.inr (by dsimp only; omega)) _).setCell (p := ⟨w.heap.size + 1 + 1, 1, none⟩) (.inr (by dsimp only; omega)) _⟩)
  clear E1 E3 F3
  refine one_ (i := 5) (N := none) #[true, true, true, true, true, true, false] rfl rfl (by kernel_rfl) (by decide) (fun K hK => ?_)
  refine skip_ (by rfl) rfl (w1 := (wC.setCell ⟨w.heap.size + 1 + 1, 0, none⟩ (.slice A26 (nodes.length + 1) c26)).setCell ⟨w.heap.size + 1 + 1, 1, none⟩ (.slice A20 (parts.length + 1) c20)) ?hr (hK.out _ _ ⟨by rw [blk_cell HEE.out.1 0]; rfl, by rw [blk_cell HEE.out.1 1]; rfl⟩ (fun hHeld => ?_))
  case hr => first | (go_simp; done) | (go_simp; rfl)
  clear hK K
  refine pure_ (i := 6) (N := some 5) (v := ?_) (a' := ?_) #[true, true, true, true, true, true, true] rfl rfl (by kernel_rfl) (fun _ _ _ h => h) (Or.inl ⟨by rfl, ?_⟩) ?_ ?_
  rotate_left
  ·intro w'
   go_simp
   with_reducible rfl
  rotate_left
  ·simp only [Act.put, List.setIfInBounds_toArray, List.set_cons_zero, List.set_cons_succ]
   rfl
  refine done_ (by kernel_rfl) ?_
  generalize (wC.setCell ⟨w.heap.size + 1 + 1, 0, none⟩ (.slice A26 (nodes.length + 1) c26)).setCell ⟨w.heap.size + 1 + 1, 1, none⟩ (.slice A20 (parts.length + 1) c20) = wD at HEE HWD ⊢
  clear z0 z1 g0 g1 b0 b1 hHeld
  try go_wp2
  refine bodyPost_ret (results_ct (p := 4) (u := 5) rfl _ _ (w.heap.size + 1 + 1) 32 #[.slice A26 (nodes.length + 1) c26, .slice A20 (parts.length + 1) c20] (0, 0) _ rfl HEE.out.2 Try.underlying32 rfl (by kernel_rfl)) rfl ?_
  have hw : IntKind.i64.wrap (nodes.length : Int) = (nodes.length : Int) := by rw [i64_w]; exact wrap_small _ (by have := HL.out; omega)
  refine ⟨_, _, by rw [HQ.out]; first | rfl | (simp only [hw]; rfl) | (rw [hw]; rfl) | (show _ = Ending.returned (.tuple #[_, .int .i64 (nodes.length : Int)]); rw [← hw]; rfl), ?_, ?_, HWD.out.2.2.1, HWD.out.2.2.2⟩
  ·rw [HQ.out]
   exact Kd.S_mono HWD.out.1 (fun k hk => ⟨fun e => by
    have h1 := HWD.out.2.1.1 k e.symm
    have h2 := HB7.out.size
    rcases hk with hk | hk
    ·rcases h1.1 with h3 | h3 <;> omega
    ·have := h1.2; omega, by
    have h2 := HB7.out.size
    have h3 := HZ8.out
    rcases hk with hk | hk
    ·exact .inl hk
    ·exact .inr (by omega)⟩)
  ·rw [HQ.out]
   exact Kd.R_mono HWD.out.2.1 (fun k hk => by
    have h2 := HB7.out.size
    rcases hk.1 with h3 | h3
    ·exact .inl h3
    ·exact .inr (by omega))
end Go.Proofs.Ytlnejmlphkpaaaa.PA
