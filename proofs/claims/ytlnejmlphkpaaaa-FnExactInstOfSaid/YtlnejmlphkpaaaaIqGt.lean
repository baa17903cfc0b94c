/- The graph seat: put by hand. -/
import Derived.Test.YtlnejmlphkpaaaaIqGg
namespace Go.Proofs.Ytlnejmlphkpaaaa.PA
open Go.RowKit Go.Proofs.YtlnejmlphkpaaaaW.PrintWords Go.Proofs.YtlnejmlphkpaaaaW.PrintLast Go.Proofs.YtlnejmlphkpaaaaW.PrintMore
set_option linter.unusedVariables false
set_option linter.unusedSimpArgs false
theorem ready_has {ops : Array Oper} {md : Region.Mode} {l : Array Bool} {i p : Nat} (h : i ∈ Region.ready md ops l) (hp : (predsB md ops i).contains p = true) : l.getD p false = true := ready_pred h rfl p (by simpa using hp)
structure PtR (W0 w w9 : World) (lab : Nat → Nat) (g : Nat) (sl0 sl1 vk : Value) (nodes : List S36) (parts kc : List Int) (f0 f1 : Int) (b7 b8 b18 : Bool) (x28 x29 x39 : Value) (W : World) : Prop where
 below : Below W0.heap.size W0 W
 kept : Kept w W (fun k => lab k = 1 ∨ lab k = 2 ∨ k = g)
 n1 : w9.heap.size ≤ W.heap.size
 n0 : w.heap.size ≤ w9.heap.size
 nB : W0.heap.size ≤ w.heap.size
 gb : W.heap[g]? = some (.cells #[sl0, sl1] 32 (0, 0))
 xb : W.heap[w.heap.size]? = some (.cells #[.int .i64 f0, .int .i64 f1, vk] 36 (0, 0))
 parts_ : (Kd.int .i64).R 3 W W0.heap.size (fun k => lab k = 2 ∧ k < w.heap.size) sl1 parts
 f0_ : b8 = false → (Kd.int .i64).R 3 W W0.heap.size (fun k => w.heap.size + 1 ≤ k ∧ k < w9.heap.size) vk kc ∧ Kd.S k36 36 W W0.heap.size (fun k => lab k = 1 ∧ k < w.heap.size) sl0 nodes
 f7 : b7 = true → b8 = false → ∃ g7, x28 = .slice (some ⟨g7, 0, none⟩) 1 1 ∧ w9.heap.size ≤ g7 ∧ W.heap[g7]? = some (.cells #[.int .i64 f0, .int .i64 f1, vk] 36 (0, 0))
 f8 : b8 = true → Kd.S k36 36 W W0.heap.size (fun k => (lab k = 1 ∧ k < w.heap.size) ∨ w.heap.size ≤ k) x29 (nodes ++ [⟨f0, f1, kc⟩])
 f18 : b18 = true → ∃ g18, x39 = .slice (some ⟨g18, 0, none⟩) 1 1 ∧ w9.heap.size ≤ g18 ∧ W.heap[g18]? = some (.cells #[.int .i64 (nodes.length : Int)] 3 (0, 0))
theorem PtR.grow {W0 w w9 : World} {lab : Nat → Nat} {g : Nat} {sl0 sl1 vk : Value} {nodes : List S36} {parts kc : List Int} {f0 f1 : Int} {b7 b8 b18 : Bool} {x28 x29 x39 : Value} {W W' : World} (h : PtR W0 w w9 lab g sl0 sl1 vk nodes parts kc f0 f1 b7 b8 b18 x28 x29 x39 W) (hb : Below W.heap.size W W') : PtR W0 w w9 lab g sl0 sl1 vk nodes parts kc f0 f1 b7 b8 b18 x28 x29 x39 W' where
 below := h.below.trans (hb.mono (Nat.le_trans h.nB (Nat.le_trans h.n0 h.n1)))
 kept := h.kept.below hb
 n1 := Nat.le_trans h.n1 hb.size
 n0 := h.n0
 nB := h.nB
 gb := blk_below h.gb hb
 xb := blk_below h.xb hb
 parts_ := Kd.R_below h.parts_ hb
 f0_ h0 := ⟨Kd.R_below (h.f0_ h0).1 hb, Kd.S_below (h.f0_ h0).2 hb⟩
 f7 h0 h1 := by
  obtain ⟨g7, e, hg, hc⟩ := h.f7 h0 h1
  exact ⟨g7, e, hg, blk_below hc hb⟩
 f8 h0 := Kd.S_below (h.f8 h0) hb
 f18 h0 := by
  obtain ⟨g7, e, hg, hc⟩ := h.f18 h0
  exact ⟨g7, e, hg, blk_below hc hb⟩
set_option maxHeartbeats 8000000 in
set_option maxRecDepth 100000 in
theorem put_any (W0 w : World) (lab : Nat → Nat) (g : Nat) (v0 v1 : Value) {A2 : Option Addr} {c2 : Nat} (nodes : List S36) (parts : List Int) (x : S36) (hB : Below W0.heap.size W0 w) (hg : w.heap[g]? = some (.cells #[v0, v1] 32 (0, 0))) (hgB : W0.heap.size ≤ g) (hS : Kd.S k36 36 w W0.heap.size (fun k => lab k = 1) v0 nodes) (hP : (Kd.int .i64).R 3 w W0.heap.size (fun k => lab k = 2) v1 parts)
  (h2 : Kd.C (Kd.int .i64) w A2 x.f2.length x.f2) (hx : x.f2.length ≤ 1000) (hin : ∀ y ∈ x.f2, 0 ≤ y ∧ y < (parts.length : Int)) (hl : nodes.length ≤ 120) (hp : parts.length = nodes.length) (hks : ∀ y ∈ nodes, y.f2.length ≤ 1000) :
  Calls Try.prog 67 #[.pointer (some ⟨g, 0, none⟩), .agg #[.int .i64 x.f0, .int .i64 x.f1, .slice A2 x.f2.length c2]] w fun e w' => ∃ v0' v1' : Value, e = .returned (.int .i64 (putI nodes parts ⟨x.f0, x.f1, kidsC parts x.f2⟩).2) ∧ w'.heap[g]? = some (.cells #[v0', v1'] 32 (0, 0)) ∧ Kd.S k36 36 w' W0.heap.size (fun k => some k ≠ v1'.ownBlock ∧ ((lab k = 1 ∧ k < w.heap.size) ∨ w.heap.size ≤ k)) v0' (putI nodes parts ⟨x.f0, x.f1, kidsC parts x.f2⟩).1.1 ∧ (Kd.int .i64).R 3 w' W0.heap.size (fun k => (lab k = 2 ∧ k < w.heap.size) ∨ w.heap.size ≤ k) v1' (putI nodes parts ⟨x.f0, x.f1, kidsC parts x.f2⟩).1.2 ∧ Below W0.heap.size W0 w' ∧ Kept w w' (fun k => lab k = 1 ∨ lab k = 2 ∨ k = g) := by
 obtain ⟨A0, c0, rfl⟩ := Kd.S_slice hS
 obtain ⟨A1, c1, rfl⟩ := Kd.R_slice hP
 obtain ⟨kc, hkc⟩ : ∃ k, k = kidsC parts x.f2 := ⟨_, rfl⟩
 rw [← hkc]
 obtain ⟨fnd, hfnd⟩ : ∃ fnd, fnd = findN nodes parts ⟨x.f0, x.f1, kc⟩ := ⟨_, rfl⟩
 have HKC := Aside0.mk (show kidsC parts x.f2 = kc from hkc.symm)
 have HKL := Aside0.mk (show kc.length ≤ 1000 by rw [hkc]; simp only [kidsC, List.length_map]; exact hx)
 obtain ⟨o1, ho1⟩ : ∃ o : Obj, o = .cells #[.int .i64 x.f0, .int .i64 x.f1, .slice A2 x.f2.length c2] 36 := ⟨_, rfl⟩
 have B1 := Aside0.mk (show (w.alloc o1).heap[w.heap.size]? = some (.cells #[.int .i64 x.f0, .int .i64 x.f1, .slice A2 x.f2.length c2] 36 (0, 0)) from by rw [← ho1]; exact blk_new w o1)
 have HB1 := Aside0.mk (show Below w.heap.size w (w.alloc o1) from below_alloc (Below.refl _ _) _)
 have BG := Aside0.mk (show (w.alloc o1).heap[g]? = some (.cells #[.slice A0 nodes.length c0, .slice A1 parts.length c1] 32 (0, 0)) from blk_alloc hg _)
 have HSZ := Aside0.mk (show (w.alloc o1).heap.size = w.heap.size + 1 by simp)
 have T128 := Aside0.mk (classed_calls (A1 := A1) (A2 := A2) (c2 := c2) (v0 := .slice A0 nodes.length c0) x g (w.alloc o1) BG.out (Kd.C_alloc (Kd.R_reads' hP).2.2 _) (Kd.C_alloc h2 _) hx hin)
 rw [HKC.out] at T128
 subst ho1
 have T129 := Aside0.mk (fun (W : World) (hW : Below w.heap.size w W) (A3 : Option Addr) (c3 : Nat) (h3 : (Kd.int .i64).R 3 W (w.heap.size + 1) (fun _ => True) (.slice A3 kc.length c3) kc) => findNode_calls (A0 := A0) (A1 := A1) (A2 := A3) (c0 := c0) (c1 := c1) (c2 := c3) (nodes := nodes) (parts := parts) ⟨x.f0, x.f1, kc⟩ g W (blk_below hg hW) (Kd.C_below (Kd.S_reads' hS).2.2 hW) (Kd.C_below (Kd.R_reads' hP).2.2 hW) (Kd.R_reads' h3).2.2 (Kd.R_reads' h3).2.1 HKL.out hp)
 rw [← hfnd] at T129
 dsimp only at T129
 have HG := Aside0.mk hg
 have HGL := Aside0.mk (blk_lt hg)
 have HB := Aside0.mk hB
 have HGB := Aside0.mk hgB
 have HS := Aside0.mk hS
 have HP := Aside0.mk hP
 have HL := Aside0.mk hl
 have HPL := Aside0.mk hp
 have hm0 := Kd.C_max (Kd.S_reads' hS).2.2
 have hm1 := Kd.C_max (Kd.R_reads' hP).2.2
 have HPUT := Aside0.mk (show putI nodes parts ⟨x.f0, x.f1, kc⟩ = if 0 ≤ fnd then ((nodes, parts), fnd) else if nodes.length = 120 then ((nodes, parts), -1) else ((nodes ++ [⟨x.f0, x.f1, kc⟩], parts ++ [(nodes.length : Int)]), (nodes.length : Int)) by rw [putI, hfnd])
 clear hS hP hg hB hgB h2 hx hin hl hp hks hkc hfnd
 have HSAME := Aside0.mk (show ∀ W, Below w.heap.size w W → W.heap[g]? = some (.cells #[.slice A0 nodes.length c0, .slice A1 parts.length c1] 32 (0, 0)) ∧ Kd.S k36 36 W W0.heap.size (fun k => some k ≠ (Value.slice A1 parts.length c1).ownBlock ∧ ((lab k = 1 ∧ k < w.heap.size) ∨ w.heap.size ≤ k)) (.slice A0 nodes.length c0) nodes ∧ (Kd.int .i64).R 3 W W0.heap.size (fun k => (lab k = 2 ∧ k < w.heap.size) ∨ w.heap.size ≤ k) (.slice A1 parts.length c1) parts ∧ Below W0.heap.size W0 W ∧ Kept w W (fun k => lab k = 1 ∨ lab k = 2 ∨ k = g) from fun W hW => ⟨blk_below HG.out hW, Kd.S_below (Kd.S_mono (Kd.S_bound HS.out) (fun k hk => ⟨fun e => by have := HP.out.1 k e.symm; have := hk.1; omega, .inl ⟨hk.1, hk.2.2.1⟩⟩)) hW, Kd.R_below (Kd.R_mono (Kd.R_bound HP.out) (fun k hk => .inl ⟨hk.1, hk.2.2.1⟩)) hW, HB.out.trans (hW.mono HB.out.size), Kept.of_below hW _⟩)
 by_cases q : 0 ≤ fnd
 ·have HQ := Aside0.mk (show putI nodes parts ⟨x.f0, x.f1, kc⟩ = ((nodes, parts), fnd) by rw [HPUT.out, if_pos q])
  have d0 : (fnd ≥ 0) = True := eq_true q
  clear HPUT q
  go_enter Try.func67, Try.ntmps67
  go_wp2_with (first | (go_at_call 128; refine T128.out.mono ?_; rintro e w7 ⟨v7, rfl, hk7, hb7⟩; rw [HSZ.out] at hk7; obtain ⟨A3, c3, rfl⟩ := Kd.R_slice hk7; have D1 := blk_below B1.out hb7; have z0 := blk_cell D1 0; have z1 := blk_cell D1 1; have z2 := blk_cell D1 2; (try simp only [List.getElem?_toArray, List.getElem?_cons_zero, List.getElem?_cons_succ] at z0 z1 z2); have f0 := blk_frozen D1 0; have f1 := blk_frozen D1 1; have f2 := blk_frozen D1 2; have HD1 := Aside0.mk D1; have HB7 := Aside0.mk (below_step HB1.out hb7); have HK7 := Aside0.mk hk7; clear hk7 hb7 D1) | (go_at_call 129; have n1 := Kd.R_mono (Kd.R_far (p := ⟨w.heap.size, 2, none⟩) (Kd.R_far (p := ⟨w.heap.size, 1, none⟩) (Kd.R_far (p := ⟨w.heap.size, 0, none⟩) (Kd.R_bound HK7.out) (fun k hk => by have := hk.2.1; dsimp only; omega) (.int .i64 x.f0)) (fun k hk => by have := hk.2.1; dsimp only; omega) (.int .i64 x.f1)) (fun k hk => by have := hk.2.1; dsimp only; omega) (.slice A3 kc.length c3)) (fun _ _ => trivial); have n2 : (((w7.setCell ⟨w.heap.size, 0, none⟩ (.int .i64 x.f0)).setCell ⟨w.heap.size, 1, none⟩ (.int .i64 x.f1)).setCell ⟨w.heap.size, 2, none⟩ (.slice A3 kc.length c3)).heap[w.heap.size]? = some (.cells #[.int .i64 x.f0, .int .i64 x.f1, .slice A3 kc.length c3] 36 (0, 0)) := blk_put (blk_put (blk_put HD1.out 0 _ rfl) 1 _ rfl) 2 _ rfl; have n3 := below_set (j := 2) (v := .slice A3 kc.length c3) (below_set (j := 1) (v := .int .i64 x.f1) (below_set (j := 0) (v := .int .i64 x.f0) HB7.out (Nat.le_refl _)) (Nat.le_refl _)) (Nat.le_refl _); generalize ((w7.setCell ⟨w.heap.size, 0, none⟩ (.int .i64 x.f0)).setCell ⟨w.heap.size, 1, none⟩ (.int .i64 x.f1)).setCell ⟨w.heap.size, 2, none⟩ (.slice A3 kc.length c3) = w8 at n1 n2 n3 ⊢; refine (T129.out w8 n3 A3 c3 n1).mono ?_; rintro e w9 ⟨rfl, hb9⟩; have HB9 := Aside0.mk (below_step n3 hb9); have HD9 := Aside0.mk (blk_below n2 hb9); have HK9 := Aside0.mk (Kd.R_below (Kd.R_mono (Kd.R_bound n1) (fun k hk => (show w.heap.size + 1 ≤ k ∧ k < w8.heap.size from ⟨hk.2.1, hk.2.2.1⟩))) hb9); have HZ9 := Aside0.mk hb9.size; clear n1 n2 n3 hb9 z0 z1 z2 f0 f1 f2 HD1 HB7 HK7))
  go_ret
  have h := HSAME.out _ HB9.out
  exact ⟨_, _, by rw [HQ.out]; rfl, h.1, by rw [HQ.out]; exact h.2.1, by rw [HQ.out]; exact h.2.2.1, h.2.2.2.1, h.2.2.2.2⟩
 ·have d0 : (fnd ≥ 0) = False := eq_false q
  by_cases q2 : nodes.length = 120
  ·have HQ := Aside0.mk (show putI nodes parts ⟨x.f0, x.f1, kc⟩ = ((nodes, parts), -1) by rw [HPUT.out, if_neg q, if_pos q2])
   have d1 : ((nodes.length : Int) == 120) = true := by rw [q2]; rfl
   clear HPUT q q2
   go_enter Try.func67, Try.ntmps67
   go_wp2_with (first | (go_at_call 128; refine T128.out.mono ?_; rintro e w7 ⟨v7, rfl, hk7, hb7⟩; rw [HSZ.out] at hk7; obtain ⟨A3, c3, rfl⟩ := Kd.R_slice hk7; have D1 := blk_below B1.out hb7; have z0 := blk_cell D1 0; have z1 := blk_cell D1 1; have z2 := blk_cell D1 2; (try simp only [List.getElem?_toArray, List.getElem?_cons_zero, List.getElem?_cons_succ] at z0 z1 z2); have f0 := blk_frozen D1 0; have f1 := blk_frozen D1 1; have f2 := blk_frozen D1 2; have HD1 := Aside0.mk D1; have HB7 := Aside0.mk (below_step HB1.out hb7); have HK7 := Aside0.mk hk7; clear hk7 hb7 D1) | (go_at_call 129; have n1 := Kd.R_mono (Kd.R_far (p := ⟨w.heap.size, 2, none⟩) (Kd.R_far (p := ⟨w.heap.size, 1, none⟩) (Kd.R_far (p := ⟨w.heap.size, 0, none⟩) (Kd.R_bound HK7.out) (fun k hk => by have := hk.2.1; dsimp only; omega) (.int .i64 x.f0)) (fun k hk => by have := hk.2.1; dsimp only; omega) (.int .i64 x.f1)) (fun k hk => by have := hk.2.1; dsimp only; omega) (.slice A3 kc.length c3)) (fun _ _ => trivial); have n2 : (((w7.setCell ⟨w.heap.size, 0, none⟩ (.int .i64 x.f0)).setCell ⟨w.heap.size, 1, none⟩ (.int .i64 x.f1)).setCell ⟨w.heap.size, 2, none⟩ (.slice A3 kc.length c3)).heap[w.heap.size]? = some (.cells #[.int .i64 x.f0, .int .i64 x.f1, .slice A3 kc.length c3] 36 (0, 0)) := blk_put (blk_put (blk_put HD1.out 0 _ rfl) 1 _ rfl) 2 _ rfl; have n3 := below_set (j := 2) (v := .slice A3 kc.length c3) (below_set (j := 1) (v := .int .i64 x.f1) (below_set (j := 0) (v := .int .i64 x.f0) HB7.out (Nat.le_refl _)) (Nat.le_refl _)) (Nat.le_refl _); generalize ((w7.setCell ⟨w.heap.size, 0, none⟩ (.int .i64 x.f0)).setCell ⟨w.heap.size, 1, none⟩ (.int .i64 x.f1)).setCell ⟨w.heap.size, 2, none⟩ (.slice A3 kc.length c3) = w8 at n1 n2 n3 ⊢; refine (T129.out w8 n3 A3 c3 n1).mono ?_; rintro e w9 ⟨rfl, hb9⟩; have HB9 := Aside0.mk (below_step n3 hb9); have HD9 := Aside0.mk (blk_below n2 hb9); have HK9 := Aside0.mk (Kd.R_below (Kd.R_mono (Kd.R_bound n1) (fun k hk => (show w.heap.size + 1 ≤ k ∧ k < w8.heap.size from ⟨hk.2.1, hk.2.2.1⟩))) hb9); have HZ9 := Aside0.mk hb9.size; clear n1 n2 n3 hb9 z0 z1 z2 f0 f1 f2 HD1 HB7 HK7; have k0 := blk_cell (blk_below HG.out HB9.out) 0; (try simp only [List.getElem?_toArray, List.getElem?_cons_zero, List.getElem?_cons_succ] at k0)))
   go_ret
   have h := HSAME.out _ HB9.out
   exact ⟨_, _, by rw [HQ.out]; rfl, h.1, by rw [HQ.out]; exact h.2.1, by rw [HQ.out]; exact h.2.2.1, h.2.2.2.1, h.2.2.2.2⟩
  ·have HQ := Aside0.mk (show putI nodes parts ⟨x.f0, x.f1, kc⟩ = ((nodes ++ [⟨x.f0, x.f1, kc⟩], parts ++ [(nodes.length : Int)]), (nodes.length : Int)) by rw [HPUT.out, if_neg q, if_neg q2])
   have d1 : ((nodes.length : Int) == 120) = false := beq_eq_false_iff_ne.mpr (by omega)
   clear HPUT q q2
   go_enter Try.func67, Try.ntmps67
   go_wp2_with (first | (go_at_call 128; refine T128.out.mono ?_; rintro e w7 ⟨v7, rfl, hk7, hb7⟩; rw [HSZ.out] at hk7; obtain ⟨A3, c3, rfl⟩ := Kd.R_slice hk7; have D1 := blk_below B1.out hb7; have z0 := blk_cell D1 0; have z1 := blk_cell D1 1; have z2 := blk_cell D1 2; (try simp only [List.getElem?_toArray, List.getElem?_cons_zero, List.getElem?_cons_succ] at z0 z1 z2); have f0 := blk_frozen D1 0; have f1 := blk_frozen D1 1; have f2 := blk_frozen D1 2; have HD1 := Aside0.mk D1; have HB7 := Aside0.mk (below_step HB1.out hb7); have HK7 := Aside0.mk hk7; clear hk7 hb7 D1) | (go_at_call 129; have n1 := Kd.R_mono (Kd.R_far (p := ⟨w.heap.size, 2, none⟩) (Kd.R_far (p := ⟨w.heap.size, 1, none⟩) (Kd.R_far (p := ⟨w.heap.size, 0, none⟩) (Kd.R_bound HK7.out) (fun k hk => by have := hk.2.1; dsimp only; omega) (.int .i64 x.f0)) (fun k hk => by have := hk.2.1; dsimp only; omega) (.int .i64 x.f1)) (fun k hk => by have := hk.2.1; dsimp only; omega) (.slice A3 kc.length c3)) (fun _ _ => trivial); have n2 : (((w7.setCell ⟨w.heap.size, 0, none⟩ (.int .i64 x.f0)).setCell ⟨w.heap.size, 1, none⟩ (.int .i64 x.f1)).setCell ⟨w.heap.size, 2, none⟩ (.slice A3 kc.length c3)).heap[w.heap.size]? = some (.cells #[.int .i64 x.f0, .int .i64 x.f1, .slice A3 kc.length c3] 36 (0, 0)) := blk_put (blk_put (blk_put HD1.out 0 _ rfl) 1 _ rfl) 2 _ rfl; have n3 := below_set (j := 2) (v := .slice A3 kc.length c3) (below_set (j := 1) (v := .int .i64 x.f1) (below_set (j := 0) (v := .int .i64 x.f0) HB7.out (Nat.le_refl _)) (Nat.le_refl _)) (Nat.le_refl _); generalize ((w7.setCell ⟨w.heap.size, 0, none⟩ (.int .i64 x.f0)).setCell ⟨w.heap.size, 1, none⟩ (.int .i64 x.f1)).setCell ⟨w.heap.size, 2, none⟩ (.slice A3 kc.length c3) = w8 at n1 n2 n3 ⊢; refine (T129.out w8 n3 A3 c3 n1).mono ?_; rintro e w9 ⟨rfl, hb9⟩; have HB9 := Aside0.mk (below_step n3 hb9); have HD9 := Aside0.mk (blk_below n2 hb9); have HK9 := Aside0.mk (Kd.R_below (Kd.R_mono (Kd.R_bound n1) (fun k hk => (show w.heap.size + 1 ≤ k ∧ k < w8.heap.size from ⟨hk.2.1, hk.2.2.1⟩))) hb9); have HZ9 := Aside0.mk hb9.size; clear n1 n2 n3 hb9 z0 z1 z2 f0 f1 f2 HD1 HB7 HK7; have k0 := blk_cell (blk_below HG.out HB9.out) 0; (try simp only [List.getElem?_toArray, List.getElem?_cons_zero, List.getElem?_cons_succ] at k0)))
   have DG := Aside0.mk (blk_drew (blk_below HG.out HB9.out))
   have DX := Aside0.mk (blk_drew HD9.out)
   have HRS := Aside0.mk (show PtR W0 w w9.drew lab g (.slice A0 nodes.length c0) (.slice A1 parts.length c1) (.slice A3 kc.length c3) nodes parts kc x.f0 x.f1 false false false undef undef undef w9.drew from ⟨HB.out.trans ((below_drew1 HB9.out).mono HB.out.size), Kept.of_below (below_drew1 HB9.out) _, Nat.le_refl _, HB9.out.size, HB.out.size, DG.out, DX.out, Kd.R_below (Kd.R_mono (Kd.R_bound HP.out) (fun k hk => ⟨hk.1, hk.2.2.1⟩)) (below_drew1 HB9.out), fun _ => ⟨Kd.R_lower (Kd.R_mono HK9.out (fun k hk => ⟨hk.1, Nat.lt_of_lt_of_le hk.2 HZ9.out⟩)) (Nat.le_succ_of_le HB.out.size), Kd.S_below (Kd.S_mono (Kd.S_bound HS.out) (fun k hk => ⟨hk.1, hk.2.2.1⟩)) (below_drew1 HB9.out)⟩, (fun h => by cases h), (fun h => by cases h), (fun h => by cases h)⟩)
   have y0 := blk_cell DG.out 0
   have y1 := blk_cell DG.out 1
   have x0 := blk_cell DX.out 0
   have x1 := blk_cell DX.out 1
   have x2 := blk_cell DX.out 2
   simp only [List.getElem?_toArray, List.getElem?_cons_zero, List.getElem?_cons_succ] at y0 y1 x0 x1 x2
   refine start_ (n := 26) (S := fun w' => w'.cell? ⟨g, 0, none⟩ = some (.slice A0 nodes.length c0) ∧ w'.cell? ⟨g, 1, none⟩ = some (.slice A1 parts.length c1) ∧ w'.cell? ⟨w.heap.size, 0, none⟩ = some (.int .i64 x.f0) ∧ w'.cell? ⟨w.heap.size, 1, none⟩ = some (.int .i64 x.f1) ∧ w'.cell? ⟨w.heap.size, 2, none⟩ = some (.slice A3 kc.length c3)) (ds := [22, 25]) #[false, false, false, false, false, false, false, false, false, false, false, false, false, false, false, false, false, false, false, false, false, false, false, false, false, false] (by kernel_rfl) rfl rfl ⟨y0, y1, x0, x1, x2⟩ (fun hHeld => ?_)
   clear y0 y1 x0 x1 x2 k0
   generalize w9.drew = wS at DG DX HRS hHeld ⊢
   refine pure_ (i := 0) (N := some 21) (v := ?_) (a' := ?_) #[true, false, false, false, false, false, false, false, false, false, false, false, false, false, false, false, false, false, false, false, false, false, false, false, false, false] rfl rfl (by kernel_rfl) (fun _ _ _ h => h) (Or.inl ⟨by rfl, ?_⟩) ?_ ?_
   rotate_left
   ·intro w'
    go_simp
    with_reducible rfl
   rotate_left
   ·simp only [Act.put, List.setIfInBounds_toArray, List.set_cons_zero, List.set_cons_succ]
    rfl
   refine pure_ (i := 1) (N := some 22) (v := ?_) (a' := ?_) #[true, true, false, false, false, false, false, false, false, false, false, false, false, false, false, false, false, false, false, false, false, false, false, false, false, false] rfl rfl (by kernel_rfl) (fun _ _ _ h => h) (Or.inl ⟨by rfl, ?_⟩) ?_ ?_
   rotate_left
   ·intro w'
    go_simp
    with_reducible rfl
   rotate_left
   ·simp only [Act.put, List.setIfInBounds_toArray, List.set_cons_zero, List.set_cons_succ]
    rfl
   refine pure_ (i := 2) (N := some 23) (v := ?_) (a' := ?_) #[true, true, true, false, false, false, false, false, false, false, false, false, false, false, false, false, false, false, false, false, false, false, false, false, false, false] rfl rfl (by kernel_rfl) (fun _ _ _ h => h) (Or.inl ⟨by rfl, ?_⟩) ?_ ?_
   rotate_left
   ·intro w'
    go_simp
    with_reducible rfl
   rotate_left
   ·simp only [Act.put, List.setIfInBounds_toArray, List.set_cons_zero, List.set_cons_succ]
    rfl
   refine pure_ (i := 3) (N := some 24) (v := ?_) (a' := ?_) #[true, true, true, true, false, false, false, false, false, false, false, false, false, false, false, false, false, false, false, false, false, false, false, false, false, false] rfl rfl (by kernel_rfl) (fun _ _ _ h => h) (Or.inl ⟨by rfl, ?_⟩) ?_ ?_
   rotate_left
   ·intro w'
    go_simp
    with_reducible rfl
   rotate_left
   ·simp only [Act.put, List.setIfInBounds_toArray, List.set_cons_zero, List.set_cons_succ]
    rfl
   refine pure_ (i := 4) (N := some 25) (v := ?_) (a' := ?_) #[true, true, true, true, true, false, false, false, false, false, false, false, false, false, false, false, false, false, false, false, false, false, false, false, false, false] rfl rfl (by kernel_rfl) (fun _ _ _ h => h) (Or.inl ⟨by rfl, ?_⟩) ?_ ?_
   rotate_left
   ·intro w'
    go_simp
    with_reducible rfl
   rotate_left
   ·simp only [Act.put, List.setIfInBounds_toArray, List.set_cons_zero, List.set_cons_succ]
    rfl
   refine pure_ (i := 9) (N := some 30) (v := ?_) (a' := ?_) #[true, true, true, true, true, false, false, false, false, true, false, false, false, false, false, false, false, false, false, false, false, false, false, false, false, false] rfl rfl (by kernel_rfl) (fun _ _ _ h => h) (Or.inl ⟨by rfl, ?_⟩) ?_ ?_
   rotate_left
   ·intro w'
    go_simp
    with_reducible rfl
   rotate_left
   ·simp only [Act.put, List.setIfInBounds_toArray, List.set_cons_zero, List.set_cons_succ]
    rfl
   refine pure_ (i := 10) (N := some 31) (v := ?_) (a' := ?_) #[true, true, true, true, true, false, false, false, false, true, true, false, false, false, false, false, false, false, false, false, false, false, false, false, false, false] rfl rfl (by kernel_rfl) (fun _ _ _ h => h) (Or.inl ⟨by rfl, ?_⟩) ?_ ?_
   rotate_left
   ·intro w'
    go_simp
    with_reducible rfl
   rotate_left
   ·simp only [Act.put, List.setIfInBounds_toArray, List.set_cons_zero, List.set_cons_succ]
    rfl
   refine pure_ (i := 11) (N := some 32) (v := ?_) (a' := ?_) #[true, true, true, true, true, false, false, false, false, true, true, true, false, false, false, false, false, false, false, false, false, false, false, false, false, false] rfl rfl (by kernel_rfl) (fun _ _ _ h => h) (Or.inl ⟨by rfl, ?_⟩) ?_ ?_
   rotate_left
   ·intro w'
    go_simp
    with_reducible rfl
   rotate_left
   ·simp only [Act.put, List.setIfInBounds_toArray, List.set_cons_zero, List.set_cons_succ]
    rfl
   refine pure_ (i := 13) (N := some 34) (v := ?_) (a' := ?_) #[true, true, true, true, true, false, false, false, false, true, true, true, false, true, false, false, false, false, false, false, false, false, false, false, false, false] rfl rfl (by kernel_rfl) (fun _ _ _ h => h) (Or.inl ⟨by rfl, ?_⟩) ?_ ?_
   rotate_left
   ·intro w'
    go_simp
    with_reducible rfl
   rotate_left
   ·simp only [Act.put, List.setIfInBounds_toArray, List.set_cons_zero, List.set_cons_succ]
    rfl
   refine pure_ (i := 14) (N := some 35) (v := ?_) (a' := ?_) #[true, true, true, true, true, false, false, false, false, true, true, true, false, true, true, false, false, false, false, false, false, false, false, false, false, false] rfl rfl (by kernel_rfl) (fun _ _ _ h => h) (Or.inl ⟨by rfl, ?_⟩) ?_ ?_
   rotate_left
   ·intro w'
    go_simp
    with_reducible rfl
   rotate_left
   ·simp only [Act.put, List.setIfInBounds_toArray, List.set_cons_zero, List.set_cons_succ]
    rfl
   refine pure_ (i := 15) (N := some 36) (v := ?_) (a' := ?_) #[true, true, true, true, true, false, false, false, false, true, true, true, false, true, true, true, false, false, false, false, false, false, false, false, false, false] rfl rfl (by kernel_rfl) (fun _ _ _ h => h) (Or.inl ⟨by rfl, ?_⟩) ?_ ?_
   rotate_left
   ·intro w'
    go_simp
    with_reducible rfl
   rotate_left
   ·simp only [Act.put, List.setIfInBounds_toArray, List.set_cons_zero, List.set_cons_succ]
    rfl
   refine take_ (i := 5) (N := some 26) (v := ?_) (a' := ?_) #[true, true, true, true, true, true, false, false, false, true, true, true, false, true, true, true, false, false, false, false, false, false, false, false, false, false] rfl rfl (by kernel_rfl) (fun _ _ _ h => h) (Or.inl ⟨by rfl, ?_⟩) hHeld ?_ ?_
   rotate_left
   ·rintro w' ⟨s0, s1, s2, s3, s4⟩
    go_simp
    with_reducible rfl
   rotate_left
   ·simp only [Act.put, List.setIfInBounds_toArray, List.set_cons_zero, List.set_cons_succ]
    rfl
   refine take_ (i := 6) (N := some 27) (v := ?_) (a' := ?_) #[true, true, true, true, true, true, true, false, false, true, true, true, false, true, true, true, false, false, false, false, false, false, false, false, false, false] rfl rfl (by kernel_rfl) (fun _ _ _ h => h) (Or.inl ⟨by rfl, ?_⟩) hHeld ?_ ?_
   rotate_left
   ·rintro w' ⟨s0, s1, s2, s3, s4⟩
    go_simp
    with_reducible rfl
   rotate_left
   ·simp only [Act.put, List.setIfInBounds_toArray, List.set_cons_zero, List.set_cons_succ]
    rfl
   refine take_ (i := 12) (N := some 33) (v := ?_) (a' := ?_) #[true, true, true, true, true, true, true, false, false, true, true, true, true, true, true, true, false, false, false, false, false, false, false, false, false, false] rfl rfl (by kernel_rfl) (fun _ _ _ h => h) (Or.inl ⟨by rfl, ?_⟩) hHeld ?_ ?_
   rotate_left
   ·rintro w' ⟨s0, s1, s2, s3, s4⟩
    go_simp
    with_reducible rfl
   rotate_left
   ·simp only [Act.put, List.setIfInBounds_toArray, List.set_cons_zero, List.set_cons_succ]
    rfl
   refine take_ (i := 16) (N := some 37) (v := ?_) (a' := ?_) #[true, true, true, true, true, true, true, false, false, true, true, true, true, true, true, true, true, false, false, false, false, false, false, false, false, false] rfl rfl (by kernel_rfl) (fun _ _ _ h => h) (Or.inl ⟨by rfl, ?_⟩) hHeld ?_ ?_
   rotate_left
   ·rintro w' ⟨s0, s1, s2, s3, s4⟩
    go_simp
    with_reducible rfl
   rotate_left
   ·simp only [Act.put, List.setIfInBounds_toArray, List.set_cons_zero, List.set_cons_succ]
    rfl
   refine pure_ (i := 17) (N := some 38) (v := ?_) (a' := ?_) #[true, true, true, true, true, true, true, false, false, true, true, true, true, true, true, true, true, true, false, false, false, false, false, false, false, false] rfl rfl (by kernel_rfl) (fun _ _ _ h => h) (Or.inl ⟨by rfl, ?_⟩) ?_ ?_
   rotate_left
   ·intro w'
    go_simp
    with_reducible rfl
   rotate_left
   ·simp only [Act.put, List.setIfInBounds_toArray, List.set_cons_zero, List.set_cons_succ]
    rfl
   refine invToD_ #[true, true, true, true, true, true, true, true, true, true, true, true, true, true, true, true, true, true, true, false, false, false, false, false, false, false] (fun a0 l a W => ∃ (b7 b8 b18 : Bool) (x28 x29 x39 : Value), l = #[true, true, true, true, true, true, true, b7, b8, true, true, true, true, true, true, true, true, true, b18, false, false, false, false, false, false, false] ∧ a = putAll a0 [(28, x28), (29, x29), (39, x39)] ∧ (b8 = true → b7 = true) ∧ PtR W0 w wS lab g (.slice A0 nodes.length c0) (.slice A1 parts.length c1) (.slice A3 kc.length c3) nodes parts kc x.f0 x.f1 b7 b8 b18 x28 x29 x39 W) ?h0 (Nat.le_of_eq (by kernel_rfl)) ?hS ?hnr ?hstep ?hcont
   case h0 => exact ⟨false, false, false, undef, undef, undef, rfl, by simp only [putAll, Act.put, List.setIfInBounds_toArray, List.set_cons_zero, List.set_cons_succ], (fun h => by cases h), HRS.out⟩
   case hS =>
    rintro l a W ⟨b7, b8, b18, x28, x29, x39, rfl, ha, ho, hR⟩
    exact ⟨blk_cell hR.gb 0, blk_cell hR.gb 1, blk_cell hR.xb 0, blk_cell hR.xb 1, blk_cell hR.xb 2⟩
   case hnr =>
    rintro l a W ⟨b7, b8, b18, x28, x29, x39, rfl, ha, ho, hR⟩ hne
    clear ha ho hR
    cases b7 with
    | false => exact pred_ready (i := 7) rfl (ps := [6]) (by kernel_rfl) rfl (by intro p hp; (repeat (rcases List.mem_cons.1 hp with rfl | hp; rfl)); cases hp)
    | true =>
    cases b8 with
    | false => exact pred_ready (i := 8) rfl (ps := [5, 7]) (by kernel_rfl) rfl (by intro p hp; (repeat (rcases List.mem_cons.1 hp with rfl | hp; rfl)); cases hp)
    | true =>
    cases b18 with
    | false => exact pred_ready (i := 18) rfl (ps := [17]) (by kernel_rfl) rfl (by intro p hp; (repeat (rcases List.mem_cons.1 hp with rfl | hp; rfl)); cases hp)
    | true => exact absurd rfl hne
   case hstep =>
    rintro l a W ⟨b7, b8, b18, x28, x29, x39, rfl, ha, ho, hR⟩ hne i hi op hop K hK
    simp only [putAll, Act.put, List.setIfInBounds_toArray, List.set_cons_zero, List.set_cons_succ] at ha
    subst ha
    have hun := (mem_ready.1 hi).1
    have hi26 : i = 0 ∨ i = 1 ∨ i = 2 ∨ i = 3 ∨ i = 4 ∨ i = 5 ∨ i = 6 ∨ i = 7 ∨ i = 8 ∨ i = 9 ∨ i = 10 ∨ i = 11 ∨ i = 12 ∨ i = 13 ∨ i = 14 ∨ i = 15 ∨ i = 16 ∨ i = 17 ∨ i = 18 ∨ i = 19 ∨ i = 20 ∨ i = 21 ∨ i = 22 ∨ i = 23 ∨ i = 24 ∨ i = 25 := by
     have h26 := (getD_false hun).1
     have h26' : i < 26 := h26
     clear hun hi hop hK h26
     omega
    have hlate : b8 = true → b18 = true → False := fun e1 e2 => by
     subst e1 e2
     obtain rfl : b7 = true := ho rfl
     exact hne rfl
    have e7 := blk_cell hR.xb 0
    rcases hi26 with rfl | rfl | rfl | rfl | rfl | rfl | rfl | rfl | rfl | rfl | rfl | rfl | rfl | rfl | rfl | rfl | rfl | rfl | rfl | rfl | rfl | rfl | rfl | rfl | rfl | rfl
    case inr.inr.inr.inr.inr.inr.inr.inl =>
     have e0 : b7 = false := hun
     have e1 : b8 = false := by
      cases b8 with
      | false => rfl
      | true => exact absurd (ho rfl) (by rw [e0]; decide)
     subst e0 e1
     obtain rfl := Option.some.inj hop
     have h' := hR.grow (W' := W.alloc (.cells #[.int .i64 x.f0, .int .i64 x.f1, .slice A3 kc.length c3] 36)) (below_alloc (Below.refl _ _) _)
     refine value_ (N := some 28) (by rfl) rfl (w1 := W.alloc (.cells #[.int .i64 x.f0, .int .i64 x.f1, .slice A3 kc.length c3] 36)) (v := .slice (some ⟨W.heap.size, 0, none⟩) 1 1) ?hr (hK _ _ ⟨true, false, b18, .slice (some ⟨W.heap.size, 0, none⟩) 1 1, x29, x39, rfl, ?ha, (fun h => by cases h), ?hR⟩)
     case ha =>
      show Act.put _ (some 28) _ = _
      simp only [putAll, Act.put, List.setIfInBounds_toArray, List.set_cons_zero, List.set_cons_succ]
     case hr => first | (go_simp; done) | (go_simp; rfl)
     case hR => exact ⟨h'.below, h'.kept, h'.n1, h'.n0, h'.nB, h'.gb, h'.xb, h'.parts_, h'.f0_, fun _ _ => ⟨_, rfl, hR.n1, blk_new _ _⟩, h'.f8, h'.f18⟩
    case inr.inr.inr.inr.inr.inr.inr.inr.inl =>
     have e0 : b8 = false := hun
     have hps := ready_pred hi (ps := [5, 7]) (by kernel_rfl)
     have e1 : b7 = true := hps 7 (by simp)
     subst e0 e1
     clear hps
     obtain ⟨g7, rfl, hg7, hc7⟩ := hR.f7 rfl rfl
     obtain ⟨hk, hs⟩ := hR.f0_ rfl
     have hn1 := hR.n1
     have hn0 := hR.n0
     obtain rfl := Option.some.inj hop
     refine S_append_at_step k36 (w0 := W0) W0.heap.size (by rfl) (.tmp 26) (.tmp 28) 30 36 (.agg #[(.int .i64 0), (.int .i64 0), (.slice none 0 0)]) 40 rfl Try.underlying30 info36 rfl (by decide) (by omega) (.slice A0 nodes.length c0) nodes ⟨x.f0, x.f1, kc⟩ [.int .i64 x.f0, .int .i64 x.f1, .slice A3 kc.length c3] g7 (fun k => (lab k = 1 ∧ k < w.heap.size) ∨ w.heap.size ≤ k) (fun k => w.heap.size + 1 ≤ k ∧ k < wS.heap.size) (by rfl) (by rfl) hc7 (k36_mkM _ _ _ ⟨x.f0, x.f1, kc⟩ hk) (fun k hk => ⟨.inr (by omega), fun e => by have := (Kd.S_R hs).1 k e.symm; omega⟩) (fun k hk => .inr (by omega)) (Kd.S_mono hs (fun k hk => ⟨.inl hk, fun h => by omega⟩)) hR.below (Nat.le_trans hR.nB (Nat.le_trans hn0 hn1)) (by have := HL.out; omega) ?_
     intro v1 W' hs' hb' hgr hat
     have hne' : ∀ k, wS.heap.size ≤ k → some k ≠ (Value.slice A0 nodes.length c0).ownBlock := fun k hk e => by have := (Kd.S_R hs).1 k e.symm; omega
     refine hK _ _ ⟨true, true, b18, .slice (some ⟨g7, 0, none⟩) 1 1, v1, x39, rfl, ?ha, fun _ => rfl, ?hR⟩
     case ha =>
      show Act.put _ (some 29) _ = _
      simp only [putAll, Act.put, List.setIfInBounds_toArray, List.set_cons_zero, List.set_cons_succ]
     case hR => exact ⟨hb', Kept.of_grown hgr hR.kept (fun k hk => .inl (.inl ((Kd.S_R hs).1 k hk).1)), Nat.le_trans hn1 hgr.size, hn0, hR.nB, blk_grown hR.gb hgr (Kd.S_ne hs hR.gb (by decide)), blk_grown hR.xb hgr (fun e => by have := ((Kd.S_R hs).1 _ e.symm).2; omega), Kd.R_grown hR.parts_ hgr (fun k hk e => by have := ((Kd.S_R hs).1 k e.symm).1; have := hk.1; omega), (fun h => by cases h), (fun _ h => by cases h), fun _ => hs', fun h0 => by
      obtain ⟨g18, e, hg, hc⟩ := hR.f18 h0
      exact ⟨g18, e, hg, blk_grown hc hgr (hne' _ hg)⟩⟩
    case inr.inr.inr.inr.inr.inr.inr.inr.inr.inr.inr.inr.inr.inr.inr.inr.inr.inr.inl =>
     have e0 : b18 = false := hun
     subst e0
     obtain rfl := Option.some.inj hop
     have h' := hR.grow (W' := W.alloc (.cells #[.int .i64 (nodes.length : Int)] 3)) (below_alloc (Below.refl _ _) _)
     refine value_ (N := some 39) (by rfl) rfl (w1 := W.alloc (.cells #[.int .i64 (nodes.length : Int)] 3)) (v := .slice (some ⟨W.heap.size, 0, none⟩) 1 1) ?hr (hK _ _ ⟨b7, b8, true, x28, x29, .slice (some ⟨W.heap.size, 0, none⟩) 1 1, rfl, ?ha, ho, ?hR⟩)
     case ha =>
      show Act.put _ (some 39) _ = _
      simp only [putAll, Act.put, List.setIfInBounds_toArray, List.set_cons_zero, List.set_cons_succ]
     case hr => first | (go_simp; done) | (go_simp; rfl)
     case hR => exact ⟨h'.below, h'.kept, h'.n1, h'.n0, h'.nB, h'.gb, h'.xb, h'.parts_, h'.f0_, h'.f7, h'.f8, fun _ => ⟨_, rfl, hR.n1, blk_new _ _⟩⟩
    case inr.inr.inr.inr.inr.inr.inr.inr.inr.inr.inr.inr.inr.inr.inr.inr.inr.inr.inr.inl => exact (hlate (ready_has hi (p := 8) (by kernel_rfl)) (ready_has hi (p := 18) (by kernel_rfl))).elim
    case inr.inr.inr.inr.inr.inr.inr.inr.inr.inr.inr.inr.inr.inr.inr.inr.inr.inr.inr.inr.inl => cases (ready_has hi (p := 19) (by kernel_rfl))
    case inr.inr.inr.inr.inr.inr.inr.inr.inr.inr.inr.inr.inr.inr.inr.inr.inr.inr.inr.inr.inr.inl => cases (ready_has hi (p := 20) (by kernel_rfl))
    case inr.inr.inr.inr.inr.inr.inr.inr.inr.inr.inr.inr.inr.inr.inr.inr.inr.inr.inr.inr.inr.inr.inl => cases (ready_has hi (p := 21) (by kernel_rfl))
    case inr.inr.inr.inr.inr.inr.inr.inr.inr.inr.inr.inr.inr.inr.inr.inr.inr.inr.inr.inr.inr.inr.inr.inl => cases (ready_has hi (p := 22) (by kernel_rfl))
    case inr.inr.inr.inr.inr.inr.inr.inr.inr.inr.inr.inr.inr.inr.inr.inr.inr.inr.inr.inr.inr.inr.inr.inr.inl => cases (ready_has hi (p := 23) (by kernel_rfl))
    case inr.inr.inr.inr.inr.inr.inr.inr.inr.inr.inr.inr.inr.inr.inr.inr.inr.inr.inr.inr.inr.inr.inr.inr.inr => cases (ready_has hi (p := 24) (by kernel_rfl))
    all_goals (cases hun; done)
   case hcont =>
    rintro f a W hf ⟨b7, b8, b18, x28, x29, x39, hl, ha, ho, hR⟩
    have e7 : true = b7 := congrArg (fun z => Array.getD z 7 false) hl
    have e8 : true = b8 := congrArg (fun z => Array.getD z 8 false) hl
    have e18 : true = b18 := congrArg (fun z => Array.getD z 18 false) hl
    subst e7 e8 e18
    simp only [putAll, Act.put, List.setIfInBounds_toArray, List.set_cons_zero, List.set_cons_succ] at ha
    subst ha
    obtain ⟨f, rfl⟩ : ∃ q, f = q + 7 := ⟨f - 7, by have h : cntF #[true, true, true, true, true, true, true, true, true, true, true, true, true, true, true, true, true, true, true, false, false, false, false, false, false, false] = 7 := (by kernel_rfl); rw [h] at hf; omega⟩
    obtain ⟨g18, rfl, hg18, hc18⟩ := hR.f18 rfl
    have hs8 := hR.f8 rfl
    obtain ⟨A8, c8, rfl⟩ := Kd.S_slice hs8
    rw [List.length_append, List.length_singleton] at hs8 ⊢
    have hn1 := hR.n1
    have hn0 := hR.n0
    clear hl ho hf hHeld
    refine one_ (i := 19) (N := some 40) #[true, true, true, true, true, true, true, true, true, true, true, true, true, true, true, true, true, true, true, true, false, false, false, false, false, false] rfl rfl (by kernel_rfl) (by decide) (fun K hK => ?_)
    refine R_append_at_step (Kd.int .i64) (w0 := W0) W0.heap.size (by rfl) (.tmp 33) (.tmp 39) 23 3 (.int .i64 0) 8 rfl Try.underlying23 info3 rfl (by decide) (by omega) (.slice A1 parts.length c1) parts (nodes.length : Int) [.int .i64 (nodes.length : Int)] g18 (fun k => (lab k = 2 ∧ k < w.heap.size) ∨ W.heap.size ≤ k) (fun _ => False) (by rfl) (by rfl) hc18 rfl (fun _ hk => hk.elim) (fun k hk => .inr hk) (Kd.R_mono hR.parts_ (fun _ h => .inl h)) hR.below (Nat.le_trans hR.nB (Nat.le_trans hn0 hn1)) (by have := HL.out; have := HPL.out; omega) ?_
    intro v40 W1 hr1 hb1 hgr1 hat1
    obtain ⟨A40, c40, rfl⟩ := Kd.R_slice hr1
    rw [List.length_append, List.length_singleton] at hr1 ⊢
    have G1 := Aside0.mk (blk_grown hR.gb hgr1 (Kd.R_ne hR.parts_ hR.gb (by decide)))
    have X1 := Aside0.mk (blk_grown hR.xb hgr1 (Kd.R_ne hR.parts_ hR.xb (by decide)))
    have S1 := Aside0.mk (Kd.S_grown (Kd.S_mono (Kd.S_bound hs8) (fun k hk => (show ((lab k = 1 ∧ k < w.heap.size) ∨ w.heap.size ≤ k) ∧ k < W.heap.size from ⟨hk.1, hk.2.2.1⟩))) hgr1 (fun k hk e => by have := hR.parts_.1 k e.symm; have := hk.1; omega))
    have R1 := Aside0.mk hr1
    have K1 := Aside0.mk (Kept.of_grown hgr1 hR.kept (fun k hk => .inl (.inr (.inl (hR.parts_.1 k hk).1))))
    have BB1 := Aside0.mk hb1
    have HN := Aside0.mk (show w.heap.size ≤ W.heap.size from Nat.le_trans hn0 hn1)
    refine hK.out _ _ ⟨blk_cell G1.out 0, blk_cell G1.out 1, blk_cell X1.out 0, blk_cell X1.out 1, blk_cell X1.out 2⟩ (fun hHeld => ?_)
    refine norm_ (a' := ?_) (show Act.put _ (some 40) _ = _ from ?_) ?_
    rotate_left
    ·simp only [putAll, Act.put, List.setIfInBounds_toArray, List.set_cons_zero, List.set_cons_succ]
     rfl
    clear hK K hr1 hb1 hgr1 hat1 hR hs8 hc18 hg18 hHeld
    refine pure_ (i := 20) (N := some 41) (v := ?_) (a' := ?_) #[true, true, true, true, true, true, true, true, true, true, true, true, true, true, true, true, true, true, true, true, true, false, false, false, false, false] rfl rfl (by kernel_rfl) (fun _ _ _ h => h) (Or.inl ⟨by rfl, ?_⟩) ?_ ?_
    rotate_left
    ·intro w'
     go_simp
     with_reducible rfl
    rotate_left
    ·simp only [Act.put, List.setIfInBounds_toArray, List.set_cons_zero, List.set_cons_succ]
     rfl
    refine pure_ (i := 21) (N := some 42) (v := ?_) (a' := ?_) #[true, true, true, true, true, true, true, true, true, true, true, true, true, true, true, true, true, true, true, true, true, true, false, false, false, false] rfl rfl (by kernel_rfl) (fun _ _ _ h => h) (Or.inl ⟨by rfl, ?_⟩) ?_ ?_
    rotate_left
    ·intro w'
     go_simp
     with_reducible rfl
    rotate_left
    ·simp only [Act.put, List.setIfInBounds_toArray, List.set_cons_zero, List.set_cons_succ]
     rfl
    have z0 := blk_cell G1.out 0
    have fz0 := blk_frozen G1.out 0
    simp only [List.getElem?_toArray, List.getElem?_cons_zero, List.getElem?_cons_succ] at z0
    have G2 := Aside0.mk (show (W1.setCell ⟨g, 0, none⟩ (.slice A8 (nodes.length + 1) c8)).heap[g]? = some (.cells #[.slice A8 (nodes.length + 1) c8, .slice A1 parts.length c1] 32 (0, 0)) from blk_put G1.out 0 _ rfl)
    have S2 := Aside0.mk (Kd.S_set S1.out G1.out (by decide) 0 (.slice A8 (nodes.length + 1) c8))
    have R2 := Aside0.mk (Kd.R_set R1.out G1.out (by decide) 0 (.slice A8 (nodes.length + 1) c8))
    have K2 := Aside0.mk (K1.out.setCell (p := ⟨g, 0, none⟩) (.inl (.inr (.inr rfl))) (.slice A8 (nodes.length + 1) c8))
    have B2 := Aside0.mk (BB1.out.setCell (p := ⟨g, 0, none⟩) HGB.out (.slice A8 (nodes.length + 1) c8))
    refine last_ (i := 22) (N := none) #[true, true, true, true, true, true, true, true, true, true, true, true, true, true, true, true, true, true, true, true, true, true, true, false, false, false] rfl rfl (by kernel_rfl) (by decide) (fun K hK => ?_)
    refine skip_ (by rfl) rfl (w1 := W1.setCell ⟨g, 0, none⟩ (.slice A8 (nodes.length + 1) c8)) ?hr (hK.out _ _ ?hgo)
    case hr => first | (go_simp; done) | (go_simp; rfl)
    case hgo =>
     clear hK K z0 fz0
     generalize W1.setCell ⟨g, 0, none⟩ (.slice A8 (nodes.length + 1) c8) = W2 at G2 S2 R2 K2 B2 ⊢
     refine pure_ (i := 23) (N := some 43) (v := ?_) (a' := ?_) #[true, true, true, true, true, true, true, true, true, true, true, true, true, true, true, true, true, true, true, true, true, true, true, true, false, false] rfl rfl (by kernel_rfl) (fun _ _ _ h => h) (Or.inl ⟨by rfl, ?_⟩) ?_ ?_
     rotate_left
     ·intro w'
      go_simp
      with_reducible rfl
     rotate_left
     ·simp only [Act.put, List.setIfInBounds_toArray, List.set_cons_zero, List.set_cons_succ]
      rfl
     refine pure_ (i := 24) (N := some 44) (v := ?_) (a' := ?_) #[true, true, true, true, true, true, true, true, true, true, true, true, true, true, true, true, true, true, true, true, true, true, true, true, true, false] rfl rfl (by kernel_rfl) (fun _ _ _ h => h) (Or.inl ⟨by rfl, ?_⟩) ?_ ?_
     rotate_left
     ·intro w'
      go_simp
      with_reducible rfl
     rotate_left
     ·simp only [Act.put, List.setIfInBounds_toArray, List.set_cons_zero, List.set_cons_succ]
      rfl
     have z1 := blk_cell G2.out 1
     have fz1 := blk_frozen G2.out 1
     simp only [List.getElem?_toArray, List.getElem?_cons_zero, List.getElem?_cons_succ] at z1
     have G3 := Aside0.mk (show (W2.setCell ⟨g, 1, none⟩ (.slice A40 (parts.length + 1) c40)).heap[g]? = some (.cells #[.slice A8 (nodes.length + 1) c8, .slice A40 (parts.length + 1) c40] 32 (0, 0)) from blk_put G2.out 1 _ rfl)
     have S3 := Aside0.mk (Kd.S_set S2.out G2.out (by decide) 1 (.slice A40 (parts.length + 1) c40))
     have R3 := Aside0.mk (Kd.R_set R2.out G2.out (by decide) 1 (.slice A40 (parts.length + 1) c40))
     have K3 := Aside0.mk (K2.out.setCell (p := ⟨g, 1, none⟩) (.inl (.inr (.inr rfl))) (.slice A40 (parts.length + 1) c40))
     have B3 := Aside0.mk (B2.out.setCell (p := ⟨g, 1, none⟩) HGB.out (.slice A40 (parts.length + 1) c40))
     refine last_ (i := 25) (N := none) #[true, true, true, true, true, true, true, true, true, true, true, true, true, true, true, true, true, true, true, true, true, true, true, true, true, true] rfl rfl (by kernel_rfl) (by decide) (fun K hK => ?_)
     refine skip_ (by rfl) rfl (w1 := W2.setCell ⟨g, 1, none⟩ (.slice A40 (parts.length + 1) c40)) ?hr (hK.out _ _ ?hgo)
     case hr => first | (go_simp; done) | (go_simp; rfl)
     case hgo =>
      clear hK K z1 fz1
      generalize W2.setCell ⟨g, 1, none⟩ (.slice A40 (parts.length + 1) c40) = W3 at G3 S3 R3 K3 B3 ⊢
      refine done_ (by kernel_rfl) ?_
      have z0 := blk_cell G3.out 0
      simp only [List.getElem?_toArray, List.getElem?_cons_zero, List.getElem?_cons_succ] at z0
      go_wp2
      go_ret
      have hw : IntKind.i64.wrap (nodes.length : Int) = (nodes.length : Int) := by rw [i64_w]; exact wrap_small _ (by have := HL.out; omega)
      refine ⟨_, _, by rw [HQ.out]; first | rfl | (simp only [hw]; rfl) | (rw [hw]; rfl), G3.out, ?_, ?_, B3.out, K3.out⟩
      ·rw [HQ.out]
       exact Kd.S_mono S3.out (fun k hk => ⟨fun e => by have h1 := R3.out.1 k e.symm; have h2 := HN.out; omega, hk.1⟩)
      ·rw [HQ.out]
       exact Kd.R_mono R3.out (fun k hk => by have h2 := HN.out; omega)
end Go.Proofs.Ytlnejmlphkpaaaa.PA
