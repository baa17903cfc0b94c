/- The graph seat: classed by hand. -/
import Derived.Test.YtlnejmlphkpaaaaIqGp
namespace Go.Proofs.Ytlnejmlphkpaaaa.PA
open Go.RowKit Go.Proofs.YtlnejmlphkpaaaaW.PrintWords Go.Proofs.YtlnejmlphkpaaaaW.PrintLast Go.Proofs.YtlnejmlphkpaaaaW.PrintMore
set_option linter.unusedVariables false
set_option linter.unusedSimpArgs false
set_option maxHeartbeats 8000000 in
set_option maxRecDepth 100000 in
theorem classed_calls {A1 A2 : Option Addr} {c1 c2 : Nat} {v0 : Value} {parts : List Int} (x : S36) (g : Nat) (w : World) (hg : w.heap[g]? = some (.cells #[v0, .slice A1 parts.length c1] 32 (0, 0))) (h1 : Kd.C (Kd.int .i64) w A1 parts.length parts) (h2 : Kd.C (Kd.int .i64) w A2 x.f2.length x.f2) (hl : x.f2.length ≤ 1000) (hin : ∀ y ∈ x.f2, 0 ≤ y ∧ y < (parts.length : Int)) :
  Calls Try.prog 128 #[.pointer (some ⟨g, 0, none⟩), .agg #[.int .i64 x.f0, .int .i64 x.f1, .slice A2 x.f2.length c2]] w fun e w' => ∃ v : Value, e = .returned (.agg #[.int .i64 x.f0, .int .i64 x.f1, v]) ∧ (Kd.int .i64).R 3 w' w.heap.size (fun _ => True) v (kidsC parts x.f2) ∧ Below w.heap.size w w' := by
 obtain ⟨op, nn, kids⟩ := x
 dsimp only at h2 hl hin ⊢
 obtain ⟨n, hn⟩ : ∃ n, n = kids.length := ⟨_, rfl⟩
 obtain ⟨np, hnp⟩ : ∃ n, n = parts.length := ⟨_, rfl⟩
 have HN := Aside0.mk hn
 have HNP := Aside0.mk hnp
 rw [← hnp] at hg h1
 rw [← hn] at h2 hl ⊢
 have HR1 := Aside0.mk h1
 have HR2 := Aside0.mk h2
 have HLN := Aside0.mk hl
 have HIN := Aside0.mk hin
 have HKL := Aside0.mk (show (kidsC parts kids).length = n by rw [hn]; simp [kidsC])
 have HKA := Aside0.mk (show ∀ i, i < n → (kidsC parts kids)[i]? = some (rd parts (rd kids (i : Int))) from fun i hi => by
  rw [hn] at hi
  rw [rd_at kids i hi]
  simp [kidsC, List.getElem?_eq_getElem hi])
 have HMEM := Aside0.mk (show ∀ i, i < n → rd kids (i : Int) ∈ kids from fun i hi => by rw [hn] at hi; rw [rd_at kids i hi]; exact List.getElem_mem hi)
 generalize kidsC parts kids = kc at HKL HKA ⊢
 have HGL := Aside0.mk (blk_lt hg)
 obtain ⟨o1, ho1⟩ : ∃ o : Obj, o = .cells #[.int .i64 op, .int .i64 nn, .slice A2 n c2] 36 := ⟨_, rfl⟩
 obtain ⟨o2, ho2⟩ : ∃ o : Obj, o = .cells #[.int .i64 0, .int .i64 0, .slice none 0 0] 36 := ⟨_, rfl⟩
 have B1 := Aside0.mk (show ((w.alloc o1).alloc o2).heap[w.heap.size]? = some (.cells #[.int .i64 op, .int .i64 nn, .slice A2 n c2] 36 (0, 0)) from by rw [← ho1]; exact blk_alloc (blk_new w o1) _)
 have B2 := Aside0.mk (show ((w.alloc o1).alloc o2).heap[w.heap.size + 1]? = some (.cells #[.int .i64 0, .int .i64 0, .slice none 0 0] 36 (0, 0)) from by rw [← ho2]; simpa using blk_new (w.alloc o1) o2)
 have BG := Aside0.mk (show ((w.alloc o1).alloc o2).heap[g]? = some (.cells #[v0, .slice A1 np c1] 32 (0, 0)) from blk_alloc (blk_alloc hg _) _)
 have HB2 := Aside0.mk (show Below w.heap.size w ((w.alloc o1).alloc o2) from below_alloc (below_alloc (Below.refl _ _) _) _)
 have HSZ := Aside0.mk (show ((w.alloc o1).alloc o2).heap.size = w.heap.size + 2 by simp)
 subst ho1 ho2
 have hm1 := Kd.C_max h1
 have hm2 := Kd.C_max h2
 clear hg h1 h2 hin hn hnp
 go_enter Try.func128, Try.ntmps128
 go_wp2_with ((with_reducible refine gate_dst (N := 11) rfl ?_); refine Kd.R_make (Kd.int .i64) _ 3 rfl (N := 11) rfl 23 _ _ rfl (n : Int) rfl rfl Try.underlying23 (.int .i64 0) 8 info3 rfl (by decide) (by omega) 0 (ok := fun _ => True) (okp := fun _ => True) rfl (fun _ hk => hk) trivial (by omega) (by have := HLN.out; simp; omega) (Below.refl _ _) (Nat.le_refl _) ?_; intro v11 w3 ho hb hg_ hnew_; obtain ⟨A5, c5, e5⟩ := Kd.R_slice ho; rw [List.length_replicate, Int.toNat_natCast] at e5; subst e5; rw [Int.toNat_natCast] at ho; have E1 := blk_below B1.out hb; have E2 := blk_below B2.out hb; have EG := blk_below BG.out hb; have HE1 := Aside0.mk E1; have HE2 := Aside0.mk E2; have HEG := Aside0.mk EG; have HO := Aside0.mk (by rw [HSZ.out] at ho; exact ho); have HB3 := Aside0.mk (below_step HB2.out hb); have z2 := blk_cell E1 2; (try simp only [List.getElem?_toArray, List.getElem?_cons_zero, List.getElem?_cons_succ] at z2); clear ho hb hg_ hnew_ E1 E2 EG)
 clear z2
 go_loopg [15] n (fun gg v15 wr => ∃ i : Nat, v15 = .int .i64 (i : Int) ∧ Aside0 (i ≤ n ∧ n - i ≤ gg) ∧ Aside0 (∃ row : List Int, row.length = n ∧ (∀ j, j < i → row[j]? = kc[j]?) ∧ (Kd.int .i64).R 3 wr (w.heap.size + 2) (fun _ => True) (.slice A5 n c5) row) ∧ Aside0 (Below w.heap.size w wr) ∧ Aside0 (wr.heap[w.heap.size]? = some (.cells #[.int .i64 op, .int .i64 nn, .slice A2 n c2] 36 (0, 0))) ∧ Aside0 (wr.heap[w.heap.size + 1]? = some (.cells #[.int .i64 0, .int .i64 0, .slice none 0 0] 36 (0, 0))))
 case atStart => exact ⟨0, rfl, ⟨Nat.zero_le _, Nat.le_refl _⟩, ⟨_, by simp, fun j hj => absurd hj (Nat.not_lt_zero _), HO.out⟩, HB3, HE1, HE2⟩
 case round =>
  clear HO HB3 HE1 HE2 HEG
  obtain ⟨i, rfl, HA, HROW, HB, HX1, HX2⟩ := hrel
  obtain ⟨row, hrl, hra, hrow⟩ := HROW.out
  have XG := Aside0.mk (show wr.heap[g]? = some (.cells #[v0, .slice A1 np c1] 32 (0, 0)) from (HB.out.block g HGL.out).trans (by
   have := BG.out
   rw [← this]
   exact ((HB2.out.block g HGL.out)).symm))
  by_cases hlt : i < n
  ·have p0 := eq_true (show (0 : Int) ≤ (i : Int) by omega)
   have q0 := eq_true (show (i : Int) < (n : Int) by omega)
   have hrow2 : (Kd.int .i64).R 3 wr (w.heap.size + 2) (fun _ => True) (.slice A5 row.length c5) row := by rw [hrl]; exact hrow
   obtain ⟨g5, c5', e5, gb5, gl5, cells5, hc5⟩ := Kd.R_form hrow2 (by omega)
   rw [hrl] at e5
   cases e5
   have hy := Kd.R_celln 0 hrow2 (i : Int) (by omega) (by omega)
   obtain ⟨hy1, hy2⟩ := hy
   have hput := Kd.R_putg hrow2 (i : Int) (rd parts (rd kids (i : Int)))
   obtain ⟨ad2, e2, hk2⟩ := Kd.at_int (show Kd.C (Kd.int .i64) w A2 kids.length kids from by rw [← HN.out]; exact HR2.out) (i : Int) (by omega) (by rw [← HN.out]; omega)
   cases e2
   have hyin := HIN.out _ (HMEM.out i hlt)
   obtain ⟨ad1, e1, hk1⟩ := Kd.at_int (show Kd.C (Kd.int .i64) w A1 parts.length parts from by rw [← HNP.out]; exact HR1.out) (rd kids (i : Int)) hyin.1 hyin.2
   cases e1
   obtain ⟨y, hyy⟩ : ∃ y, y = rd kids (i : Int) := ⟨_, rfl⟩
   have HKI := Aside0.mk (HKA.out i hlt)
   rw [← hyy] at hk1 hk2 hyin hput HKI
   obtain ⟨z, hzz⟩ : ∃ z, z = rd parts y := ⟨_, rfl⟩
   rw [← hzz] at hk1 hput HKI
   have p1 := eq_true hyin.1
   have q1 := eq_true (show y < (np : Int) by rw [HNP.out]; exact hyin.2)
   replace hk1 := (HB.out.cell (World.block_lt_of_cell? w _ hk1)).trans hk1
   replace hk2 := (HB.out.cell (World.block_lt_of_cell? w _ hk2)).trans hk2
   simp only [Int.toNat_natCast] at hk2 hy1 hy2
   have z1 := blk_cell XG.out 1
   try simp only [List.getElem?_toArray, List.getElem?_cons_zero, List.getElem?_cons_succ] at z1
   have HPUT := Aside0.mk hput
   have HRL := Aside0.mk hrl
   have HRA := Aside0.mk hra
   have HLT := Aside0.mk hlt
   have GB5 := Aside0.mk gb5
   clear hput hrl hra hrow hrow2 hyy hzz hyin gl5 hc5 hlt HROW gb5
   go_wp2
   go_roundg (n - (i + 1))
   case measure => have := HA.out; have := HLT.out; omega
   case rel =>
    refine ⟨i + 1, by first | rfl | (rw [wnext i n HLT.out (by have := HLN.out; omega)]; rfl) | rw [wnext i n HLT.out (by have := HLN.out; omega)], ⟨by have := HLT.out; omega, Nat.le_refl _⟩, ⟨row.set i z, by simpa using HRL.out, fun j hj => ?_, ?_⟩, ⟨HB.out.setCell (p := ⟨g5, i, none⟩) (by have := GB5.out; dsimp only; omega) _⟩, ⟨blk_far HX1.out (by have := GB5.out; dsimp only; omega) _⟩, ⟨blk_far HX2.out (by have := GB5.out; dsimp only; omega) _⟩⟩
    ·by_cases e : j = i
     ·subst e; rw [List.getElem?_set_self (by have := HLT.out; have := HRL.out; omega), HKI.out]
     ·rw [List.getElem?_set_ne (by omega)]; exact HRA.out j (by omega)
    ·have h := HPUT.out.1
     simp only [Int.toNat_natCast, List.length_set, HRL.out] at h ⊢
     exact h
  ·have q0 := eq_false (show ¬ (i : Int) < (n : Int) by omega)
   have cj : decide (i < n) = false := decide_eq_false hlt
   have e : row = kc := List.ext_getElem? fun j => by
    have := HA.out
    by_cases h : j < i
    ·exact hra j h
    ·rw [List.getElem?_eq_none (by omega), List.getElem?_eq_none (by have := HKL.out; omega)]
   subst e
   have HROW2 := Aside0.mk hrow
   have y0 := blk_cell HX1.out 0
   have y1 := blk_cell HX1.out 1
   have x0 := blk_cell HX2.out 0
   have x1 := blk_cell HX2.out 1
   have x2 := blk_cell HX2.out 2
   have f0 := blk_frozen HX2.out 0
   have f1 := blk_frozen HX2.out 1
   have f2 := blk_frozen HX2.out 2
   try simp only [List.getElem?_toArray, List.getElem?_cons_zero, List.getElem?_cons_succ] at y0 y1 x0 x1 x2
   clear hrow hrl hra hlt HROW
   go_wp2
   refine bodyPost_ret (results_cell_row rfl _ _ (w.heap.size + 1) 36 #[.int .i64 op, .int .i64 nn, .slice A5 n c5] (0, 0) _ rfl (blk_put (blk_put (blk_put HX2.out 0 _ rfl) 1 _ rfl) 2 _ rfl) Try.underlying36 rfl (by kernel_rfl)) rfl ?_
   refine ⟨_, rfl, ?_, ?_⟩
   ·have h1 := Kd.R_far (p := ⟨w.heap.size + 1, 0, none⟩) (Kd.R_bound HROW2.out) (fun k hk => by have := hk.2.1; dsimp only; omega) (.int .i64 op)
    have h2 := Kd.R_far (p := ⟨w.heap.size + 1, 1, none⟩) h1 (fun k hk => by have := hk.2.1; dsimp only; omega) (.int .i64 nn)
    have h3 := Kd.R_far (p := ⟨w.heap.size + 1, 2, none⟩) h2 (fun k hk => by have := hk.2.1; dsimp only; omega) (.slice A5 n c5)
    exact Kd.R_lower (Kd.R_mono h3 (fun _ _ => trivial)) (Nat.le_add_right _ _)
   ·exact ((HB.out.setCell (p := ⟨w.heap.size + 1, 0, none⟩) (by dsimp only; omega) _).setCell (p := ⟨w.heap.size + 1, 1, none⟩) (by dsimp only; omega) _).setCell (p := ⟨w.heap.size + 1, 2, none⟩) (by dsimp only; omega) _
end Go.Proofs.Ytlnejmlphkpaaaa.PA
