/- The flow seat: marking, by hand: what a call that writes numbers into rows of its own leaves as it was. -/
import Derived.Test.YtghlbhijkhkgkaaAb2Vp
namespace Go.Proofs.Ytghlbhijkhkgkaa.PA
open Go.RowKit Go.Proofs.YtghlbhijkhkgkaaW.PrintWords Go.Proofs.YtghlbhijkhkgkaaW.PrintLast Go.Proofs.YtghlbhijkhkgkaaW.PrintMore
set_option linter.unusedVariables false
/-- The cells of a block of a type that marking leaves. -/
def heldAt (t : TypeId) (j : Nat) : Bool := if t = 3 then false else if t = 89 then j % 3 == 2 else if t = 109 then j % 2 == 1 else if t = 87 then (j % 5 == 1 || j % 5 == 4) else true
/-- A world that is marked within the blocks of S. -/
structure Mk (S : Nat → Prop) (w W : World) : Prop where
  os : W.os = w.os
  tape : W.tape = w.tape
  output : W.output = w.output
  size : W.heap.size = w.heap.size
  far : ∀ k, ¬ S k → W.heap[k]? = w.heap[k]?
  near : ∀ (k : Nat) (cs : Array Value) (t : TypeId), w.heap[k]? = some (.cells cs t (0, 0)) → ∃ cs' : Array Value, W.heap[k]? = some (.cells cs' t (0, 0)) ∧ cs'.size = cs.size ∧ ∀ j : Nat, heldAt t j = true → cs'[j]? = cs[j]?
section
variable {S : Nat → Prop} {w W : World} {base e n c g i : Nat} {ok : Nat → Prop} {A : Option Addr} {cs : Array Value}
theorem Mk.refl (S : Nat → Prop) (w : World) : Mk S w w := ⟨rfl, rfl, rfl, rfl, fun _ _ => rfl, fun k cs t h => ⟨cs, h, rfl, fun _ _ => rfl⟩⟩
theorem Mk.below {B : Nat} (h : Mk S w W) (hB : ∀ k, S k → B ≤ k) : Below B w W := ⟨h.os, h.tape, h.output, by rw [h.size]; exact Nat.le_refl _, fun k hk => h.far k (fun hs => by have := hB k hs; omega)⟩
theorem Mk.kept (h : Mk S w W) : Kept w W S := ⟨by rw [h.size]; exact Nat.le_refl _, fun k _ hs => h.far k hs⟩
theorem Mk.set {t : TypeId} (h : Mk S w W) (hs : S g) (hb : w.heap[g]? = some (.cells cs t (0, 0))) {j : Nat} (hj : heldAt t j = false) (u : Value) : Mk S w (W.setCell ⟨g, j, none⟩ u) := by
  have hbel : Below 0 w (W.setCell ⟨g, j, none⟩ u) := (h.below (fun _ _ => Nat.zero_le _)).setCell (Nat.zero_le _) u
  refine ⟨hbel.os, hbel.tape, hbel.output, ?_, fun k hk => ?_, fun k cs' t' hk => ?_⟩
  · rw [← h.size]; simp [World.setCell]
  · rw [Below.heap_setCell W ⟨g, j, none⟩ u k (fun e => hk (by rw [e]; exact hs))]
    exact h.far k hk
  · obtain ⟨cs2, h1, h2, h3⟩ := h.near k cs' t' hk
    by_cases e : k = g
    · subst e
      refine ⟨cs2.setIfInBounds j u, blk_set h1 j u, by rw [Array.size_setIfInBounds]; exact h2, fun q hq => ?_⟩
      have et : t' = t := by
        rw [hb] at hk
        simp only [Option.some.injEq, Obj.cells.injEq] at hk
        exact hk.2.1.symm
      subst et
      have hne : j ≠ q := fun e => by subst e; rw [hj] at hq; cases hq
      rw [Array.getElem?_setIfInBounds_ne hne]
      exact h3 q hq
    · exact ⟨cs2, (Below.heap_setCell W ⟨g, j, none⟩ u k e).trans h1, h2, h3⟩
theorem Mk.cell {t : TypeId} (h : Mk S w W) (hb : w.heap[g]? = some (.cells cs t (0, 0))) {j : Nat} (hj : heldAt t j = true) {v : Value} (hv : cs[j]? = some v) : W.cell? ⟨g, j, none⟩ = some v := by
  obtain ⟨cs2, h1, h2, h3⟩ := h.near g cs t hb
  rw [blk_cell h1 j, h3 j hj, hv]
theorem Mk.there {t : TypeId} (h : Mk S w W) (hb : w.heap[g]? = some (.cells cs t (0, 0))) (j : Nat) (hj : j < cs.size) : ∃ u, W.cell? ⟨g, j, none⟩ = some u := by
  obtain ⟨cs2, h1, h2, h3⟩ := h.near g cs t hb
  exact ⟨cs2[j]'(by omega), by rw [blk_cell h1 j]; exact Array.getElem?_eq_getElem (by omega)⟩
theorem Mk.frozen {t : TypeId} (h : Mk S w W) (hb : w.heap[g]? = some (.cells cs t (0, 0))) (j : Nat) : W.frozen? ⟨g, j, none⟩ = false := by
  obtain ⟨cs2, h1, h2, h3⟩ := h.near g cs t hb
  exact blk_frozen h1 j
/-- Where a row of one's own lies. -/
theorem row_blk {α : Type} {d : Kd α} {xs : List α} (h : d.R e w base ok (.slice A n c) xs) (hn : 0 < n) : ∃ g cs, A = some ⟨g, 0, none⟩ ∧ ok g ∧ w.heap[g]? = some (.cells cs e (0, 0)) ∧ n * d.sz ≤ cs.size ∧ n = xs.length := by
  have hl := (Kd.R_reads' h).1
  obtain ⟨hok, inner, ⟨h1, h2⟩, hr⟩ := h
  rcases h2 with ⟨e1, _⟩ | ⟨g, cap, cur, e1, h3, h4, h5, h6, h7, h8⟩
  · simp only [Value.slice.injEq] at e1; omega
  · simp only [Value.slice.injEq] at e1
    obtain ⟨rfl, rfl, rfl⟩ := e1
    refine ⟨g, cur, rfl, hok g (by simp [Value.ownBlock]), h4, ?_, hl⟩
    rw [h7]
    exact Nat.mul_le_mul_right _ (by omega)
theorem blk_at_cell {t : TypeId} (hb : w.heap[g]? = some (.cells cs t (0, 0))) {j : Nat} {v : Value} (h : w.cell? ⟨g, j, none⟩ = some v) : cs[j]? = some v := by rw [← blk_cell hb j]; exact h
theorem el89 {xs : List S89} (h : k89.R 89 w base ok (.slice A n c) xs) (hi : i < n) : ∃ g cs A2 c2, A = some ⟨g, 0, none⟩ ∧ ok g ∧ w.heap[g]? = some (.cells cs 89 (0, 0)) ∧ n * 3 ≤ cs.size ∧
    cs[i * 3 + 2]? = some (.slice A2 (rd_T89 xs (i : Int)).f2.length c2) ∧ (Kd.int .i64).R 3 w base ok (.slice A2 (rd_T89 xs (i : Int)).f2.length c2) (rd_T89 xs (i : Int)).f2 ∧ rd_T89 xs (i : Int) ∈ xs := by
  obtain ⟨g, cs, rfl, h1, h2, h3, h4⟩ := row_blk h (by omega)
  obtain ⟨cc, hl, hM, hc, _⟩ := Kd.R_elem h z89 (i : Int) (by omega) (by omega)
  obtain ⟨v2, rfl, g2⟩ := k89_openM hM
  obtain ⟨A2, c2, rfl⟩ := Kd.R_slice g2
  exact ⟨g, cs, A2, c2, rfl, h1, h2, h3, blk_at_cell h2 (hc 2 _ rfl), Kd.R_mono g2 (fun k hk => hk.1), getD_mem xs z89 i (by omega)⟩
theorem el109 {xs : List S109} (h : k109.R 109 w base ok (.slice A n c) xs) (hi : i < n) : ∃ g cs A2 c2, A = some ⟨g, 0, none⟩ ∧ ok g ∧ w.heap[g]? = some (.cells cs 109 (0, 0)) ∧ n * 2 ≤ cs.size ∧
    cs[i * 2 + 1]? = some (.slice A2 (rd_T109 xs (i : Int)).f1.length c2) ∧ (Kd.int .i64).R 3 w base ok (.slice A2 (rd_T109 xs (i : Int)).f1.length c2) (rd_T109 xs (i : Int)).f1 ∧ rd_T109 xs (i : Int) ∈ xs := by
  obtain ⟨g, cs, rfl, h1, h2, h3, h4⟩ := row_blk h (by omega)
  obtain ⟨cc, hl, hM, hc, _⟩ := Kd.R_elem h z109 (i : Int) (by omega) (by omega)
  obtain ⟨v2, rfl, g2⟩ := k109_openM hM
  obtain ⟨A2, c2, rfl⟩ := Kd.R_slice g2
  exact ⟨g, cs, A2, c2, rfl, h1, h2, h3, blk_at_cell h2 (hc 1 _ rfl), Kd.R_mono g2 (fun k hk => hk.1), getD_mem xs z109 i (by omega)⟩
theorem el87 {xs : List S87} (h : k87.R 87 w base ok (.slice A n c) xs) (hi : i < n) : ∃ g cs A1 c1 A4 c4, A = some ⟨g, 0, none⟩ ∧ ok g ∧ w.heap[g]? = some (.cells cs 87 (0, 0)) ∧ n * 5 ≤ cs.size ∧
    cs[i * 5 + 1]? = some (.slice A1 (rd_T87 xs (i : Int)).f1.length c1) ∧ k89.R 89 w base ok (.slice A1 (rd_T87 xs (i : Int)).f1.length c1) (rd_T87 xs (i : Int)).f1 ∧
    cs[i * 5 + 4]? = some (.slice A4 (rd_T87 xs (i : Int)).f4.length c4) ∧ k109.R 109 w base ok (.slice A4 (rd_T87 xs (i : Int)).f4.length c4) (rd_T87 xs (i : Int)).f4 ∧ rd_T87 xs (i : Int) ∈ xs := by
  obtain ⟨g, cs, rfl, h1, h2, h3, h4⟩ := row_blk h (by omega)
  obtain ⟨cc, hl, hM, hc, _⟩ := Kd.R_elem h z87 (i : Int) (by omega) (by omega)
  obtain ⟨v1, v4, rfl, g1, g4⟩ := k87_openM hM
  obtain ⟨A1, c1, rfl⟩ := Kd.R_slice g1
  obtain ⟨A4, c4, rfl⟩ := Kd.R_slice g4
  exact ⟨g, cs, A1, c1, A4, c4, rfl, h1, h2, h3, blk_at_cell h2 (hc 1 _ rfl), Kd.R_mono g1 (fun k hk => hk.1), blk_at_cell h2 (hc 4 _ rfl), Kd.R_mono g4 (fun k hk => hk.1), getD_mem xs z87 i (by omega)⟩
set_option maxHeartbeats 1000000 in
theorem mark3_any {xs : List Int} (h : (Kd.int .i64).R 3 w base ok (.slice A n c) xs) (hS : ∀ k, ok k → S k) (hn : n ≤ 1048576) (W : World) (hM : Mk S w W) (k : Int) (h0 : 0 ≤ k) (h1 : k ≤ 4000000000000000000) :
    Calls Try.prog 27 #[.slice A n c, .int .i64 k] W fun e W' => ∃ k' : Int, e = .returned (.int .i64 k') ∧ k ≤ k' ∧ k' ≤ k + (n : Int) ∧ Mk S w W' := by
  have HR := Aside0.mk h
  have HS := Aside0.mk hS
  have HM := Aside0.mk hM
  have HK := Aside0.mk (And.intro h0 h1)
  clear h hS hM h0 h1
  go_enter Try.func27, Try.ntmps27
  go_wp2
  go_loopg [1, 5] n (fun gg s1 s5 wr => ∃ (i : Nat) (q : Int), s5 = .int .i64 (i : Int) ∧ s1 = .int .i64 q ∧ Aside0 (i ≤ n ∧ n - i ≤ gg ∧ k ≤ q ∧ q ≤ k + (i : Int)) ∧ Aside0 (Mk S w wr))
  case atStart => exact ⟨0, k, rfl, rfl, ⟨by omega, by omega, by omega, by omega⟩, HM⟩
  case round =>
    clear HM
    obtain ⟨i, q, rfl, rfl, HA, HM⟩ := hrel
    by_cases hlt : i < n
    · obtain ⟨g, cs, rfl, hg1, hg2, hg3, hg4⟩ := row_blk HR.out (by omega)
      obtain ⟨u, hu⟩ := HM.out.there hg2 i (by have : n * 1 ≤ cs.size := hg3; omega)
      have hfz := HM.out.frozen hg2 i
      have HMS := Aside0.mk (fun v => HM.out.set (HS.out g hg1) hg2 (show heldAt 3 i = false from rfl) v)
      have hq1 : 0 ≤ q := by have := HA.out; have := HK.out; omega
      have hq2 : q ≤ 4000000000001048576 := by have := HA.out; have := HK.out; omega
      have HL := Aside0.mk hlt
      clear hg1 hg2 hg3 hg4
      go_wp2
      go_roundg (n - (i + 1))
      case measure => have := HA.out; have := HL.out; omega
      case rel => exact ⟨i + 1, q + 1, by go_num, rfl, ⟨by have := HL.out; omega, by omega, by have := HA.out; omega, by have := HA.out; omega⟩, ⟨HMS.out _⟩⟩
    · go_wp2
      go_ret
      exact ⟨q, rfl, HA.out.2.2.1, by have := HA.out; omega, HM.out⟩
set_option maxHeartbeats 2000000 in
set_option maxRecDepth 100000 in
theorem mark89_any {xs : List S89} (h : k89.R 89 w base ok (.slice A n c) xs) (hS : ∀ k, ok k → S k) (hn : n ≤ 1048576) (hx : ∀ x ∈ xs, x.f2.length ≤ 1048576) (W : World) (hM : Mk S w W) (k : Int) (h0 : 0 ≤ k) (h1 : k ≤ 3000000000000000000) :
    Calls Try.prog 108 #[.slice A n c, .int .i64 k] W fun e W' => ∃ k' : Int, e = .returned (.int .i64 k') ∧ k ≤ k' ∧ k' ≤ k + 1048578 * (n : Int) ∧ Mk S w W' := by
  have HR := Aside0.mk h
  have HS := Aside0.mk hS
  have HX := Aside0.mk hx
  have HM := Aside0.mk hM
  have HK := Aside0.mk (And.intro h0 h1)
  clear h hS hM h0 h1 hx
  go_enter Try.func108, Try.ntmps108
  go_wp2
  go_loopg [1, 5] n (fun gg s1 s5 wr => ∃ (i : Nat) (q : Int), s5 = .int .i64 (i : Int) ∧ s1 = .int .i64 q ∧ Aside0 (i ≤ n ∧ n - i ≤ gg ∧ k ≤ q ∧ q ≤ k + 1048578 * (i : Int)) ∧ Aside0 (Mk S w wr))
  case atStart => exact ⟨0, k, rfl, rfl, ⟨by omega, by omega, by omega, by omega⟩, HM⟩
  case round =>
    clear HM
    obtain ⟨i, q, rfl, rfl, HA, HM⟩ := hrel
    obtain ⟨wo, rfl⟩ : ∃ wo : World, wo = wr := ⟨_, rfl⟩
    by_cases hlt : i < n
    · obtain ⟨g, cs, A2, c2, rfl, hg1, hg2, hg3, hg4, hR2, hmem⟩ := el89 HR.out hlt
      have hq1 : 0 ≤ q := by have := HA.out; have := HK.out; omega
      have hq2 : q ≤ 3000001200000000000 := by have := HA.out; have := HK.out; omega
      obtain ⟨l2, hl2⟩ : ∃ z, z = (rd_T89 xs (i : Int)).f2.length := ⟨_, rfl⟩
      rw [← hl2] at hg4 hR2
      have hl3 : l2 ≤ 1048576 := by rw [hl2]; exact HX.out _ hmem
      have H27 := Aside0.mk (fun W hM k h0 h1 => mark3_any hR2 HS.out hl3 W hM k h0 h1)
      have HL3 := Aside0.mk hl3
      obtain ⟨u0, hu0⟩ := HM.out.there hg2 (i * 3) (by omega)
      have hf0 := HM.out.frozen hg2 (i * 3)
      obtain ⟨u1, hu1⟩ := HM.out.there hg2 (i * 3 + 1) (by omega)
      have hf1 := HM.out.frozen hg2 (i * 3 + 1)
      have hz2 := HM.out.cell hg2 (show heldAt 89 (i * 3 + 2) = true by simp [heldAt]) hg4
      have HMS := Aside0.mk (fun v v' => (HM.out.set (HS.out g hg1) hg2 (show heldAt 89 (i * 3) = false by simp [heldAt]) v).set (HS.out g hg1) hg2 (show heldAt 89 (i * 3 + 1) = false by simp [heldAt]) v')
      have HL := Aside0.mk hlt
      clear hg1 hg2 hg3 hg4 hR2 hmem hl2 hl3
      go_wp2_with (go_at_call 27; refine (H27.out _ (HMS.out _ _) _ (by omega) (by omega)).mono ?_; rintro e w1 ⟨kk, rfl, hk1, hk2, hm1⟩; have HM1 := Aside0.mk hm1; have HKK := Aside0.mk (And.intro hk1 hk2); clear hm1 hk1 hk2)
      go_roundg (n - (i + 1))
      case measure => have := HA.out; have := HL.out; omega
      case rel => exact ⟨i + 1, kk, by go_num, rfl, ⟨by have := HL.out; omega, by omega, by have := HA.out; have := HKK.out; omega, by have := HA.out; have := HKK.out; have := HL3.out; omega⟩, HM1⟩
    · go_wp2
      go_ret
      exact ⟨q, rfl, HA.out.2.2.1, by have := HA.out; omega, HM.out⟩
set_option maxHeartbeats 2000000 in
set_option maxRecDepth 100000 in
theorem mark109_any {xs : List S109} (h : k109.R 109 w base ok (.slice A n c) xs) (hS : ∀ k, ok k → S k) (hn : n ≤ 1048576) (hx : ∀ x ∈ xs, x.f1.length ≤ 1048576) (W : World) (hM : Mk S w W) (k : Int) (h0 : 0 ≤ k) (h1 : k ≤ 3000000000000000000) :
    Calls Try.prog 109 #[.slice A n c, .int .i64 k] W fun e W' => ∃ k' : Int, e = .returned (.int .i64 k') ∧ k ≤ k' ∧ k' ≤ k + 1048577 * (n : Int) ∧ Mk S w W' := by
  have HR := Aside0.mk h
  have HS := Aside0.mk hS
  have HX := Aside0.mk hx
  have HM := Aside0.mk hM
  have HK := Aside0.mk (And.intro h0 h1)
  clear h hS hM h0 h1 hx
  go_enter Try.func109, Try.ntmps109
  go_wp2
  go_loopg [1, 5] n (fun gg s1 s5 wr => ∃ (i : Nat) (q : Int), s5 = .int .i64 (i : Int) ∧ s1 = .int .i64 q ∧ Aside0 (i ≤ n ∧ n - i ≤ gg ∧ k ≤ q ∧ q ≤ k + 1048577 * (i : Int)) ∧ Aside0 (Mk S w wr))
  case atStart => exact ⟨0, k, rfl, rfl, ⟨by omega, by omega, by omega, by omega⟩, HM⟩
  case round =>
    clear HM
    obtain ⟨i, q, rfl, rfl, HA, HM⟩ := hrel
    obtain ⟨wo, rfl⟩ : ∃ wo : World, wo = wr := ⟨_, rfl⟩
    by_cases hlt : i < n
    · obtain ⟨g, cs, A2, c2, rfl, hg1, hg2, hg3, hg4, hR2, hmem⟩ := el109 HR.out hlt
      have hq1 : 0 ≤ q := by have := HA.out; have := HK.out; omega
      have hq2 : q ≤ 3000001200000000000 := by have := HA.out; have := HK.out; omega
      obtain ⟨l2, hl2⟩ : ∃ z, z = (rd_T109 xs (i : Int)).f1.length := ⟨_, rfl⟩
      rw [← hl2] at hg4 hR2
      have hl3 : l2 ≤ 1048576 := by rw [hl2]; exact HX.out _ hmem
      have H27 := Aside0.mk (fun W hM k h0 h1 => mark3_any hR2 HS.out hl3 W hM k h0 h1)
      have HL3 := Aside0.mk hl3
      obtain ⟨u0, hu0⟩ := HM.out.there hg2 (i * 2) (by omega)
      have hf0 := HM.out.frozen hg2 (i * 2)
      have hz2 := HM.out.cell hg2 (show heldAt 109 (i * 2 + 1) = true by simp [heldAt]) hg4
      have HMS := Aside0.mk (fun v => HM.out.set (HS.out g hg1) hg2 (show heldAt 109 (i * 2) = false by simp [heldAt]) v)
      have HL := Aside0.mk hlt
      clear hg1 hg2 hg3 hg4 hR2 hmem hl2 hl3
      go_wp2_with (go_at_call 27; refine (H27.out _ (HMS.out _) _ (by omega) (by omega)).mono ?_; rintro e w1 ⟨kk, rfl, hk1, hk2, hm1⟩; have HM1 := Aside0.mk hm1; have HKK := Aside0.mk (And.intro hk1 hk2); clear hm1 hk1 hk2)
      go_roundg (n - (i + 1))
      case measure => have := HA.out; have := HL.out; omega
      case rel => exact ⟨i + 1, kk, by go_num, rfl, ⟨by have := HL.out; omega, by omega, by have := HA.out; have := HKK.out; omega, by have := HA.out; have := HKK.out; have := HL3.out; omega⟩, HM1⟩
    · go_wp2
      go_ret
      exact ⟨q, rfl, HA.out.2.2.1, by have := HA.out; omega, HM.out⟩
set_option maxHeartbeats 2000000 in
set_option maxRecDepth 100000 in
theorem mark87_any {xs : List S87} (h : k87.R 87 w base ok (.slice A n c) xs) (hS : ∀ k, ok k → S k) (hn : n ≤ 1048576) (hx : ∀ x ∈ xs, (x.f1.length ≤ 1048576 ∧ ∀ y ∈ x.f1, y.f2.length ≤ 1048576) ∧ (x.f4.length ≤ 1048576 ∧ ∀ y ∈ x.f4, y.f1.length ≤ 1048576)) (W : World) (hM : Mk S w W) (k : Int) (h0 : 0 ≤ k) (h1 : k ≤ 1000) :
    Calls Try.prog 67 #[.slice A n c, .int .i64 k] W fun e W' => ∃ k' : Int, e = .returned (.int .i64 k') ∧ k ≤ k' ∧ k' ≤ k + 2199026401283 * (n : Int) ∧ Mk S w W' := by
  have HR := Aside0.mk h
  have HS := Aside0.mk hS
  have HX := Aside0.mk hx
  have HM := Aside0.mk hM
  have HK := Aside0.mk (And.intro h0 h1)
  clear h hS hM h0 h1 hx
  go_enter Try.func67, Try.ntmps67
  go_wp2
  go_loopg [1, 5] n (fun gg s1 s5 wr => ∃ (i : Nat) (q : Int), s5 = .int .i64 (i : Int) ∧ s1 = .int .i64 q ∧ Aside0 (i ≤ n ∧ n - i ≤ gg ∧ k ≤ q ∧ q ≤ k + 2199026401283 * (i : Int)) ∧ Aside0 (Mk S w wr))
  case atStart => exact ⟨0, k, rfl, rfl, ⟨by omega, by omega, by omega, by omega⟩, HM⟩
  case round =>
    clear HM
    obtain ⟨i, q, rfl, rfl, HA, HM⟩ := hrel
    obtain ⟨wo, rfl⟩ : ∃ wo : World, wo = wr := ⟨_, rfl⟩
    by_cases hlt : i < n
    · obtain ⟨g, cs, A1, c1, A4, c4, rfl, hg1, hg2, hg3, hg4, hR1, hg5, hR4, hmem⟩ := el87 HR.out hlt
      have hq1 : 0 ≤ q := by have := HA.out; have := HK.out; omega
      have hq2 : q ≤ 2400000000000000000 := by have := HA.out; have := HK.out; omega
      have hxx := HX.out _ hmem
      obtain ⟨b, hb⟩ : ∃ z, z = rd_T87 xs (i : Int) := ⟨_, rfl⟩
      rw [← hb] at hg4 hg5 hR1 hR4 hxx
      obtain ⟨l1, hl1⟩ : ∃ z, z = b.f1.length := ⟨_, rfl⟩
      obtain ⟨l4, hl4⟩ : ∃ z, z = b.f4.length := ⟨_, rfl⟩
      obtain ⟨⟨hx1, hx2⟩, hx3, hx4⟩ := hxx
      rw [← hl1] at hg4 hR1 hx1
      rw [← hl4] at hg5 hR4 hx3
      have H108 := Aside0.mk (fun W hM k h0 h1 => mark89_any hR1 HS.out hx1 hx2 W hM k h0 h1)
      have H109 := Aside0.mk (fun W hM k h0 h1 => mark109_any hR4 HS.out hx3 hx4 W hM k h0 h1)
      have HL3 := Aside0.mk (And.intro hx1 hx3)
      obtain ⟨u0, hu0⟩ := HM.out.there hg2 (i * 5) (by omega)
      have hf0 := HM.out.frozen hg2 (i * 5)
      have hz1 := HM.out.cell hg2 (show heldAt 87 (i * 5 + 1) = true by simp [heldAt]) hg4
      have HMS := Aside0.mk (fun v => HM.out.set (HS.out g hg1) hg2 (show heldAt 87 (i * 5) = false by simp [heldAt]) v)
      have HG := Aside0.mk (show ∀ W, Mk S w W → (∃ u, W.cell? ⟨g, i * 5 + 2, none⟩ = some u) ∧ W.frozen? ⟨g, i * 5 + 2, none⟩ = false ∧ (∃ u, W.cell? ⟨g, i * 5 + 3, none⟩ = some u) ∧ W.frozen? ⟨g, i * 5 + 3, none⟩ = false ∧ W.cell? ⟨g, i * 5 + 4, none⟩ = some (.slice A4 l4 c4) ∧ ∀ v v', Mk S w ((W.setCell ⟨g, i * 5 + 2, none⟩ v).setCell ⟨g, i * 5 + 3, none⟩ v') from fun W h => ⟨h.there hg2 _ (by omega), h.frozen hg2 _, h.there hg2 _ (by omega), h.frozen hg2 _, h.cell hg2 (by simp [heldAt]) hg5, fun v v' => (h.set (HS.out g hg1) hg2 (by simp [heldAt]) v).set (HS.out g hg1) hg2 (by simp [heldAt]) v'⟩)
      have HL := Aside0.mk hlt
      clear hg1 hg2 hg3 hg4 hg5 hR1 hR4 hmem hl1 hl4 hx1 hx2 hx3 hx4 hb
      go_wp2_with (first | (go_at_call 108; refine (H108.out _ (HMS.out _) _ (by omega) (by omega)).mono ?_; rintro e w1 ⟨k1, rfl, hk1, hk2, hm1⟩; obtain ⟨⟨u2, hu2⟩, hf2, ⟨u3, hu3⟩, hf3, hz4, hms⟩ := HG.out _ hm1; have HMT := Aside0.mk hms; have hk3 : 0 ≤ k1 := (by omega); have hk4 : k1 ≤ 2400002000000000000 := (by have := HL3.out; omega); have HK1 := Aside0.mk (And.intro hk1 hk2); clear hms hm1 hk1 hk2) | (go_at_call 109; refine (H109.out _ (HMT.out _ _) _ (by omega) (by omega)).mono ?_; rintro e w2 ⟨kk, rfl, hk1, hk2, hm1⟩; have HM1 := Aside0.mk hm1; have HK2 := Aside0.mk (And.intro hk1 hk2); clear hm1 hk1 hk2))
      go_roundg (n - (i + 1))
      case measure => have := HA.out; have := HL.out; omega
      case rel => exact ⟨i + 1, kk, by go_num, rfl, ⟨by have := HL.out; omega, by omega, by have := HA.out; have := HK1.out; have := HK2.out; omega, by have := HA.out; have := HK1.out; have := HK2.out; have := HL3.out; omega⟩, HM1⟩
    · go_wp2
      go_ret
      exact ⟨q, rfl, HA.out.2.2.1, by have := HA.out; omega, HM.out⟩
/-- Marking a function of one's own: the number it answers is not below 0; nothing but its own rows is written. -/
theorem markFunc_any {xs : List S87} (p : Int) (h : k87.R 87 w base ok (.slice A n c) xs) (hS : ∀ k, ok k → S k) (hn : n ≤ 1048576) (hx : ∀ x ∈ xs, (x.f1.length ≤ 1048576 ∧ ∀ y ∈ x.f1, y.f2.length ≤ 1048576) ∧ (x.f4.length ≤ 1048576 ∧ ∀ y ∈ x.f4, y.f1.length ≤ 1048576)) :
    Calls Try.prog 26 #[.agg #[.int .i64 p, .slice A n c], .int .i64 1] w fun e W' => ∃ k' : Int, e = .returned (.int .i64 k') ∧ 0 ≤ k' ∧ Kept w W' S ∧ ∀ B, B ≤ w.heap.size → (∀ k, S k → B ≤ k) → Below B w W' := by
  have H67 := Aside0.mk (mark87_any (Kd.R_alloc h (.cells #[.int .i64 p, .slice A n c] 30)) hS hn hx _ (Mk.refl S _) 1 (by omega) (by omega))
  clear h hS hx
  go_enter Try.func26, Try.ntmps26
  go_wp2_with (go_at_call 67; refine (H67.out).mono ?_; rintro e w1 ⟨kk, rfl, hk1, hk2, hm1⟩; have HM1 := Aside0.mk hm1; have HKK := Aside0.mk hk1; clear hm1 hk1 hk2 H67)
  go_ret
  exact ⟨kk, rfl, by have := HKK.out; omega, (Kept.of_below (below_alloc (Below.refl _ _) _) S).then_ HM1.out.kept (fun k hk => .inl hk), fun B hB hSB => ((below_alloc (Below.refl _ _) _).mono hB).trans (HM1.out.below hSB)⟩
end
end Go.Proofs.Ytghlbhijkhkgkaa.PA
