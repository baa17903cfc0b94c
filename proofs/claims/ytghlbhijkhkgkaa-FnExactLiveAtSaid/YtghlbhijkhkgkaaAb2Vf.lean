/- The flow seat: blockOK by hand. -/
import Derived.Test.YtghlbhijkhkgkaaAb2Vc
namespace Go.Proofs.Ytghlbhijkhkgkaa.PA
open Go.RowKit Go.Proofs.YtghlbhijkhkgkaaW.PrintWords Go.Proofs.YtghlbhijkhkgkaaW.PrintLast Go.Proofs.YtghlbhijkhkgkaaW.PrintMore
set_option linter.unusedVariables false
theorem bcell {W w1 : World} (hb : Below W.heap.size W w1) : (∀ b o, b < W.heap.size → w1.cell? ⟨b, o, none⟩ = W.cell? ⟨b, o, none⟩) ∧ (∀ b o, b < W.heap.size → w1.frozen? ⟨b, o, none⟩ = W.frozen? ⟨b, o, none⟩) :=
  ⟨fun b o h => hb.cell (p := ⟨b, o, none⟩) h, fun b o h => hb.frozen (p := ⟨b, o, none⟩) h⟩
theorem asz (w : World) (o : Obj) : (w.alloc o).heap.size = w.heap.size + 1 := by simp
theorem lit_C (W : World) (x : Int) : Kd.C (Kd.int .i64) (W.alloc (.cells #[.int .i64 x] 3)) (some ⟨W.heap.size, 0, none⟩) [x].length [x] := by
  refine ⟨rfl, by simp, fun _ => ⟨_, rfl, fun j p hj => ?_⟩⟩
  cases j with
  | succ j => simp at hj
  | zero =>
    obtain rfl : x = p := by simpa using hj
    refine ⟨[.int .i64 x], rfl, rfl, fun i u hu => ?_⟩
    cases i with
    | succ i => simp at hu
    | zero =>
      obtain rfl : Value.int .i64 x = u := by simpa using hu
      simp [Addr.add]
section
variable {w w1 : World} {g : Nat} {p : Int} {A : Option Addr} {bs : List S87} {c : Nat} {fs bl : List Int} {tot : Int}
theorem inst_closure {A1 : Option Addr} {c1 : Nat} (op n : Int) (l : List Int) (h : Nat) (hv : View w g p A bs c fs bl tot) (ht : 0 ≤ tot ∧ tot ≤ 1000) (hh : w.cell? ⟨h, 0, none⟩ = some (.pointer (some ⟨g, 0, none⟩))) (hr : Kd.C (Kd.int .i64) w A1 l.length l) :
    Calls Try.prog 124 #[.agg #[.int .i64 op, .int .i64 n, .slice A1 l.length c1], .pointer (some ⟨h, 0, none⟩)] w fun e w' => e = .returned (.bool (!(instB tot op n l))) ∧ Below w.heap.size w w' := by
  have hcall := Aside0.mk (fun W (hW : Below w.heap.size w W) => instOK_any (A1 := A1) (c1 := c1) op n l (hv.below hW) ht (Kd.C_below hr hW))
  have hlt := World.block_lt_of_cell? w _ hh
  clear hv ht hr
  have HB := Aside0.mk (Below.refl w.heap.size w)
  go_enter Try.func124, Try.ntmps124
  go_wp2_with (go_at_call 125; refine (hcall.out _ (by repeat (first | exact HB.out | apply below_alloc))).mono ?_; rintro e w' ⟨rfl, hb⟩; have HB' := Aside0.mk hb; clear hb hcall)
  go_ret
  exact ⟨rfl, below_step (by repeat (first | exact HB.out | apply below_alloc)) HB'.out⟩
theorem jump_closure {A1 : Option Addr} {c1 : Nat} (tj : Int) (l : List Int) (h : Nat) (hv : View w g p A bs c fs bl tot) (ht : 0 ≤ tot ∧ tot ≤ 1000) (hh : w.cell? ⟨h, 0, none⟩ = some (.pointer (some ⟨g, 0, none⟩))) (hr : Kd.C (Kd.int .i64) w A1 l.length l) :
    Calls Try.prog 127 #[.agg #[.int .i64 tj, .slice A1 l.length c1], .pointer (some ⟨h, 0, none⟩)] w fun e w' => e = .returned (.bool (!(jumpB tot bs tj l))) ∧ Below w.heap.size w w' := by
  have hcall := Aside0.mk (fun W (hW : Below w.heap.size w W) => jumpOK_any (A1 := A1) (c1 := c1) tj l (hv.below hW) ht (Kd.C_below hr hW))
  have hlt := World.block_lt_of_cell? w _ hh
  clear hv ht hr
  have HB := Aside0.mk (Below.refl w.heap.size w)
  go_enter Try.func127, Try.ntmps127
  go_wp2_with (go_at_call 128; refine (hcall.out _ (by repeat (first | exact HB.out | apply below_alloc))).mono ?_; rintro e w' ⟨rfl, hb⟩; have HB' := Aside0.mk hb; clear hb hcall)
  go_ret
  exact ⟨rfl, below_step (by repeat (first | exact HB.out | apply below_alloc)) HB'.out⟩
set_option maxHeartbeats 8000000 in
set_option maxRecDepth 100000 in
theorem blockOK_any {A1 A4 : Option Addr} {c1 c4 : Nat} (f0 f2 f3 : Int) (l1 : List S89) (l4 : List S109) (hv : View w g p A bs c fs bl tot) (ht : 0 ≤ tot ∧ tot ≤ 1000) (hr1 : Kd.C k89 w A1 l1.length l1) (hr4 : Kd.C k109 w A4 l4.length l4) :
    Calls Try.prog 97 #[.pointer (some ⟨g, 0, none⟩), .agg #[.int .i64 f0, .slice A1 l1.length c1, .int .i64 f2, .int .i64 f3, .slice A4 l4.length c4]] w fun e w' => e = .returned (.bool (blockB tot bs l1 f2 f3 l4)) ∧ Below w.heap.size w w' := by
  have hm4 := Kd.C_max hr4
  have h1 := Aside0.mk (fun W (hW : Below w.heap.size w W) h (hh : W.cell? ⟨h, 0, none⟩ = some (.pointer (some ⟨g, 0, none⟩))) =>
    sl_ContainsFunc_inst A1 c1 l1 124 #[.pointer (some ⟨h, 0, none⟩)] (fun x => !(instB tot x.f0 x.f1 x.f2)) W (Kd.C_below hr1 hW) (enters_fn Try.func124 (by kernel_rfl) (by kernel_rfl))
      (fun W' hW' x _ A2 c2 _ hx => inst_closure x.f0 x.f1 x.f2 h ((hv.below hW).below hW') ht ((hW'.cell (World.block_lt_of_cell? W _ hh)).trans hh) hx))
  have h4 := Aside0.mk (fun W (hW : Below w.heap.size w W) h (hh : W.cell? ⟨h, 0, none⟩ = some (.pointer (some ⟨g, 0, none⟩))) =>
    sl_ContainsFunc_jump A4 c4 l4 127 #[.pointer (some ⟨h, 0, none⟩)] (fun x => !(jumpB tot bs x.f0 x.f1)) W (Kd.C_below hr4 hW) (enters_fn Try.func127 (by kernel_rfl) (by kernel_rfl))
      (fun W' hW' x _ A2 c2 _ hx => jump_closure x.f0 x.f1 h ((hv.below hW).below hW') ht ((hW'.cell (World.block_lt_of_cell? W _ hh)).trans hh) hx))
  have h5 := Aside0.mk (fun W (hW : Below w.heap.size w W) => valuesOK_any (A1 := some ⟨W.heap.size, 0, none⟩) (c1 := 1) [f3] ((hv.below hW).alloc (.cells #[.int .i64 f3] 3)) ht (lit_C W f3))
  obtain ⟨i1, hi1⟩ : ∃ b, b = instsB tot l1 := ⟨_, rfl⟩
  obtain ⟨j1, hj1⟩ : ∃ b, b = jumpsB tot bs l4 := ⟨_, rfl⟩
  obtain ⟨vb, hvb⟩ : ∃ b, b = valsB tot [f3] := ⟨_, rfl⟩
  replace h1 := Aside0.mk (show ∀ W, Below w.heap.size w W → ∀ h, W.cell? ⟨h, 0, none⟩ = some (.pointer (some ⟨g, 0, none⟩)) → Calls Try.prog 123 #[.slice A1 l1.length c1, .func (.func 124) #[] #[.pointer (some ⟨h, 0, none⟩)]] W fun e w' => e = .returned (.bool i1) ∧ Below W.heap.size W w' from by rw [hi1]; exact h1.out)
  replace h4 := Aside0.mk (show ∀ W, Below w.heap.size w W → ∀ h, W.cell? ⟨h, 0, none⟩ = some (.pointer (some ⟨g, 0, none⟩)) → Calls Try.prog 126 #[.slice A4 l4.length c4, .func (.func 127) #[] #[.pointer (some ⟨h, 0, none⟩)]] W fun e w' => e = .returned (.bool j1) ∧ Below W.heap.size W w' from by rw [hj1]; exact h4.out)
  replace h5 := Aside0.mk (show ∀ W, Below w.heap.size w W → Calls Try.prog 57 #[.pointer (some ⟨g, 0, none⟩), .slice (some ⟨W.heap.size, 0, none⟩) 1 1] (W.alloc (.cells #[.int .i64 f3] 3)) fun e w' => e = .returned (.bool vb) ∧ Below (W.alloc (.cells #[.int .i64 f3] 3)).heap.size (W.alloc (.cells #[.int .i64 f3] 3)) w' from by rw [hvb]; exact h5.out)
  have HE := Aside0.mk (show blockB tot bs l1 f2 f3 l4 = if i1 = true then false else if j1 = true then false else if f2 = 1 then ((l4.length : Int) == 0) && vb else if f2 = 2 then ((l4.length : Int) == 1) && (f3 == 0) else ((f2 == 3) && ((l4.length : Int) == 2)) && vb by rw [hi1, hj1, hvb]; rfl)
  have HB := Aside0.mk (Below.refl w.heap.size w)
  clear hv ht hr1 hr4 hi1 hj1 hvb
  cases i1 with
  | true =>
    have HE2 := Aside0.mk (show blockB tot bs l1 f2 f3 l4 = false by rw [HE.out]; rfl)
    go_enter Try.func97, Try.ntmps97
    go_wp2_with (first | (go_at_call 123; refine (h1.out _ (by repeat (first | exact HB.out | apply below_alloc)) _ (by simp)).mono ?_; rintro e w1 ⟨rfl, hb⟩; obtain ⟨hc1, hf1⟩ := bcell hb; simp only [asz] at hc1 hf1; have HB1 := Aside0.mk (below_step (show Below w.heap.size w _ from by repeat (first | exact HB.out | apply below_alloc)) hb); have HS1 := hb.size; simp only [asz] at HS1; have k2 : w1.cell? ⟨w.heap.size + 1, 2, none⟩ = some (.int .i64 f2) := (by rw [hc1 _ _ (by omega)]; simp); have k3 : w1.cell? ⟨w.heap.size + 1, 3, none⟩ = some (.int .i64 f3) := (by rw [hc1 _ _ (by omega)]; simp); have k4 : w1.cell? ⟨w.heap.size + 1, 4, none⟩ = some (.slice A4 l4.length c4) := (by rw [hc1 _ _ (by omega)]; simp); have k0 : w1.cell? ⟨w.heap.size, 0, none⟩ = some (.pointer (some ⟨g, 0, none⟩)) := (by rw [hc1 _ _ (by omega)]; simp); clear hc1 hf1; clear hb h1))
    go_ret
    exact ⟨by rw [HE2.out]; rfl, HB1.out⟩
  | false =>
    cases j1 with
    | true =>
      have HE2 := Aside0.mk (show blockB tot bs l1 f2 f3 l4 = false by rw [HE.out]; rfl)
      go_enter Try.func97, Try.ntmps97
      go_wp2_with (first | (go_at_call 123; refine (h1.out _ (by repeat (first | exact HB.out | apply below_alloc)) _ (by simp)).mono ?_; rintro e w1 ⟨rfl, hb⟩; obtain ⟨hc1, hf1⟩ := bcell hb; simp only [asz] at hc1 hf1; have HB1 := Aside0.mk (below_step (show Below w.heap.size w _ from by repeat (first | exact HB.out | apply below_alloc)) hb); have HS1 := hb.size; simp only [asz] at HS1; have k2 : w1.cell? ⟨w.heap.size + 1, 2, none⟩ = some (.int .i64 f2) := (by rw [hc1 _ _ (by omega)]; simp); have k3 : w1.cell? ⟨w.heap.size + 1, 3, none⟩ = some (.int .i64 f3) := (by rw [hc1 _ _ (by omega)]; simp); have k4 : w1.cell? ⟨w.heap.size + 1, 4, none⟩ = some (.slice A4 l4.length c4) := (by rw [hc1 _ _ (by omega)]; simp); have k0 : w1.cell? ⟨w.heap.size, 0, none⟩ = some (.pointer (some ⟨g, 0, none⟩)) := (by rw [hc1 _ _ (by omega)]; simp); clear hc1 hf1; clear hb h1) | (go_at_call 126; refine (h4.out _ HB1.out _ k0).mono ?_; rintro e w2 ⟨rfl, hb⟩; obtain ⟨hc2, hf2⟩ := bcell hb; have HB2 := Aside0.mk (below_step HB1.out hb); have HS2 := hb.size; have m2 : w2.cell? ⟨w.heap.size + 1, 2, none⟩ = some (.int .i64 f2) := (by rw [hc2 _ _ (by omega)]; exact k2); have m3 : w2.cell? ⟨w.heap.size + 1, 3, none⟩ = some (.int .i64 f3) := (by rw [hc2 _ _ (by omega)]; exact k3); have m4 : w2.cell? ⟨w.heap.size + 1, 4, none⟩ = some (.slice A4 l4.length c4) := (by rw [hc2 _ _ (by omega)]; exact k4); have m0 : w2.cell? ⟨w.heap.size, 0, none⟩ = some (.pointer (some ⟨g, 0, none⟩)) := (by rw [hc2 _ _ (by omega)]; exact k0); clear hc2 hf2 k0 k2 k3 k4; clear hb h4))
      go_ret
      exact ⟨by rw [HE2.out]; rfl, HB2.out⟩
    | false =>
      by_cases e1 : f2 = 1
      · subst e1
        rcases Bool.eq_false_or_eq_true ((l4.length : Int) == 0) with q | q
        · have HE2 := Aside0.mk (show blockB tot bs l1 1 f3 l4 = vb by rw [HE.out]; simp [q])
          go_enter Try.func97, Try.ntmps97
          go_wp2_with (first | (go_at_call 123; refine (h1.out _ (by repeat (first | exact HB.out | apply below_alloc)) _ (by simp)).mono ?_; rintro e w1 ⟨rfl, hb⟩; obtain ⟨hc1, hf1⟩ := bcell hb; simp only [asz] at hc1 hf1; have HB1 := Aside0.mk (below_step (show Below w.heap.size w _ from by repeat (first | exact HB.out | apply below_alloc)) hb); have HS1 := hb.size; simp only [asz] at HS1; have k2 : w1.cell? ⟨w.heap.size + 1, 2, none⟩ = some (.int .i64 1) := (by rw [hc1 _ _ (by omega)]; simp); have k3 : w1.cell? ⟨w.heap.size + 1, 3, none⟩ = some (.int .i64 f3) := (by rw [hc1 _ _ (by omega)]; simp); have k4 : w1.cell? ⟨w.heap.size + 1, 4, none⟩ = some (.slice A4 l4.length c4) := (by rw [hc1 _ _ (by omega)]; simp); have k0 : w1.cell? ⟨w.heap.size, 0, none⟩ = some (.pointer (some ⟨g, 0, none⟩)) := (by rw [hc1 _ _ (by omega)]; simp); clear hc1 hf1; clear hb h1) | (go_at_call 126; refine (h4.out _ HB1.out _ k0).mono ?_; rintro e w2 ⟨rfl, hb⟩; obtain ⟨hc2, hf2⟩ := bcell hb; have HB2 := Aside0.mk (below_step HB1.out hb); have HS2 := hb.size; have m2 : w2.cell? ⟨w.heap.size + 1, 2, none⟩ = some (.int .i64 1) := (by rw [hc2 _ _ (by omega)]; exact k2); have m3 : w2.cell? ⟨w.heap.size + 1, 3, none⟩ = some (.int .i64 f3) := (by rw [hc2 _ _ (by omega)]; exact k3); have m4 : w2.cell? ⟨w.heap.size + 1, 4, none⟩ = some (.slice A4 l4.length c4) := (by rw [hc2 _ _ (by omega)]; exact k4); have m0 : w2.cell? ⟨w.heap.size, 0, none⟩ = some (.pointer (some ⟨g, 0, none⟩)) := (by rw [hc2 _ _ (by omega)]; exact k0); clear hc2 hf2 k0 k2 k3 k4; clear hb h4) | (go_at_call 57; refine (h5.out _ HB2.out).mono ?_; rintro e w3 ⟨rfl, hb⟩; have HB3 := Aside0.mk (below_step (below_alloc HB2.out _) hb); clear hb h5))
          go_ret
          exact ⟨by rw [HE2.out]; rfl, HB3.out⟩
        · have HE2 := Aside0.mk (show blockB tot bs l1 1 f3 l4 = false by rw [HE.out]; simp [q])
          go_enter Try.func97, Try.ntmps97
          go_wp2_with (first | (go_at_call 123; refine (h1.out _ (by repeat (first | exact HB.out | apply below_alloc)) _ (by simp)).mono ?_; rintro e w1 ⟨rfl, hb⟩; obtain ⟨hc1, hf1⟩ := bcell hb; simp only [asz] at hc1 hf1; have HB1 := Aside0.mk (below_step (show Below w.heap.size w _ from by repeat (first | exact HB.out | apply below_alloc)) hb); have HS1 := hb.size; simp only [asz] at HS1; have k2 : w1.cell? ⟨w.heap.size + 1, 2, none⟩ = some (.int .i64 1) := (by rw [hc1 _ _ (by omega)]; simp); have k3 : w1.cell? ⟨w.heap.size + 1, 3, none⟩ = some (.int .i64 f3) := (by rw [hc1 _ _ (by omega)]; simp); have k4 : w1.cell? ⟨w.heap.size + 1, 4, none⟩ = some (.slice A4 l4.length c4) := (by rw [hc1 _ _ (by omega)]; simp); have k0 : w1.cell? ⟨w.heap.size, 0, none⟩ = some (.pointer (some ⟨g, 0, none⟩)) := (by rw [hc1 _ _ (by omega)]; simp); clear hc1 hf1; clear hb h1) | (go_at_call 126; refine (h4.out _ HB1.out _ k0).mono ?_; rintro e w2 ⟨rfl, hb⟩; obtain ⟨hc2, hf2⟩ := bcell hb; have HB2 := Aside0.mk (below_step HB1.out hb); have HS2 := hb.size; have m2 : w2.cell? ⟨w.heap.size + 1, 2, none⟩ = some (.int .i64 1) := (by rw [hc2 _ _ (by omega)]; exact k2); have m3 : w2.cell? ⟨w.heap.size + 1, 3, none⟩ = some (.int .i64 f3) := (by rw [hc2 _ _ (by omega)]; exact k3); have m4 : w2.cell? ⟨w.heap.size + 1, 4, none⟩ = some (.slice A4 l4.length c4) := (by rw [hc2 _ _ (by omega)]; exact k4); have m0 : w2.cell? ⟨w.heap.size, 0, none⟩ = some (.pointer (some ⟨g, 0, none⟩)) := (by rw [hc2 _ _ (by omega)]; exact k0); clear hc2 hf2 k0 k2 k3 k4; clear hb h4))
          go_ret
          exact ⟨by rw [HE2.out]; rfl, HB2.out⟩
      by_cases e2 : f2 = 2
      · subst e2
        rcases Bool.eq_false_or_eq_true ((l4.length : Int) == 1) with q | q
        · have HE2 := Aside0.mk (show blockB tot bs l1 2 f3 l4 = (f3 == 0) by rw [HE.out]; simp [q])
          go_enter Try.func97, Try.ntmps97
          go_wp2_with (first | (go_at_call 123; refine (h1.out _ (by repeat (first | exact HB.out | apply below_alloc)) _ (by simp)).mono ?_; rintro e w1 ⟨rfl, hb⟩; obtain ⟨hc1, hf1⟩ := bcell hb; simp only [asz] at hc1 hf1; have HB1 := Aside0.mk (below_step (show Below w.heap.size w _ from by repeat (first | exact HB.out | apply below_alloc)) hb); have HS1 := hb.size; simp only [asz] at HS1; have k2 : w1.cell? ⟨w.heap.size + 1, 2, none⟩ = some (.int .i64 2) := (by rw [hc1 _ _ (by omega)]; simp); have k3 : w1.cell? ⟨w.heap.size + 1, 3, none⟩ = some (.int .i64 f3) := (by rw [hc1 _ _ (by omega)]; simp); have k4 : w1.cell? ⟨w.heap.size + 1, 4, none⟩ = some (.slice A4 l4.length c4) := (by rw [hc1 _ _ (by omega)]; simp); have k0 : w1.cell? ⟨w.heap.size, 0, none⟩ = some (.pointer (some ⟨g, 0, none⟩)) := (by rw [hc1 _ _ (by omega)]; simp); clear hc1 hf1; clear hb h1) | (go_at_call 126; refine (h4.out _ HB1.out _ k0).mono ?_; rintro e w2 ⟨rfl, hb⟩; obtain ⟨hc2, hf2⟩ := bcell hb; have HB2 := Aside0.mk (below_step HB1.out hb); have HS2 := hb.size; have m2 : w2.cell? ⟨w.heap.size + 1, 2, none⟩ = some (.int .i64 2) := (by rw [hc2 _ _ (by omega)]; exact k2); have m3 : w2.cell? ⟨w.heap.size + 1, 3, none⟩ = some (.int .i64 f3) := (by rw [hc2 _ _ (by omega)]; exact k3); have m4 : w2.cell? ⟨w.heap.size + 1, 4, none⟩ = some (.slice A4 l4.length c4) := (by rw [hc2 _ _ (by omega)]; exact k4); have m0 : w2.cell? ⟨w.heap.size, 0, none⟩ = some (.pointer (some ⟨g, 0, none⟩)) := (by rw [hc2 _ _ (by omega)]; exact k0); clear hc2 hf2 k0 k2 k3 k4; clear hb h4))
          go_ret
          exact ⟨by rw [HE2.out]; rfl, HB2.out⟩
        · have HE2 := Aside0.mk (show blockB tot bs l1 2 f3 l4 = false by rw [HE.out]; simp [q])
          go_enter Try.func97, Try.ntmps97
          go_wp2_with (first | (go_at_call 123; refine (h1.out _ (by repeat (first | exact HB.out | apply below_alloc)) _ (by simp)).mono ?_; rintro e w1 ⟨rfl, hb⟩; obtain ⟨hc1, hf1⟩ := bcell hb; simp only [asz] at hc1 hf1; have HB1 := Aside0.mk (below_step (show Below w.heap.size w _ from by repeat (first | exact HB.out | apply below_alloc)) hb); have HS1 := hb.size; simp only [asz] at HS1; have k2 : w1.cell? ⟨w.heap.size + 1, 2, none⟩ = some (.int .i64 2) := (by rw [hc1 _ _ (by omega)]; simp); have k3 : w1.cell? ⟨w.heap.size + 1, 3, none⟩ = some (.int .i64 f3) := (by rw [hc1 _ _ (by omega)]; simp); have k4 : w1.cell? ⟨w.heap.size + 1, 4, none⟩ = some (.slice A4 l4.length c4) := (by rw [hc1 _ _ (by omega)]; simp); have k0 : w1.cell? ⟨w.heap.size, 0, none⟩ = some (.pointer (some ⟨g, 0, none⟩)) := (by rw [hc1 _ _ (by omega)]; simp); clear hc1 hf1; clear hb h1) | (go_at_call 126; refine (h4.out _ HB1.out _ k0).mono ?_; rintro e w2 ⟨rfl, hb⟩; obtain ⟨hc2, hf2⟩ := bcell hb; have HB2 := Aside0.mk (below_step HB1.out hb); have HS2 := hb.size; have m2 : w2.cell? ⟨w.heap.size + 1, 2, none⟩ = some (.int .i64 2) := (by rw [hc2 _ _ (by omega)]; exact k2); have m3 : w2.cell? ⟨w.heap.size + 1, 3, none⟩ = some (.int .i64 f3) := (by rw [hc2 _ _ (by omega)]; exact k3); have m4 : w2.cell? ⟨w.heap.size + 1, 4, none⟩ = some (.slice A4 l4.length c4) := (by rw [hc2 _ _ (by omega)]; exact k4); have m0 : w2.cell? ⟨w.heap.size, 0, none⟩ = some (.pointer (some ⟨g, 0, none⟩)) := (by rw [hc2 _ _ (by omega)]; exact k0); clear hc2 hf2 k0 k2 k3 k4; clear hb h4))
          go_ret
          exact ⟨by rw [HE2.out]; rfl, HB2.out⟩
      have b1 : (f2 == 1) = false := beq_eq_false_iff_ne.mpr e1
      have b2 : (f2 == 2) = false := beq_eq_false_iff_ne.mpr e2
      replace HE := Aside0.mk (show blockB tot bs l1 f2 f3 l4 = (((f2 == 3) && ((l4.length : Int) == 2)) && vb) by rw [HE.out, if_neg (by decide), if_neg (by decide), if_neg e1, if_neg e2])
      clear e1 e2
      rcases Bool.eq_false_or_eq_true (f2 == 3) with e3 | e3
      · rcases Bool.eq_false_or_eq_true ((l4.length : Int) == 2) with q | q
        · have HE2 := Aside0.mk (show blockB tot bs l1 f2 f3 l4 = vb by rw [HE.out]; simp [e3, q])
          go_enter Try.func97, Try.ntmps97
          go_wp2_with (first | (go_at_call 123; refine (h1.out _ (by repeat (first | exact HB.out | apply below_alloc)) _ (by simp)).mono ?_; rintro e w1 ⟨rfl, hb⟩; obtain ⟨hc1, hf1⟩ := bcell hb; simp only [asz] at hc1 hf1; have HB1 := Aside0.mk (below_step (show Below w.heap.size w _ from by repeat (first | exact HB.out | apply below_alloc)) hb); have HS1 := hb.size; simp only [asz] at HS1; have k2 : w1.cell? ⟨w.heap.size + 1, 2, none⟩ = some (.int .i64 f2) := (by rw [hc1 _ _ (by omega)]; simp); have k3 : w1.cell? ⟨w.heap.size + 1, 3, none⟩ = some (.int .i64 f3) := (by rw [hc1 _ _ (by omega)]; simp); have k4 : w1.cell? ⟨w.heap.size + 1, 4, none⟩ = some (.slice A4 l4.length c4) := (by rw [hc1 _ _ (by omega)]; simp); have k0 : w1.cell? ⟨w.heap.size, 0, none⟩ = some (.pointer (some ⟨g, 0, none⟩)) := (by rw [hc1 _ _ (by omega)]; simp); clear hc1 hf1; clear hb h1) | (go_at_call 126; refine (h4.out _ HB1.out _ k0).mono ?_; rintro e w2 ⟨rfl, hb⟩; obtain ⟨hc2, hf2⟩ := bcell hb; have HB2 := Aside0.mk (below_step HB1.out hb); have HS2 := hb.size; have m2 : w2.cell? ⟨w.heap.size + 1, 2, none⟩ = some (.int .i64 f2) := (by rw [hc2 _ _ (by omega)]; exact k2); have m3 : w2.cell? ⟨w.heap.size + 1, 3, none⟩ = some (.int .i64 f3) := (by rw [hc2 _ _ (by omega)]; exact k3); have m4 : w2.cell? ⟨w.heap.size + 1, 4, none⟩ = some (.slice A4 l4.length c4) := (by rw [hc2 _ _ (by omega)]; exact k4); have m0 : w2.cell? ⟨w.heap.size, 0, none⟩ = some (.pointer (some ⟨g, 0, none⟩)) := (by rw [hc2 _ _ (by omega)]; exact k0); clear hc2 hf2 k0 k2 k3 k4; clear hb h4) | (go_at_call 57; refine (h5.out _ HB2.out).mono ?_; rintro e w3 ⟨rfl, hb⟩; have HB3 := Aside0.mk (below_step (below_alloc HB2.out _) hb); clear hb h5))
          go_ret
          exact ⟨by rw [HE2.out]; rfl, HB3.out⟩
        · have HE2 := Aside0.mk (show blockB tot bs l1 f2 f3 l4 = false by rw [HE.out]; simp [e3, q])
          go_enter Try.func97, Try.ntmps97
          go_wp2_with (first | (go_at_call 123; refine (h1.out _ (by repeat (first | exact HB.out | apply below_alloc)) _ (by simp)).mono ?_; rintro e w1 ⟨rfl, hb⟩; obtain ⟨hc1, hf1⟩ := bcell hb; simp only [asz] at hc1 hf1; have HB1 := Aside0.mk (below_step (show Below w.heap.size w _ from by repeat (first | exact HB.out | apply below_alloc)) hb); have HS1 := hb.size; simp only [asz] at HS1; have k2 : w1.cell? ⟨w.heap.size + 1, 2, none⟩ = some (.int .i64 f2) := (by rw [hc1 _ _ (by omega)]; simp); have k3 : w1.cell? ⟨w.heap.size + 1, 3, none⟩ = some (.int .i64 f3) := (by rw [hc1 _ _ (by omega)]; simp); have k4 : w1.cell? ⟨w.heap.size + 1, 4, none⟩ = some (.slice A4 l4.length c4) := (by rw [hc1 _ _ (by omega)]; simp); have k0 : w1.cell? ⟨w.heap.size, 0, none⟩ = some (.pointer (some ⟨g, 0, none⟩)) := (by rw [hc1 _ _ (by omega)]; simp); clear hc1 hf1; clear hb h1) | (go_at_call 126; refine (h4.out _ HB1.out _ k0).mono ?_; rintro e w2 ⟨rfl, hb⟩; obtain ⟨hc2, hf2⟩ := bcell hb; have HB2 := Aside0.mk (below_step HB1.out hb); have HS2 := hb.size; have m2 : w2.cell? ⟨w.heap.size + 1, 2, none⟩ = some (.int .i64 f2) := (by rw [hc2 _ _ (by omega)]; exact k2); have m3 : w2.cell? ⟨w.heap.size + 1, 3, none⟩ = some (.int .i64 f3) := (by rw [hc2 _ _ (by omega)]; exact k3); have m4 : w2.cell? ⟨w.heap.size + 1, 4, none⟩ = some (.slice A4 l4.length c4) := (by rw [hc2 _ _ (by omega)]; exact k4); have m0 : w2.cell? ⟨w.heap.size, 0, none⟩ = some (.pointer (some ⟨g, 0, none⟩)) := (by rw [hc2 _ _ (by omega)]; exact k0); clear hc2 hf2 k0 k2 k3 k4; clear hb h4))
          go_ret
          exact ⟨by rw [HE2.out]; rfl, HB2.out⟩
      · have HE2 := Aside0.mk (show blockB tot bs l1 f2 f3 l4 = false by rw [HE.out]; simp [e3])
        go_enter Try.func97, Try.ntmps97
        go_wp2_with (first | (go_at_call 123; refine (h1.out _ (by repeat (first | exact HB.out | apply below_alloc)) _ (by simp)).mono ?_; rintro e w1 ⟨rfl, hb⟩; obtain ⟨hc1, hf1⟩ := bcell hb; simp only [asz] at hc1 hf1; have HB1 := Aside0.mk (below_step (show Below w.heap.size w _ from by repeat (first | exact HB.out | apply below_alloc)) hb); have HS1 := hb.size; simp only [asz] at HS1; have k2 : w1.cell? ⟨w.heap.size + 1, 2, none⟩ = some (.int .i64 f2) := (by rw [hc1 _ _ (by omega)]; simp); have k3 : w1.cell? ⟨w.heap.size + 1, 3, none⟩ = some (.int .i64 f3) := (by rw [hc1 _ _ (by omega)]; simp); have k4 : w1.cell? ⟨w.heap.size + 1, 4, none⟩ = some (.slice A4 l4.length c4) := (by rw [hc1 _ _ (by omega)]; simp); have k0 : w1.cell? ⟨w.heap.size, 0, none⟩ = some (.pointer (some ⟨g, 0, none⟩)) := (by rw [hc1 _ _ (by omega)]; simp); clear hc1 hf1; clear hb h1) | (go_at_call 126; refine (h4.out _ HB1.out _ k0).mono ?_; rintro e w2 ⟨rfl, hb⟩; obtain ⟨hc2, hf2⟩ := bcell hb; have HB2 := Aside0.mk (below_step HB1.out hb); have HS2 := hb.size; have m2 : w2.cell? ⟨w.heap.size + 1, 2, none⟩ = some (.int .i64 f2) := (by rw [hc2 _ _ (by omega)]; exact k2); have m3 : w2.cell? ⟨w.heap.size + 1, 3, none⟩ = some (.int .i64 f3) := (by rw [hc2 _ _ (by omega)]; exact k3); have m4 : w2.cell? ⟨w.heap.size + 1, 4, none⟩ = some (.slice A4 l4.length c4) := (by rw [hc2 _ _ (by omega)]; exact k4); have m0 : w2.cell? ⟨w.heap.size, 0, none⟩ = some (.pointer (some ⟨g, 0, none⟩)) := (by rw [hc2 _ _ (by omega)]; exact k0); clear hc2 hf2 k0 k2 k3 k4; clear hb h4))
        go_ret
        exact ⟨by rw [HE2.out]; rfl, HB2.out⟩
end
end Go.Proofs.Ytghlbhijkhkgkaa.PA
