/- The flow seat: viewOf by hand. -/
import Derived.Test.YtghlbhijkhkgkaaAb2Vj
namespace Go.Proofs.Ytghlbhijkhkgkaa.PA
open Go.RowKit Go.Proofs.YtghlbhijkhkgkaaW.PrintWords Go.Proofs.YtghlbhijkhkgkaaW.PrintLast Go.Proofs.YtghlbhijkhkgkaaW.PrintMore
set_option linter.unusedVariables false
section
variable {w w1 : World} {g : Nat} {p : Int} {A : Option Addr} {bs : List S87} {c : Nat} {fs bl : List Int} {tot : Int}
theorem block_closure {A1 A4 : Option Addr} {c1 c4 : Nat} (f0 f2 f3 : Int) (l1 : List S89) (l4 : List S109) (h : Nat) (hv : View w g p A bs c fs bl tot) (ht : 0 ≤ tot ∧ tot ≤ 1000) (hh : w.cell? ⟨h, 0, none⟩ = some (.pointer (some ⟨g, 0, none⟩))) (hr1 : Kd.C k89 w A1 l1.length l1) (hr4 : Kd.C k109 w A4 l4.length l4) :
    Calls Try.prog 96 #[.agg #[.int .i64 f0, .slice A1 l1.length c1, .int .i64 f2, .int .i64 f3, .slice A4 l4.length c4], .pointer (some ⟨h, 0, none⟩)] w fun e w' => e = .returned (.bool (!(blockB tot bs l1 f2 f3 l4))) ∧ Below w.heap.size w w' := by
  have hcall := Aside0.mk (fun W (hW : Below w.heap.size w W) => blockOK_any (A1 := A1) (c1 := c1) (A4 := A4) (c4 := c4) f0 f2 f3 l1 l4 (hv.below hW) ht (Kd.C_below hr1 hW) (Kd.C_below hr4 hW))
  have hlt := World.block_lt_of_cell? w _ hh
  clear hv ht hr1 hr4
  have HB := Aside0.mk (Below.refl w.heap.size w)
  go_enter Try.func96, Try.ntmps96
  go_wp2_with (go_at_call 97; refine (hcall.out _ (by repeat (first | exact HB.out | apply below_alloc))).mono ?_; rintro e w' ⟨rfl, hb⟩; have HB' := Aside0.mk hb; clear hb hcall)
  go_ret
  exact ⟨rfl, below_step (by repeat (first | exact HB.out | apply below_alloc)) HB'.out⟩
end
/-- What viewOf answers. -/
def ViewOf (p : Int) (A : Option Addr) (bs : List S87) (c : Nat) (w : World) (e : Ending) (w' : World) : Prop :=
  Below w.heap.size w w' ∧ ((goodB p bs = false ∧ e = .returned (.pointer none)) ∨
    (goodB p bs = true ∧ ∃ g, e = .returned (.pointer (some ⟨g, 0, none⟩)) ∧ View w' g p A bs c (firstsF p bs bs.length) (blocksF p bs bs.length) (totF p bs bs.length)))
theorem any_not (bs : List S87) (q : S87 → Bool) : (bs.any fun b => !(q b)) = !(bs.all q) := by
  induction bs with
  | nil => rfl
  | cons b bs ih => simp [ih]
theorem good_head' {p : Int} {bs : List S87} (h : headB p bs = false) : goodB p bs = false := by rw [goodB, h]; simp
theorem fine_all' (bs : List S87) : Fine bs bs.length ↔ bs.all blkB = true := by
  rw [List.all_eq_true]
  constructor
  · intro h x hx
    obtain ⟨j, hj, rfl⟩ := List.getElem_of_mem hx
    have := h j hj
    rwa [rd_nat bs j hj] at this
  · intro h j hj
    rw [rd_nat bs j hj]
    exact h _ (List.getElem_mem hj)
set_option maxHeartbeats 2000000 in
set_option maxRecDepth 100000 in
theorem viewOf_any {A : Option Addr} {c : Nat} (p : Int) (bs : List S87) (w : World) (hr : Kd.C k87 w A bs.length bs) (hc : bs.length ≤ c) :
    Calls Try.prog 56 #[.agg #[.int .i64 p, .slice A bs.length c]] w (ViewOf p A bs c w) := by
  have HB := Aside0.mk (Below.refl w.heap.size w)
  have hmb := Kd.C_max hr
  rcases Bool.eq_false_or_eq_true (headB p bs) with hh | hh
  · have hcall := Aside0.mk (numbered_yes (c := c) p bs (w.alloc (.cells #[.int .i64 p, .slice A bs.length c] 30)) (Kd.C_below hr (below_alloc (Below.refl _ _) _)) hc hh)
    have HR := Aside0.mk hr
    have HH := Aside0.mk ((headB_iff p bs).1 hh)
    have HHB := Aside0.mk hh
    clear hr hc hh
    by_cases hf : Fine bs bs.length
    · have HF := Aside0.mk hf
      have htb := totF_bound p bs ⟨HH.out.1, HH.out.2.1⟩ bs.length (Nat.le_refl _) hf
      have hn8 : bs.length ≤ 8 := HH.out.2.2.2.1
      obtain ⟨tot, htot⟩ : ∃ t, t = totF p bs bs.length := ⟨_, rfl⟩
      have hcall2 := Aside0.mk (hcall.out.mono (R' := fun e w' => Below (w.alloc (.cells #[.int .i64 p, .slice A bs.length c] 30)).heap.size (w.alloc (.cells #[.int .i64 p, .slice A bs.length c] 30)) w' ∧ ∃ g, e = .returned (.tuple #[.pointer (some ⟨g, 0, none⟩), .bool (decide (tot ≤ 80))]) ∧ View w' g p A bs c (firstsF p bs bs.length) (blocksF p bs bs.length) tot) (fun e w' h => ⟨h.1, by rcases h.2 with h2 | h2; exact absurd HF.out h2.1; rw [htot]; exact h2.2⟩))
      have HTT := Aside0.mk htot
      rw [← htot] at htb
      clear hcall hf htot
      by_cases h80 : tot ≤ 80
      · have c80 : decide (tot ≤ 80) = true := decide_eq_true h80
        have H80 := Aside0.mk h80
        rcases Bool.eq_false_or_eq_true (bs.all fun b => blockB tot bs b.f1 b.f2 b.f3 b.f4) with q | q
        · have HG := Aside0.mk (show goodB p bs = true by rw [goodB, HHB.out, (fine_all' bs).1 HF.out, ← HTT.out, q, c80]; rfl)
          have HQ := Aside0.mk (show (bs.any fun b => !(blockB tot bs b.f1 b.f2 b.f3 b.f4)) = false by rw [any_not, q]; rfl)
          clear q
          go_enter Try.func56, Try.ntmps56
          go_wp2_with (first | (go_at_call 94; refine (hcall2.out).mono ?_; rintro e w1 ⟨hb, g, rfl, hv⟩; have HB1 := Aside0.mk (below_step (below_alloc (Below.refl w.heap.size w) _) hb); have z1 : w1.cell? ⟨w.heap.size, 1, none⟩ = some (.slice A bs.length c) := pw_cell_below hb (by simp); have zl : w.heap.size < w1.heap.size := World.block_lt_of_cell? w1 _ z1; have HV := Aside0.mk hv; have h95 := Aside0.mk (sl_ContainsFunc_block A c bs 96 #[.pointer (some ⟨w1.heap.size, 0, none⟩)] (fun b => !(blockB tot bs b.f1 b.f2 b.f3 b.f4)) (w1.alloc (.cells #[.pointer (some ⟨g, 0, none⟩)] 52)) (Kd.C_below HR.out (below_alloc HB1.out _)) (enters_fn Try.func96 (by kernel_rfl) (by kernel_rfl)) (fun W' hW' x _ A1 c1 A4 c4 _ hx1 _ hx4 => block_closure x.f0 x.f2 x.f3 x.f1 x.f4 w1.heap.size ((hv.alloc _).below hW') ⟨htb.1, by omega⟩ (pw_cell_below hW' (by simp)) hx1 hx4)); rw [HQ.out] at h95; clear hb hv hcall2) | (go_at_call 95; refine (h95.out).mono ?_; rintro e w2 ⟨rfl, hb⟩; have HB2 := Aside0.mk (below_step (below_alloc (Below.refl _ _) _) hb); have HB3 := Aside0.mk (below_step HB1.out HB2.out); have HV3 := Aside0.mk (HV.out.below HB2.out); have z3 : w2.cell? ⟨w1.heap.size, 0, none⟩ = some (.pointer (some ⟨g, 0, none⟩)) := pw_cell_below hb (by simp); clear hb h95 HB2))
          go_ret
          exact ⟨HB3.out, .inr ⟨HG.out, g, rfl, by rw [← HTT.out]; exact HV3.out⟩⟩
        · have HG := Aside0.mk (show goodB p bs = false by rw [goodB, ← HTT.out, q]; simp)
          have HQ := Aside0.mk (show (bs.any fun b => !(blockB tot bs b.f1 b.f2 b.f3 b.f4)) = true by rw [any_not, q]; rfl)
          clear q
          go_enter Try.func56, Try.ntmps56
          go_wp2_with (first | (go_at_call 94; refine (hcall2.out).mono ?_; rintro e w1 ⟨hb, g, rfl, hv⟩; have HB1 := Aside0.mk (below_step (below_alloc (Below.refl w.heap.size w) _) hb); have z1 : w1.cell? ⟨w.heap.size, 1, none⟩ = some (.slice A bs.length c) := pw_cell_below hb (by simp); have zl : w.heap.size < w1.heap.size := World.block_lt_of_cell? w1 _ z1; have HV := Aside0.mk hv; have h95 := Aside0.mk (sl_ContainsFunc_block A c bs 96 #[.pointer (some ⟨w1.heap.size, 0, none⟩)] (fun b => !(blockB tot bs b.f1 b.f2 b.f3 b.f4)) (w1.alloc (.cells #[.pointer (some ⟨g, 0, none⟩)] 52)) (Kd.C_below HR.out (below_alloc HB1.out _)) (enters_fn Try.func96 (by kernel_rfl) (by kernel_rfl)) (fun W' hW' x _ A1 c1 A4 c4 _ hx1 _ hx4 => block_closure x.f0 x.f2 x.f3 x.f1 x.f4 w1.heap.size ((hv.alloc _).below hW') ⟨htb.1, by omega⟩ (pw_cell_below hW' (by simp)) hx1 hx4)); rw [HQ.out] at h95; clear hb hv hcall2) | (go_at_call 95; refine (h95.out).mono ?_; rintro e w2 ⟨rfl, hb⟩; have HB3 := Aside0.mk (below_step (below_alloc HB1.out _) hb); clear hb h95))
          go_ret
          exact ⟨HB3.out, .inl ⟨HG.out, rfl⟩⟩
      · have c80 : decide (tot ≤ 80) = false := decide_eq_false h80
        have HG := Aside0.mk (show goodB p bs = false by rw [goodB, ← HTT.out, c80]; simp)
        go_enter Try.func56, Try.ntmps56
        go_wp2_with (go_at_call 94; refine (hcall2.out).mono ?_; rintro e w1 ⟨hb, g, rfl, hv⟩; have HB1 := Aside0.mk (below_step (below_alloc (Below.refl w.heap.size w) _) hb); clear hb hv hcall2)
        go_ret
        exact ⟨by repeat (first | exact HB1.out | apply below_alloc), .inl ⟨HG.out, rfl⟩⟩
    · have hcall2 := Aside0.mk (hcall.out.mono (R' := fun e w' => e = .returned (.tuple #[.pointer none, .bool false]) ∧ Below (w.alloc (.cells #[.int .i64 p, .slice A bs.length c] 30)).heap.size (w.alloc (.cells #[.int .i64 p, .slice A bs.length c] 30)) w') (fun e w' h => ⟨by rcases h.2 with h2 | h2; exact h2.2; exact absurd h2.1 hf, h.1⟩))
      have HG := Aside0.mk (show goodB p bs = false by rw [fine_all'] at hf; rw [goodB, Bool.eq_false_iff.2 hf]; simp)
      clear hcall hf
      go_enter Try.func56, Try.ntmps56
      go_wp2_with (go_at_call 94; refine (hcall2.out).mono ?_; rintro e w1 ⟨rfl, hb⟩; have HB1 := Aside0.mk (below_step (below_alloc (Below.refl w.heap.size w) _) hb); clear hb hcall2)
      go_ret
      exact ⟨by repeat (first | exact HB1.out | apply below_alloc), .inl ⟨HG.out, rfl⟩⟩
  · have hcall := Aside0.mk (numbered_no (c := c) p bs (w.alloc (.cells #[.int .i64 p, .slice A bs.length c] 30)) (Kd.C_below hr (below_alloc (Below.refl _ _) _)) hh)
    have HG := Aside0.mk (good_head' hh)
    clear hr hc hh
    go_enter Try.func56, Try.ntmps56
    go_wp2_with (go_at_call 94; refine (hcall.out).mono ?_; rintro e w1 ⟨rfl, hb⟩; have HB1 := Aside0.mk (below_step (below_alloc (Below.refl w.heap.size w) _) hb); clear hb hcall)
    go_ret
    exact ⟨by repeat (first | exact HB1.out | apply below_alloc), .inl ⟨HG.out, rfl⟩⟩
end Go.Proofs.Ytghlbhijkhkgkaa.PA
