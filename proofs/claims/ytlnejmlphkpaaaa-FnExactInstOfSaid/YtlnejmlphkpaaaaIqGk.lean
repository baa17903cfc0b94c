/- The graph seat: enodeOK and Clone by hand. -/
import Derived.Test.YtlnejmlphkpaaaaIqGj
import Derived.BigQuiet
namespace Go.Proofs.Ytlnejmlphkpaaaa.PA
open Go.RowKit Go.Proofs.YtlnejmlphkpaaaaW.PrintWords Go.Proofs.YtlnejmlphkpaaaaW.PrintLast Go.Proofs.YtlnejmlphkpaaaaW.PrintMore
set_option linter.unusedVariables false
set_option linter.unusedSimpArgs false
theorem within_any (n a b : Int) (w : World) : Calls Try.prog 83 #[.int .i64 n, .int .i64 a, .int .i64 b] w fun e w' => e = .returned (.bool (within n a b)) ∧ w = w' := by
 by_cases h : a ≤ n
 ·have h1 : decide (n ≥ a) = true := decide_eq_true h
  go_enter Try.func83, Try.ntmps83
  go_wp2
  go_ret
  exact ⟨by simp [within, h], rfl⟩
 ·have h1 : decide (n ≥ a) = false := decide_eq_false h
  go_enter Try.func83, Try.ntmps83
  go_wp2
  go_ret
  exact ⟨by simp [within]; intro h'; omega, rfl⟩
theorem en_closure (most : Int) (g : Nat) (x : Int) (W : World) (hg : W.heap[g]? = some (.cells #[.int .i64 most] 3 (0, 0))) :
  Calls Try.prog 126 #[.int .i64 x, .pointer (some ⟨g, 0, none⟩)] W fun e W' => e = .returned (.bool (!within x 0 (wrap64 (most - 1)))) ∧ W = W' := by
 have hcell : W.cell? ⟨g, 0, none⟩ = some (.int .i64 most) := (blk_cell hg 0).trans rfl
 clear hg
 have HW := Aside0.mk (within_any x 0 (wrap64 (most - 1)))
 generalize within x 0 (wrap64 (most - 1)) = r at HW ⊢
 go_enter Try.func126, Try.ntmps126
 go_wp2_with (go_at_call 83; refine (HW.out _).mono ?_; rintro e w' ⟨rfl, rfl⟩)
 go_ret
 exact ⟨rfl, rfl⟩
def impl_enodeOK.f (a0_0 : Int) (a0_1 : Int) (l0_2 : List Int) (a1 : Int) : Option (Bool) := some (nodeB a0_0 a0_1 l0_2 && allK l0_2 0 (wrap64 (a1 - 1)))
theorem all_any (l : List Int) (a b : Int) : allK l a b = !(l.any fun x => !within x a b) := by
 refine Bool.eq_iff_iff.2 ?_
 rw [allK_iff, Bool.not_eq_true', List.any_eq_false]
 refine forall_congr' fun y => forall_congr' fun _ => ?_
 unfold within
 simp only [Bool.not_eq_true', Bool.not_eq_false, Bool.and_eq_true, decide_eq_true_eq]
set_option maxHeartbeats 8000000 in
set_option maxRecDepth 100000 in
theorem impl_enodeOK.calls (a0_0 : Int) (a0_1 : Int) (A0_2 : Option Addr) (c0_2 : Nat) (l0_2 : List Int) (a1 : Int) (r : Bool) (w : World) (hr0_2 : Kd.C (Kd.int .i64) w A0_2 l0_2.length l0_2) (hc0_2 : l0_2.length ≤ c0_2) (h : impl_enodeOK.f a0_0 a0_1 l0_2 a1 = some r) :
  Calls Try.prog 65 #[.agg #[.int .i64 a0_0, .int .i64 a0_1, .slice A0_2 l0_2.length c0_2], .int .i64 a1] w fun e w' => e = .returned (.bool r) ∧ Below w.heap.size w w' := by
 have hr : r = ((numI a0_0 a0_1 && ((l0_2.length : Int) == arI a0_0)) && !(l0_2.any fun x => !within x 0 (wrap64 (a1 - 1)))) := by
  rw [← Option.some.inj h, all_any, node_same]
 clear h
 have HNUM := Aside0.mk (fun W => impl_numOK.calls a0_0 a0_1 _ W (numOK_f a0_0 a0_1))
 have HAR := Aside0.mk (fun W => impl_arity.calls (0 + 1) a0_0 _ W (arity_j 0 a0_0))
 have HR := Aside0.mk hr0_2
 have heg := enters_fn (P := Try.prog) Try.func126 (by kernel_rfl) rfl
 obtain ⟨o1, ho1⟩ : ∃ o : Obj, o = .cells #[.int .i64 a0_0, .int .i64 a0_1, .slice A0_2 l0_2.length c0_2] 36 := ⟨_, rfl⟩
 obtain ⟨o2, ho2⟩ : ∃ o : Obj, o = .cells #[.int .i64 a1] 3 := ⟨_, rfl⟩
 have HBx := Aside0.mk (show ((w.alloc o1).alloc o2).heap[w.heap.size + 1]? = some (.cells #[.int .i64 a1] 3 (0, 0)) from by rw [← ho2]; simpa using blk_new (w.alloc o1) o2)
 have HCX := Aside0.mk (show ∀ n, Calls Try.prog 92 #[.slice A0_2 l0_2.length c0_2, .func (.func 126) #[] #[.pointer (some ⟨w.heap.size + 1, 0, none⟩)]] (((w.alloc o1).alloc o2).drewN n) fun e w' => e = .returned (.bool (l0_2.any fun x => !within x 0 (wrap64 (a1 - 1)))) ∧ w' = ((w.alloc o1).alloc o2).drewN n from fun n => by
  refine (sl_ContainsFunc_int A0_2 c0_2 l0_2 126 #[.pointer (some ⟨w.heap.size + 1, 0, none⟩)] (fun x => !within x 0 (wrap64 (a1 - 1))) _ (Kd.C_drewN (Kd.C_alloc (Kd.C_alloc HR.out _) _) _) heg (fun x hx => en_closure a1 (w.heap.size + 1) x _ (blk_drewN HBx.out _))).mono (fun e w' h => ⟨h.1, h.2.symm⟩))
 have HBL := Aside0.mk (show Below w.heap.size w ((w.alloc o1).alloc o2) from below_alloc (below_alloc (Below.refl _ _) _) _)
 subst ho1 ho2
 have hmax := Kd.C_max hr0_2
 clear hr0_2 hc0_2 heg
 generalize hq : (l0_2.any fun x => !within x 0 (wrap64 (a1 - 1))) = q at *
 generalize hn : numI a0_0 a0_1 = n at *
 generalize hx : arI a0_0 = ar at *
 have HRR := Aside0.mk hr
 clear hr hq hn hx
 cases n with
 | false =>
  go_enter Try.func65, Try.ntmps65
  go_wp2
  go_quiet ((go_at_call 124; exact Calls.quiet_of ((HNUM.out _).mono fun _ _ h => ⟨h.1, h.2.out⟩)))
  go_wp2
  go_ret
  exact ⟨by rw [HRR.out]; rfl, by repeat (first | exact HBL.out | apply pw_below_drewN | apply below_drew1)⟩
 | true =>
  by_cases hl : (l0_2.length : Int) = ar
  ·have e1 : ((l0_2.length : Int) == ar) = true := beq_iff_eq.mpr hl
   have HRR2 := Aside0.mk (show r = !q by rw [HRR.out, e1]; rfl)
   clear HRR hl
   go_enter Try.func65, Try.ntmps65
   go_wp2
   go_quiet ((first | (go_at_call 124; exact Calls.quiet_of ((HNUM.out _).mono fun _ _ h => ⟨h.1, h.2.out⟩)) | (go_at_call 125; exact Calls.quiet_of ((HAR.out _).mono fun _ _ h => ⟨h.1, h.2.out⟩)) | (go_at_call 92; exact Calls.quiet_of_same (HCX.out _))))
   go_wp2
   go_ret
   exact ⟨by rw [HRR2.out]; rfl, by repeat (first | exact HBL.out | apply pw_below_drewN | apply below_drew1)⟩
  ·have e1 : ((l0_2.length : Int) == ar) = false := beq_eq_false_iff_ne.mpr hl
   have HRR2 := Aside0.mk (show r = false by rw [HRR.out, e1]; rfl)
   clear HRR hl
   go_enter Try.func65, Try.ntmps65
   go_wp2
   go_quiet ((first | (go_at_call 124; exact Calls.quiet_of ((HNUM.out _).mono fun _ _ h => ⟨h.1, h.2.out⟩)) | (go_at_call 125; exact Calls.quiet_of ((HAR.out _).mono fun _ _ h => ⟨h.1, h.2.out⟩))))
   go_wp2
   go_ret
   exact ⟨by rw [HRR2.out]; rfl, by repeat (first | exact HBL.out | apply pw_below_drewN | apply below_drew1)⟩
noncomputable def slices_Clone_int_int.f (l0 : List Int) : Option (List Int) := (some (([] : List Int) : List Int)).bind fun y241 => (if y241.length + l0.length < 17592186044416 then (some (y241 ++ l0)) else (none))
set_option maxHeartbeats 8000000 in
set_option maxRecDepth 100000 in
theorem slices_Clone_int_int.calls (A0 : Option Addr) (c0 : Nat) (l0 : List Int) (r : List Int) (w : World) (hr0 : Kd.C (Kd.int .i64) w A0 l0.length l0) (hc0 : l0.length ≤ c0) (h : slices_Clone_int_int.f l0 = some r) :
  Calls Try.prog 77 #[.slice A0 l0.length c0] w fun e w' => ∃ v0_ : Value, e = .returned (v0_) ∧ Kd.R (Kd.int .i64) 3 w' w.heap.size (fun _ => True) v0_ r ∧ Below w.heap.size w w' := by
 have HR0 := Aside0.mk hr0
 clear hr0
 have HB := Aside0.mk (Below.refl w.heap.size w)
 simp only [slices_Clone_int_int.f, Option.bind_some, List.length_nil, Nat.zero_add, List.nil_append] at h
 by_cases c2 : l0.length < 17592186044416
 ·rw [if_pos c2] at h
  have LMc2 := Aside0.mk c2
  clear c2
  obtain rfl := Option.some.inj h
  clear h
  have hnil := @Lib.run_eql_slice_nil Try.prog
  rcases A0 with _ | ad
  ·have hz : l0 = [] := by
    rcases l0 with _ | ⟨x, xs⟩
    ·rfl
    ·obtain ⟨ad, e, _⟩ := HR0.out.2.2 (by simp)
     cases e
   subst hz
   have hq : ∀ W, (binOp .eql 23 (.slice none 0 c0) (.slice none 0 0)).run Try.prog W = .ok (.bool true) W := fun W => hnil W 23 3 none 0 c0 0 0 Try.underlying23
   clear hnil
   go_enter Try.func77, Try.ntmps77
   go_wp2
   go_ret
   exact ⟨_, rfl, Kd.R_nil _ _ _ _ _, HB.out⟩
  ·have hq : ∀ W, (binOp .eql 23 (.slice (some ad) l0.length c0) (.slice none 0 0)).run Try.prog W = .ok (.bool false) W := fun W => hnil W 23 3 (some ad) _ c0 0 0 Try.underlying23
   clear hnil
   go_enter Try.func77, Try.ntmps77
   go_wp2_with (first | ((with_reducible refine gate_dst (N := 5) rfl ?_); refine Kd.R_lit (Kd.int .i64) _ 3 ?hg (N := 5) ?hd (xs := ([] : List Int)) (inner := []) (ok := fun _ => True) (okp := fun _ => True) ?hr ?hp (fun _ hk => hk) trivial (Below.refl _ _) (Nat.le_refl _) (by simp) ?_; (case hd => rfl); (case hg => rfl); (case hr => first | (go_simp; done) | (go_simp; rfl)); (case hp => exact (Reps.none _ _)); intro v167 w3 ho4 hb hg_ hnew_; clear hg_ hnew_; have n0_ := Aside0.mk (Kd.R_lower ho4 (below_size HB.out)); have n1_ := Aside0.mk (below_step HB.out hb); clear HB; have HO168 := n0_; have HB := n1_; clear n0_ n1_; clear hb ho4) | ((with_reducible refine gate_builtin (b := .append) (xs := #[.tmp 5, .tmp 6]) rfl ?_); at_builtin; refine Kd.R_append_rows (Kd.int .i64) (w0 := w) w.heap.size rfl (.tmp 5) (.tmp 6) 23 3 (.int .i64 0) 8 rfl Try.underlying23 info3 rfl (by decide) (by omega) v167 [] l0 _ _ _ (fun _ => True) (fun _ => False) rfl rfl ?aO ?aR (fun _ _ h => h) (fun _ h => h.elim) ?aF ?aB ?aS ?aL ?_; (case aR => exact (Kd.C_below HR0.out HB.out)); (case aB => exact HB.out); (case aF => exact (fun _ _ => trivial)); (case aO => exact HO168.out); (case aS => exact (below_size HB.out)); (case aL => have := LMc2.out; simp only [List.length_nil]; omega); intro v170 w5 ho hb hg hat; have n0_ := Aside0.mk (hb); have n1_ := Aside0.mk (ho); clear HB; clear HO168; have HB := n0_; have HO171 := n1_; clear n0_ n1_; clear ho hb hg hat))
   go_ret
   exact ⟨_, rfl, by simpa using HO171.out, HB.out⟩
 ·rw [if_neg c2] at h
  exact absurd h (by simp)

end Go.Proofs.Ytlnejmlphkpaaaa.PA
