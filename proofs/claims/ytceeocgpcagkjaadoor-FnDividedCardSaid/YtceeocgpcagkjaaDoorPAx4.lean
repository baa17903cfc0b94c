/- Printed by the kit's print over surrogate texts, turned by this session -/
import Derived.Test.YtceeocgpcagkjaaDoorPAx0
import Derived.Test.YtceeocgpcagkjaaDoorPAx1
import Derived.Test.YtceeocgpcagkjaaDoorPAx2
import Derived.Test.YtceeocgpcagkjaaDoorPAx3
namespace Go.Proofs.YtceeocgpcagkjaaDoor.PA
open Go.RowKit Go.Proofs.YtceeocgpcagkjaaDoorW.PrintWords Go.Proofs.YtceeocgpcagkjaaDoorW.PrintLast Go.Proofs.YtceeocgpcagkjaaDoorW.PrintMore
attribute [local go_sem] max2_int min2_int max_two min_two max_three min_three max_four min_four   -- for this text's walks alone
set_option linter.unusedVariables false
set_option linter.unusedSimpArgs false

/-! ### laws_FnDivided: function 3 -/
mutual
def laws_FnDivided.j0 : Nat → List Int → Int → Bool → Option (Bool)
  | 0, _, _, _ => none
  | k + 1, x1, x5, x60 => if x60 = true then (some false) else ((spec_DrawPowerOf.f k x1).bind fun bt187 => ((impl_PowerOf.f k bt187.1 bt187.2).bind fun bt189 => ((spec_PowerOf.f k bt187.1 bt187.2).bind fun bt191 => (if (bt189.2 != bt191.2) = true then (laws_FnDivided.j1 k x5 bt187.1 bt187.2 bt189.1 bt189.2 true) else (laws_FnDivided.j1 k x5 bt187.1 bt187.2 bt189.1 bt189.2 (bt189.1 != bt191.1))))))
def laws_FnDivided.j1 : Nat → Int → Int → Int → Int → Bool → Bool → Option (Bool)
  | 0, _, _, _, _, _, _ => none
  | k + 1, x5, x10, x11, x12, x13, x85 => if x85 = true then (some false) else (if x13 = true then (laws_FnDivided.j2 k x5 x10 x11 x12 (decide (x11 > 0))) else (laws_FnDivided.j2 k x5 x10 x11 x12 false))
def laws_FnDivided.j2 : Nat → Int → Int → Int → Int → Bool → Option (Bool)
  | 0, _, _, _, _, _ => none
  | k + 1, x5, x10, x11, x12, x90 => if x90 = true then ((impl_PowerOf.f k x10 (wrap64 (x11 - 1))).bind fun bt193 => (if bt193.2 = true then (if (wrap64 (bt193.1 * x10)) = x12 then (laws_FnDivided.j3 k x5 x10) else (some false)) else (some false))) else (laws_FnDivided.j3 k x5 x10)
def laws_FnDivided.j3 : Nat → Int → Int → Option (Bool)
  | 0, _, _ => none
  | k + 1, x5, x10 => (impl_DoOp.f k 8 (([x5, x10] : List Int))).bind fun bt198 => (if bt198.2.2 = true then (laws_FnDivided.j4 k x5 x10 bt198.1 (bt198.2.1 != (x10 == 0))) else (laws_FnDivided.j4 k x5 x10 bt198.1 true))
def laws_FnDivided.j4 : Nat → Int → Int → Int → Bool → Option (Bool)
  | 0, _, _, _, _ => none
  | k + 1, x5, x10, x18, x122 => if x122 = true then (some false) else (if x10 > 0 then (if x10 < 2147483648 then (if (wrap64 (x5 - (wrap64 (x18 * x10)))) < x10 then (if (wrap64 (x5 - (wrap64 (x18 * x10)))) > (wrap64 (-x10)) then (if (wrap64 (x5 - (wrap64 (x18 * x10)))) = 0 then (some true) else (some ((decide ((wrap64 (x5 - (wrap64 (x18 * x10)))) < 0)) == (decide (x5 < 0))))) else (some false)) else (some false)) else (some true)) else (some true))
end
def laws_FnDivided.f (k : Nat) (l0 : List Int) (l1 : List Int) : Option (Bool) := (laws_big.f l0 l1).bind fun t181 => (if t181 = true then (some true) else ((spec_DrawOddInverse.f k l0).bind fun t182 => ((impl_OddInverse.f k t182).bind fun bt183 => ((spec_OddInverse.f k t182).bind fun bt185 => (if (bt183.2 != bt185.2) = true then (laws_FnDivided.j0 k l1 t182 true) else (if bt183.1 = bt185.1 then (if bt183.2 = true then (if (wrap64 (bt183.1 * t182)) = 1 then (laws_FnDivided.j0 k l1 t182 (bt183.2 != ((Int.tmod t182 2) != 0))) else (laws_FnDivided.j0 k l1 t182 true)) else (laws_FnDivided.j0 k l1 t182 (bt183.2 != ((Int.tmod t182 2) != 0)))) else (laws_FnDivided.j0 k l1 t182 true)))))))
theorem laws_FnDivided.mono_l : ∀ k, (∀ y0 y1 y2, LeO (laws_FnDivided.j0 k y0 y1 y2) (laws_FnDivided.j0 (k + 1) y0 y1 y2)) ∧ (∀ y0 y1 y2 y3 y4 y5, LeO (laws_FnDivided.j1 k y0 y1 y2 y3 y4 y5) (laws_FnDivided.j1 (k + 1) y0 y1 y2 y3 y4 y5)) ∧ (∀ y0 y1 y2 y3 y4, LeO (laws_FnDivided.j2 k y0 y1 y2 y3 y4) (laws_FnDivided.j2 (k + 1) y0 y1 y2 y3 y4)) ∧ (∀ y0 y1, LeO (laws_FnDivided.j3 k y0 y1) (laws_FnDivided.j3 (k + 1) y0 y1)) ∧ (∀ y0 y1 y2 y3, LeO (laws_FnDivided.j4 k y0 y1 y2 y3) (laws_FnDivided.j4 (k + 1) y0 y1 y2 y3))
  | 0 => ⟨fun _ _ _ r h => by simp [laws_FnDivided.j0] at h, fun _ _ _ _ _ _ r h => by simp [laws_FnDivided.j1] at h, fun _ _ _ _ _ r h => by simp [laws_FnDivided.j2] at h, fun _ _ r h => by simp [laws_FnDivided.j3] at h, fun _ _ _ _ r h => by simp [laws_FnDivided.j4] at h⟩
  | k + 1 => by
    obtain ⟨ih0, ih1, ih2, ih3, ih4⟩ := laws_FnDivided.mono_l k
    refine ⟨?_, ?_, ?_, ?_, ?_⟩
    · intro y0 y1 y2
      unfold laws_FnDivided.j0
      repeat' first
      | (with_reducible exact ih0 _ _ _)
      | (with_reducible exact ih1 _ _ _ _ _ _)
      | (with_reducible exact ih2 _ _ _ _ _)
      | (with_reducible exact ih3 _ _)
      | (with_reducible exact ih4 _ _ _ _)
      | (with_reducible exact impl_DoOp.mono _ _ _)
      | (with_reducible exact impl_OddInverse.mono _ _)
      | (with_reducible exact impl_PowerOf.mono _ _ _)
      | (with_reducible exact spec_DrawOddInverse.mono _ _)
      | (with_reducible exact spec_DrawPowerOf.mono _ _)
      | (with_reducible exact spec_OddInverse.mono _ _)
      | (with_reducible exact spec_PowerOf.mono _ _ _)
      | (with_reducible exact LeO.refl _)
      | (with_reducible exact LeO.none _)
      | (with_reducible refine LeO.ite ?_ ?_)
      | (with_reducible refine LeO.bind ?_ (fun _ => ?_))
      | exact ih0 _ _ _
      | exact ih1 _ _ _ _ _ _
      | exact ih2 _ _ _ _ _
      | exact ih3 _ _
      | exact ih4 _ _ _ _
      | exact impl_DoOp.mono _ _ _
      | exact impl_OddInverse.mono _ _
      | exact impl_PowerOf.mono _ _ _
      | exact spec_DrawOddInverse.mono _ _
      | exact spec_DrawPowerOf.mono _ _
      | exact spec_OddInverse.mono _ _
      | exact spec_PowerOf.mono _ _ _
      | exact LeO.none _
      | refine LeO.ite ?_ ?_
      | refine LeO.bind ?_ (fun _ => ?_)
    · intro y0 y1 y2 y3 y4 y5
      unfold laws_FnDivided.j1
      repeat' first
      | (with_reducible exact ih0 _ _ _)
      | (with_reducible exact ih1 _ _ _ _ _ _)
      | (with_reducible exact ih2 _ _ _ _ _)
      | (with_reducible exact ih3 _ _)
      | (with_reducible exact ih4 _ _ _ _)
      | (with_reducible exact impl_DoOp.mono _ _ _)
      | (with_reducible exact impl_OddInverse.mono _ _)
      | (with_reducible exact impl_PowerOf.mono _ _ _)
      | (with_reducible exact spec_DrawOddInverse.mono _ _)
      | (with_reducible exact spec_DrawPowerOf.mono _ _)
      | (with_reducible exact spec_OddInverse.mono _ _)
      | (with_reducible exact spec_PowerOf.mono _ _ _)
      | (with_reducible exact LeO.refl _)
      | (with_reducible exact LeO.none _)
      | (with_reducible refine LeO.ite ?_ ?_)
      | (with_reducible refine LeO.bind ?_ (fun _ => ?_))
      | exact ih0 _ _ _
      | exact ih1 _ _ _ _ _ _
      | exact ih2 _ _ _ _ _
      | exact ih3 _ _
      | exact ih4 _ _ _ _
      | exact impl_DoOp.mono _ _ _
      | exact impl_OddInverse.mono _ _
      | exact impl_PowerOf.mono _ _ _
      | exact spec_DrawOddInverse.mono _ _
      | exact spec_DrawPowerOf.mono _ _
      | exact spec_OddInverse.mono _ _
      | exact spec_PowerOf.mono _ _ _
      | exact LeO.none _
      | refine LeO.ite ?_ ?_
      | refine LeO.bind ?_ (fun _ => ?_)
    · intro y0 y1 y2 y3 y4
      unfold laws_FnDivided.j2
      repeat' first
      | (with_reducible exact ih0 _ _ _)
      | (with_reducible exact ih1 _ _ _ _ _ _)
      | (with_reducible exact ih2 _ _ _ _ _)
      | (with_reducible exact ih3 _ _)
      | (with_reducible exact ih4 _ _ _ _)
      | (with_reducible exact impl_DoOp.mono _ _ _)
      | (with_reducible exact impl_OddInverse.mono _ _)
      | (with_reducible exact impl_PowerOf.mono _ _ _)
      | (with_reducible exact spec_DrawOddInverse.mono _ _)
      | (with_reducible exact spec_DrawPowerOf.mono _ _)
      | (with_reducible exact spec_OddInverse.mono _ _)
      | (with_reducible exact spec_PowerOf.mono _ _ _)
      | (with_reducible exact LeO.refl _)
      | (with_reducible exact LeO.none _)
      | (with_reducible refine LeO.ite ?_ ?_)
      | (with_reducible refine LeO.bind ?_ (fun _ => ?_))
      | exact ih0 _ _ _
      | exact ih1 _ _ _ _ _ _
      | exact ih2 _ _ _ _ _
      | exact ih3 _ _
      | exact ih4 _ _ _ _
      | exact impl_DoOp.mono _ _ _
      | exact impl_OddInverse.mono _ _
      | exact impl_PowerOf.mono _ _ _
      | exact spec_DrawOddInverse.mono _ _
      | exact spec_DrawPowerOf.mono _ _
      | exact spec_OddInverse.mono _ _
      | exact spec_PowerOf.mono _ _ _
      | exact LeO.none _
      | refine LeO.ite ?_ ?_
      | refine LeO.bind ?_ (fun _ => ?_)
    · intro y0 y1
      unfold laws_FnDivided.j3
      repeat' first
      | (with_reducible exact ih0 _ _ _)
      | (with_reducible exact ih1 _ _ _ _ _ _)
      | (with_reducible exact ih2 _ _ _ _ _)
      | (with_reducible exact ih3 _ _)
      | (with_reducible exact ih4 _ _ _ _)
      | (with_reducible exact impl_DoOp.mono _ _ _)
      | (with_reducible exact impl_OddInverse.mono _ _)
      | (with_reducible exact impl_PowerOf.mono _ _ _)
      | (with_reducible exact spec_DrawOddInverse.mono _ _)
      | (with_reducible exact spec_DrawPowerOf.mono _ _)
      | (with_reducible exact spec_OddInverse.mono _ _)
      | (with_reducible exact spec_PowerOf.mono _ _ _)
      | (with_reducible exact LeO.refl _)
      | (with_reducible exact LeO.none _)
      | (with_reducible refine LeO.ite ?_ ?_)
      | (with_reducible refine LeO.bind ?_ (fun _ => ?_))
      | exact ih0 _ _ _
      | exact ih1 _ _ _ _ _ _
      | exact ih2 _ _ _ _ _
      | exact ih3 _ _
      | exact ih4 _ _ _ _
      | exact impl_DoOp.mono _ _ _
      | exact impl_OddInverse.mono _ _
      | exact impl_PowerOf.mono _ _ _
      | exact spec_DrawOddInverse.mono _ _
      | exact spec_DrawPowerOf.mono _ _
      | exact spec_OddInverse.mono _ _
      | exact spec_PowerOf.mono _ _ _
      | exact LeO.none _
      | refine LeO.ite ?_ ?_
      | refine LeO.bind ?_ (fun _ => ?_)
    · intro y0 y1 y2 y3
      unfold laws_FnDivided.j4
      repeat' first
      | (with_reducible exact ih0 _ _ _)
      | (with_reducible exact ih1 _ _ _ _ _ _)
      | (with_reducible exact ih2 _ _ _ _ _)
      | (with_reducible exact ih3 _ _)
      | (with_reducible exact ih4 _ _ _ _)
      | (with_reducible exact impl_DoOp.mono _ _ _)
      | (with_reducible exact impl_OddInverse.mono _ _)
      | (with_reducible exact impl_PowerOf.mono _ _ _)
      | (with_reducible exact spec_DrawOddInverse.mono _ _)
      | (with_reducible exact spec_DrawPowerOf.mono _ _)
      | (with_reducible exact spec_OddInverse.mono _ _)
      | (with_reducible exact spec_PowerOf.mono _ _ _)
      | (with_reducible exact LeO.refl _)
      | (with_reducible exact LeO.none _)
      | (with_reducible refine LeO.ite ?_ ?_)
      | (with_reducible refine LeO.bind ?_ (fun _ => ?_))
      | exact ih0 _ _ _
      | exact ih1 _ _ _ _ _ _
      | exact ih2 _ _ _ _ _
      | exact ih3 _ _
      | exact ih4 _ _ _ _
      | exact impl_DoOp.mono _ _ _
      | exact impl_OddInverse.mono _ _
      | exact impl_PowerOf.mono _ _ _
      | exact spec_DrawOddInverse.mono _ _
      | exact spec_DrawPowerOf.mono _ _
      | exact spec_OddInverse.mono _ _
      | exact spec_PowerOf.mono _ _ _
      | exact LeO.none _
      | refine LeO.ite ?_ ?_
      | refine LeO.bind ?_ (fun _ => ?_)
theorem laws_FnDivided.mono : ∀ a0 a1 k, LeO (laws_FnDivided.f k a0 a1) (laws_FnDivided.f (k + 1) a0 a1) := by
  intro a0 a1 k
  obtain ⟨ih0, ih1, ih2, ih3, ih4⟩ := laws_FnDivided.mono_l k
  unfold laws_FnDivided.f
  repeat' first
      | (with_reducible exact ih0 _ _ _)
      | (with_reducible exact ih1 _ _ _ _ _ _)
      | (with_reducible exact ih2 _ _ _ _ _)
      | (with_reducible exact ih3 _ _)
      | (with_reducible exact ih4 _ _ _ _)
      | (with_reducible exact impl_DoOp.mono _ _ _)
      | (with_reducible exact impl_OddInverse.mono _ _)
      | (with_reducible exact impl_PowerOf.mono _ _ _)
      | (with_reducible exact spec_DrawOddInverse.mono _ _)
      | (with_reducible exact spec_DrawPowerOf.mono _ _)
      | (with_reducible exact spec_OddInverse.mono _ _)
      | (with_reducible exact spec_PowerOf.mono _ _ _)
      | (with_reducible exact LeO.refl _)
      | (with_reducible exact LeO.none _)
      | (with_reducible refine LeO.ite ?_ ?_)
      | (with_reducible refine LeO.bind ?_ (fun _ => ?_))
      | exact ih0 _ _ _
      | exact ih1 _ _ _ _ _ _
      | exact ih2 _ _ _ _ _
      | exact ih3 _ _
      | exact ih4 _ _ _ _
      | exact impl_DoOp.mono _ _ _
      | exact impl_OddInverse.mono _ _
      | exact impl_PowerOf.mono _ _ _
      | exact spec_DrawOddInverse.mono _ _
      | exact spec_DrawPowerOf.mono _ _
      | exact spec_OddInverse.mono _ _
      | exact spec_PowerOf.mono _ _ _
      | exact LeO.none _
      | refine LeO.ite ?_ ?_
      | refine LeO.bind ?_ (fun _ => ?_)
set_option maxHeartbeats 8000000 in
set_option maxRecDepth 100000 in
theorem laws_FnDivided.calls (k : Nat) (A0 : Option Addr) (c0 : Nat) (l0 : List Int) (A1 : Option Addr) (c1 : Nat) (l1 : List Int) (r : Bool) (w : World) (hT : GT w) (hr0 : Kd.C (Kd.int .u8) w A0 l0.length l0) (hc0 : l0.length ≤ c0) (hr1 : Kd.C (Kd.int .u8) w A1 l1.length l1) (hc1 : l1.length ≤ c1) (h : laws_FnDivided.f k l0 l1 = some r) :
    Calls Tryd.prog 3 #[.slice A0 l0.length c0, .slice A1 l1.length c1] w fun e w' => e = .returned (.bool r) ∧ Below w.heap.size w w' := by
  have HR0 := Aside0.mk hr0
  have HC0 := Aside0.mk hc0
  clear hr0 hc0
  have HR1 := Aside0.mk hr1
  have HC1 := Aside0.mk hc1
  clear hr1 hc1
  have HB := Aside0.mk (Below.refl w.heap.size w)
  have HTT := Aside0.mk hT
  clear hT
  have H : ((laws_big.f l0 l1).bind fun t181 => (if t181 = true then (some true) else ((spec_DrawOddInverse.f k l0).bind fun t182 => ((impl_OddInverse.f k t182).bind fun bt183 => ((spec_OddInverse.f k t182).bind fun bt185 => (if (bt183.2 != bt185.2) = true then (laws_FnDivided.j0 k l1 t182 true) else (if bt183.1 = bt185.1 then (if bt183.2 = true then (if (wrap64 (bt183.1 * t182)) = 1 then (laws_FnDivided.j0 k l1 t182 (bt183.2 != ((Int.tmod t182 2) != 0))) else (laws_FnDivided.j0 k l1 t182 true)) else (laws_FnDivided.j0 k l1 t182 (bt183.2 != ((Int.tmod t182 2) != 0)))) else (laws_FnDivided.j0 k l1 t182 true)))))))) = some r := h
  clear h
  replace H := Option.bind_eq_some_iff.mp H
  obtain ⟨t181, A30, H⟩ := H
  replace H : (if t181 = true then (some true) else ((spec_DrawOddInverse.f k l0).bind fun t182 => ((impl_OddInverse.f k t182).bind fun bt183 => ((spec_OddInverse.f k t182).bind fun bt185 => (if (bt183.2 != bt185.2) = true then (laws_FnDivided.j0 k l1 t182 true) else (if bt183.1 = bt185.1 then (if bt183.2 = true then (if (wrap64 (bt183.1 * t182)) = 1 then (laws_FnDivided.j0 k l1 t182 (bt183.2 != ((Int.tmod t182 2) != 0))) else (laws_FnDivided.j0 k l1 t182 true)) else (laws_FnDivided.j0 k l1 t182 (bt183.2 != ((Int.tmod t182 2) != 0)))) else (laws_FnDivided.j0 k l1 t182 true))))))) = some r := H
  have A3 := Aside0.mk A30
  clear A30
  by_cases c4 : t181 = true
  · subst c4
    have H1 : (some true) = some r := by rw [if_pos rfl] at H; exact H
    clear H
    have H := H1
    clear H1
    obtain rfl := Option.some.inj H
    go_enter Tryd.func3, Tryd.ntmps3
    go_wp2_with (first | ((with_reducible refine gate_callee (f := 4) rfl ?_); refine goesL_ (some 24) rfl rfl Tryd.func4 (by kernel_rfl) rfl #[.slice A0 l0.length c0, .slice A1 l1.length c1] rfl (by (try simp only [List.map_toArray, List.map_cons, List.map_nil]); first | done | rfl | (simp only [List.length_drop, List.length_take]; rfl)) ?_; (with_reducible refine (laws_big.calls _ _ l0 _ _ l1 true _ ?side1 ?side2 ?side3 ?side4 A3.out).mono ?_); (case side1 => repeat (first | exact HR0.out | (with_reducible refine Kd.C_alloc ?_ _) | (with_reducible refine Kd.C_drewN ?_ _) | (with_reducible refine Kd.C_drew ?_))); (case side2 => exact HC0.out); (case side3 => repeat (first | exact HR1.out | (with_reducible refine Kd.C_alloc ?_ _) | (with_reducible refine Kd.C_drewN ?_ _) | (with_reducible refine Kd.C_drew ?_))); (case side4 => exact HC1.out); rintro e w' ⟨rfl, ⟨nd, rfl⟩⟩; refine ⟨_, rfl, ?_⟩))
    go_ret
    exact ⟨by first | rfl | (simp [errW_none, errW_some] <;> rfl) | (simp [*, errW_none, errW_some] <;> rfl), by repeat (first | (with_reducible first | exact HB.out | apply below_alloc | apply pw_below_drewN | apply below_drew1) | exact HB.out)⟩
  · replace c4 := Bool.eq_false_iff.mpr c4
    subst c4
    have H1 : ((spec_DrawOddInverse.f k l0).bind fun t182 => ((impl_OddInverse.f k t182).bind fun bt183 => ((spec_OddInverse.f k t182).bind fun bt185 => (if (bt183.2 != bt185.2) = true then (laws_FnDivided.j0 k l1 t182 true) else (if bt183.1 = bt185.1 then (if bt183.2 = true then (if (wrap64 (bt183.1 * t182)) = 1 then (laws_FnDivided.j0 k l1 t182 (bt183.2 != ((Int.tmod t182 2) != 0))) else (laws_FnDivided.j0 k l1 t182 true)) else (laws_FnDivided.j0 k l1 t182 (bt183.2 != ((Int.tmod t182 2) != 0)))) else (laws_FnDivided.j0 k l1 t182 true)))))) = some r := by rw [if_neg (show ¬ (false = true) by decide)] at H; exact H
    clear H
    have H := H1
    clear H1
    replace H := Option.bind_eq_some_iff.mp H
    obtain ⟨t182, A50, H⟩ := H
    replace H : ((impl_OddInverse.f k t182).bind fun bt183 => ((spec_OddInverse.f k t182).bind fun bt185 => (if (bt183.2 != bt185.2) = true then (laws_FnDivided.j0 k l1 t182 true) else (if bt183.1 = bt185.1 then (if bt183.2 = true then (if (wrap64 (bt183.1 * t182)) = 1 then (laws_FnDivided.j0 k l1 t182 (bt183.2 != ((Int.tmod t182 2) != 0))) else (laws_FnDivided.j0 k l1 t182 true)) else (laws_FnDivided.j0 k l1 t182 (bt183.2 != ((Int.tmod t182 2) != 0)))) else (laws_FnDivided.j0 k l1 t182 true))))) = some r := H
    have A5 := Aside0.mk A50
    clear A50
    replace H := Option.bind_eq_some_iff.mp H
    obtain ⟨⟨t183, t184⟩, A60, H⟩ := H
    replace H : ((spec_OddInverse.f k t182).bind fun bt185 => (if (t184 != bt185.2) = true then (laws_FnDivided.j0 k l1 t182 true) else (if t183 = bt185.1 then (if t184 = true then (if (wrap64 (t183 * t182)) = 1 then (laws_FnDivided.j0 k l1 t182 (t184 != ((Int.tmod t182 2) != 0))) else (laws_FnDivided.j0 k l1 t182 true)) else (laws_FnDivided.j0 k l1 t182 (t184 != ((Int.tmod t182 2) != 0)))) else (laws_FnDivided.j0 k l1 t182 true)))) = some r := H
    have A6 := Aside0.mk A60
    clear A60
    replace H := Option.bind_eq_some_iff.mp H
    obtain ⟨⟨t185, t186⟩, A70, H⟩ := H
    replace H : (if (t184 != t186) = true then (laws_FnDivided.j0 k l1 t182 true) else (if t183 = t185 then (if t184 = true then (if (wrap64 (t183 * t182)) = 1 then (laws_FnDivided.j0 k l1 t182 (t184 != ((Int.tmod t182 2) != 0))) else (laws_FnDivided.j0 k l1 t182 true)) else (laws_FnDivided.j0 k l1 t182 (t184 != ((Int.tmod t182 2) != 0)))) else (laws_FnDivided.j0 k l1 t182 true))) = some r := H
    have A7 := Aside0.mk A70
    clear A70
    have HC8 := Aside0.mk H
    clear H
    go_enter Tryd.func3, Tryd.ntmps3
    go_upto_region 6 with (first | ((with_reducible refine gate_callee (f := 4) rfl ?_); refine goesL_ (some 24) rfl rfl Tryd.func4 (by kernel_rfl) rfl #[.slice A0 l0.length c0, .slice A1 l1.length c1] rfl (by (try simp only [List.map_toArray, List.map_cons, List.map_nil]); first | done | rfl | (simp only [List.length_drop, List.length_take]; rfl)) ?_; (with_reducible refine (laws_big.calls _ _ l0 _ _ l1 false _ ?side1 ?side2 ?side3 ?side4 A3.out).mono ?_); (case side1 => repeat (first | exact HR0.out | (with_reducible refine Kd.C_alloc ?_ _) | (with_reducible refine Kd.C_drewN ?_ _) | (with_reducible refine Kd.C_drew ?_))); (case side2 => exact HC0.out); (case side3 => repeat (first | exact HR1.out | (with_reducible refine Kd.C_alloc ?_ _) | (with_reducible refine Kd.C_drewN ?_ _) | (with_reducible refine Kd.C_drew ?_))); (case side4 => exact HC1.out); rintro e w' ⟨rfl, ⟨nd, rfl⟩⟩; refine ⟨_, rfl, ?_⟩) | ((with_reducible refine gate_callee (f := 5) rfl ?_); refine goesL_ (some 26) rfl rfl Tryd.func5 (by kernel_rfl) rfl #[.slice A0 l0.length c0] rfl (by (try simp only [List.map_toArray, List.map_cons, List.map_nil]); first | done | rfl | (simp only [List.length_drop, List.length_take]; rfl)) ?_; (with_reducible refine (spec_DrawOddInverse.calls k _ _ l0 t182 _ ?side1 ?side2 A5.out).mono ?_); (case side1 => repeat (first | exact HR0.out | (with_reducible refine Kd.C_alloc ?_ _) | (with_reducible refine Kd.C_drewN ?_ _) | (with_reducible refine Kd.C_drew ?_))); (case side2 => exact HC0.out); rintro e w9 ⟨rfl, hb⟩; refine ⟨_, rfl, ?_⟩; have n0_ := Aside0.mk (below_step (by repeat (first | (with_reducible first | exact HB.out | apply below_alloc | apply pw_below_drewN | apply below_drew1) | exact HB.out)) hb); clear HB; have HB := n0_; clear n0_; (try clear hb); (try clear hb2); (try clear hk); (try clear hi)) | ((with_reducible refine gate_callee (f := 6) rfl ?_); refine goesL_ (some 29) rfl rfl Tryd.func6 (by kernel_rfl) rfl #[.int .i64 t182] rfl (by (try simp only [List.map_toArray, List.map_cons, List.map_nil]); first | done | rfl | (simp only [List.length_drop, List.length_take]; rfl)) ?_; (with_reducible refine (impl_OddInverse.calls k t182 t183 t184 _ (GT.below HTT.out (by repeat (first | exact HB.out | apply below_alloc | apply pw_below_drewN | apply below_drew1))) A6.out).mono ?_); rintro e w10 ⟨rfl, hb⟩; refine ⟨_, rfl, ?_⟩; have n0_ := Aside0.mk (below_step (by repeat (first | (with_reducible first | exact HB.out | apply below_alloc | apply pw_below_drewN | apply below_drew1) | exact HB.out)) hb); clear HB; have HB := n0_; clear n0_; (try clear hb); (try clear hb2); (try clear hk); (try clear hi)) | ((with_reducible refine gate_callee (f := 7) rfl ?_); refine goesL_ (some 34) rfl rfl Tryd.func7 (by kernel_rfl) rfl #[.int .i64 t182] rfl (by (try simp only [List.map_toArray, List.map_cons, List.map_nil]); first | done | rfl | (simp only [List.length_drop, List.length_take]; rfl)) ?_; (with_reducible refine (spec_OddInverse.calls k t182 t185 t186 _ A7.out).mono ?_); rintro e w' ⟨rfl, ⟨nd, rfl⟩⟩; refine ⟨_, rfl, ?_⟩))
    (try simp only [Act.put, List.setIfInBounds_toArray, List.set_cons_zero, List.set_cons_succ])
    go_cut [60] (fun v60 wc => ∃ (kq : Nat) (x60_7 : Bool), v60 = .bool x60_7 ∧ Aside0 (laws_FnDivided.j0 kq l1 t182 x60_7 = some r) ∧ Aside0 (kq ≤ k) ∧ Aside0 (Below w.heap.size w wc))
    case first =>
      have H := HC8.out
      clear HC8
      by_cases c11 : (t184 != t186) = true
      · rw [if_pos c11] at H
        have c11b0 : (t184 != t186) = true := c11
        (try (have c11b1 : decide (t184 = t186) = false := by simpa using c11))
        (try (have c11b2 : (t184 == t186) = false := by simpa using c11))
        (try (have c11b3 : ¬ (t184 = t186) := by simpa using c11))
        clear c11
        (first | rw [c11b0] | (simp only [i64_w, i32_w]; rw [c11b0]) | skip)
        have H' := Aside0.mk H
        clear H
        go_wp2
        go_meet
        case rel => exact ⟨_, (true), (by first | rfl | (simp; done) | (simp [*]; done)), H', ⟨by first | omega | exact Nat.le_refl _⟩, ⟨by repeat (first | (with_reducible first | exact HB.out | apply below_alloc | apply pw_below_drewN | apply below_drew1) | exact HB.out)⟩⟩
      · rw [if_neg c11] at H
        have c11b0 : (t184 != t186) = false := by simpa using c11
        (try (have c11b1 : decide (t184 = t186) = true := by simpa using c11))
        (try (have c11b2 : (t184 == t186) = true := by simpa using c11))
        clear c11
        (first | rw [c11b0] | (simp only [i64_w, i32_w]; rw [c11b0]) | skip)
        by_cases c12 : t183 = t185
        · rw [if_pos c12] at H
          have c12b0 : (t183 == t185) = true := beq_iff_eq.mpr c12
          have c12b1 : (t183 != t185) = false := bne_eq_false_iff_eq.mpr c12
          clear c12
          by_cases c13 : t184 = true
          · subst c13
            have H1 : (if (wrap64 (t183 * t182)) = 1 then (laws_FnDivided.j0 k l1 t182 (true != ((Int.tmod t182 2) != 0))) else (laws_FnDivided.j0 k l1 t182 true)) = some r := by rw [if_pos rfl] at H; exact H
            clear H
            have H := H1
            clear H1
            by_cases c14 : (wrap64 (t183 * t182)) = 1
            · rw [if_pos c14] at H
              have c14b0 : ((wrap64 (t183 * t182)) == 1) = true := beq_iff_eq.mpr c14
              have c14b1 : ((wrap64 (t183 * t182)) != 1) = false := bne_eq_false_iff_eq.mpr c14
              clear c14
              have H' := Aside0.mk H
              clear H
              go_wp2
              go_meet
              case rel => exact ⟨_, ((true != ((Int.tmod t182 2) != 0))), (by first | rfl | (simp; done) | (simp [*]; done)), H', ⟨by first | omega | exact Nat.le_refl _⟩, ⟨by repeat (first | (with_reducible first | exact HB.out | apply below_alloc | apply pw_below_drewN | apply below_drew1) | exact HB.out)⟩⟩
            · rw [if_neg c14] at H
              have c14b0 : ((wrap64 (t183 * t182)) == 1) = false := beq_eq_false_iff_ne.mpr c14
              have c14b1 : ((wrap64 (t183 * t182)) != 1) = true := bne_iff_ne.mpr c14
              have H' := Aside0.mk H
              clear H
              go_wp2
              go_meet
              case rel => exact ⟨_, (true), (by first | rfl | (simp; done) | (simp [*]; done)), H', ⟨by first | omega | exact Nat.le_refl _⟩, ⟨by repeat (first | (with_reducible first | exact HB.out | apply below_alloc | apply pw_below_drewN | apply below_drew1) | exact HB.out)⟩⟩
          · replace c13 := Bool.eq_false_iff.mpr c13
            subst c13
            have H1 : (laws_FnDivided.j0 k l1 t182 (false != ((Int.tmod t182 2) != 0))) = some r := by rw [if_neg (show ¬ (false = true) by decide)] at H; exact H
            clear H
            have H := H1
            clear H1
            have H' := Aside0.mk H
            clear H
            go_wp2
            go_meet
            case rel => exact ⟨_, ((false != ((Int.tmod t182 2) != 0))), (by first | rfl | (simp; done) | (simp [*]; done)), H', ⟨by first | omega | exact Nat.le_refl _⟩, ⟨by repeat (first | (with_reducible first | exact HB.out | apply below_alloc | apply pw_below_drewN | apply below_drew1) | exact HB.out)⟩⟩
        · rw [if_neg c12] at H
          have c12b0 : (t183 == t185) = false := beq_eq_false_iff_ne.mpr c12
          have c12b1 : (t183 != t185) = true := bne_iff_ne.mpr c12
          have H' := Aside0.mk H
          clear H
          go_wp2
          go_meet
          case rel => exact ⟨_, (true), (by first | rfl | (simp; done) | (simp [*]; done)), H', ⟨by first | omega | exact Nat.le_refl _⟩, ⟨by repeat (first | (with_reducible first | exact HB.out | apply below_alloc | apply pw_below_drewN | apply below_drew1) | exact HB.out)⟩⟩
    case rest =>
      clear HC8
      try clear c1
      try clear p2
      try clear c3
      try clear c4
      try clear c5
      try clear c6
      try clear p6
      try clear c7
      try clear c11
      try clear c11b0
      try clear c11b1
      try clear c11b2
      try clear c12
      try clear c12b0
      try clear c12b1
      try clear c13
      try clear c14
      try clear c14b0
      try clear c14b1
      obtain ⟨kq, x60_7, rfl, HA, HJ7, HB⟩ := hcut
      cases kq with
      | zero => exact absurd HA.out (by simp [laws_FnDivided.j0])
      | succ kj7 =>
        have H := HA.out
        clear HA
        simp only [laws_FnDivided.j0] at H
        by_cases c15 : x60_7 = true
        · subst c15
          have H1 : (some false) = some r := by rw [if_pos rfl] at H; exact H
          clear H
          have H := H1
          clear H1
          obtain rfl := Option.some.inj H
          go_wp2
          go_ret
          exact ⟨by first | rfl | (simp [errW_none, errW_some] <;> rfl) | (simp [*, errW_none, errW_some] <;> rfl), by repeat (first | (with_reducible first | exact HB.out | apply below_alloc | apply pw_below_drewN | apply below_drew1) | exact HB.out)⟩
        · replace c15 := Bool.eq_false_iff.mpr c15
          subst c15
          have H1 : ((spec_DrawPowerOf.f kj7 l1).bind fun bt187 => ((impl_PowerOf.f kj7 bt187.1 bt187.2).bind fun bt189 => ((spec_PowerOf.f kj7 bt187.1 bt187.2).bind fun bt191 => (if (bt189.2 != bt191.2) = true then (laws_FnDivided.j1 kj7 t182 bt187.1 bt187.2 bt189.1 bt189.2 true) else (laws_FnDivided.j1 kj7 t182 bt187.1 bt187.2 bt189.1 bt189.2 (bt189.1 != bt191.1)))))) = some r := by rw [if_neg (show ¬ (false = true) by decide)] at H; exact H
          clear H
          have H := H1
          clear H1
          replace H := Option.bind_eq_some_iff.mp H
          obtain ⟨⟨t187, t188⟩, A160, H⟩ := H
          replace H : ((impl_PowerOf.f kj7 t187 t188).bind fun bt189 => ((spec_PowerOf.f kj7 t187 t188).bind fun bt191 => (if (bt189.2 != bt191.2) = true then (laws_FnDivided.j1 kj7 t182 t187 t188 bt189.1 bt189.2 true) else (laws_FnDivided.j1 kj7 t182 t187 t188 bt189.1 bt189.2 (bt189.1 != bt191.1))))) = some r := H
          have A16 := Aside0.mk A160
          clear A160
          replace H := Option.bind_eq_some_iff.mp H
          obtain ⟨⟨t189, t190⟩, A170, H⟩ := H
          replace H : ((spec_PowerOf.f kj7 t187 t188).bind fun bt191 => (if (t190 != bt191.2) = true then (laws_FnDivided.j1 kj7 t182 t187 t188 t189 t190 true) else (laws_FnDivided.j1 kj7 t182 t187 t188 t189 t190 (t189 != bt191.1)))) = some r := H
          have A17 := Aside0.mk A170
          clear A170
          replace H := Option.bind_eq_some_iff.mp H
          obtain ⟨⟨t191, t192⟩, A180, H⟩ := H
          replace H : (if (t190 != t192) = true then (laws_FnDivided.j1 kj7 t182 t187 t188 t189 t190 true) else (laws_FnDivided.j1 kj7 t182 t187 t188 t189 t190 (t189 != t191))) = some r := H
          have A18 := Aside0.mk A180
          clear A180
          have HC19 := Aside0.mk H
          clear H
          go_upto_region 11 with (first | ((with_reducible refine gate_callee (f := 8) rfl ?_); refine goesL_ (some 63) rfl rfl Tryd.func8 (by kernel_rfl) rfl #[.slice A1 l1.length c1] rfl (by (try simp only [List.map_toArray, List.map_cons, List.map_nil]); first | done | rfl | (simp only [List.length_drop, List.length_take]; rfl)) ?_; (with_reducible refine (spec_DrawPowerOf.calls kj7 _ _ l1 t187 t188 _ ?side1 ?side2 A16.out).mono ?_); (case side1 => repeat (first | exact (Kd.C_below HR1.out HB.out) | (with_reducible refine Kd.C_alloc ?_ _) | (with_reducible refine Kd.C_drewN ?_ _) | (with_reducible refine Kd.C_drew ?_))); (case side2 => exact HC1.out); rintro e w20 ⟨rfl, hb⟩; refine ⟨_, rfl, ?_⟩; have n0_ := Aside0.mk (below_step (by repeat (first | (with_reducible first | exact HB.out | apply below_alloc | apply pw_below_drewN | apply below_drew1) | exact HB.out)) hb); clear HB; have HB := n0_; clear n0_; (try clear hb); (try clear hb2); (try clear hk); (try clear hi)) | ((with_reducible refine gate_callee (f := 9) rfl ?_); refine goesL_ (some 69) rfl rfl Tryd.func9 (by kernel_rfl) rfl #[.int .i64 t187, .int .i64 t188] rfl (by (try simp only [List.map_toArray, List.map_cons, List.map_nil]); first | done | rfl | (simp only [List.length_drop, List.length_take]; rfl)) ?_; (with_reducible refine (impl_PowerOf.calls kj7 t187 t188 t189 t190 _ A17.out).mono ?_); rintro e w' ⟨rfl, ⟨nd, rfl⟩⟩; refine ⟨_, rfl, ?_⟩) | ((with_reducible refine gate_callee (f := 10) rfl ?_); refine goesL_ (some 75) rfl rfl Tryd.func10 (by kernel_rfl) rfl #[.int .i64 t187, .int .i64 t188] rfl (by (try simp only [List.map_toArray, List.map_cons, List.map_nil]); first | done | rfl | (simp only [List.length_drop, List.length_take]; rfl)) ?_; (with_reducible refine (spec_PowerOf.calls kj7 t187 t188 t191 t192 _ A18.out).mono ?_); rintro e w' ⟨rfl, ⟨nd, rfl⟩⟩; refine ⟨_, rfl, ?_⟩))
          (try simp only [Act.put, List.setIfInBounds_toArray, List.set_cons_zero, List.set_cons_succ])
          go_cut [85] (fun v85 wc => ∃ (kq : Nat) (x85_18 : Bool), v85 = .bool x85_18 ∧ Aside0 (laws_FnDivided.j1 kq t182 t187 t188 t189 t190 x85_18 = some r) ∧ Aside0 (kq ≤ kj7) ∧ Aside0 (Below w.heap.size w wc))
          case first =>
            have H := HC19.out
            clear HC19
            by_cases c21 : (t190 != t192) = true
            · rw [if_pos c21] at H
              have c21b0 : (t190 != t192) = true := c21
              (try (have c21b1 : decide (t190 = t192) = false := by simpa using c21))
              (try (have c21b2 : (t190 == t192) = false := by simpa using c21))
              (try (have c21b3 : ¬ (t190 = t192) := by simpa using c21))
              clear c21
              (first | rw [c21b0] | (simp only [i64_w, i32_w]; rw [c21b0]) | skip)
              have H' := Aside0.mk H
              clear H
              go_wp2
              go_meet
              case rel => exact ⟨_, (true), (by first | rfl | (simp; done) | (simp [*]; done)), H', ⟨by have := HJ7.out; first | omega | exact Nat.le_refl _⟩, ⟨by repeat (first | (with_reducible first | exact HB.out | apply below_alloc | apply pw_below_drewN | apply below_drew1) | exact HB.out)⟩⟩
            · rw [if_neg c21] at H
              have c21b0 : (t190 != t192) = false := by simpa using c21
              (try (have c21b1 : decide (t190 = t192) = true := by simpa using c21))
              (try (have c21b2 : (t190 == t192) = true := by simpa using c21))
              clear c21
              (first | rw [c21b0] | (simp only [i64_w, i32_w]; rw [c21b0]) | skip)
              have H' := Aside0.mk H
              clear H
              go_wp2
              go_meet
              case rel => exact ⟨_, ((t189 != t191)), (by first | rfl | (simp; done) | (simp [*]; done)), H', ⟨by have := HJ7.out; first | omega | exact Nat.le_refl _⟩, ⟨by repeat (first | (with_reducible first | exact HB.out | apply below_alloc | apply pw_below_drewN | apply below_drew1) | exact HB.out)⟩⟩
          case rest =>
            clear HC19
            try clear c1
            try clear c2
            try clear p2
            try clear c3
            try clear c4
            try clear c5
            try clear c6
            try clear p6
            try clear c7
            try clear c8
            try clear c9
            try clear c10
            try clear c11
            try clear c11b0
            try clear c11b1
            try clear c11b2
            try clear c12
            try clear c12b0
            try clear c12b1
            try clear c13
            try clear c14
            try clear c14b0
            try clear c14b1
            try clear c15
            try clear c21
            try clear c21b0
            try clear c21b1
            try clear c21b2
            try clear p2
            try clear p6
            obtain ⟨kq, x85_18, rfl, HA, HJ18, HB⟩ := hcut
            cases kq with
            | zero => exact absurd HA.out (by simp [laws_FnDivided.j1])
            | succ kj18 =>
              have H := HA.out
              clear HA
              simp only [laws_FnDivided.j1] at H
              by_cases c22 : x85_18 = true
              · subst c22
                have H1 : (some false) = some r := by rw [if_pos rfl] at H; exact H
                clear H
                have H := H1
                clear H1
                obtain rfl := Option.some.inj H
                go_wp2
                go_ret
                exact ⟨by first | rfl | (simp [errW_none, errW_some] <;> rfl) | (simp [*, errW_none, errW_some] <;> rfl), by repeat (first | (with_reducible first | exact HB.out | apply below_alloc | apply pw_below_drewN | apply below_drew1) | exact HB.out)⟩
              · replace c22 := Bool.eq_false_iff.mpr c22
                subst c22
                have H1 : (if t190 = true then (laws_FnDivided.j2 kj18 t182 t187 t188 t189 (decide (t188 > 0))) else (laws_FnDivided.j2 kj18 t182 t187 t188 t189 false)) = some r := by rw [if_neg (show ¬ (false = true) by decide)] at H; exact H
                clear H
                have H := H1
                clear H1
                have HC23 := Aside0.mk H
                clear H
                go_upto_region 13 with (fail)
                go_cut [90] (fun v90 wc => ∃ (kq : Nat) (x90_22 : Bool), v90 = .bool x90_22 ∧ Aside0 (laws_FnDivided.j2 kq t182 t187 t188 t189 x90_22 = some r) ∧ Aside0 (kq ≤ kj18) ∧ Aside0 (Below w.heap.size w wc))
                case first =>
                  have H := HC23.out
                  clear HC23
                  by_cases c24 : t190 = true
                  · subst c24
                    have H1 : (laws_FnDivided.j2 kj18 t182 t187 t188 t189 (decide (t188 > 0))) = some r := by rw [if_pos rfl] at H; exact H
                    clear H
                    have H := H1
                    clear H1
                    have H' := Aside0.mk H
                    clear H
                    go_wp2
                    go_meet
                    case rel => exact ⟨_, (decide (t188 > 0)), (by first | rfl | (simp; done) | (simp [*]; done)), H', ⟨by have := HJ7.out; have := HJ18.out; first | omega | exact Nat.le_refl _⟩, ⟨by repeat (first | (with_reducible first | exact HB.out | apply below_alloc | apply pw_below_drewN | apply below_drew1) | exact HB.out)⟩⟩
                  · replace c24 := Bool.eq_false_iff.mpr c24
                    subst c24
                    have H1 : (laws_FnDivided.j2 kj18 t182 t187 t188 t189 false) = some r := by rw [if_neg (show ¬ (false = true) by decide)] at H; exact H
                    clear H
                    have H := H1
                    clear H1
                    have H' := Aside0.mk H
                    clear H
                    go_wp2
                    go_meet
                    case rel => exact ⟨_, (false), (by first | rfl | (simp; done) | (simp [*]; done)), H', ⟨by have := HJ7.out; have := HJ18.out; first | omega | exact Nat.le_refl _⟩, ⟨by repeat (first | (with_reducible first | exact HB.out | apply below_alloc | apply pw_below_drewN | apply below_drew1) | exact HB.out)⟩⟩
                case rest =>
                  clear HC23
                  try clear c1
                  try clear c2
                  try clear p2
                  try clear c3
                  try clear c4
                  try clear c5
                  try clear c6
                  try clear p6
                  try clear c7
                  try clear c8
                  try clear c9
                  try clear c10
                  try clear c11
                  try clear c11b0
                  try clear c11b1
                  try clear c11b2
                  try clear c12
                  try clear c12b0
                  try clear c12b1
                  try clear c13
                  try clear c14
                  try clear c14b0
                  try clear c14b1
                  try clear c15
                  try clear c21
                  try clear c21b0
                  try clear c21b1
                  try clear c21b2
                  try clear c22
                  try clear c24
                  try clear p2
                  try clear p6
                  obtain ⟨kq, x90_22, rfl, HA, HJ22, HB⟩ := hcut
                  cases kq with
                  | zero => exact absurd HA.out (by simp [laws_FnDivided.j2])
                  | succ kj22 =>
                    have H := HA.out
                    clear HA
                    simp only [laws_FnDivided.j2] at H
                    have HC25 := Aside0.mk H
                    clear H
                    go_upto_if 90 with (fail)
                    go_cut [] (fun wc => ∃ (kq : Nat), Aside0 (laws_FnDivided.j3 kq t182 t187 = some r) ∧ Aside0 (kq ≤ kj22) ∧ Aside0 (Below w.heap.size w wc))
                    case first =>
                      have H := HC25.out
                      clear HC25
                      by_cases c26 : x90_22 = true
                      · subst c26
                        have H1 : ((impl_PowerOf.f kj22 t187 (wrap64 (t188 - 1))).bind fun bt193 => (if bt193.2 = true then (if (wrap64 (bt193.1 * t187)) = t189 then (laws_FnDivided.j3 kj22 t182 t187) else (some false)) else (some false))) = some r := by rw [if_pos rfl] at H; exact H
                        clear H
                        have H := H1
                        clear H1
                        replace H := Option.bind_eq_some_iff.mp H
                        obtain ⟨⟨t193, t194⟩, A270, H⟩ := H
                        replace H : (if t194 = true then (if (wrap64 (t193 * t187)) = t189 then (laws_FnDivided.j3 kj22 t182 t187) else (some false)) else (some false)) = some r := H
                        have A27 := Aside0.mk A270
                        clear A270
                        by_cases c28 : t194 = true
                        · subst c28
                          have H1 : (if (wrap64 (t193 * t187)) = t189 then (laws_FnDivided.j3 kj22 t182 t187) else (some false)) = some r := by rw [if_pos rfl] at H; exact H
                          clear H
                          have H := H1
                          clear H1
                          by_cases c29 : (wrap64 (t193 * t187)) = t189
                          · rw [if_pos c29] at H
                            have c29b0 : ((wrap64 (t193 * t187)) == t189) = true := beq_iff_eq.mpr c29
                            have c29b1 : ((wrap64 (t193 * t187)) != t189) = false := bne_eq_false_iff_eq.mpr c29
                            clear c29
                            (first | rw [c29b0] | (simp only [i64_w, i32_w]; rw [c29b0]) | skip)
                            have H' := Aside0.mk H
                            clear H
                            go_wp2_with (first | ((with_reducible refine gate_callee (f := 9) rfl ?_); refine goesL_ (some 95) rfl rfl Tryd.func9 (by kernel_rfl) rfl #[.int .i64 t187, .int .i64 (wrap64 (t188 - 1))] rfl (by (try simp only [List.map_toArray, List.map_cons, List.map_nil]); first | done | rfl | (simp only [List.length_drop, List.length_take]; rfl)) ?_; (with_reducible refine (impl_PowerOf.calls kj22 t187 (wrap64 (t188 - 1)) t193 true _ A27.out).mono ?_); rintro e w' ⟨rfl, ⟨nd, rfl⟩⟩; refine ⟨_, rfl, ?_⟩))
                            go_meet
                            case rel => exact ⟨_, H', ⟨by have := HJ7.out; have := HJ18.out; have := HJ22.out; first | omega | exact Nat.le_refl _⟩, ⟨by repeat (first | (with_reducible first | exact HB.out | apply below_alloc | apply pw_below_drewN | apply below_drew1) | exact HB.out)⟩⟩
                          · rw [if_neg c29] at H
                            have c29b0 : ((wrap64 (t193 * t187)) == t189) = false := beq_eq_false_iff_ne.mpr c29
                            have c29b1 : ((wrap64 (t193 * t187)) != t189) = true := bne_iff_ne.mpr c29
                            (first | rw [c29b0] | (simp only [i64_w, i32_w]; rw [c29b0]) | skip)
                            obtain rfl := Option.some.inj H
                            go_wp2_with (first | ((with_reducible refine gate_callee (f := 9) rfl ?_); refine goesL_ (some 95) rfl rfl Tryd.func9 (by kernel_rfl) rfl #[.int .i64 t187, .int .i64 (wrap64 (t188 - 1))] rfl (by (try simp only [List.map_toArray, List.map_cons, List.map_nil]); first | done | rfl | (simp only [List.length_drop, List.length_take]; rfl)) ?_; (with_reducible refine (impl_PowerOf.calls kj22 t187 (wrap64 (t188 - 1)) t193 true _ A27.out).mono ?_); rintro e w' ⟨rfl, ⟨nd, rfl⟩⟩; refine ⟨_, rfl, ?_⟩))
                            go_ret
                            exact ⟨by first | rfl | (simp [errW_none, errW_some] <;> rfl) | (simp [*, errW_none, errW_some] <;> rfl), by repeat (first | (with_reducible first | exact HB.out | apply below_alloc | apply pw_below_drewN | apply below_drew1) | exact HB.out)⟩
                        · replace c28 := Bool.eq_false_iff.mpr c28
                          subst c28
                          have H1 : (some false) = some r := by rw [if_neg (show ¬ (false = true) by decide)] at H; exact H
                          clear H
                          have H := H1
                          clear H1
                          obtain rfl := Option.some.inj H
                          go_wp2_with (first | ((with_reducible refine gate_callee (f := 9) rfl ?_); refine goesL_ (some 95) rfl rfl Tryd.func9 (by kernel_rfl) rfl #[.int .i64 t187, .int .i64 (wrap64 (t188 - 1))] rfl (by (try simp only [List.map_toArray, List.map_cons, List.map_nil]); first | done | rfl | (simp only [List.length_drop, List.length_take]; rfl)) ?_; (with_reducible refine (impl_PowerOf.calls kj22 t187 (wrap64 (t188 - 1)) t193 false _ A27.out).mono ?_); rintro e w' ⟨rfl, ⟨nd, rfl⟩⟩; refine ⟨_, rfl, ?_⟩))
                          go_ret
                          exact ⟨by first | rfl | (simp [errW_none, errW_some] <;> rfl) | (simp [*, errW_none, errW_some] <;> rfl), by repeat (first | (with_reducible first | exact HB.out | apply below_alloc | apply pw_below_drewN | apply below_drew1) | exact HB.out)⟩
                      · replace c26 := Bool.eq_false_iff.mpr c26
                        subst c26
                        have H1 : (laws_FnDivided.j3 kj22 t182 t187) = some r := by rw [if_neg (show ¬ (false = true) by decide)] at H; exact H
                        clear H
                        have H := H1
                        clear H1
                        have H' := Aside0.mk H
                        clear H
                        go_wp2
                        go_meet
                        case rel => exact ⟨_, H', ⟨by have := HJ7.out; have := HJ18.out; have := HJ22.out; first | omega | exact Nat.le_refl _⟩, ⟨by repeat (first | (with_reducible first | exact HB.out | apply below_alloc | apply pw_below_drewN | apply below_drew1) | exact HB.out)⟩⟩
                    case rest =>
                      clear HC25
                      try clear c1
                      try clear c2
                      try clear p2
                      try clear c3
                      try clear c4
                      try clear c5
                      try clear c6
                      try clear p6
                      try clear c7
                      try clear c8
                      try clear c9
                      try clear c10
                      try clear c11
                      try clear c11b0
                      try clear c11b1
                      try clear c11b2
                      try clear c12
                      try clear c12b0
                      try clear c12b1
                      try clear c13
                      try clear c14
                      try clear c14b0
                      try clear c14b1
                      try clear c15
                      try clear c21
                      try clear c21b0
                      try clear c21b1
                      try clear c21b2
                      try clear c22
                      try clear c24
                      try clear c26
                      try clear c28
                      try clear c29
                      try clear c29b0
                      try clear c29b1
                      try clear p2
                      try clear p6
                      obtain ⟨kq, HA, HJ24, HB⟩ := hcut
                      cases kq with
                      | zero => exact absurd HA.out (by simp [laws_FnDivided.j3])
                      | succ kj24 =>
                        have H := HA.out
                        clear HA
                        simp only [laws_FnDivided.j3] at H
                        obtain ⟨y195, hy195⟩ : ∃ y_ : List Int, y_ = (([t182, t187] : List Int)) := ⟨_, rfl⟩
                        replace H : ((impl_DoOp.f kj24 8 y195).bind fun bt198 => (if bt198.2.2 = true then (laws_FnDivided.j4 kj24 t182 t187 bt198.1 (bt198.2.1 != (t187 == 0))) else (laws_FnDivided.j4 kj24 t182 t187 bt198.1 true))) = some r := by first | (rw [hy195]; with_reducible exact H) | (have H2_ := (Option.bind_some _ _).symm.trans H; rw [hy195]; with_reducible exact H2_) | (have H2_ := (Option.bind_some _ _).symm.trans H; with_reducible exact H2_) | with_reducible exact H | (rw [hy195]; exact H) | exact H
                        have Ny195 := Aside0.mk hy195
                        clear hy195
                        replace H := Option.bind_eq_some_iff.mp H
                        obtain ⟨⟨t198, t199, t200⟩, A300, H⟩ := H
                        replace H : (if t200 = true then (laws_FnDivided.j4 kj24 t182 t187 t198 (t199 != (t187 == 0))) else (laws_FnDivided.j4 kj24 t182 t187 t198 true)) = some r := H
                        have A30 := Aside0.mk A300
                        clear A300
                        have HC31 := Aside0.mk H
                        clear H
                        go_upto_region 18 with (first | ((with_reducible refine gate_dst (N := 110) rfl ?_); refine Kd.R_lit (Kd.int .i64) _ 2 ?hg (N := 110) ?hd (xs := ([t182, t187] : List Int)) (inner := [.int .i64 t182, .int .i64 t187]) (ok := fun _ => True) (okp := fun _ => True) ?hr ?hp (fun _ hk => hk) trivial (Below.refl _ _) (Nat.le_refl _) (by simp) ?_; (case hd => rfl); (case hg => rfl); (case hr => first | (go_simp; done) | (go_simp; rfl)); (case hp => exact (Reps.one (show Kd.M (Kd.int .i64) _ _ _ t182 [.int .i64 t182] from rfl) (Reps.one (show Kd.M (Kd.int .i64) _ _ _ t187 [.int .i64 t187] from rfl) (Reps.none _ _)))); intro v196 w32 ho33 hb hg_ hnew_; clear hg_ hnew_; (first | rw [← Ny195.out] at ho33 | (simp only [Int.reduceToNat] at ho33; rw [← Ny195.out] at ho33)); have n0_ := Aside0.mk (Kd.R_lower ho33 (below_size (by repeat (first | (with_reducible first | exact HB.out | apply below_alloc | apply pw_below_drewN | apply below_drew1) | exact HB.out)))); have n1_ := Aside0.mk (below_step (by repeat (first | (with_reducible first | exact HB.out | apply below_alloc | apply pw_below_drewN | apply below_drew1) | exact HB.out)) hb); clear HB; have HO197 := n0_; have HB := n1_; clear n0_ n1_; clear hb ho33; obtain ⟨Ao34, co34, eo34⟩ := Kd.R_slice HO197.out; subst eo34) | ((with_reducible refine gate_callee (f := 11) rfl ?_); refine goesL_ (some 111) rfl rfl Tryd.func11 (by kernel_rfl) rfl #[.int .i64 8, .slice Ao34 y195.length co34] rfl (by (try simp only [List.map_toArray, List.map_cons, List.map_nil]); first | done | rfl | (simp only [List.length_drop, List.length_take]; rfl)) ?_; (with_reducible refine (impl_DoOp.calls kj24 8 _ _ y195 t198 t199 t200 _ ?side1 ?side2 A30.out).mono ?_); (case side1 => repeat (first | exact (Kd.R_reads' HO197.out).2.2 | (with_reducible refine Kd.C_alloc ?_ _) | (with_reducible refine Kd.C_drewN ?_ _) | (with_reducible refine Kd.C_drew ?_))); (case side2 => exact (Kd.R_reads' HO197.out).2.1); rintro e w' ⟨rfl, ⟨nd, rfl⟩⟩; refine ⟨_, rfl, ?_⟩))
                        (try simp only [Act.put, List.setIfInBounds_toArray, List.set_cons_zero, List.set_cons_succ])
                        go_cut [122] (fun v122 wc => ∃ (kq : Nat) (x122_30 : Bool), v122 = .bool x122_30 ∧ Aside0 (laws_FnDivided.j4 kq t182 t187 t198 x122_30 = some r) ∧ Aside0 (kq ≤ kj24) ∧ Aside0 (Below w.heap.size w wc))
                        case first =>
                          have H := HC31.out
                          clear HC31
                          by_cases c35 : t200 = true
                          · subst c35
                            have H1 : (laws_FnDivided.j4 kj24 t182 t187 t198 (t199 != (t187 == 0))) = some r := by rw [if_pos rfl] at H; exact H
                            clear H
                            have H := H1
                            clear H1
                            have H' := Aside0.mk H
                            clear H
                            go_wp2
                            go_meet
                            case rel => exact ⟨_, ((t199 != (t187 == 0))), (by first | rfl | (simp; done) | (simp [*]; done)), H', ⟨by have := HJ7.out; have := HJ18.out; have := HJ22.out; have := HJ24.out; first | omega | exact Nat.le_refl _⟩, ⟨by repeat (first | (with_reducible first | exact HB.out | apply below_alloc | apply pw_below_drewN | apply below_drew1) | exact HB.out)⟩⟩
                          · replace c35 := Bool.eq_false_iff.mpr c35
                            subst c35
                            have H1 : (laws_FnDivided.j4 kj24 t182 t187 t198 true) = some r := by rw [if_neg (show ¬ (false = true) by decide)] at H; exact H
                            clear H
                            have H := H1
                            clear H1
                            have H' := Aside0.mk H
                            clear H
                            go_wp2
                            go_meet
                            case rel => exact ⟨_, (true), (by first | rfl | (simp; done) | (simp [*]; done)), H', ⟨by have := HJ7.out; have := HJ18.out; have := HJ22.out; have := HJ24.out; first | omega | exact Nat.le_refl _⟩, ⟨by repeat (first | (with_reducible first | exact HB.out | apply below_alloc | apply pw_below_drewN | apply below_drew1) | exact HB.out)⟩⟩
                        case rest =>
                          clear HC31
                          try clear c1
                          try clear c2
                          try clear p2
                          try clear c3
                          try clear c4
                          try clear c5
                          try clear c6
                          try clear p6
                          try clear c7
                          try clear c8
                          try clear c9
                          try clear c10
                          try clear c11
                          try clear c11b0
                          try clear c11b1
                          try clear c11b2
                          try clear c12
                          try clear c12b0
                          try clear c12b1
                          try clear c13
                          try clear c14
                          try clear c14b0
                          try clear c14b1
                          try clear c15
                          try clear c21
                          try clear c21b0
                          try clear c21b1
                          try clear c21b2
                          try clear c22
                          try clear c24
                          try clear c26
                          try clear c28
                          try clear c29
                          try clear c29b0
                          try clear c29b1
                          try clear c35
                          try clear p2
                          try clear p6
                          obtain ⟨kq, x122_30, rfl, HA, HJ30, HB⟩ := hcut
                          cases kq with
                          | zero => exact absurd HA.out (by simp [laws_FnDivided.j4])
                          | succ kj30 =>
                            have H := HA.out
                            clear HA
                            simp only [laws_FnDivided.j4] at H
                            by_cases c36 : x122_30 = true
                            · subst c36
                              have H1 : (some false) = some r := by rw [if_pos rfl] at H; exact H
                              clear H
                              have H := H1
                              clear H1
                              obtain rfl := Option.some.inj H
                              go_wp2
                              go_ret
                              exact ⟨by first | rfl | (simp [errW_none, errW_some] <;> rfl) | (simp [*, errW_none, errW_some] <;> rfl), by repeat (first | (with_reducible first | exact HB.out | apply below_alloc | apply pw_below_drewN | apply below_drew1) | exact HB.out)⟩
                            · replace c36 := Bool.eq_false_iff.mpr c36
                              subst c36
                              have H1 : (if t187 > 0 then (if t187 < 2147483648 then (if (wrap64 (t182 - (wrap64 (t198 * t187)))) < t187 then (if (wrap64 (t182 - (wrap64 (t198 * t187)))) > (wrap64 (-t187)) then (if (wrap64 (t182 - (wrap64 (t198 * t187)))) = 0 then (some true) else (some ((decide ((wrap64 (t182 - (wrap64 (t198 * t187)))) < 0)) == (decide (t182 < 0))))) else (some false)) else (some false)) else (some true)) else (some true)) = some r := by rw [if_neg (show ¬ (false = true) by decide)] at H; exact H
                              clear H
                              have H := H1
                              clear H1
                              by_cases c37 : t187 > 0
                              · rw [if_pos c37] at H
                                have c37b0 : decide (0 < t187) = true := decide_eq_true c37
                                clear c37
                                by_cases c38 : t187 < 2147483648
                                · rw [if_pos c38] at H
                                  have c38b0 : decide (t187 < 2147483648) = true := decide_eq_true c38
                                  clear c38
                                  by_cases c39 : (wrap64 (t182 - (wrap64 (t198 * t187)))) < t187
                                  · rw [if_pos c39] at H
                                    have c39b0 : decide ((wrap64 (t182 - (wrap64 (t198 * t187)))) < t187) = true := decide_eq_true c39
                                    clear c39
                                    by_cases c40 : (wrap64 (t182 - (wrap64 (t198 * t187)))) > (wrap64 (-t187))
                                    · rw [if_pos c40] at H
                                      have c40b0 : decide ((wrap64 (-t187)) < (wrap64 (t182 - (wrap64 (t198 * t187))))) = true := decide_eq_true c40
                                      clear c40
                                      by_cases c41 : (wrap64 (t182 - (wrap64 (t198 * t187)))) = 0
                                      · rw [if_pos c41] at H
                                        have c41b0 : ((wrap64 (t182 - (wrap64 (t198 * t187)))) == 0) = true := beq_iff_eq.mpr c41
                                        have c41b1 : ((wrap64 (t182 - (wrap64 (t198 * t187)))) != 0) = false := bne_eq_false_iff_eq.mpr c41
                                        clear c41
                                        obtain rfl := Option.some.inj H
                                        go_wp2
                                        go_ret
                                        exact ⟨by first | rfl | (simp [errW_none, errW_some] <;> rfl) | (simp [*, errW_none, errW_some] <;> rfl), by repeat (first | (with_reducible first | exact HB.out | apply below_alloc | apply pw_below_drewN | apply below_drew1) | exact HB.out)⟩
                                      · rw [if_neg c41] at H
                                        have c41b0 : ((wrap64 (t182 - (wrap64 (t198 * t187)))) == 0) = false := beq_eq_false_iff_ne.mpr c41
                                        have c41b1 : ((wrap64 (t182 - (wrap64 (t198 * t187)))) != 0) = true := bne_iff_ne.mpr c41
                                        obtain rfl := Option.some.inj H
                                        go_wp2
                                        go_ret
                                        exact ⟨by first | rfl | (simp [errW_none, errW_some] <;> rfl) | (simp [*, errW_none, errW_some] <;> rfl), by repeat (first | (with_reducible first | exact HB.out | apply below_alloc | apply pw_below_drewN | apply below_drew1) | exact HB.out)⟩
                                    · rw [if_neg c40] at H
                                      have c40b0 : decide ((wrap64 (-t187)) < (wrap64 (t182 - (wrap64 (t198 * t187))))) = false := decide_eq_false c40
                                      clear c40
                                      obtain rfl := Option.some.inj H
                                      go_wp2
                                      go_ret
                                      exact ⟨by first | rfl | (simp [errW_none, errW_some] <;> rfl) | (simp [*, errW_none, errW_some] <;> rfl), by repeat (first | (with_reducible first | exact HB.out | apply below_alloc | apply pw_below_drewN | apply below_drew1) | exact HB.out)⟩
                                  · rw [if_neg c39] at H
                                    have c39b0 : decide ((wrap64 (t182 - (wrap64 (t198 * t187)))) < t187) = false := decide_eq_false c39
                                    clear c39
                                    obtain rfl := Option.some.inj H
                                    go_wp2
                                    go_ret
                                    exact ⟨by first | rfl | (simp [errW_none, errW_some] <;> rfl) | (simp [*, errW_none, errW_some] <;> rfl), by repeat (first | (with_reducible first | exact HB.out | apply below_alloc | apply pw_below_drewN | apply below_drew1) | exact HB.out)⟩
                                · rw [if_neg c38] at H
                                  have c38b0 : decide (t187 < 2147483648) = false := decide_eq_false c38
                                  clear c38
                                  obtain rfl := Option.some.inj H
                                  go_wp2
                                  go_ret
                                  exact ⟨by first | rfl | (simp [errW_none, errW_some] <;> rfl) | (simp [*, errW_none, errW_some] <;> rfl), by repeat (first | (with_reducible first | exact HB.out | apply below_alloc | apply pw_below_drewN | apply below_drew1) | exact HB.out)⟩
                              · rw [if_neg c37] at H
                                have c37b0 : decide (0 < t187) = false := decide_eq_false c37
                                clear c37
                                obtain rfl := Option.some.inj H
                                go_wp2
                                go_ret
                                exact ⟨by first | rfl | (simp [errW_none, errW_some] <;> rfl) | (simp [*, errW_none, errW_some] <;> rfl), by repeat (first | (with_reducible first | exact HB.out | apply below_alloc | apply pw_below_drewN | apply below_drew1) | exact HB.out)⟩

/-- THE ONE PURE STATEMENT of laws_FnDivided: yours. -/
def laws_FnDivided.Pure : Prop := ∀ (l0 : List Int) (l1 : List Int), l0.length ≤ maxLen → l0.length * 1 ≤ 140737488351232 → (∀ x ∈ l0, (Lit.int .u8 x).wf = true) → l1.length ≤ maxLen → l1.length * 1 ≤ 140737488351232 → (∀ x ∈ l1, (Lit.int .u8 x).wf = true) → ∃ k, laws_FnDivided.f k l0 l1 = some true
theorem laws_FnDivided.walk (P : laws_FnDivided.Pure) (a0 : Option Addr) (len0 cap0 : Nat) (z0 : List Int) (a1 : Option Addr) (len1 cap1 : Nat) (z1 : List Int) (w : World) (hT : GT w) (w0 : (a0 = none ∧ len0 = 0 ∧ cap0 = 0 ∧ z0 = []) ∨ ∃ x, a0 = some x ∧ len0 ≤ cap0 ∧ cap0 ≤ maxLen ∧ z0.length = cap0 ∧ (∀ i, i < z0.length → w.cell? (x.add i) = some (.int .u8 (z0.getD i 0))) ∧ ∀ n ∈ z0, (Lit.int .u8 n).wf = true) (y0 : len0 * 1 ≤ 140737488351232) (w1 : (a1 = none ∧ len1 = 0 ∧ cap1 = 0 ∧ z1 = []) ∨ ∃ x, a1 = some x ∧ len1 ≤ cap1 ∧ cap1 ≤ maxLen ∧ z1.length = cap1 ∧ (∀ i, i < z1.length → w.cell? (x.add i) = some (.int .u8 (z1.getD i 0))) ∧ ∀ n ∈ z1, (Lit.int .u8 n).wf = true) (y1 : len1 * 1 ≤ 140737488351232) :
    Calls Tryd.prog 3 #[.slice a0 len0 cap0, .slice a1 len1 cap1] w fun e w' => e = .returned (.bool true) ∧ Below w.heap.size w w' := by
  obtain ⟨l0, rfl, hr0, hm0, hw0, hc0⟩ := ReadsInt.ofRowC w0
  obtain ⟨l1, rfl, hr1, hm1, hw1, hc1⟩ := ReadsInt.ofRowC w1
  obtain ⟨k, h⟩ := P l0 l1 hm0 y0 hw0 hm1 y1 hw1
  refine (laws_FnDivided.calls k _ _ l0 _ _ l1 true w hT (Kd.C_of_reads (d := (0 : Int)) (h1 := fun _ => rfl) hr0) hc0 (Kd.C_of_reads (d := (0 : Int)) (h1 := fun _ => rfl) hr1) hc1 h).mono ?_
  rintro e w' ⟨rfl, hd⟩
  exact ⟨rfl, hd⟩

end Go.Proofs.YtceeocgpcagkjaaDoor.PA
