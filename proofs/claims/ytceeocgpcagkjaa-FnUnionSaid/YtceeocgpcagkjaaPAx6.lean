/- Printed by the kit's print over surrogate texts, turned by this session -/
import Derived.Test.YtceeocgpcagkjaaPAx0
import Derived.Test.YtceeocgpcagkjaaPAx2
import Derived.Test.YtceeocgpcagkjaaPAx3
import Derived.Test.YtceeocgpcagkjaaPAx4
import Derived.Test.YtceeocgpcagkjaaPAx5
namespace Go.Proofs.Ytceeocgpcagkjaa.PA
open Go.RowKit Go.Proofs.YtceeocgpcagkjaaW.PrintWords Go.Proofs.YtceeocgpcagkjaaW.PrintLast Go.Proofs.YtceeocgpcagkjaaW.PrintMore
attribute [local go_sem] max2_int min2_int max_two min_two max_three min_three max_four min_four   -- for this text's walks alone
set_option linter.unusedVariables false
set_option linter.unusedSimpArgs false

/-! ### laws_FnUnion: function 4 -/
mutual
def laws_FnUnion.j0 : Nat → List Int → Int → Int → List Int → Bool → List Int → Bool → Option (Bool)
  | 0, _, _, _, _, _, _, _ => none
  | k + 1, x1, x6, x7, x8, x9, x12, x93 => if x93 = true then (some false) else (if x9 = true then ((impl_FlatOf.f k x8).bind fun bt288 => ((impl_JoinParts.f k x12 x6 x7).bind fun bt292 => ((impl_FindRoot.f k x8 x6).bind fun bt296 => ((impl_FindRoot.f k x8 x7).bind fun bt299 => (if bt288.2 = true then (if bt292.2 = true then ((laws_sameInts.f k bt288.1 bt292.1).bind fun t302 => (if t302 = true then (if bt296.2.2 = true then (if bt299.2.2 = true then (if bt296.1 = bt299.1 then (if bt296.2.1 < 0 then (laws_FnUnion.j1 k x1 true) else ((impl_GoodParts.f k bt288.1).bind fun t303 => (laws_FnUnion.j1 k x1 (!t303)))) else (laws_FnUnion.j1 k x1 true)) else (laws_FnUnion.j1 k x1 true)) else (laws_FnUnion.j1 k x1 true)) else (laws_FnUnion.j1 k x1 true))) else (laws_FnUnion.j1 k x1 true)) else (laws_FnUnion.j1 k x1 true)))))) else ((spec_DrawFindRoot.f k x1).bind fun bt314 => ((impl_FindRoot.f k bt314.1 bt314.2).bind fun bt318 => ((spec_FindRoot.f k bt314.1 bt314.2).bind fun bt321 => (if (bt318.2.2 == bt321.2.2) = true then (if bt318.1 = bt321.1 then (some (bt318.2.1 == bt321.2.1)) else (some false)) else (some false))))))
def laws_FnUnion.j1 : Nat → List Int → Bool → Option (Bool)
  | 0, _, _ => none
  | k + 1, x1, x154 => if x154 = true then (some false) else ((spec_DrawFindRoot.f k x1).bind fun bt304 => ((impl_FindRoot.f k bt304.1 bt304.2).bind fun bt308 => ((spec_FindRoot.f k bt304.1 bt304.2).bind fun bt311 => (if (bt308.2.2 == bt311.2.2) = true then (if bt308.1 = bt311.1 then (some (bt308.2.1 == bt311.2.1)) else (some false)) else (some false)))))
end
def laws_FnUnion.f (k : Nat) (l0 : List Int) (l1 : List Int) : Option (Bool) := (laws_big.f l0 l1).bind fun t262 => (if t262 = true then (some true) else ((spec_DrawUnionRoots.f k l0).bind fun bt263 => ((impl_UnionRoots.f k bt263.1 bt263.2.1 bt263.2.2).bind fun bt268 => ((spec_UnionRoots.f k bt263.1 bt263.2.1 bt263.2.2).bind fun bt272 => ((impl_FlatOf.f k bt263.1).bind fun bt276 => ((spec_FlatOf.f k bt263.1).bind fun bt280 => (if (bt268.2 != bt272.2) = true then (laws_FnUnion.j0 k l1 bt263.2.1 bt263.2.2 bt268.1 bt268.2 bt276.1 true) else ((laws_sameInts.f k bt268.1 bt272.1).bind fun t284 => (if t284 = true then (if (bt276.2 != bt280.2) = true then (laws_FnUnion.j0 k l1 bt263.2.1 bt263.2.2 bt268.1 bt268.2 bt276.1 true) else ((laws_sameInts.f k bt276.1 bt280.1).bind fun t285 => (if t285 = true then ((impl_GoodParents.f k bt263.1).bind fun t286 => ((spec_GoodParents.f k bt263.1).bind fun t287 => (laws_FnUnion.j0 k l1 bt263.2.1 bt263.2.2 bt268.1 bt268.2 bt276.1 (t286 != t287)))) else (laws_FnUnion.j0 k l1 bt263.2.1 bt263.2.2 bt268.1 bt268.2 bt276.1 true)))) else (laws_FnUnion.j0 k l1 bt263.2.1 bt263.2.2 bt268.1 bt268.2 bt276.1 true))))))))))
theorem laws_FnUnion.mono_l : ∀ k, (∀ y0 y1 y2 y3 y4 y5 y6, LeO (laws_FnUnion.j0 k y0 y1 y2 y3 y4 y5 y6) (laws_FnUnion.j0 (k + 1) y0 y1 y2 y3 y4 y5 y6)) ∧ (∀ y0 y1, LeO (laws_FnUnion.j1 k y0 y1) (laws_FnUnion.j1 (k + 1) y0 y1))
  | 0 => ⟨fun _ _ _ _ _ _ _ r h => by simp [laws_FnUnion.j0] at h, fun _ _ r h => by simp [laws_FnUnion.j1] at h⟩
  | k + 1 => by
    obtain ⟨ih0, ih1⟩ := laws_FnUnion.mono_l k
    refine ⟨?_, ?_⟩
    · intro y0 y1 y2 y3 y4 y5 y6
      unfold laws_FnUnion.j0
      repeat' first
      | (with_reducible exact ih0 _ _ _ _ _ _ _)
      | (with_reducible exact ih1 _ _)
      | (with_reducible exact impl_FindRoot.mono _ _ _)
      | (with_reducible exact impl_FlatOf.mono _ _)
      | (with_reducible exact impl_GoodParents.mono _ _)
      | (with_reducible exact impl_GoodParts.mono _ _)
      | (with_reducible exact impl_JoinParts.mono _ _ _ _)
      | (with_reducible exact impl_UnionRoots.mono _ _ _ _)
      | (with_reducible exact laws_sameInts.mono _ _ _)
      | (with_reducible exact spec_DrawFindRoot.mono _ _)
      | (with_reducible exact spec_DrawUnionRoots.mono _ _)
      | (with_reducible exact spec_FindRoot.mono _ _ _)
      | (with_reducible exact spec_FlatOf.mono _ _)
      | (with_reducible exact spec_GoodParents.mono _ _)
      | (with_reducible exact spec_UnionRoots.mono _ _ _ _)
      | (with_reducible exact LeO.refl _)
      | (with_reducible exact LeO.none _)
      | (with_reducible refine LeO.ite ?_ ?_)
      | (with_reducible refine LeO.bind ?_ (fun _ => ?_))
      | exact ih0 _ _ _ _ _ _ _
      | exact ih1 _ _
      | exact impl_FindRoot.mono _ _ _
      | exact impl_FlatOf.mono _ _
      | exact impl_GoodParents.mono _ _
      | exact impl_GoodParts.mono _ _
      | exact impl_JoinParts.mono _ _ _ _
      | exact impl_UnionRoots.mono _ _ _ _
      | exact laws_sameInts.mono _ _ _
      | exact spec_DrawFindRoot.mono _ _
      | exact spec_DrawUnionRoots.mono _ _
      | exact spec_FindRoot.mono _ _ _
      | exact spec_FlatOf.mono _ _
      | exact spec_GoodParents.mono _ _
      | exact spec_UnionRoots.mono _ _ _ _
      | exact LeO.none _
      | refine LeO.ite ?_ ?_
      | refine LeO.bind ?_ (fun _ => ?_)
    · intro y0 y1
      unfold laws_FnUnion.j1
      repeat' first
      | (with_reducible exact ih0 _ _ _ _ _ _ _)
      | (with_reducible exact ih1 _ _)
      | (with_reducible exact impl_FindRoot.mono _ _ _)
      | (with_reducible exact impl_FlatOf.mono _ _)
      | (with_reducible exact impl_GoodParents.mono _ _)
      | (with_reducible exact impl_GoodParts.mono _ _)
      | (with_reducible exact impl_JoinParts.mono _ _ _ _)
      | (with_reducible exact impl_UnionRoots.mono _ _ _ _)
      | (with_reducible exact laws_sameInts.mono _ _ _)
      | (with_reducible exact spec_DrawFindRoot.mono _ _)
      | (with_reducible exact spec_DrawUnionRoots.mono _ _)
      | (with_reducible exact spec_FindRoot.mono _ _ _)
      | (with_reducible exact spec_FlatOf.mono _ _)
      | (with_reducible exact spec_GoodParents.mono _ _)
      | (with_reducible exact spec_UnionRoots.mono _ _ _ _)
      | (with_reducible exact LeO.refl _)
      | (with_reducible exact LeO.none _)
      | (with_reducible refine LeO.ite ?_ ?_)
      | (with_reducible refine LeO.bind ?_ (fun _ => ?_))
      | exact ih0 _ _ _ _ _ _ _
      | exact ih1 _ _
      | exact impl_FindRoot.mono _ _ _
      | exact impl_FlatOf.mono _ _
      | exact impl_GoodParents.mono _ _
      | exact impl_GoodParts.mono _ _
      | exact impl_JoinParts.mono _ _ _ _
      | exact impl_UnionRoots.mono _ _ _ _
      | exact laws_sameInts.mono _ _ _
      | exact spec_DrawFindRoot.mono _ _
      | exact spec_DrawUnionRoots.mono _ _
      | exact spec_FindRoot.mono _ _ _
      | exact spec_FlatOf.mono _ _
      | exact spec_GoodParents.mono _ _
      | exact spec_UnionRoots.mono _ _ _ _
      | exact LeO.none _
      | refine LeO.ite ?_ ?_
      | refine LeO.bind ?_ (fun _ => ?_)
theorem laws_FnUnion.mono : ∀ a0 a1 k, LeO (laws_FnUnion.f k a0 a1) (laws_FnUnion.f (k + 1) a0 a1) := by
  intro a0 a1 k
  obtain ⟨ih0, ih1⟩ := laws_FnUnion.mono_l k
  unfold laws_FnUnion.f
  repeat' first
      | (with_reducible exact ih0 _ _ _ _ _ _ _)
      | (with_reducible exact ih1 _ _)
      | (with_reducible exact impl_FindRoot.mono _ _ _)
      | (with_reducible exact impl_FlatOf.mono _ _)
      | (with_reducible exact impl_GoodParents.mono _ _)
      | (with_reducible exact impl_GoodParts.mono _ _)
      | (with_reducible exact impl_JoinParts.mono _ _ _ _)
      | (with_reducible exact impl_UnionRoots.mono _ _ _ _)
      | (with_reducible exact laws_sameInts.mono _ _ _)
      | (with_reducible exact spec_DrawFindRoot.mono _ _)
      | (with_reducible exact spec_DrawUnionRoots.mono _ _)
      | (with_reducible exact spec_FindRoot.mono _ _ _)
      | (with_reducible exact spec_FlatOf.mono _ _)
      | (with_reducible exact spec_GoodParents.mono _ _)
      | (with_reducible exact spec_UnionRoots.mono _ _ _ _)
      | (with_reducible exact LeO.refl _)
      | (with_reducible exact LeO.none _)
      | (with_reducible refine LeO.ite ?_ ?_)
      | (with_reducible refine LeO.bind ?_ (fun _ => ?_))
      | exact ih0 _ _ _ _ _ _ _
      | exact ih1 _ _
      | exact impl_FindRoot.mono _ _ _
      | exact impl_FlatOf.mono _ _
      | exact impl_GoodParents.mono _ _
      | exact impl_GoodParts.mono _ _
      | exact impl_JoinParts.mono _ _ _ _
      | exact impl_UnionRoots.mono _ _ _ _
      | exact laws_sameInts.mono _ _ _
      | exact spec_DrawFindRoot.mono _ _
      | exact spec_DrawUnionRoots.mono _ _
      | exact spec_FindRoot.mono _ _ _
      | exact spec_FlatOf.mono _ _
      | exact spec_GoodParents.mono _ _
      | exact spec_UnionRoots.mono _ _ _ _
      | exact LeO.none _
      | refine LeO.ite ?_ ?_
      | refine LeO.bind ?_ (fun _ => ?_)
set_option maxHeartbeats 8000000 in
set_option maxRecDepth 100000 in
theorem laws_FnUnion.calls (k : Nat) (A0 : Option Addr) (c0 : Nat) (l0 : List Int) (A1 : Option Addr) (c1 : Nat) (l1 : List Int) (r : Bool) (w : World) (hr0 : Kd.C (Kd.int .u8) w A0 l0.length l0) (hc0 : l0.length ≤ c0) (hr1 : Kd.C (Kd.int .u8) w A1 l1.length l1) (hc1 : l1.length ≤ c1) (h : laws_FnUnion.f k l0 l1 = some r) :
    Calls Try.prog 4 #[.slice A0 l0.length c0, .slice A1 l1.length c1] w fun e w' => e = .returned (.bool r) ∧ Below w.heap.size w w' := by
  have HR0 := Aside0.mk hr0
  have HC0 := Aside0.mk hc0
  clear hr0 hc0
  have HR1 := Aside0.mk hr1
  have HC1 := Aside0.mk hc1
  clear hr1 hc1
  have HB := Aside0.mk (Below.refl w.heap.size w)
  have H : ((laws_big.f l0 l1).bind fun t262 => (if t262 = true then (some true) else ((spec_DrawUnionRoots.f k l0).bind fun bt263 => ((impl_UnionRoots.f k bt263.1 bt263.2.1 bt263.2.2).bind fun bt268 => ((spec_UnionRoots.f k bt263.1 bt263.2.1 bt263.2.2).bind fun bt272 => ((impl_FlatOf.f k bt263.1).bind fun bt276 => ((spec_FlatOf.f k bt263.1).bind fun bt280 => (if (bt268.2 != bt272.2) = true then (laws_FnUnion.j0 k l1 bt263.2.1 bt263.2.2 bt268.1 bt268.2 bt276.1 true) else ((laws_sameInts.f k bt268.1 bt272.1).bind fun t284 => (if t284 = true then (if (bt276.2 != bt280.2) = true then (laws_FnUnion.j0 k l1 bt263.2.1 bt263.2.2 bt268.1 bt268.2 bt276.1 true) else ((laws_sameInts.f k bt276.1 bt280.1).bind fun t285 => (if t285 = true then ((impl_GoodParents.f k bt263.1).bind fun t286 => ((spec_GoodParents.f k bt263.1).bind fun t287 => (laws_FnUnion.j0 k l1 bt263.2.1 bt263.2.2 bt268.1 bt268.2 bt276.1 (t286 != t287)))) else (laws_FnUnion.j0 k l1 bt263.2.1 bt263.2.2 bt268.1 bt268.2 bt276.1 true)))) else (laws_FnUnion.j0 k l1 bt263.2.1 bt263.2.2 bt268.1 bt268.2 bt276.1 true))))))))))) = some r := h
  clear h
  replace H := Option.bind_eq_some_iff.mp H
  obtain ⟨t262, A30, H⟩ := H
  replace H : (if t262 = true then (some true) else ((spec_DrawUnionRoots.f k l0).bind fun bt263 => ((impl_UnionRoots.f k bt263.1 bt263.2.1 bt263.2.2).bind fun bt268 => ((spec_UnionRoots.f k bt263.1 bt263.2.1 bt263.2.2).bind fun bt272 => ((impl_FlatOf.f k bt263.1).bind fun bt276 => ((spec_FlatOf.f k bt263.1).bind fun bt280 => (if (bt268.2 != bt272.2) = true then (laws_FnUnion.j0 k l1 bt263.2.1 bt263.2.2 bt268.1 bt268.2 bt276.1 true) else ((laws_sameInts.f k bt268.1 bt272.1).bind fun t284 => (if t284 = true then (if (bt276.2 != bt280.2) = true then (laws_FnUnion.j0 k l1 bt263.2.1 bt263.2.2 bt268.1 bt268.2 bt276.1 true) else ((laws_sameInts.f k bt276.1 bt280.1).bind fun t285 => (if t285 = true then ((impl_GoodParents.f k bt263.1).bind fun t286 => ((spec_GoodParents.f k bt263.1).bind fun t287 => (laws_FnUnion.j0 k l1 bt263.2.1 bt263.2.2 bt268.1 bt268.2 bt276.1 (t286 != t287)))) else (laws_FnUnion.j0 k l1 bt263.2.1 bt263.2.2 bt268.1 bt268.2 bt276.1 true)))) else (laws_FnUnion.j0 k l1 bt263.2.1 bt263.2.2 bt268.1 bt268.2 bt276.1 true)))))))))) = some r := H
  have A3 := Aside0.mk A30
  clear A30
  by_cases c4 : t262 = true
  · subst c4
    have H1 : (some true) = some r := by rw [if_pos rfl] at H; exact H
    clear H
    have H := H1
    clear H1
    obtain rfl := Option.some.inj H
    go_enter Try.func4, Try.ntmps4
    go_wp2_with (first | ((with_reducible refine gate_callee (f := 8) rfl ?_); refine goesL_ (some 36) rfl rfl Try.func8 (by kernel_rfl) rfl #[.slice A0 l0.length c0, .slice A1 l1.length c1] rfl (by (try simp only [List.map_toArray, List.map_cons, List.map_nil]); first | done | rfl | (simp only [List.length_drop, List.length_take]; rfl)) ?_; (with_reducible refine (laws_big.calls _ _ l0 _ _ l1 true _ ?side1 ?side2 ?side3 ?side4 A3.out).mono ?_); (case side1 => repeat (first | exact HR0.out | (with_reducible refine Kd.C_alloc ?_ _) | (with_reducible refine Kd.C_drewN ?_ _) | (with_reducible refine Kd.C_drew ?_))); (case side2 => exact HC0.out); (case side3 => repeat (first | exact HR1.out | (with_reducible refine Kd.C_alloc ?_ _) | (with_reducible refine Kd.C_drewN ?_ _) | (with_reducible refine Kd.C_drew ?_))); (case side4 => exact HC1.out); rintro e w' ⟨rfl, ⟨nd, rfl⟩⟩; refine ⟨_, rfl, ?_⟩))
    go_ret
    exact ⟨by first | rfl | (simp [errW_none, errW_some] <;> rfl) | (simp [*, errW_none, errW_some] <;> rfl), by repeat (first | (with_reducible first | exact HB.out | apply below_alloc | apply pw_below_drewN | apply below_drew1) | exact HB.out)⟩
  · replace c4 := Bool.eq_false_iff.mpr c4
    subst c4
    have H1 : ((spec_DrawUnionRoots.f k l0).bind fun bt263 => ((impl_UnionRoots.f k bt263.1 bt263.2.1 bt263.2.2).bind fun bt268 => ((spec_UnionRoots.f k bt263.1 bt263.2.1 bt263.2.2).bind fun bt272 => ((impl_FlatOf.f k bt263.1).bind fun bt276 => ((spec_FlatOf.f k bt263.1).bind fun bt280 => (if (bt268.2 != bt272.2) = true then (laws_FnUnion.j0 k l1 bt263.2.1 bt263.2.2 bt268.1 bt268.2 bt276.1 true) else ((laws_sameInts.f k bt268.1 bt272.1).bind fun t284 => (if t284 = true then (if (bt276.2 != bt280.2) = true then (laws_FnUnion.j0 k l1 bt263.2.1 bt263.2.2 bt268.1 bt268.2 bt276.1 true) else ((laws_sameInts.f k bt276.1 bt280.1).bind fun t285 => (if t285 = true then ((impl_GoodParents.f k bt263.1).bind fun t286 => ((spec_GoodParents.f k bt263.1).bind fun t287 => (laws_FnUnion.j0 k l1 bt263.2.1 bt263.2.2 bt268.1 bt268.2 bt276.1 (t286 != t287)))) else (laws_FnUnion.j0 k l1 bt263.2.1 bt263.2.2 bt268.1 bt268.2 bt276.1 true)))) else (laws_FnUnion.j0 k l1 bt263.2.1 bt263.2.2 bt268.1 bt268.2 bt276.1 true))))))))) = some r := by rw [if_neg (show ¬ (false = true) by decide)] at H; exact H
    clear H
    have H := H1
    clear H1
    replace H := Option.bind_eq_some_iff.mp H
    obtain ⟨⟨t263, t264, t265⟩, A50, H⟩ := H
    replace H : ((impl_UnionRoots.f k t263 t264 t265).bind fun bt268 => ((spec_UnionRoots.f k t263 t264 t265).bind fun bt272 => ((impl_FlatOf.f k t263).bind fun bt276 => ((spec_FlatOf.f k t263).bind fun bt280 => (if (bt268.2 != bt272.2) = true then (laws_FnUnion.j0 k l1 t264 t265 bt268.1 bt268.2 bt276.1 true) else ((laws_sameInts.f k bt268.1 bt272.1).bind fun t284 => (if t284 = true then (if (bt276.2 != bt280.2) = true then (laws_FnUnion.j0 k l1 t264 t265 bt268.1 bt268.2 bt276.1 true) else ((laws_sameInts.f k bt276.1 bt280.1).bind fun t285 => (if t285 = true then ((impl_GoodParents.f k t263).bind fun t286 => ((spec_GoodParents.f k t263).bind fun t287 => (laws_FnUnion.j0 k l1 t264 t265 bt268.1 bt268.2 bt276.1 (t286 != t287)))) else (laws_FnUnion.j0 k l1 t264 t265 bt268.1 bt268.2 bt276.1 true)))) else (laws_FnUnion.j0 k l1 t264 t265 bt268.1 bt268.2 bt276.1 true)))))))) = some r := H
    have A5 := Aside0.mk A50
    clear A50
    replace H := Option.bind_eq_some_iff.mp H
    obtain ⟨⟨t268, t269⟩, A60, H⟩ := H
    replace H : ((spec_UnionRoots.f k t263 t264 t265).bind fun bt272 => ((impl_FlatOf.f k t263).bind fun bt276 => ((spec_FlatOf.f k t263).bind fun bt280 => (if (t269 != bt272.2) = true then (laws_FnUnion.j0 k l1 t264 t265 t268 t269 bt276.1 true) else ((laws_sameInts.f k t268 bt272.1).bind fun t284 => (if t284 = true then (if (bt276.2 != bt280.2) = true then (laws_FnUnion.j0 k l1 t264 t265 t268 t269 bt276.1 true) else ((laws_sameInts.f k bt276.1 bt280.1).bind fun t285 => (if t285 = true then ((impl_GoodParents.f k t263).bind fun t286 => ((spec_GoodParents.f k t263).bind fun t287 => (laws_FnUnion.j0 k l1 t264 t265 t268 t269 bt276.1 (t286 != t287)))) else (laws_FnUnion.j0 k l1 t264 t265 t268 t269 bt276.1 true)))) else (laws_FnUnion.j0 k l1 t264 t265 t268 t269 bt276.1 true))))))) = some r := H
    have A6 := Aside0.mk A60
    clear A60
    replace H := Option.bind_eq_some_iff.mp H
    obtain ⟨⟨t272, t273⟩, A70, H⟩ := H
    replace H : ((impl_FlatOf.f k t263).bind fun bt276 => ((spec_FlatOf.f k t263).bind fun bt280 => (if (t269 != t273) = true then (laws_FnUnion.j0 k l1 t264 t265 t268 t269 bt276.1 true) else ((laws_sameInts.f k t268 t272).bind fun t284 => (if t284 = true then (if (bt276.2 != bt280.2) = true then (laws_FnUnion.j0 k l1 t264 t265 t268 t269 bt276.1 true) else ((laws_sameInts.f k bt276.1 bt280.1).bind fun t285 => (if t285 = true then ((impl_GoodParents.f k t263).bind fun t286 => ((spec_GoodParents.f k t263).bind fun t287 => (laws_FnUnion.j0 k l1 t264 t265 t268 t269 bt276.1 (t286 != t287)))) else (laws_FnUnion.j0 k l1 t264 t265 t268 t269 bt276.1 true)))) else (laws_FnUnion.j0 k l1 t264 t265 t268 t269 bt276.1 true)))))) = some r := H
    have A7 := Aside0.mk A70
    clear A70
    replace H := Option.bind_eq_some_iff.mp H
    obtain ⟨⟨t276, t277⟩, A80, H⟩ := H
    replace H : ((spec_FlatOf.f k t263).bind fun bt280 => (if (t269 != t273) = true then (laws_FnUnion.j0 k l1 t264 t265 t268 t269 t276 true) else ((laws_sameInts.f k t268 t272).bind fun t284 => (if t284 = true then (if (t277 != bt280.2) = true then (laws_FnUnion.j0 k l1 t264 t265 t268 t269 t276 true) else ((laws_sameInts.f k t276 bt280.1).bind fun t285 => (if t285 = true then ((impl_GoodParents.f k t263).bind fun t286 => ((spec_GoodParents.f k t263).bind fun t287 => (laws_FnUnion.j0 k l1 t264 t265 t268 t269 t276 (t286 != t287)))) else (laws_FnUnion.j0 k l1 t264 t265 t268 t269 t276 true)))) else (laws_FnUnion.j0 k l1 t264 t265 t268 t269 t276 true))))) = some r := H
    have A8 := Aside0.mk A80
    clear A80
    replace H := Option.bind_eq_some_iff.mp H
    obtain ⟨⟨t280, t281⟩, A90, H⟩ := H
    replace H : (if (t269 != t273) = true then (laws_FnUnion.j0 k l1 t264 t265 t268 t269 t276 true) else ((laws_sameInts.f k t268 t272).bind fun t284 => (if t284 = true then (if (t277 != t281) = true then (laws_FnUnion.j0 k l1 t264 t265 t268 t269 t276 true) else ((laws_sameInts.f k t276 t280).bind fun t285 => (if t285 = true then ((impl_GoodParents.f k t263).bind fun t286 => ((spec_GoodParents.f k t263).bind fun t287 => (laws_FnUnion.j0 k l1 t264 t265 t268 t269 t276 (t286 != t287)))) else (laws_FnUnion.j0 k l1 t264 t265 t268 t269 t276 true)))) else (laws_FnUnion.j0 k l1 t264 t265 t268 t269 t276 true)))) = some r := H
    have A9 := Aside0.mk A90
    clear A90
    have HC10 := Aside0.mk H
    clear H
    go_enter Try.func4, Try.ntmps4
    go_upto_region 8 with (first | ((with_reducible refine gate_callee (f := 8) rfl ?_); refine goesL_ (some 36) rfl rfl Try.func8 (by kernel_rfl) rfl #[.slice A0 l0.length c0, .slice A1 l1.length c1] rfl (by (try simp only [List.map_toArray, List.map_cons, List.map_nil]); first | done | rfl | (simp only [List.length_drop, List.length_take]; rfl)) ?_; (with_reducible refine (laws_big.calls _ _ l0 _ _ l1 false _ ?side1 ?side2 ?side3 ?side4 A3.out).mono ?_); (case side1 => repeat (first | exact HR0.out | (with_reducible refine Kd.C_alloc ?_ _) | (with_reducible refine Kd.C_drewN ?_ _) | (with_reducible refine Kd.C_drew ?_))); (case side2 => exact HC0.out); (case side3 => repeat (first | exact HR1.out | (with_reducible refine Kd.C_alloc ?_ _) | (with_reducible refine Kd.C_drewN ?_ _) | (with_reducible refine Kd.C_drew ?_))); (case side4 => exact HC1.out); rintro e w' ⟨rfl, ⟨nd, rfl⟩⟩; refine ⟨_, rfl, ?_⟩) | ((with_reducible refine gate_callee (f := 15) rfl ?_); refine goesL_ (some 39) rfl rfl Try.func15 (by kernel_rfl) rfl #[.slice A0 l0.length c0] rfl (by (try simp only [List.map_toArray, List.map_cons, List.map_nil]); first | done | rfl | (simp only [List.length_drop, List.length_take]; rfl)) ?_; (with_reducible refine (spec_DrawUnionRoots.calls k _ _ l0 t263 t264 t265 _ ?side1 ?side2 A5.out).mono ?_); (case side1 => repeat (first | exact HR0.out | (with_reducible refine Kd.C_alloc ?_ _) | (with_reducible refine Kd.C_drewN ?_ _) | (with_reducible refine Kd.C_drew ?_))); (case side2 => exact HC0.out); rintro e w11 ⟨v266, rfl, ho0, hb⟩; refine ⟨_, rfl, ?_⟩; have n0_ := Aside0.mk (Kd.R_lower ho0 (below_size (by repeat (first | (with_reducible first | exact HB.out | apply below_alloc | apply pw_below_drewN | apply below_drew1) | exact HB.out)))); have n1_ := Aside0.mk (below_step (by repeat (first | (with_reducible first | exact HB.out | apply below_alloc | apply pw_below_drewN | apply below_drew1) | exact HB.out)) hb); clear HB; have HO267 := n0_; have HB := n1_; clear n0_ n1_; (try clear hb); (try clear hb2); (try clear hk); (try clear hi); (try clear ho0); obtain ⟨Ao12, co12, eo12⟩ := Kd.R_slice HO267.out; subst eo12) | ((with_reducible refine gate_callee (f := 16) rfl ?_); refine goesL_ (some 47) rfl rfl Try.func16 (by kernel_rfl) rfl #[.slice Ao12 t263.length co12, .int .i64 t264, .int .i64 t265] rfl (by (try simp only [List.map_toArray, List.map_cons, List.map_nil]); first | done | rfl | (simp only [List.length_drop, List.length_take]; rfl)) ?_; (with_reducible refine (impl_UnionRoots.calls k _ _ t263 t264 t265 t268 t269 _ ?side1 ?side2 A6.out).mono ?_); (case side1 => repeat (first | exact (Kd.R_reads' HO267.out).2.2 | (with_reducible refine Kd.C_alloc ?_ _) | (with_reducible refine Kd.C_drewN ?_ _) | (with_reducible refine Kd.C_drew ?_))); (case side2 => exact (Kd.R_reads' HO267.out).2.1); rintro e w13 ⟨v270, rfl, ho0, hb⟩; refine ⟨_, rfl, ?_⟩; have n0_ := Aside0.mk (Kd.R_elder' (by (with_reducible repeat (first | apply Kd.R_alloc | apply Kd.R_drewN | apply Kd.R_drew)); exact HO267.out) (Kd.R_base ho0) hb); have n1_ := Aside0.mk (Kd.R_lower (Kd.R_new' ho0 (Kd.R_lt (by (with_reducible repeat (first | apply Kd.R_alloc | apply Kd.R_drewN | apply Kd.R_drew)); exact HO267.out))) (below_size (by repeat (first | (with_reducible first | exact HB.out | apply below_alloc | apply pw_below_drewN | apply below_drew1) | exact HB.out)))); have n2_ := Aside0.mk (below_step (by repeat (first | (with_reducible first | exact HB.out | apply below_alloc | apply pw_below_drewN | apply below_drew1) | exact HB.out)) hb); clear HO267; clear HB; have HO267 := n0_; have HO271 := n1_; have HB := n2_; clear n0_ n1_ n2_; (try clear hb); (try clear hb2); (try clear hk); (try clear hi); (try clear ho0)) | ((with_reducible refine gate_callee (f := 17) rfl ?_); refine goesL_ (some 54) rfl rfl Try.func17 (by kernel_rfl) rfl #[.slice Ao12 t263.length co12, .int .i64 t264, .int .i64 t265] rfl (by (try simp only [List.map_toArray, List.map_cons, List.map_nil]); first | done | rfl | (simp only [List.length_drop, List.length_take]; rfl)) ?_; (with_reducible refine (spec_UnionRoots.calls k _ _ t263 t264 t265 t272 t273 _ ?side1 ?side2 A7.out).mono ?_); (case side1 => repeat (first | exact (Kd.R_reads' HO267.out).2.2 | (with_reducible refine Kd.C_alloc ?_ _) | (with_reducible refine Kd.C_drewN ?_ _) | (with_reducible refine Kd.C_drew ?_))); (case side2 => exact (Kd.R_reads' HO267.out).2.1); rintro e w14 ⟨v274, rfl, ho0, hb⟩; refine ⟨_, rfl, ?_⟩; have n0_ := Aside0.mk (Kd.R_elder' (by (with_reducible repeat (first | apply Kd.R_alloc | apply Kd.R_drewN | apply Kd.R_drew)); exact HO267.out) (Kd.R_base ho0) hb); have n1_ := Aside0.mk (Kd.R_elder' (by (with_reducible repeat (first | apply Kd.R_alloc | apply Kd.R_drewN | apply Kd.R_drew)); exact HO271.out) (Kd.R_base ho0) hb); have n2_ := Aside0.mk (Kd.R_lower (Kd.R_new' (Kd.R_new' ho0 (Kd.R_lt (by (with_reducible repeat (first | apply Kd.R_alloc | apply Kd.R_drewN | apply Kd.R_drew)); exact HO267.out))) (Kd.R_lt (by (with_reducible repeat (first | apply Kd.R_alloc | apply Kd.R_drewN | apply Kd.R_drew)); exact HO271.out))) (below_size (by repeat (first | (with_reducible first | exact HB.out | apply below_alloc | apply pw_below_drewN | apply below_drew1) | exact HB.out)))); have n3_ := Aside0.mk (below_step (by repeat (first | (with_reducible first | exact HB.out | apply below_alloc | apply pw_below_drewN | apply below_drew1) | exact HB.out)) hb); clear HO267; clear HO271; clear HB; have HO267 := n0_; have HO271 := n1_; have HO275 := n2_; have HB := n3_; clear n0_ n1_ n2_ n3_; (try clear hb); (try clear hb2); (try clear hk); (try clear hi); (try clear ho0)) | ((with_reducible refine gate_callee (f := 18) rfl ?_); refine goesL_ (some 59) rfl rfl Try.func18 (by kernel_rfl) rfl #[.slice Ao12 t263.length co12] rfl (by (try simp only [List.map_toArray, List.map_cons, List.map_nil]); first | done | rfl | (simp only [List.length_drop, List.length_take]; rfl)) ?_; (with_reducible refine (impl_FlatOf.calls k _ _ t263 t276 t277 _ ?side1 ?side2 A8.out).mono ?_); (case side1 => repeat (first | exact (Kd.R_reads' HO267.out).2.2 | (with_reducible refine Kd.C_alloc ?_ _) | (with_reducible refine Kd.C_drewN ?_ _) | (with_reducible refine Kd.C_drew ?_))); (case side2 => exact (Kd.R_reads' HO267.out).2.1); rintro e w15 ⟨v278, rfl, ho0, hb⟩; refine ⟨_, rfl, ?_⟩; have n0_ := Aside0.mk (Kd.R_elder' (by (with_reducible repeat (first | apply Kd.R_alloc | apply Kd.R_drewN | apply Kd.R_drew)); exact HO267.out) (Kd.R_base ho0) hb); have n1_ := Aside0.mk (Kd.R_elder' (by (with_reducible repeat (first | apply Kd.R_alloc | apply Kd.R_drewN | apply Kd.R_drew)); exact HO271.out) (Kd.R_base ho0) hb); have n2_ := Aside0.mk (Kd.R_elder' (by (with_reducible repeat (first | apply Kd.R_alloc | apply Kd.R_drewN | apply Kd.R_drew)); exact HO275.out) (Kd.R_base ho0) hb); have n3_ := Aside0.mk (Kd.R_lower (Kd.R_new' (Kd.R_new' (Kd.R_new' ho0 (Kd.R_lt (by (with_reducible repeat (first | apply Kd.R_alloc | apply Kd.R_drewN | apply Kd.R_drew)); exact HO267.out))) (Kd.R_lt (by (with_reducible repeat (first | apply Kd.R_alloc | apply Kd.R_drewN | apply Kd.R_drew)); exact HO271.out))) (Kd.R_lt (by (with_reducible repeat (first | apply Kd.R_alloc | apply Kd.R_drewN | apply Kd.R_drew)); exact HO275.out))) (below_size (by repeat (first | (with_reducible first | exact HB.out | apply below_alloc | apply pw_below_drewN | apply below_drew1) | exact HB.out)))); have n4_ := Aside0.mk (below_step (by repeat (first | (with_reducible first | exact HB.out | apply below_alloc | apply pw_below_drewN | apply below_drew1) | exact HB.out)) hb); clear HO267; clear HO271; clear HO275; clear HB; have HO267 := n0_; have HO271 := n1_; have HO275 := n2_; have HO279 := n3_; have HB := n4_; clear n0_ n1_ n2_ n3_ n4_; (try clear hb); (try clear hb2); (try clear hk); (try clear hi); (try clear ho0)) | ((with_reducible refine gate_callee (f := 19) rfl ?_); refine goesL_ (some 64) rfl rfl Try.func19 (by kernel_rfl) rfl #[.slice Ao12 t263.length co12] rfl (by (try simp only [List.map_toArray, List.map_cons, List.map_nil]); first | done | rfl | (simp only [List.length_drop, List.length_take]; rfl)) ?_; (with_reducible refine (spec_FlatOf.calls k _ _ t263 t280 t281 _ ?side1 ?side2 A9.out).mono ?_); (case side1 => repeat (first | exact (Kd.R_reads' HO267.out).2.2 | (with_reducible refine Kd.C_alloc ?_ _) | (with_reducible refine Kd.C_drewN ?_ _) | (with_reducible refine Kd.C_drew ?_))); (case side2 => exact (Kd.R_reads' HO267.out).2.1); rintro e w16 ⟨v282, rfl, ho0, hb⟩; refine ⟨_, rfl, ?_⟩; have n0_ := Aside0.mk (Kd.R_elder' (by (with_reducible repeat (first | apply Kd.R_alloc | apply Kd.R_drewN | apply Kd.R_drew)); exact HO267.out) (Kd.R_base ho0) hb); have n1_ := Aside0.mk (Kd.R_elder' (by (with_reducible repeat (first | apply Kd.R_alloc | apply Kd.R_drewN | apply Kd.R_drew)); exact HO271.out) (Kd.R_base ho0) hb); have n2_ := Aside0.mk (Kd.R_elder' (by (with_reducible repeat (first | apply Kd.R_alloc | apply Kd.R_drewN | apply Kd.R_drew)); exact HO275.out) (Kd.R_base ho0) hb); have n3_ := Aside0.mk (Kd.R_elder' (by (with_reducible repeat (first | apply Kd.R_alloc | apply Kd.R_drewN | apply Kd.R_drew)); exact HO279.out) (Kd.R_base ho0) hb); have n4_ := Aside0.mk (Kd.R_lower (Kd.R_new' (Kd.R_new' (Kd.R_new' (Kd.R_new' ho0 (Kd.R_lt (by (with_reducible repeat (first | apply Kd.R_alloc | apply Kd.R_drewN | apply Kd.R_drew)); exact HO267.out))) (Kd.R_lt (by (with_reducible repeat (first | apply Kd.R_alloc | apply Kd.R_drewN | apply Kd.R_drew)); exact HO271.out))) (Kd.R_lt (by (with_reducible repeat (first | apply Kd.R_alloc | apply Kd.R_drewN | apply Kd.R_drew)); exact HO275.out))) (Kd.R_lt (by (with_reducible repeat (first | apply Kd.R_alloc | apply Kd.R_drewN | apply Kd.R_drew)); exact HO279.out))) (below_size (by repeat (first | (with_reducible first | exact HB.out | apply below_alloc | apply pw_below_drewN | apply below_drew1) | exact HB.out)))); have n5_ := Aside0.mk (below_step (by repeat (first | (with_reducible first | exact HB.out | apply below_alloc | apply pw_below_drewN | apply below_drew1) | exact HB.out)) hb); clear HO267; clear HO271; clear HO275; clear HO279; clear HB; have HO267 := n0_; have HO271 := n1_; have HO275 := n2_; have HO279 := n3_; have HO283 := n4_; have HB := n5_; clear n0_ n1_ n2_ n3_ n4_ n5_; (try clear hb); (try clear hb2); (try clear hk); (try clear hi); (try clear ho0)))
    (try simp only [Act.put, List.setIfInBounds_toArray, List.set_cons_zero, List.set_cons_succ])
    go_cut [93] (fun v93 wc => ∃ (kq : Nat) (x93_9 : Bool), v93 = .bool x93_9 ∧ Aside0 (laws_FnUnion.j0 kq l1 t264 t265 t268 t269 t276 x93_9 = some r) ∧ Aside0 (kq ≤ k) ∧ Aside0 (Kd.R (Kd.int .i64) 3 wc w.heap.size (fun k_ => some k_ ≠ (v278 : Value).ownBlock) v270 t268) ∧ Aside0 (Kd.R (Kd.int .i64) 3 wc w.heap.size (fun k_ => some k_ ≠ (v270 : Value).ownBlock) v278 t276) ∧ Aside0 (Below w.heap.size w wc))
    case first =>
      have H := HC10.out
      clear HC10
      by_cases c17 : (t269 != t273) = true
      · rw [if_pos c17] at H
        have c17b0 : (t269 != t273) = true := c17
        (try (have c17b1 : decide (t269 = t273) = false := by simpa using c17))
        (try (have c17b2 : (t269 == t273) = false := by simpa using c17))
        (try (have c17b3 : ¬ (t269 = t273) := by simpa using c17))
        clear c17
        (first | rw [c17b0] | (simp only [i64_w, i32_w]; rw [c17b0]) | skip)
        have H' := Aside0.mk H
        clear H
        go_wp2
        go_meet
        case rel => exact ⟨_, (true), (by first | rfl | (simp; done) | (simp [*]; done)), H', ⟨by first | omega | exact Nat.le_refl _⟩, ⟨by (with_reducible repeat (first | apply Kd.R_alloc | apply Kd.R_drewN | apply Kd.R_drew)); exact Kd.R_mono HO271.out (fun _ hk => hk.1.2)⟩, ⟨by (with_reducible repeat (first | apply Kd.R_alloc | apply Kd.R_drewN | apply Kd.R_drew)); exact Kd.R_mono HO279.out (fun _ hk => hk.1.1.2)⟩, ⟨by repeat (first | (with_reducible first | exact HB.out | apply below_alloc | apply pw_below_drewN | apply below_drew1) | exact HB.out)⟩⟩
      · rw [if_neg c17] at H
        have c17b0 : (t269 != t273) = false := by simpa using c17
        (try (have c17b1 : decide (t269 = t273) = true := by simpa using c17))
        (try (have c17b2 : (t269 == t273) = true := by simpa using c17))
        clear c17
        (first | rw [c17b0] | (simp only [i64_w, i32_w]; rw [c17b0]) | skip)
        replace H := Option.bind_eq_some_iff.mp H
        obtain ⟨t284, A180, H⟩ := H
        replace H : (if t284 = true then (if (t277 != t281) = true then (laws_FnUnion.j0 k l1 t264 t265 t268 t269 t276 true) else ((laws_sameInts.f k t276 t280).bind fun t285 => (if t285 = true then ((impl_GoodParents.f k t263).bind fun t286 => ((spec_GoodParents.f k t263).bind fun t287 => (laws_FnUnion.j0 k l1 t264 t265 t268 t269 t276 (t286 != t287)))) else (laws_FnUnion.j0 k l1 t264 t265 t268 t269 t276 true)))) else (laws_FnUnion.j0 k l1 t264 t265 t268 t269 t276 true)) = some r := H
        have A18 := Aside0.mk A180
        clear A180
        by_cases c19 : t284 = true
        · subst c19
          have H1 : (if (t277 != t281) = true then (laws_FnUnion.j0 k l1 t264 t265 t268 t269 t276 true) else ((laws_sameInts.f k t276 t280).bind fun t285 => (if t285 = true then ((impl_GoodParents.f k t263).bind fun t286 => ((spec_GoodParents.f k t263).bind fun t287 => (laws_FnUnion.j0 k l1 t264 t265 t268 t269 t276 (t286 != t287)))) else (laws_FnUnion.j0 k l1 t264 t265 t268 t269 t276 true)))) = some r := by rw [if_pos rfl] at H; exact H
          clear H
          have H := H1
          clear H1
          by_cases c20 : (t277 != t281) = true
          · rw [if_pos c20] at H
            have c20b0 : (t277 != t281) = true := c20
            (try (have c20b1 : decide (t277 = t281) = false := by simpa using c20))
            (try (have c20b2 : (t277 == t281) = false := by simpa using c20))
            (try (have c20b3 : ¬ (t277 = t281) := by simpa using c20))
            clear c20
            have H' := Aside0.mk H
            clear H
            obtain ⟨Ao21, co21, eo21⟩ := Kd.R_slice HO271.out
            subst eo21
            obtain ⟨Ao22, co22, eo22⟩ := Kd.R_slice HO275.out
            subst eo22
            go_wp2_with (first | (go_at_call 20; (with_reducible refine (laws_sameInts.calls k _ _ t268 _ _ t272 true _ ?side1 ?side2 ?side3 ?side4 A18.out).mono ?_); (case side1 => repeat (first | exact (Kd.R_reads' HO271.out).2.2 | (with_reducible refine Kd.C_alloc ?_ _) | (with_reducible refine Kd.C_drewN ?_ _) | (with_reducible refine Kd.C_drew ?_))); (case side2 => exact (Kd.R_reads' HO271.out).2.1); (case side3 => repeat (first | exact (Kd.R_reads' HO275.out).2.2 | (with_reducible refine Kd.C_alloc ?_ _) | (with_reducible refine Kd.C_drewN ?_ _) | (with_reducible refine Kd.C_drew ?_))); (case side4 => exact (Kd.R_reads' HO275.out).2.1); rintro e w' ⟨rfl, ⟨nd, rfl⟩⟩))
            go_meet
            case rel => exact ⟨_, (true), (by first | rfl | (simp; done) | (simp [*]; done)), H', ⟨by first | omega | exact Nat.le_refl _⟩, ⟨by (with_reducible repeat (first | apply Kd.R_alloc | apply Kd.R_drewN | apply Kd.R_drew)); exact Kd.R_mono HO271.out (fun _ hk => hk.1.2)⟩, ⟨by (with_reducible repeat (first | apply Kd.R_alloc | apply Kd.R_drewN | apply Kd.R_drew)); exact Kd.R_mono HO279.out (fun _ hk => hk.1.1.2)⟩, ⟨by repeat (first | (with_reducible first | exact HB.out | apply below_alloc | apply pw_below_drewN | apply below_drew1) | exact HB.out)⟩⟩
          · rw [if_neg c20] at H
            have c20b0 : (t277 != t281) = false := by simpa using c20
            (try (have c20b1 : decide (t277 = t281) = true := by simpa using c20))
            (try (have c20b2 : (t277 == t281) = true := by simpa using c20))
            clear c20
            replace H := Option.bind_eq_some_iff.mp H
            obtain ⟨t285, A230, H⟩ := H
            replace H : (if t285 = true then ((impl_GoodParents.f k t263).bind fun t286 => ((spec_GoodParents.f k t263).bind fun t287 => (laws_FnUnion.j0 k l1 t264 t265 t268 t269 t276 (t286 != t287)))) else (laws_FnUnion.j0 k l1 t264 t265 t268 t269 t276 true)) = some r := H
            have A23 := Aside0.mk A230
            clear A230
            by_cases c24 : t285 = true
            · subst c24
              have H1 : ((impl_GoodParents.f k t263).bind fun t286 => ((spec_GoodParents.f k t263).bind fun t287 => (laws_FnUnion.j0 k l1 t264 t265 t268 t269 t276 (t286 != t287)))) = some r := by rw [if_pos rfl] at H; exact H
              clear H
              have H := H1
              clear H1
              replace H := Option.bind_eq_some_iff.mp H
              obtain ⟨t286, A250, H⟩ := H
              replace H : ((spec_GoodParents.f k t263).bind fun t287 => (laws_FnUnion.j0 k l1 t264 t265 t268 t269 t276 (t286 != t287))) = some r := H
              have A25 := Aside0.mk A250
              clear A250
              replace H := Option.bind_eq_some_iff.mp H
              obtain ⟨t287, A260, H⟩ := H
              replace H : (laws_FnUnion.j0 k l1 t264 t265 t268 t269 t276 (t286 != t287)) = some r := H
              have A26 := Aside0.mk A260
              clear A260
              have H' := Aside0.mk H
              clear H
              obtain ⟨Ao27, co27, eo27⟩ := Kd.R_slice HO271.out
              subst eo27
              obtain ⟨Ao28, co28, eo28⟩ := Kd.R_slice HO275.out
              subst eo28
              go_wp2_with (first | (go_at_call 20; (with_reducible refine (laws_sameInts.calls k _ _ t268 _ _ t272 true _ ?side1 ?side2 ?side3 ?side4 A18.out).mono ?_); (case side1 => repeat (first | exact (Kd.R_reads' HO271.out).2.2 | (with_reducible refine Kd.C_alloc ?_ _) | (with_reducible refine Kd.C_drewN ?_ _) | (with_reducible refine Kd.C_drew ?_))); (case side2 => exact (Kd.R_reads' HO271.out).2.1); (case side3 => repeat (first | exact (Kd.R_reads' HO275.out).2.2 | (with_reducible refine Kd.C_alloc ?_ _) | (with_reducible refine Kd.C_drewN ?_ _) | (with_reducible refine Kd.C_drew ?_))); (case side4 => exact (Kd.R_reads' HO275.out).2.1); rintro e w' ⟨rfl, ⟨nd, rfl⟩⟩; obtain ⟨Ao29, co29, eo29⟩ := Kd.R_slice HO279.out; subst eo29; obtain ⟨Ao30, co30, eo30⟩ := Kd.R_slice HO283.out; subst eo30) | (go_at_call 20; (with_reducible refine (laws_sameInts.calls k _ _ t276 _ _ t280 true _ ?side1 ?side2 ?side3 ?side4 A23.out).mono ?_); (case side1 => repeat (first | exact (Kd.R_reads' HO279.out).2.2 | (with_reducible refine Kd.C_alloc ?_ _) | (with_reducible refine Kd.C_drewN ?_ _) | (with_reducible refine Kd.C_drew ?_))); (case side2 => exact (Kd.R_reads' HO279.out).2.1); (case side3 => repeat (first | exact (Kd.R_reads' HO283.out).2.2 | (with_reducible refine Kd.C_alloc ?_ _) | (with_reducible refine Kd.C_drewN ?_ _) | (with_reducible refine Kd.C_drew ?_))); (case side4 => exact (Kd.R_reads' HO283.out).2.1); rintro e w' ⟨rfl, ⟨nd, rfl⟩⟩) | (go_at_call 21; (with_reducible refine (impl_GoodParents.calls k _ _ t263 t286 _ ?side1 ?side2 A25.out).mono ?_); (case side1 => repeat (first | exact (Kd.R_reads' HO267.out).2.2 | (with_reducible refine Kd.C_alloc ?_ _) | (with_reducible refine Kd.C_drewN ?_ _) | (with_reducible refine Kd.C_drew ?_))); (case side2 => exact (Kd.R_reads' HO267.out).2.1); rintro e w' ⟨rfl, ⟨nd, rfl⟩⟩) | (go_at_call 22; (with_reducible refine (spec_GoodParents.calls k _ _ t263 t287 _ ?side1 ?side2 A26.out).mono ?_); (case side1 => repeat (first | exact (Kd.R_reads' HO267.out).2.2 | (with_reducible refine Kd.C_alloc ?_ _) | (with_reducible refine Kd.C_drewN ?_ _) | (with_reducible refine Kd.C_drew ?_))); (case side2 => exact (Kd.R_reads' HO267.out).2.1); rintro e w' ⟨rfl, ⟨nd, rfl⟩⟩))
              go_meet
              case rel => exact ⟨_, ((t286 != t287)), (by first | rfl | (simp; done) | (simp [*]; done)), H', ⟨by first | omega | exact Nat.le_refl _⟩, ⟨by (with_reducible repeat (first | apply Kd.R_alloc | apply Kd.R_drewN | apply Kd.R_drew)); exact Kd.R_mono HO271.out (fun _ hk => hk.1.2)⟩, ⟨by (with_reducible repeat (first | apply Kd.R_alloc | apply Kd.R_drewN | apply Kd.R_drew)); exact Kd.R_mono HO279.out (fun _ hk => hk.1.1.2)⟩, ⟨by repeat (first | (with_reducible first | exact HB.out | apply below_alloc | apply pw_below_drewN | apply below_drew1) | exact HB.out)⟩⟩
            · replace c24 := Bool.eq_false_iff.mpr c24
              subst c24
              have H1 : (laws_FnUnion.j0 k l1 t264 t265 t268 t269 t276 true) = some r := by rw [if_neg (show ¬ (false = true) by decide)] at H; exact H
              clear H
              have H := H1
              clear H1
              have H' := Aside0.mk H
              clear H
              obtain ⟨Ao31, co31, eo31⟩ := Kd.R_slice HO271.out
              subst eo31
              obtain ⟨Ao32, co32, eo32⟩ := Kd.R_slice HO275.out
              subst eo32
              go_wp2_with (first | (go_at_call 20; (with_reducible refine (laws_sameInts.calls k _ _ t268 _ _ t272 true _ ?side1 ?side2 ?side3 ?side4 A18.out).mono ?_); (case side1 => repeat (first | exact (Kd.R_reads' HO271.out).2.2 | (with_reducible refine Kd.C_alloc ?_ _) | (with_reducible refine Kd.C_drewN ?_ _) | (with_reducible refine Kd.C_drew ?_))); (case side2 => exact (Kd.R_reads' HO271.out).2.1); (case side3 => repeat (first | exact (Kd.R_reads' HO275.out).2.2 | (with_reducible refine Kd.C_alloc ?_ _) | (with_reducible refine Kd.C_drewN ?_ _) | (with_reducible refine Kd.C_drew ?_))); (case side4 => exact (Kd.R_reads' HO275.out).2.1); rintro e w' ⟨rfl, ⟨nd, rfl⟩⟩; obtain ⟨Ao33, co33, eo33⟩ := Kd.R_slice HO279.out; subst eo33; obtain ⟨Ao34, co34, eo34⟩ := Kd.R_slice HO283.out; subst eo34) | (go_at_call 20; (with_reducible refine (laws_sameInts.calls k _ _ t276 _ _ t280 false _ ?side1 ?side2 ?side3 ?side4 A23.out).mono ?_); (case side1 => repeat (first | exact (Kd.R_reads' HO279.out).2.2 | (with_reducible refine Kd.C_alloc ?_ _) | (with_reducible refine Kd.C_drewN ?_ _) | (with_reducible refine Kd.C_drew ?_))); (case side2 => exact (Kd.R_reads' HO279.out).2.1); (case side3 => repeat (first | exact (Kd.R_reads' HO283.out).2.2 | (with_reducible refine Kd.C_alloc ?_ _) | (with_reducible refine Kd.C_drewN ?_ _) | (with_reducible refine Kd.C_drew ?_))); (case side4 => exact (Kd.R_reads' HO283.out).2.1); rintro e w' ⟨rfl, ⟨nd, rfl⟩⟩))
              go_meet
              case rel => exact ⟨_, (true), (by first | rfl | (simp; done) | (simp [*]; done)), H', ⟨by first | omega | exact Nat.le_refl _⟩, ⟨by (with_reducible repeat (first | apply Kd.R_alloc | apply Kd.R_drewN | apply Kd.R_drew)); exact Kd.R_mono HO271.out (fun _ hk => hk.1.2)⟩, ⟨by (with_reducible repeat (first | apply Kd.R_alloc | apply Kd.R_drewN | apply Kd.R_drew)); exact Kd.R_mono HO279.out (fun _ hk => hk.1.1.2)⟩, ⟨by repeat (first | (with_reducible first | exact HB.out | apply below_alloc | apply pw_below_drewN | apply below_drew1) | exact HB.out)⟩⟩
        · replace c19 := Bool.eq_false_iff.mpr c19
          subst c19
          have H1 : (laws_FnUnion.j0 k l1 t264 t265 t268 t269 t276 true) = some r := by rw [if_neg (show ¬ (false = true) by decide)] at H; exact H
          clear H
          have H := H1
          clear H1
          have H' := Aside0.mk H
          clear H
          obtain ⟨Ao35, co35, eo35⟩ := Kd.R_slice HO271.out
          subst eo35
          obtain ⟨Ao36, co36, eo36⟩ := Kd.R_slice HO275.out
          subst eo36
          go_wp2_with (first | (go_at_call 20; (with_reducible refine (laws_sameInts.calls k _ _ t268 _ _ t272 false _ ?side1 ?side2 ?side3 ?side4 A18.out).mono ?_); (case side1 => repeat (first | exact (Kd.R_reads' HO271.out).2.2 | (with_reducible refine Kd.C_alloc ?_ _) | (with_reducible refine Kd.C_drewN ?_ _) | (with_reducible refine Kd.C_drew ?_))); (case side2 => exact (Kd.R_reads' HO271.out).2.1); (case side3 => repeat (first | exact (Kd.R_reads' HO275.out).2.2 | (with_reducible refine Kd.C_alloc ?_ _) | (with_reducible refine Kd.C_drewN ?_ _) | (with_reducible refine Kd.C_drew ?_))); (case side4 => exact (Kd.R_reads' HO275.out).2.1); rintro e w' ⟨rfl, ⟨nd, rfl⟩⟩))
          go_meet
          case rel => exact ⟨_, (true), (by first | rfl | (simp; done) | (simp [*]; done)), H', ⟨by first | omega | exact Nat.le_refl _⟩, ⟨by (with_reducible repeat (first | apply Kd.R_alloc | apply Kd.R_drewN | apply Kd.R_drew)); exact Kd.R_mono HO271.out (fun _ hk => hk.1.2)⟩, ⟨by (with_reducible repeat (first | apply Kd.R_alloc | apply Kd.R_drewN | apply Kd.R_drew)); exact Kd.R_mono HO279.out (fun _ hk => hk.1.1.2)⟩, ⟨by repeat (first | (with_reducible first | exact HB.out | apply below_alloc | apply pw_below_drewN | apply below_drew1) | exact HB.out)⟩⟩
    case rest =>
      clear HC10
      try clear c1
      try clear c2
      try clear p2
      try clear c4
      try clear c8
      try clear c15
      try clear c16
      try clear c17
      try clear c17b0
      try clear c17b1
      try clear c17b2
      try clear c18
      try clear c19
      try clear c20
      try clear c20b0
      try clear c20b1
      try clear c20b2
      try clear c24
      obtain ⟨kq, x93_9, rfl, HA, HJ9, HO_8, HO_12, HB⟩ := hcut
      cases kq with
      | zero => exact absurd HA.out (by simp [laws_FnUnion.j0])
      | succ kj9 =>
        have H := HA.out
        clear HA
        simp only [laws_FnUnion.j0] at H
        by_cases c37 : x93_9 = true
        · subst c37
          have H1 : (some false) = some r := by rw [if_pos rfl] at H; exact H
          clear H
          have H := H1
          clear H1
          obtain rfl := Option.some.inj H
          go_wp2
          go_ret
          exact ⟨by first | rfl | (simp [errW_none, errW_some] <;> rfl) | (simp [*, errW_none, errW_some] <;> rfl), by repeat (first | (with_reducible first | exact HB.out | apply below_alloc | apply pw_below_drewN | apply below_drew1) | exact HB.out)⟩
        · replace c37 := Bool.eq_false_iff.mpr c37
          subst c37
          have H1 : (if t269 = true then ((impl_FlatOf.f kj9 t268).bind fun bt288 => ((impl_JoinParts.f kj9 t276 t264 t265).bind fun bt292 => ((impl_FindRoot.f kj9 t268 t264).bind fun bt296 => ((impl_FindRoot.f kj9 t268 t265).bind fun bt299 => (if bt288.2 = true then (if bt292.2 = true then ((laws_sameInts.f kj9 bt288.1 bt292.1).bind fun t302 => (if t302 = true then (if bt296.2.2 = true then (if bt299.2.2 = true then (if bt296.1 = bt299.1 then (if bt296.2.1 < 0 then (laws_FnUnion.j1 kj9 l1 true) else ((impl_GoodParts.f kj9 bt288.1).bind fun t303 => (laws_FnUnion.j1 kj9 l1 (!t303)))) else (laws_FnUnion.j1 kj9 l1 true)) else (laws_FnUnion.j1 kj9 l1 true)) else (laws_FnUnion.j1 kj9 l1 true)) else (laws_FnUnion.j1 kj9 l1 true))) else (laws_FnUnion.j1 kj9 l1 true)) else (laws_FnUnion.j1 kj9 l1 true)))))) else ((spec_DrawFindRoot.f kj9 l1).bind fun bt314 => ((impl_FindRoot.f kj9 bt314.1 bt314.2).bind fun bt318 => ((spec_FindRoot.f kj9 bt314.1 bt314.2).bind fun bt321 => (if (bt318.2.2 == bt321.2.2) = true then (if bt318.1 = bt321.1 then (some (bt318.2.1 == bt321.2.1)) else (some false)) else (some false)))))) = some r := by rw [if_neg (show ¬ (false = true) by decide)] at H; exact H
          clear H
          have H := H1
          clear H1
          by_cases c38 : t269 = true
          · subst c38
            have H1 : ((impl_FlatOf.f kj9 t268).bind fun bt288 => ((impl_JoinParts.f kj9 t276 t264 t265).bind fun bt292 => ((impl_FindRoot.f kj9 t268 t264).bind fun bt296 => ((impl_FindRoot.f kj9 t268 t265).bind fun bt299 => (if bt288.2 = true then (if bt292.2 = true then ((laws_sameInts.f kj9 bt288.1 bt292.1).bind fun t302 => (if t302 = true then (if bt296.2.2 = true then (if bt299.2.2 = true then (if bt296.1 = bt299.1 then (if bt296.2.1 < 0 then (laws_FnUnion.j1 kj9 l1 true) else ((impl_GoodParts.f kj9 bt288.1).bind fun t303 => (laws_FnUnion.j1 kj9 l1 (!t303)))) else (laws_FnUnion.j1 kj9 l1 true)) else (laws_FnUnion.j1 kj9 l1 true)) else (laws_FnUnion.j1 kj9 l1 true)) else (laws_FnUnion.j1 kj9 l1 true))) else (laws_FnUnion.j1 kj9 l1 true)) else (laws_FnUnion.j1 kj9 l1 true)))))) = some r := by rw [if_pos rfl] at H; exact H
            clear H
            have H := H1
            clear H1
            replace H := Option.bind_eq_some_iff.mp H
            obtain ⟨⟨t288, t289⟩, A390, H⟩ := H
            replace H : ((impl_JoinParts.f kj9 t276 t264 t265).bind fun bt292 => ((impl_FindRoot.f kj9 t268 t264).bind fun bt296 => ((impl_FindRoot.f kj9 t268 t265).bind fun bt299 => (if t289 = true then (if bt292.2 = true then ((laws_sameInts.f kj9 t288 bt292.1).bind fun t302 => (if t302 = true then (if bt296.2.2 = true then (if bt299.2.2 = true then (if bt296.1 = bt299.1 then (if bt296.2.1 < 0 then (laws_FnUnion.j1 kj9 l1 true) else ((impl_GoodParts.f kj9 t288).bind fun t303 => (laws_FnUnion.j1 kj9 l1 (!t303)))) else (laws_FnUnion.j1 kj9 l1 true)) else (laws_FnUnion.j1 kj9 l1 true)) else (laws_FnUnion.j1 kj9 l1 true)) else (laws_FnUnion.j1 kj9 l1 true))) else (laws_FnUnion.j1 kj9 l1 true)) else (laws_FnUnion.j1 kj9 l1 true))))) = some r := H
            have A39 := Aside0.mk A390
            clear A390
            replace H := Option.bind_eq_some_iff.mp H
            obtain ⟨⟨t292, t293⟩, A400, H⟩ := H
            replace H : ((impl_FindRoot.f kj9 t268 t264).bind fun bt296 => ((impl_FindRoot.f kj9 t268 t265).bind fun bt299 => (if t289 = true then (if t293 = true then ((laws_sameInts.f kj9 t288 t292).bind fun t302 => (if t302 = true then (if bt296.2.2 = true then (if bt299.2.2 = true then (if bt296.1 = bt299.1 then (if bt296.2.1 < 0 then (laws_FnUnion.j1 kj9 l1 true) else ((impl_GoodParts.f kj9 t288).bind fun t303 => (laws_FnUnion.j1 kj9 l1 (!t303)))) else (laws_FnUnion.j1 kj9 l1 true)) else (laws_FnUnion.j1 kj9 l1 true)) else (laws_FnUnion.j1 kj9 l1 true)) else (laws_FnUnion.j1 kj9 l1 true))) else (laws_FnUnion.j1 kj9 l1 true)) else (laws_FnUnion.j1 kj9 l1 true)))) = some r := H
            have A40 := Aside0.mk A400
            clear A400
            replace H := Option.bind_eq_some_iff.mp H
            obtain ⟨⟨t296, t297, t298⟩, A410, H⟩ := H
            replace H : ((impl_FindRoot.f kj9 t268 t265).bind fun bt299 => (if t289 = true then (if t293 = true then ((laws_sameInts.f kj9 t288 t292).bind fun t302 => (if t302 = true then (if t298 = true then (if bt299.2.2 = true then (if t296 = bt299.1 then (if t297 < 0 then (laws_FnUnion.j1 kj9 l1 true) else ((impl_GoodParts.f kj9 t288).bind fun t303 => (laws_FnUnion.j1 kj9 l1 (!t303)))) else (laws_FnUnion.j1 kj9 l1 true)) else (laws_FnUnion.j1 kj9 l1 true)) else (laws_FnUnion.j1 kj9 l1 true)) else (laws_FnUnion.j1 kj9 l1 true))) else (laws_FnUnion.j1 kj9 l1 true)) else (laws_FnUnion.j1 kj9 l1 true))) = some r := H
            have A41 := Aside0.mk A410
            clear A410
            replace H := Option.bind_eq_some_iff.mp H
            obtain ⟨⟨t299, t300, t301⟩, A420, H⟩ := H
            replace H : (if t289 = true then (if t293 = true then ((laws_sameInts.f kj9 t288 t292).bind fun t302 => (if t302 = true then (if t298 = true then (if t301 = true then (if t296 = t299 then (if t297 < 0 then (laws_FnUnion.j1 kj9 l1 true) else ((impl_GoodParts.f kj9 t288).bind fun t303 => (laws_FnUnion.j1 kj9 l1 (!t303)))) else (laws_FnUnion.j1 kj9 l1 true)) else (laws_FnUnion.j1 kj9 l1 true)) else (laws_FnUnion.j1 kj9 l1 true)) else (laws_FnUnion.j1 kj9 l1 true))) else (laws_FnUnion.j1 kj9 l1 true)) else (laws_FnUnion.j1 kj9 l1 true)) = some r := H
            have A42 := Aside0.mk A420
            clear A420
            have HC43 := Aside0.mk H
            clear H
            obtain ⟨Ao44, co44, eo44⟩ := Kd.R_slice HO_8.out
            subst eo44
            go_upto_region 15 with (first | ((with_reducible refine gate_callee (f := 18) rfl ?_); refine goesL_ (some 97) rfl rfl Try.func18 (by kernel_rfl) rfl #[.slice Ao44 t268.length co44] rfl (by (try simp only [List.map_toArray, List.map_cons, List.map_nil]); first | done | rfl | (simp only [List.length_drop, List.length_take]; rfl)) ?_; (with_reducible refine (impl_FlatOf.calls kj9 _ _ t268 t288 t289 _ ?side1 ?side2 A39.out).mono ?_); (case side1 => repeat (first | exact (Kd.R_reads' HO_8.out).2.2 | (with_reducible refine Kd.C_alloc ?_ _) | (with_reducible refine Kd.C_drewN ?_ _) | (with_reducible refine Kd.C_drew ?_))); (case side2 => exact (Kd.R_reads' HO_8.out).2.1); rintro e w45 ⟨v290, rfl, ho0, hb⟩; refine ⟨_, rfl, ?_⟩; have n0_ := Aside0.mk (Kd.R_elder' (by (with_reducible repeat (first | apply Kd.R_alloc | apply Kd.R_drewN | apply Kd.R_drew)); exact HO_8.out) (Kd.R_base ho0) hb); have n1_ := Aside0.mk (Kd.R_elder' (by (with_reducible repeat (first | apply Kd.R_alloc | apply Kd.R_drewN | apply Kd.R_drew)); exact HO_12.out) (Kd.R_base ho0) hb); have n2_ := Aside0.mk (Kd.R_lower (Kd.R_new' (Kd.R_new' ho0 (Kd.R_lt (by (with_reducible repeat (first | apply Kd.R_alloc | apply Kd.R_drewN | apply Kd.R_drew)); exact HO_8.out))) (Kd.R_lt (by (with_reducible repeat (first | apply Kd.R_alloc | apply Kd.R_drewN | apply Kd.R_drew)); exact HO_12.out))) (below_size (by repeat (first | (with_reducible first | exact HB.out | apply below_alloc | apply pw_below_drewN | apply below_drew1) | exact HB.out)))); have n3_ := Aside0.mk (below_step (by repeat (first | (with_reducible first | exact HB.out | apply below_alloc | apply pw_below_drewN | apply below_drew1) | exact HB.out)) hb); clear HO_8; clear HO_12; clear HB; have HO_8 := n0_; have HO_12 := n1_; have HO291 := n2_; have HB := n3_; clear n0_ n1_ n2_ n3_; (try clear hb); (try clear hb2); (try clear hk); (try clear hi); (try clear ho0); obtain ⟨Ao46, co46, eo46⟩ := Kd.R_slice HO_12.out; subst eo46) | ((with_reducible refine gate_callee (f := 23) rfl ?_); refine goesL_ (some 104) rfl rfl Try.func23 (by kernel_rfl) rfl #[.slice Ao46 t276.length co46, .int .i64 t264, .int .i64 t265] rfl (by (try simp only [List.map_toArray, List.map_cons, List.map_nil]); first | done | rfl | (simp only [List.length_drop, List.length_take]; rfl)) ?_; (with_reducible refine (impl_JoinParts.calls kj9 _ _ t276 t264 t265 t292 t293 _ ?side1 ?side2 A40.out).mono ?_); (case side1 => repeat (first | exact (Kd.R_reads' HO_12.out).2.2 | (with_reducible refine Kd.C_alloc ?_ _) | (with_reducible refine Kd.C_drewN ?_ _) | (with_reducible refine Kd.C_drew ?_))); (case side2 => exact (Kd.R_reads' HO_12.out).2.1); rintro e w47 ⟨v294, rfl, ho0, hb⟩; refine ⟨_, rfl, ?_⟩; have n0_ := Aside0.mk (Kd.R_elder' (by (with_reducible repeat (first | apply Kd.R_alloc | apply Kd.R_drewN | apply Kd.R_drew)); exact HO_8.out) (Kd.R_base ho0) hb); have n1_ := Aside0.mk (Kd.R_elder' (by (with_reducible repeat (first | apply Kd.R_alloc | apply Kd.R_drewN | apply Kd.R_drew)); exact HO_12.out) (Kd.R_base ho0) hb); have n2_ := Aside0.mk (Kd.R_elder' (by (with_reducible repeat (first | apply Kd.R_alloc | apply Kd.R_drewN | apply Kd.R_drew)); exact HO291.out) (Kd.R_base ho0) hb); have n3_ := Aside0.mk (Kd.R_lower (Kd.R_new' (Kd.R_new' (Kd.R_new' ho0 (Kd.R_lt (by (with_reducible repeat (first | apply Kd.R_alloc | apply Kd.R_drewN | apply Kd.R_drew)); exact HO_8.out))) (Kd.R_lt (by (with_reducible repeat (first | apply Kd.R_alloc | apply Kd.R_drewN | apply Kd.R_drew)); exact HO_12.out))) (Kd.R_lt (by (with_reducible repeat (first | apply Kd.R_alloc | apply Kd.R_drewN | apply Kd.R_drew)); exact HO291.out))) (below_size (by repeat (first | (with_reducible first | exact HB.out | apply below_alloc | apply pw_below_drewN | apply below_drew1) | exact HB.out)))); have n4_ := Aside0.mk (below_step (by repeat (first | (with_reducible first | exact HB.out | apply below_alloc | apply pw_below_drewN | apply below_drew1) | exact HB.out)) hb); clear HO_8; clear HO_12; clear HO291; clear HB; have HO_8 := n0_; have HO_12 := n1_; have HO291 := n2_; have HO295 := n3_; have HB := n4_; clear n0_ n1_ n2_ n3_ n4_; (try clear hb); (try clear hb2); (try clear hk); (try clear hi); (try clear ho0)) | ((with_reducible refine gate_callee (f := 24) rfl ?_); refine goesL_ (some 110) rfl rfl Try.func24 (by kernel_rfl) rfl #[.slice Ao44 t268.length co44, .int .i64 t264] rfl (by (try simp only [List.map_toArray, List.map_cons, List.map_nil]); first | done | rfl | (simp only [List.length_drop, List.length_take]; rfl)) ?_; (with_reducible refine (impl_FindRoot.calls kj9 _ _ t268 t264 t296 t297 t298 _ ?side1 ?side2 A41.out).mono ?_); (case side1 => repeat (first | exact (Kd.R_reads' HO_8.out).2.2 | (with_reducible refine Kd.C_alloc ?_ _) | (with_reducible refine Kd.C_drewN ?_ _) | (with_reducible refine Kd.C_drew ?_))); (case side2 => exact (Kd.R_reads' HO_8.out).2.1); rintro e w' ⟨rfl, ⟨nd, rfl⟩⟩; refine ⟨_, rfl, ?_⟩) | ((with_reducible refine gate_callee (f := 24) rfl ?_); refine goesL_ (some 117) rfl rfl Try.func24 (by kernel_rfl) rfl #[.slice Ao44 t268.length co44, .int .i64 t265] rfl (by (try simp only [List.map_toArray, List.map_cons, List.map_nil]); first | done | rfl | (simp only [List.length_drop, List.length_take]; rfl)) ?_; (with_reducible refine (impl_FindRoot.calls kj9 _ _ t268 t265 t299 t300 t301 _ ?side1 ?side2 A42.out).mono ?_); (case side1 => repeat (first | exact (Kd.R_reads' HO_8.out).2.2 | (with_reducible refine Kd.C_alloc ?_ _) | (with_reducible refine Kd.C_drewN ?_ _) | (with_reducible refine Kd.C_drew ?_))); (case side2 => exact (Kd.R_reads' HO_8.out).2.1); rintro e w' ⟨rfl, ⟨nd, rfl⟩⟩; refine ⟨_, rfl, ?_⟩))
            (try simp only [Act.put, List.setIfInBounds_toArray, List.set_cons_zero, List.set_cons_succ])
            go_cut [154] (fun v154 wc => ∃ (kq : Nat) (x154_42 : Bool), v154 = .bool x154_42 ∧ Aside0 (laws_FnUnion.j1 kq l1 x154_42 = some r) ∧ Aside0 (kq ≤ kj9) ∧ Aside0 (Below w.heap.size w wc))
            case first =>
              have H := HC43.out
              clear HC43
              by_cases c48 : t289 = true
              · subst c48
                have H1 : (if t293 = true then ((laws_sameInts.f kj9 t288 t292).bind fun t302 => (if t302 = true then (if t298 = true then (if t301 = true then (if t296 = t299 then (if t297 < 0 then (laws_FnUnion.j1 kj9 l1 true) else ((impl_GoodParts.f kj9 t288).bind fun t303 => (laws_FnUnion.j1 kj9 l1 (!t303)))) else (laws_FnUnion.j1 kj9 l1 true)) else (laws_FnUnion.j1 kj9 l1 true)) else (laws_FnUnion.j1 kj9 l1 true)) else (laws_FnUnion.j1 kj9 l1 true))) else (laws_FnUnion.j1 kj9 l1 true)) = some r := by rw [if_pos rfl] at H; exact H
                clear H
                have H := H1
                clear H1
                by_cases c49 : t293 = true
                · subst c49
                  have H1 : ((laws_sameInts.f kj9 t288 t292).bind fun t302 => (if t302 = true then (if t298 = true then (if t301 = true then (if t296 = t299 then (if t297 < 0 then (laws_FnUnion.j1 kj9 l1 true) else ((impl_GoodParts.f kj9 t288).bind fun t303 => (laws_FnUnion.j1 kj9 l1 (!t303)))) else (laws_FnUnion.j1 kj9 l1 true)) else (laws_FnUnion.j1 kj9 l1 true)) else (laws_FnUnion.j1 kj9 l1 true)) else (laws_FnUnion.j1 kj9 l1 true))) = some r := by rw [if_pos rfl] at H; exact H
                  clear H
                  have H := H1
                  clear H1
                  replace H := Option.bind_eq_some_iff.mp H
                  obtain ⟨t302, A500, H⟩ := H
                  replace H : (if t302 = true then (if t298 = true then (if t301 = true then (if t296 = t299 then (if t297 < 0 then (laws_FnUnion.j1 kj9 l1 true) else ((impl_GoodParts.f kj9 t288).bind fun t303 => (laws_FnUnion.j1 kj9 l1 (!t303)))) else (laws_FnUnion.j1 kj9 l1 true)) else (laws_FnUnion.j1 kj9 l1 true)) else (laws_FnUnion.j1 kj9 l1 true)) else (laws_FnUnion.j1 kj9 l1 true)) = some r := H
                  have A50 := Aside0.mk A500
                  clear A500
                  by_cases c51 : t302 = true
                  · subst c51
                    have H1 : (if t298 = true then (if t301 = true then (if t296 = t299 then (if t297 < 0 then (laws_FnUnion.j1 kj9 l1 true) else ((impl_GoodParts.f kj9 t288).bind fun t303 => (laws_FnUnion.j1 kj9 l1 (!t303)))) else (laws_FnUnion.j1 kj9 l1 true)) else (laws_FnUnion.j1 kj9 l1 true)) else (laws_FnUnion.j1 kj9 l1 true)) = some r := by rw [if_pos rfl] at H; exact H
                    clear H
                    have H := H1
                    clear H1
                    by_cases c52 : t298 = true
                    · subst c52
                      have H1 : (if t301 = true then (if t296 = t299 then (if t297 < 0 then (laws_FnUnion.j1 kj9 l1 true) else ((impl_GoodParts.f kj9 t288).bind fun t303 => (laws_FnUnion.j1 kj9 l1 (!t303)))) else (laws_FnUnion.j1 kj9 l1 true)) else (laws_FnUnion.j1 kj9 l1 true)) = some r := by rw [if_pos rfl] at H; exact H
                      clear H
                      have H := H1
                      clear H1
                      by_cases c53 : t301 = true
                      · subst c53
                        have H1 : (if t296 = t299 then (if t297 < 0 then (laws_FnUnion.j1 kj9 l1 true) else ((impl_GoodParts.f kj9 t288).bind fun t303 => (laws_FnUnion.j1 kj9 l1 (!t303)))) else (laws_FnUnion.j1 kj9 l1 true)) = some r := by rw [if_pos rfl] at H; exact H
                        clear H
                        have H := H1
                        clear H1
                        by_cases c54 : t296 = t299
                        · rw [if_pos c54] at H
                          have c54b0 : (t296 == t299) = true := beq_iff_eq.mpr c54
                          have c54b1 : (t296 != t299) = false := bne_eq_false_iff_eq.mpr c54
                          clear c54
                          (first | rw [c54b0] | (simp only [i64_w, i32_w]; rw [c54b0]) | skip)
                          by_cases c55 : t297 < 0
                          · rw [if_pos c55] at H
                            have c55b0 : decide (t297 < 0) = true := decide_eq_true c55
                            clear c55
                            have H' := Aside0.mk H
                            clear H
                            obtain ⟨Ao56, co56, eo56⟩ := Kd.R_slice HO291.out
                            subst eo56
                            obtain ⟨Ao57, co57, eo57⟩ := Kd.R_slice HO295.out
                            subst eo57
                            go_wp2_with (first | (go_at_call 20; (with_reducible refine (laws_sameInts.calls kj9 _ _ t288 _ _ t292 true _ ?side1 ?side2 ?side3 ?side4 A50.out).mono ?_); (case side1 => repeat (first | exact (Kd.R_reads' HO291.out).2.2 | (with_reducible refine Kd.C_alloc ?_ _) | (with_reducible refine Kd.C_drewN ?_ _) | (with_reducible refine Kd.C_drew ?_))); (case side2 => exact (Kd.R_reads' HO291.out).2.1); (case side3 => repeat (first | exact (Kd.R_reads' HO295.out).2.2 | (with_reducible refine Kd.C_alloc ?_ _) | (with_reducible refine Kd.C_drewN ?_ _) | (with_reducible refine Kd.C_drew ?_))); (case side4 => exact (Kd.R_reads' HO295.out).2.1); rintro e w' ⟨rfl, ⟨nd, rfl⟩⟩))
                            go_meet
                            case rel => exact ⟨_, (true), (by first | rfl | (simp; done) | (simp [*]; done)), H', ⟨by have := HJ9.out; first | omega | exact Nat.le_refl _⟩, ⟨by repeat (first | (with_reducible first | exact HB.out | apply below_alloc | apply pw_below_drewN | apply below_drew1) | exact HB.out)⟩⟩
                          · rw [if_neg c55] at H
                            have c55b0 : decide (t297 < 0) = false := decide_eq_false c55
                            clear c55
                            replace H := Option.bind_eq_some_iff.mp H
                            obtain ⟨t303, A580, H⟩ := H
                            replace H : (laws_FnUnion.j1 kj9 l1 (!t303)) = some r := H
                            have A58 := Aside0.mk A580
                            clear A580
                            have H' := Aside0.mk H
                            clear H
                            obtain ⟨Ao59, co59, eo59⟩ := Kd.R_slice HO291.out
                            subst eo59
                            obtain ⟨Ao60, co60, eo60⟩ := Kd.R_slice HO295.out
                            subst eo60
                            go_wp2_with (first | (go_at_call 20; (with_reducible refine (laws_sameInts.calls kj9 _ _ t288 _ _ t292 true _ ?side1 ?side2 ?side3 ?side4 A50.out).mono ?_); (case side1 => repeat (first | exact (Kd.R_reads' HO291.out).2.2 | (with_reducible refine Kd.C_alloc ?_ _) | (with_reducible refine Kd.C_drewN ?_ _) | (with_reducible refine Kd.C_drew ?_))); (case side2 => exact (Kd.R_reads' HO291.out).2.1); (case side3 => repeat (first | exact (Kd.R_reads' HO295.out).2.2 | (with_reducible refine Kd.C_alloc ?_ _) | (with_reducible refine Kd.C_drewN ?_ _) | (with_reducible refine Kd.C_drew ?_))); (case side4 => exact (Kd.R_reads' HO295.out).2.1); rintro e w' ⟨rfl, ⟨nd, rfl⟩⟩) | (go_at_call 25; (with_reducible refine (impl_GoodParts.calls kj9 _ _ t288 t303 _ ?side1 ?side2 A58.out).mono ?_); (case side1 => repeat (first | exact (Kd.R_reads' HO291.out).2.2 | (with_reducible refine Kd.C_alloc ?_ _) | (with_reducible refine Kd.C_drewN ?_ _) | (with_reducible refine Kd.C_drew ?_))); (case side2 => exact (Kd.R_reads' HO291.out).2.1); rintro e w61 ⟨rfl, hb⟩; have n0_ := Aside0.mk (Kd.R_below (by (with_reducible repeat (first | apply Kd.R_alloc | apply Kd.R_drewN | apply Kd.R_drew)); exact HO_8.out) hb); have n1_ := Aside0.mk (Kd.R_below (by (with_reducible repeat (first | apply Kd.R_alloc | apply Kd.R_drewN | apply Kd.R_drew)); exact HO_12.out) hb); have n2_ := Aside0.mk (Kd.R_below (by (with_reducible repeat (first | apply Kd.R_alloc | apply Kd.R_drewN | apply Kd.R_drew)); exact HO291.out) hb); have n3_ := Aside0.mk (Kd.R_below (by (with_reducible repeat (first | apply Kd.R_alloc | apply Kd.R_drewN | apply Kd.R_drew)); exact HO295.out) hb); have n4_ := Aside0.mk (below_step (by repeat (first | (with_reducible first | exact HB.out | apply below_alloc | apply pw_below_drewN | apply below_drew1) | exact HB.out)) hb); clear HO_8; clear HO_12; clear HO291; clear HO295; clear HB; have HO_8 := n0_; have HO_12 := n1_; have HO291 := n2_; have HO295 := n3_; have HB := n4_; clear n0_ n1_ n2_ n3_ n4_; (try clear hb); (try clear hb2); (try clear hk); (try clear hi)))
                            go_meet
                            case rel => exact ⟨_, (!t303), (by first | rfl | (simp; done) | (simp [*]; done)), H', ⟨by have := HJ9.out; first | omega | exact Nat.le_refl _⟩, ⟨by repeat (first | (with_reducible first | exact HB.out | apply below_alloc | apply pw_below_drewN | apply below_drew1) | exact HB.out)⟩⟩
                        · rw [if_neg c54] at H
                          have c54b0 : (t296 == t299) = false := beq_eq_false_iff_ne.mpr c54
                          have c54b1 : (t296 != t299) = true := bne_iff_ne.mpr c54
                          (first | rw [c54b0] | (simp only [i64_w, i32_w]; rw [c54b0]) | skip)
                          have H' := Aside0.mk H
                          clear H
                          obtain ⟨Ao62, co62, eo62⟩ := Kd.R_slice HO291.out
                          subst eo62
                          obtain ⟨Ao63, co63, eo63⟩ := Kd.R_slice HO295.out
                          subst eo63
                          go_wp2_with (first | (go_at_call 20; (with_reducible refine (laws_sameInts.calls kj9 _ _ t288 _ _ t292 true _ ?side1 ?side2 ?side3 ?side4 A50.out).mono ?_); (case side1 => repeat (first | exact (Kd.R_reads' HO291.out).2.2 | (with_reducible refine Kd.C_alloc ?_ _) | (with_reducible refine Kd.C_drewN ?_ _) | (with_reducible refine Kd.C_drew ?_))); (case side2 => exact (Kd.R_reads' HO291.out).2.1); (case side3 => repeat (first | exact (Kd.R_reads' HO295.out).2.2 | (with_reducible refine Kd.C_alloc ?_ _) | (with_reducible refine Kd.C_drewN ?_ _) | (with_reducible refine Kd.C_drew ?_))); (case side4 => exact (Kd.R_reads' HO295.out).2.1); rintro e w' ⟨rfl, ⟨nd, rfl⟩⟩))
                          go_meet
                          case rel => exact ⟨_, (true), (by first | rfl | (simp; done) | (simp [*]; done)), H', ⟨by have := HJ9.out; first | omega | exact Nat.le_refl _⟩, ⟨by repeat (first | (with_reducible first | exact HB.out | apply below_alloc | apply pw_below_drewN | apply below_drew1) | exact HB.out)⟩⟩
                      · replace c53 := Bool.eq_false_iff.mpr c53
                        subst c53
                        have H1 : (laws_FnUnion.j1 kj9 l1 true) = some r := by rw [if_neg (show ¬ (false = true) by decide)] at H; exact H
                        clear H
                        have H := H1
                        clear H1
                        have H' := Aside0.mk H
                        clear H
                        obtain ⟨Ao64, co64, eo64⟩ := Kd.R_slice HO291.out
                        subst eo64
                        obtain ⟨Ao65, co65, eo65⟩ := Kd.R_slice HO295.out
                        subst eo65
                        go_wp2_with (first | (go_at_call 20; (with_reducible refine (laws_sameInts.calls kj9 _ _ t288 _ _ t292 true _ ?side1 ?side2 ?side3 ?side4 A50.out).mono ?_); (case side1 => repeat (first | exact (Kd.R_reads' HO291.out).2.2 | (with_reducible refine Kd.C_alloc ?_ _) | (with_reducible refine Kd.C_drewN ?_ _) | (with_reducible refine Kd.C_drew ?_))); (case side2 => exact (Kd.R_reads' HO291.out).2.1); (case side3 => repeat (first | exact (Kd.R_reads' HO295.out).2.2 | (with_reducible refine Kd.C_alloc ?_ _) | (with_reducible refine Kd.C_drewN ?_ _) | (with_reducible refine Kd.C_drew ?_))); (case side4 => exact (Kd.R_reads' HO295.out).2.1); rintro e w' ⟨rfl, ⟨nd, rfl⟩⟩))
                        go_meet
                        case rel => exact ⟨_, (true), (by first | rfl | (simp; done) | (simp [*]; done)), H', ⟨by have := HJ9.out; first | omega | exact Nat.le_refl _⟩, ⟨by repeat (first | (with_reducible first | exact HB.out | apply below_alloc | apply pw_below_drewN | apply below_drew1) | exact HB.out)⟩⟩
                    · replace c52 := Bool.eq_false_iff.mpr c52
                      subst c52
                      have H1 : (laws_FnUnion.j1 kj9 l1 true) = some r := by rw [if_neg (show ¬ (false = true) by decide)] at H; exact H
                      clear H
                      have H := H1
                      clear H1
                      have H' := Aside0.mk H
                      clear H
                      obtain ⟨Ao66, co66, eo66⟩ := Kd.R_slice HO291.out
                      subst eo66
                      obtain ⟨Ao67, co67, eo67⟩ := Kd.R_slice HO295.out
                      subst eo67
                      go_wp2_with (first | (go_at_call 20; (with_reducible refine (laws_sameInts.calls kj9 _ _ t288 _ _ t292 true _ ?side1 ?side2 ?side3 ?side4 A50.out).mono ?_); (case side1 => repeat (first | exact (Kd.R_reads' HO291.out).2.2 | (with_reducible refine Kd.C_alloc ?_ _) | (with_reducible refine Kd.C_drewN ?_ _) | (with_reducible refine Kd.C_drew ?_))); (case side2 => exact (Kd.R_reads' HO291.out).2.1); (case side3 => repeat (first | exact (Kd.R_reads' HO295.out).2.2 | (with_reducible refine Kd.C_alloc ?_ _) | (with_reducible refine Kd.C_drewN ?_ _) | (with_reducible refine Kd.C_drew ?_))); (case side4 => exact (Kd.R_reads' HO295.out).2.1); rintro e w' ⟨rfl, ⟨nd, rfl⟩⟩))
                      go_meet
                      case rel => exact ⟨_, (true), (by first | rfl | (simp; done) | (simp [*]; done)), H', ⟨by have := HJ9.out; first | omega | exact Nat.le_refl _⟩, ⟨by repeat (first | (with_reducible first | exact HB.out | apply below_alloc | apply pw_below_drewN | apply below_drew1) | exact HB.out)⟩⟩
                  · replace c51 := Bool.eq_false_iff.mpr c51
                    subst c51
                    have H1 : (laws_FnUnion.j1 kj9 l1 true) = some r := by rw [if_neg (show ¬ (false = true) by decide)] at H; exact H
                    clear H
                    have H := H1
                    clear H1
                    have H' := Aside0.mk H
                    clear H
                    obtain ⟨Ao68, co68, eo68⟩ := Kd.R_slice HO291.out
                    subst eo68
                    obtain ⟨Ao69, co69, eo69⟩ := Kd.R_slice HO295.out
                    subst eo69
                    go_wp2_with (first | (go_at_call 20; (with_reducible refine (laws_sameInts.calls kj9 _ _ t288 _ _ t292 false _ ?side1 ?side2 ?side3 ?side4 A50.out).mono ?_); (case side1 => repeat (first | exact (Kd.R_reads' HO291.out).2.2 | (with_reducible refine Kd.C_alloc ?_ _) | (with_reducible refine Kd.C_drewN ?_ _) | (with_reducible refine Kd.C_drew ?_))); (case side2 => exact (Kd.R_reads' HO291.out).2.1); (case side3 => repeat (first | exact (Kd.R_reads' HO295.out).2.2 | (with_reducible refine Kd.C_alloc ?_ _) | (with_reducible refine Kd.C_drewN ?_ _) | (with_reducible refine Kd.C_drew ?_))); (case side4 => exact (Kd.R_reads' HO295.out).2.1); rintro e w' ⟨rfl, ⟨nd, rfl⟩⟩))
                    go_meet
                    case rel => exact ⟨_, (true), (by first | rfl | (simp; done) | (simp [*]; done)), H', ⟨by have := HJ9.out; first | omega | exact Nat.le_refl _⟩, ⟨by repeat (first | (with_reducible first | exact HB.out | apply below_alloc | apply pw_below_drewN | apply below_drew1) | exact HB.out)⟩⟩
                · replace c49 := Bool.eq_false_iff.mpr c49
                  subst c49
                  have H1 : (laws_FnUnion.j1 kj9 l1 true) = some r := by rw [if_neg (show ¬ (false = true) by decide)] at H; exact H
                  clear H
                  have H := H1
                  clear H1
                  have H' := Aside0.mk H
                  clear H
                  go_wp2
                  go_meet
                  case rel => exact ⟨_, (true), (by first | rfl | (simp; done) | (simp [*]; done)), H', ⟨by have := HJ9.out; first | omega | exact Nat.le_refl _⟩, ⟨by repeat (first | (with_reducible first | exact HB.out | apply below_alloc | apply pw_below_drewN | apply below_drew1) | exact HB.out)⟩⟩
              · replace c48 := Bool.eq_false_iff.mpr c48
                subst c48
                have H1 : (laws_FnUnion.j1 kj9 l1 true) = some r := by rw [if_neg (show ¬ (false = true) by decide)] at H; exact H
                clear H
                have H := H1
                clear H1
                have H' := Aside0.mk H
                clear H
                go_wp2
                go_meet
                case rel => exact ⟨_, (true), (by first | rfl | (simp; done) | (simp [*]; done)), H', ⟨by have := HJ9.out; first | omega | exact Nat.le_refl _⟩, ⟨by repeat (first | (with_reducible first | exact HB.out | apply below_alloc | apply pw_below_drewN | apply below_drew1) | exact HB.out)⟩⟩
            case rest =>
              clear HC43
              try clear c1
              try clear c2
              try clear p2
              try clear c3
              try clear c4
              try clear c5
              try clear c8
              try clear c15
              try clear c16
              try clear c17
              try clear c17b0
              try clear c17b1
              try clear c17b2
              try clear c18
              try clear c19
              try clear c20
              try clear c20b0
              try clear c20b1
              try clear c20b2
              try clear c23
              try clear c24
              try clear c37
              try clear c38
              try clear c48
              try clear c49
              try clear c51
              try clear c52
              try clear c53
              try clear c54
              try clear c54b0
              try clear c54b1
              try clear c55
              try clear c55b0
              try clear p2
              obtain ⟨kq, x154_42, rfl, HA, HJ42, HB⟩ := hcut
              cases kq with
              | zero => exact absurd HA.out (by simp [laws_FnUnion.j1])
              | succ kj42 =>
                have H := HA.out
                clear HA
                simp only [laws_FnUnion.j1] at H
                by_cases c70 : x154_42 = true
                · subst c70
                  have H1 : (some false) = some r := by rw [if_pos rfl] at H; exact H
                  clear H
                  have H := H1
                  clear H1
                  obtain rfl := Option.some.inj H
                  go_wp2
                  go_ret
                  exact ⟨by first | rfl | (simp [errW_none, errW_some] <;> rfl) | (simp [*, errW_none, errW_some] <;> rfl), by repeat (first | (with_reducible first | exact HB.out | apply below_alloc | apply pw_below_drewN | apply below_drew1) | exact HB.out)⟩
                · replace c70 := Bool.eq_false_iff.mpr c70
                  subst c70
                  have H1 : ((spec_DrawFindRoot.f kj42 l1).bind fun bt304 => ((impl_FindRoot.f kj42 bt304.1 bt304.2).bind fun bt308 => ((spec_FindRoot.f kj42 bt304.1 bt304.2).bind fun bt311 => (if (bt308.2.2 == bt311.2.2) = true then (if bt308.1 = bt311.1 then (some (bt308.2.1 == bt311.2.1)) else (some false)) else (some false))))) = some r := by rw [if_neg (show ¬ (false = true) by decide)] at H; exact H
                  clear H
                  have H := H1
                  clear H1
                  replace H := Option.bind_eq_some_iff.mp H
                  obtain ⟨⟨t304, t305⟩, A710, H⟩ := H
                  replace H : ((impl_FindRoot.f kj42 t304 t305).bind fun bt308 => ((spec_FindRoot.f kj42 t304 t305).bind fun bt311 => (if (bt308.2.2 == bt311.2.2) = true then (if bt308.1 = bt311.1 then (some (bt308.2.1 == bt311.2.1)) else (some false)) else (some false)))) = some r := H
                  have A71 := Aside0.mk A710
                  clear A710
                  replace H := Option.bind_eq_some_iff.mp H
                  obtain ⟨⟨t308, t309, t310⟩, A720, H⟩ := H
                  replace H : ((spec_FindRoot.f kj42 t304 t305).bind fun bt311 => (if (t310 == bt311.2.2) = true then (if t308 = bt311.1 then (some (t309 == bt311.2.1)) else (some false)) else (some false))) = some r := H
                  have A72 := Aside0.mk A720
                  clear A720
                  replace H := Option.bind_eq_some_iff.mp H
                  obtain ⟨⟨t311, t312, t313⟩, A730, H⟩ := H
                  replace H : (if (t310 == t313) = true then (if t308 = t311 then (some (t309 == t312)) else (some false)) else (some false)) = some r := H
                  have A73 := Aside0.mk A730
                  clear A730
                  by_cases c74 : (t310 == t313) = true
                  · rw [if_pos c74] at H
                    have c74b0 : (t310 == t313) = true := c74
                    (try (have c74b1 : decide (t310 = t313) = true := by simpa using c74))
                    (try (have c74b2 : (t310 == t313) = true := by simpa using c74))
                    clear c74
                    by_cases c75 : t308 = t311
                    · rw [if_pos c75] at H
                      have c75b0 : (t308 == t311) = true := beq_iff_eq.mpr c75
                      have c75b1 : (t308 != t311) = false := bne_eq_false_iff_eq.mpr c75
                      clear c75
                      obtain rfl := Option.some.inj H
                      go_wp2_with (first | ((with_reducible refine gate_callee (f := 26) rfl ?_); refine goesL_ (some 157) rfl rfl Try.func26 (by kernel_rfl) rfl #[.slice A1 l1.length c1] rfl (by (try simp only [List.map_toArray, List.map_cons, List.map_nil]); first | done | rfl | (simp only [List.length_drop, List.length_take]; rfl)) ?_; (with_reducible refine (spec_DrawFindRoot.calls kj42 _ _ l1 t304 t305 _ ?side1 ?side2 A71.out).mono ?_); (case side1 => repeat (first | exact (Kd.C_below HR1.out HB.out) | (with_reducible refine Kd.C_alloc ?_ _) | (with_reducible refine Kd.C_drewN ?_ _) | (with_reducible refine Kd.C_drew ?_))); (case side2 => exact HC1.out); rintro e w76 ⟨v306, rfl, ho0, hb⟩; refine ⟨_, rfl, ?_⟩; have n0_ := Aside0.mk (Kd.R_lower ho0 (below_size (by repeat (first | (with_reducible first | exact HB.out | apply below_alloc | apply pw_below_drewN | apply below_drew1) | exact HB.out)))); have n1_ := Aside0.mk (below_step (by repeat (first | (with_reducible first | exact HB.out | apply below_alloc | apply pw_below_drewN | apply below_drew1) | exact HB.out)) hb); clear HB; have HO307 := n0_; have HB := n1_; clear n0_ n1_; (try clear hb); (try clear hb2); (try clear hk); (try clear hi); (try clear ho0); obtain ⟨Ao77, co77, eo77⟩ := Kd.R_slice HO307.out; subst eo77) | ((with_reducible refine gate_callee (f := 24) rfl ?_); refine goesL_ (some 163) rfl rfl Try.func24 (by kernel_rfl) rfl #[.slice Ao77 t304.length co77, .int .i64 t305] rfl (by (try simp only [List.map_toArray, List.map_cons, List.map_nil]); first | done | rfl | (simp only [List.length_drop, List.length_take]; rfl)) ?_; (with_reducible refine (impl_FindRoot.calls kj42 _ _ t304 t305 t308 t309 t310 _ ?side1 ?side2 A72.out).mono ?_); (case side1 => repeat (first | exact (Kd.R_reads' HO307.out).2.2 | (with_reducible refine Kd.C_alloc ?_ _) | (with_reducible refine Kd.C_drewN ?_ _) | (with_reducible refine Kd.C_drew ?_))); (case side2 => exact (Kd.R_reads' HO307.out).2.1); rintro e w' ⟨rfl, ⟨nd, rfl⟩⟩; refine ⟨_, rfl, ?_⟩) | ((with_reducible refine gate_callee (f := 27) rfl ?_); refine goesL_ (some 170) rfl rfl Try.func27 (by kernel_rfl) rfl #[.slice Ao77 t304.length co77, .int .i64 t305] rfl (by (try simp only [List.map_toArray, List.map_cons, List.map_nil]); first | done | rfl | (simp only [List.length_drop, List.length_take]; rfl)) ?_; (with_reducible refine (spec_FindRoot.calls kj42 _ _ t304 t305 t311 t312 t313 _ ?side1 ?side2 A73.out).mono ?_); (case side1 => repeat (first | exact (Kd.R_reads' HO307.out).2.2 | (with_reducible refine Kd.C_alloc ?_ _) | (with_reducible refine Kd.C_drewN ?_ _) | (with_reducible refine Kd.C_drew ?_))); (case side2 => exact (Kd.R_reads' HO307.out).2.1); rintro e w' ⟨rfl, ⟨nd, rfl⟩⟩; refine ⟨_, rfl, ?_⟩))
                      go_ret
                      exact ⟨by first | rfl | (simp [errW_none, errW_some] <;> rfl) | (simp [*, errW_none, errW_some] <;> rfl), by repeat (first | (with_reducible first | exact HB.out | apply below_alloc | apply pw_below_drewN | apply below_drew1) | exact HB.out)⟩
                    · rw [if_neg c75] at H
                      have c75b0 : (t308 == t311) = false := beq_eq_false_iff_ne.mpr c75
                      have c75b1 : (t308 != t311) = true := bne_iff_ne.mpr c75
                      obtain rfl := Option.some.inj H
                      go_wp2_with (first | ((with_reducible refine gate_callee (f := 26) rfl ?_); refine goesL_ (some 157) rfl rfl Try.func26 (by kernel_rfl) rfl #[.slice A1 l1.length c1] rfl (by (try simp only [List.map_toArray, List.map_cons, List.map_nil]); first | done | rfl | (simp only [List.length_drop, List.length_take]; rfl)) ?_; (with_reducible refine (spec_DrawFindRoot.calls kj42 _ _ l1 t304 t305 _ ?side1 ?side2 A71.out).mono ?_); (case side1 => repeat (first | exact (Kd.C_below HR1.out HB.out) | (with_reducible refine Kd.C_alloc ?_ _) | (with_reducible refine Kd.C_drewN ?_ _) | (with_reducible refine Kd.C_drew ?_))); (case side2 => exact HC1.out); rintro e w78 ⟨v306, rfl, ho0, hb⟩; refine ⟨_, rfl, ?_⟩; have n0_ := Aside0.mk (Kd.R_lower ho0 (below_size (by repeat (first | (with_reducible first | exact HB.out | apply below_alloc | apply pw_below_drewN | apply below_drew1) | exact HB.out)))); have n1_ := Aside0.mk (below_step (by repeat (first | (with_reducible first | exact HB.out | apply below_alloc | apply pw_below_drewN | apply below_drew1) | exact HB.out)) hb); clear HB; have HO307 := n0_; have HB := n1_; clear n0_ n1_; (try clear hb); (try clear hb2); (try clear hk); (try clear hi); (try clear ho0); obtain ⟨Ao79, co79, eo79⟩ := Kd.R_slice HO307.out; subst eo79) | ((with_reducible refine gate_callee (f := 24) rfl ?_); refine goesL_ (some 163) rfl rfl Try.func24 (by kernel_rfl) rfl #[.slice Ao79 t304.length co79, .int .i64 t305] rfl (by (try simp only [List.map_toArray, List.map_cons, List.map_nil]); first | done | rfl | (simp only [List.length_drop, List.length_take]; rfl)) ?_; (with_reducible refine (impl_FindRoot.calls kj42 _ _ t304 t305 t308 t309 t310 _ ?side1 ?side2 A72.out).mono ?_); (case side1 => repeat (first | exact (Kd.R_reads' HO307.out).2.2 | (with_reducible refine Kd.C_alloc ?_ _) | (with_reducible refine Kd.C_drewN ?_ _) | (with_reducible refine Kd.C_drew ?_))); (case side2 => exact (Kd.R_reads' HO307.out).2.1); rintro e w' ⟨rfl, ⟨nd, rfl⟩⟩; refine ⟨_, rfl, ?_⟩) | ((with_reducible refine gate_callee (f := 27) rfl ?_); refine goesL_ (some 170) rfl rfl Try.func27 (by kernel_rfl) rfl #[.slice Ao79 t304.length co79, .int .i64 t305] rfl (by (try simp only [List.map_toArray, List.map_cons, List.map_nil]); first | done | rfl | (simp only [List.length_drop, List.length_take]; rfl)) ?_; (with_reducible refine (spec_FindRoot.calls kj42 _ _ t304 t305 t311 t312 t313 _ ?side1 ?side2 A73.out).mono ?_); (case side1 => repeat (first | exact (Kd.R_reads' HO307.out).2.2 | (with_reducible refine Kd.C_alloc ?_ _) | (with_reducible refine Kd.C_drewN ?_ _) | (with_reducible refine Kd.C_drew ?_))); (case side2 => exact (Kd.R_reads' HO307.out).2.1); rintro e w' ⟨rfl, ⟨nd, rfl⟩⟩; refine ⟨_, rfl, ?_⟩))
                      go_ret
                      exact ⟨by first | rfl | (simp [errW_none, errW_some] <;> rfl) | (simp [*, errW_none, errW_some] <;> rfl), by repeat (first | (with_reducible first | exact HB.out | apply below_alloc | apply pw_below_drewN | apply below_drew1) | exact HB.out)⟩
                  · rw [if_neg c74] at H
                    have c74b0 : (t310 == t313) = false := by simpa using c74
                    (try (have c74b1 : decide (t310 = t313) = false := by simpa using c74))
                    (try (have c74b2 : (t310 == t313) = false := by simpa using c74))
                    (try (have c74b3 : ¬ (t310 = t313) := by simpa using c74))
                    clear c74
                    obtain rfl := Option.some.inj H
                    go_wp2_with (first | ((with_reducible refine gate_callee (f := 26) rfl ?_); refine goesL_ (some 157) rfl rfl Try.func26 (by kernel_rfl) rfl #[.slice A1 l1.length c1] rfl (by (try simp only [List.map_toArray, List.map_cons, List.map_nil]); first | done | rfl | (simp only [List.length_drop, List.length_take]; rfl)) ?_; (with_reducible refine (spec_DrawFindRoot.calls kj42 _ _ l1 t304 t305 _ ?side1 ?side2 A71.out).mono ?_); (case side1 => repeat (first | exact (Kd.C_below HR1.out HB.out) | (with_reducible refine Kd.C_alloc ?_ _) | (with_reducible refine Kd.C_drewN ?_ _) | (with_reducible refine Kd.C_drew ?_))); (case side2 => exact HC1.out); rintro e w80 ⟨v306, rfl, ho0, hb⟩; refine ⟨_, rfl, ?_⟩; have n0_ := Aside0.mk (Kd.R_lower ho0 (below_size (by repeat (first | (with_reducible first | exact HB.out | apply below_alloc | apply pw_below_drewN | apply below_drew1) | exact HB.out)))); have n1_ := Aside0.mk (below_step (by repeat (first | (with_reducible first | exact HB.out | apply below_alloc | apply pw_below_drewN | apply below_drew1) | exact HB.out)) hb); clear HB; have HO307 := n0_; have HB := n1_; clear n0_ n1_; (try clear hb); (try clear hb2); (try clear hk); (try clear hi); (try clear ho0); obtain ⟨Ao81, co81, eo81⟩ := Kd.R_slice HO307.out; subst eo81) | ((with_reducible refine gate_callee (f := 24) rfl ?_); refine goesL_ (some 163) rfl rfl Try.func24 (by kernel_rfl) rfl #[.slice Ao81 t304.length co81, .int .i64 t305] rfl (by (try simp only [List.map_toArray, List.map_cons, List.map_nil]); first | done | rfl | (simp only [List.length_drop, List.length_take]; rfl)) ?_; (with_reducible refine (impl_FindRoot.calls kj42 _ _ t304 t305 t308 t309 t310 _ ?side1 ?side2 A72.out).mono ?_); (case side1 => repeat (first | exact (Kd.R_reads' HO307.out).2.2 | (with_reducible refine Kd.C_alloc ?_ _) | (with_reducible refine Kd.C_drewN ?_ _) | (with_reducible refine Kd.C_drew ?_))); (case side2 => exact (Kd.R_reads' HO307.out).2.1); rintro e w' ⟨rfl, ⟨nd, rfl⟩⟩; refine ⟨_, rfl, ?_⟩) | ((with_reducible refine gate_callee (f := 27) rfl ?_); refine goesL_ (some 170) rfl rfl Try.func27 (by kernel_rfl) rfl #[.slice Ao81 t304.length co81, .int .i64 t305] rfl (by (try simp only [List.map_toArray, List.map_cons, List.map_nil]); first | done | rfl | (simp only [List.length_drop, List.length_take]; rfl)) ?_; (with_reducible refine (spec_FindRoot.calls kj42 _ _ t304 t305 t311 t312 t313 _ ?side1 ?side2 A73.out).mono ?_); (case side1 => repeat (first | exact (Kd.R_reads' HO307.out).2.2 | (with_reducible refine Kd.C_alloc ?_ _) | (with_reducible refine Kd.C_drewN ?_ _) | (with_reducible refine Kd.C_drew ?_))); (case side2 => exact (Kd.R_reads' HO307.out).2.1); rintro e w' ⟨rfl, ⟨nd, rfl⟩⟩; refine ⟨_, rfl, ?_⟩))
                    go_ret
                    exact ⟨by first | rfl | (simp [errW_none, errW_some] <;> rfl) | (simp [*, errW_none, errW_some] <;> rfl), by repeat (first | (with_reducible first | exact HB.out | apply below_alloc | apply pw_below_drewN | apply below_drew1) | exact HB.out)⟩
          · replace c38 := Bool.eq_false_iff.mpr c38
            subst c38
            have H1 : ((spec_DrawFindRoot.f kj9 l1).bind fun bt314 => ((impl_FindRoot.f kj9 bt314.1 bt314.2).bind fun bt318 => ((spec_FindRoot.f kj9 bt314.1 bt314.2).bind fun bt321 => (if (bt318.2.2 == bt321.2.2) = true then (if bt318.1 = bt321.1 then (some (bt318.2.1 == bt321.2.1)) else (some false)) else (some false))))) = some r := by rw [if_neg (show ¬ (false = true) by decide)] at H; exact H
            clear H
            have H := H1
            clear H1
            replace H := Option.bind_eq_some_iff.mp H
            obtain ⟨⟨t314, t315⟩, A820, H⟩ := H
            replace H : ((impl_FindRoot.f kj9 t314 t315).bind fun bt318 => ((spec_FindRoot.f kj9 t314 t315).bind fun bt321 => (if (bt318.2.2 == bt321.2.2) = true then (if bt318.1 = bt321.1 then (some (bt318.2.1 == bt321.2.1)) else (some false)) else (some false)))) = some r := H
            have A82 := Aside0.mk A820
            clear A820
            replace H := Option.bind_eq_some_iff.mp H
            obtain ⟨⟨t318, t319, t320⟩, A830, H⟩ := H
            replace H : ((spec_FindRoot.f kj9 t314 t315).bind fun bt321 => (if (t320 == bt321.2.2) = true then (if t318 = bt321.1 then (some (t319 == bt321.2.1)) else (some false)) else (some false))) = some r := H
            have A83 := Aside0.mk A830
            clear A830
            replace H := Option.bind_eq_some_iff.mp H
            obtain ⟨⟨t321, t322, t323⟩, A840, H⟩ := H
            replace H : (if (t320 == t323) = true then (if t318 = t321 then (some (t319 == t322)) else (some false)) else (some false)) = some r := H
            have A84 := Aside0.mk A840
            clear A840
            by_cases c85 : (t320 == t323) = true
            · rw [if_pos c85] at H
              have c85b0 : (t320 == t323) = true := c85
              (try (have c85b1 : decide (t320 = t323) = true := by simpa using c85))
              (try (have c85b2 : (t320 == t323) = true := by simpa using c85))
              clear c85
              by_cases c86 : t318 = t321
              · rw [if_pos c86] at H
                have c86b0 : (t318 == t321) = true := beq_iff_eq.mpr c86
                have c86b1 : (t318 != t321) = false := bne_eq_false_iff_eq.mpr c86
                clear c86
                obtain rfl := Option.some.inj H
                go_wp2_with (first | ((with_reducible refine gate_callee (f := 26) rfl ?_); refine goesL_ (some 157) rfl rfl Try.func26 (by kernel_rfl) rfl #[.slice A1 l1.length c1] rfl (by (try simp only [List.map_toArray, List.map_cons, List.map_nil]); first | done | rfl | (simp only [List.length_drop, List.length_take]; rfl)) ?_; (with_reducible refine (spec_DrawFindRoot.calls kj9 _ _ l1 t314 t315 _ ?side1 ?side2 A82.out).mono ?_); (case side1 => repeat (first | exact (Kd.C_below HR1.out HB.out) | (with_reducible refine Kd.C_alloc ?_ _) | (with_reducible refine Kd.C_drewN ?_ _) | (with_reducible refine Kd.C_drew ?_))); (case side2 => exact HC1.out); rintro e w87 ⟨v316, rfl, ho0, hb⟩; refine ⟨_, rfl, ?_⟩; have n0_ := Aside0.mk (Kd.R_elder' (by (with_reducible repeat (first | apply Kd.R_alloc | apply Kd.R_drewN | apply Kd.R_drew)); exact HO_8.out) (Kd.R_base ho0) hb); have n1_ := Aside0.mk (Kd.R_elder' (by (with_reducible repeat (first | apply Kd.R_alloc | apply Kd.R_drewN | apply Kd.R_drew)); exact HO_12.out) (Kd.R_base ho0) hb); have n2_ := Aside0.mk (Kd.R_lower (Kd.R_new' (Kd.R_new' ho0 (Kd.R_lt (by (with_reducible repeat (first | apply Kd.R_alloc | apply Kd.R_drewN | apply Kd.R_drew)); exact HO_8.out))) (Kd.R_lt (by (with_reducible repeat (first | apply Kd.R_alloc | apply Kd.R_drewN | apply Kd.R_drew)); exact HO_12.out))) (below_size (by repeat (first | (with_reducible first | exact HB.out | apply below_alloc | apply pw_below_drewN | apply below_drew1) | exact HB.out)))); have n3_ := Aside0.mk (below_step (by repeat (first | (with_reducible first | exact HB.out | apply below_alloc | apply pw_below_drewN | apply below_drew1) | exact HB.out)) hb); clear HO_8; clear HO_12; clear HB; have HO_8 := n0_; have HO_12 := n1_; have HO317 := n2_; have HB := n3_; clear n0_ n1_ n2_ n3_; (try clear hb); (try clear hb2); (try clear hk); (try clear hi); (try clear ho0); obtain ⟨Ao88, co88, eo88⟩ := Kd.R_slice HO317.out; subst eo88) | ((with_reducible refine gate_callee (f := 24) rfl ?_); refine goesL_ (some 163) rfl rfl Try.func24 (by kernel_rfl) rfl #[.slice Ao88 t314.length co88, .int .i64 t315] rfl (by (try simp only [List.map_toArray, List.map_cons, List.map_nil]); first | done | rfl | (simp only [List.length_drop, List.length_take]; rfl)) ?_; (with_reducible refine (impl_FindRoot.calls kj9 _ _ t314 t315 t318 t319 t320 _ ?side1 ?side2 A83.out).mono ?_); (case side1 => repeat (first | exact (Kd.R_reads' HO317.out).2.2 | (with_reducible refine Kd.C_alloc ?_ _) | (with_reducible refine Kd.C_drewN ?_ _) | (with_reducible refine Kd.C_drew ?_))); (case side2 => exact (Kd.R_reads' HO317.out).2.1); rintro e w' ⟨rfl, ⟨nd, rfl⟩⟩; refine ⟨_, rfl, ?_⟩) | ((with_reducible refine gate_callee (f := 27) rfl ?_); refine goesL_ (some 170) rfl rfl Try.func27 (by kernel_rfl) rfl #[.slice Ao88 t314.length co88, .int .i64 t315] rfl (by (try simp only [List.map_toArray, List.map_cons, List.map_nil]); first | done | rfl | (simp only [List.length_drop, List.length_take]; rfl)) ?_; (with_reducible refine (spec_FindRoot.calls kj9 _ _ t314 t315 t321 t322 t323 _ ?side1 ?side2 A84.out).mono ?_); (case side1 => repeat (first | exact (Kd.R_reads' HO317.out).2.2 | (with_reducible refine Kd.C_alloc ?_ _) | (with_reducible refine Kd.C_drewN ?_ _) | (with_reducible refine Kd.C_drew ?_))); (case side2 => exact (Kd.R_reads' HO317.out).2.1); rintro e w' ⟨rfl, ⟨nd, rfl⟩⟩; refine ⟨_, rfl, ?_⟩))
                go_ret
                exact ⟨by first | rfl | (simp [errW_none, errW_some] <;> rfl) | (simp [*, errW_none, errW_some] <;> rfl), by repeat (first | (with_reducible first | exact HB.out | apply below_alloc | apply pw_below_drewN | apply below_drew1) | exact HB.out)⟩
              · rw [if_neg c86] at H
                have c86b0 : (t318 == t321) = false := beq_eq_false_iff_ne.mpr c86
                have c86b1 : (t318 != t321) = true := bne_iff_ne.mpr c86
                obtain rfl := Option.some.inj H
                go_wp2_with (first | ((with_reducible refine gate_callee (f := 26) rfl ?_); refine goesL_ (some 157) rfl rfl Try.func26 (by kernel_rfl) rfl #[.slice A1 l1.length c1] rfl (by (try simp only [List.map_toArray, List.map_cons, List.map_nil]); first | done | rfl | (simp only [List.length_drop, List.length_take]; rfl)) ?_; (with_reducible refine (spec_DrawFindRoot.calls kj9 _ _ l1 t314 t315 _ ?side1 ?side2 A82.out).mono ?_); (case side1 => repeat (first | exact (Kd.C_below HR1.out HB.out) | (with_reducible refine Kd.C_alloc ?_ _) | (with_reducible refine Kd.C_drewN ?_ _) | (with_reducible refine Kd.C_drew ?_))); (case side2 => exact HC1.out); rintro e w89 ⟨v316, rfl, ho0, hb⟩; refine ⟨_, rfl, ?_⟩; have n0_ := Aside0.mk (Kd.R_elder' (by (with_reducible repeat (first | apply Kd.R_alloc | apply Kd.R_drewN | apply Kd.R_drew)); exact HO_8.out) (Kd.R_base ho0) hb); have n1_ := Aside0.mk (Kd.R_elder' (by (with_reducible repeat (first | apply Kd.R_alloc | apply Kd.R_drewN | apply Kd.R_drew)); exact HO_12.out) (Kd.R_base ho0) hb); have n2_ := Aside0.mk (Kd.R_lower (Kd.R_new' (Kd.R_new' ho0 (Kd.R_lt (by (with_reducible repeat (first | apply Kd.R_alloc | apply Kd.R_drewN | apply Kd.R_drew)); exact HO_8.out))) (Kd.R_lt (by (with_reducible repeat (first | apply Kd.R_alloc | apply Kd.R_drewN | apply Kd.R_drew)); exact HO_12.out))) (below_size (by repeat (first | (with_reducible first | exact HB.out | apply below_alloc | apply pw_below_drewN | apply below_drew1) | exact HB.out)))); have n3_ := Aside0.mk (below_step (by repeat (first | (with_reducible first | exact HB.out | apply below_alloc | apply pw_below_drewN | apply below_drew1) | exact HB.out)) hb); clear HO_8; clear HO_12; clear HB; have HO_8 := n0_; have HO_12 := n1_; have HO317 := n2_; have HB := n3_; clear n0_ n1_ n2_ n3_; (try clear hb); (try clear hb2); (try clear hk); (try clear hi); (try clear ho0); obtain ⟨Ao90, co90, eo90⟩ := Kd.R_slice HO317.out; subst eo90) | ((with_reducible refine gate_callee (f := 24) rfl ?_); refine goesL_ (some 163) rfl rfl Try.func24 (by kernel_rfl) rfl #[.slice Ao90 t314.length co90, .int .i64 t315] rfl (by (try simp only [List.map_toArray, List.map_cons, List.map_nil]); first | done | rfl | (simp only [List.length_drop, List.length_take]; rfl)) ?_; (with_reducible refine (impl_FindRoot.calls kj9 _ _ t314 t315 t318 t319 t320 _ ?side1 ?side2 A83.out).mono ?_); (case side1 => repeat (first | exact (Kd.R_reads' HO317.out).2.2 | (with_reducible refine Kd.C_alloc ?_ _) | (with_reducible refine Kd.C_drewN ?_ _) | (with_reducible refine Kd.C_drew ?_))); (case side2 => exact (Kd.R_reads' HO317.out).2.1); rintro e w' ⟨rfl, ⟨nd, rfl⟩⟩; refine ⟨_, rfl, ?_⟩) | ((with_reducible refine gate_callee (f := 27) rfl ?_); refine goesL_ (some 170) rfl rfl Try.func27 (by kernel_rfl) rfl #[.slice Ao90 t314.length co90, .int .i64 t315] rfl (by (try simp only [List.map_toArray, List.map_cons, List.map_nil]); first | done | rfl | (simp only [List.length_drop, List.length_take]; rfl)) ?_; (with_reducible refine (spec_FindRoot.calls kj9 _ _ t314 t315 t321 t322 t323 _ ?side1 ?side2 A84.out).mono ?_); (case side1 => repeat (first | exact (Kd.R_reads' HO317.out).2.2 | (with_reducible refine Kd.C_alloc ?_ _) | (with_reducible refine Kd.C_drewN ?_ _) | (with_reducible refine Kd.C_drew ?_))); (case side2 => exact (Kd.R_reads' HO317.out).2.1); rintro e w' ⟨rfl, ⟨nd, rfl⟩⟩; refine ⟨_, rfl, ?_⟩))
                go_ret
                exact ⟨by first | rfl | (simp [errW_none, errW_some] <;> rfl) | (simp [*, errW_none, errW_some] <;> rfl), by repeat (first | (with_reducible first | exact HB.out | apply below_alloc | apply pw_below_drewN | apply below_drew1) | exact HB.out)⟩
            · rw [if_neg c85] at H
              have c85b0 : (t320 == t323) = false := by simpa using c85
              (try (have c85b1 : decide (t320 = t323) = false := by simpa using c85))
              (try (have c85b2 : (t320 == t323) = false := by simpa using c85))
              (try (have c85b3 : ¬ (t320 = t323) := by simpa using c85))
              clear c85
              obtain rfl := Option.some.inj H
              go_wp2_with (first | ((with_reducible refine gate_callee (f := 26) rfl ?_); refine goesL_ (some 157) rfl rfl Try.func26 (by kernel_rfl) rfl #[.slice A1 l1.length c1] rfl (by (try simp only [List.map_toArray, List.map_cons, List.map_nil]); first | done | rfl | (simp only [List.length_drop, List.length_take]; rfl)) ?_; (with_reducible refine (spec_DrawFindRoot.calls kj9 _ _ l1 t314 t315 _ ?side1 ?side2 A82.out).mono ?_); (case side1 => repeat (first | exact (Kd.C_below HR1.out HB.out) | (with_reducible refine Kd.C_alloc ?_ _) | (with_reducible refine Kd.C_drewN ?_ _) | (with_reducible refine Kd.C_drew ?_))); (case side2 => exact HC1.out); rintro e w91 ⟨v316, rfl, ho0, hb⟩; refine ⟨_, rfl, ?_⟩; have n0_ := Aside0.mk (Kd.R_elder' (by (with_reducible repeat (first | apply Kd.R_alloc | apply Kd.R_drewN | apply Kd.R_drew)); exact HO_8.out) (Kd.R_base ho0) hb); have n1_ := Aside0.mk (Kd.R_elder' (by (with_reducible repeat (first | apply Kd.R_alloc | apply Kd.R_drewN | apply Kd.R_drew)); exact HO_12.out) (Kd.R_base ho0) hb); have n2_ := Aside0.mk (Kd.R_lower (Kd.R_new' (Kd.R_new' ho0 (Kd.R_lt (by (with_reducible repeat (first | apply Kd.R_alloc | apply Kd.R_drewN | apply Kd.R_drew)); exact HO_8.out))) (Kd.R_lt (by (with_reducible repeat (first | apply Kd.R_alloc | apply Kd.R_drewN | apply Kd.R_drew)); exact HO_12.out))) (below_size (by repeat (first | (with_reducible first | exact HB.out | apply below_alloc | apply pw_below_drewN | apply below_drew1) | exact HB.out)))); have n3_ := Aside0.mk (below_step (by repeat (first | (with_reducible first | exact HB.out | apply below_alloc | apply pw_below_drewN | apply below_drew1) | exact HB.out)) hb); clear HO_8; clear HO_12; clear HB; have HO_8 := n0_; have HO_12 := n1_; have HO317 := n2_; have HB := n3_; clear n0_ n1_ n2_ n3_; (try clear hb); (try clear hb2); (try clear hk); (try clear hi); (try clear ho0); obtain ⟨Ao92, co92, eo92⟩ := Kd.R_slice HO317.out; subst eo92) | ((with_reducible refine gate_callee (f := 24) rfl ?_); refine goesL_ (some 163) rfl rfl Try.func24 (by kernel_rfl) rfl #[.slice Ao92 t314.length co92, .int .i64 t315] rfl (by (try simp only [List.map_toArray, List.map_cons, List.map_nil]); first | done | rfl | (simp only [List.length_drop, List.length_take]; rfl)) ?_; (with_reducible refine (impl_FindRoot.calls kj9 _ _ t314 t315 t318 t319 t320 _ ?side1 ?side2 A83.out).mono ?_); (case side1 => repeat (first | exact (Kd.R_reads' HO317.out).2.2 | (with_reducible refine Kd.C_alloc ?_ _) | (with_reducible refine Kd.C_drewN ?_ _) | (with_reducible refine Kd.C_drew ?_))); (case side2 => exact (Kd.R_reads' HO317.out).2.1); rintro e w' ⟨rfl, ⟨nd, rfl⟩⟩; refine ⟨_, rfl, ?_⟩) | ((with_reducible refine gate_callee (f := 27) rfl ?_); refine goesL_ (some 170) rfl rfl Try.func27 (by kernel_rfl) rfl #[.slice Ao92 t314.length co92, .int .i64 t315] rfl (by (try simp only [List.map_toArray, List.map_cons, List.map_nil]); first | done | rfl | (simp only [List.length_drop, List.length_take]; rfl)) ?_; (with_reducible refine (spec_FindRoot.calls kj9 _ _ t314 t315 t321 t322 t323 _ ?side1 ?side2 A84.out).mono ?_); (case side1 => repeat (first | exact (Kd.R_reads' HO317.out).2.2 | (with_reducible refine Kd.C_alloc ?_ _) | (with_reducible refine Kd.C_drewN ?_ _) | (with_reducible refine Kd.C_drew ?_))); (case side2 => exact (Kd.R_reads' HO317.out).2.1); rintro e w' ⟨rfl, ⟨nd, rfl⟩⟩; refine ⟨_, rfl, ?_⟩))
              go_ret
              exact ⟨by first | rfl | (simp [errW_none, errW_some] <;> rfl) | (simp [*, errW_none, errW_some] <;> rfl), by repeat (first | (with_reducible first | exact HB.out | apply below_alloc | apply pw_below_drewN | apply below_drew1) | exact HB.out)⟩

/-- THE ONE PURE STATEMENT of laws_FnUnion: yours. -/
def laws_FnUnion.Pure : Prop := ∀ (l0 : List Int) (l1 : List Int), l0.length ≤ maxLen → l0.length * 1 ≤ 140737488351232 → (∀ x ∈ l0, (Lit.int .u8 x).wf = true) → l1.length ≤ maxLen → l1.length * 1 ≤ 140737488351232 → (∀ x ∈ l1, (Lit.int .u8 x).wf = true) → ∃ k, laws_FnUnion.f k l0 l1 = some true
theorem laws_FnUnion.walk (P : laws_FnUnion.Pure) (a0 : Option Addr) (len0 cap0 : Nat) (z0 : List Int) (a1 : Option Addr) (len1 cap1 : Nat) (z1 : List Int) (w : World) (w0 : (a0 = none ∧ len0 = 0 ∧ cap0 = 0 ∧ z0 = []) ∨ ∃ x, a0 = some x ∧ len0 ≤ cap0 ∧ cap0 ≤ maxLen ∧ z0.length = cap0 ∧ (∀ i, i < z0.length → w.cell? (x.add i) = some (.int .u8 (z0.getD i 0))) ∧ ∀ n ∈ z0, (Lit.int .u8 n).wf = true) (y0 : len0 * 1 ≤ 140737488351232) (w1 : (a1 = none ∧ len1 = 0 ∧ cap1 = 0 ∧ z1 = []) ∨ ∃ x, a1 = some x ∧ len1 ≤ cap1 ∧ cap1 ≤ maxLen ∧ z1.length = cap1 ∧ (∀ i, i < z1.length → w.cell? (x.add i) = some (.int .u8 (z1.getD i 0))) ∧ ∀ n ∈ z1, (Lit.int .u8 n).wf = true) (y1 : len1 * 1 ≤ 140737488351232) :
    Calls Try.prog 4 #[.slice a0 len0 cap0, .slice a1 len1 cap1] w fun e w' => e = .returned (.bool true) ∧ Below w.heap.size w w' := by
  obtain ⟨l0, rfl, hr0, hm0, hw0, hc0⟩ := ReadsInt.ofRowC w0
  obtain ⟨l1, rfl, hr1, hm1, hw1, hc1⟩ := ReadsInt.ofRowC w1
  obtain ⟨k, h⟩ := P l0 l1 hm0 y0 hw0 hm1 y1 hw1
  refine (laws_FnUnion.calls k _ _ l0 _ _ l1 true w (Kd.C_of_reads (d := (0 : Int)) (h1 := fun _ => rfl) hr0) hc0 (Kd.C_of_reads (d := (0 : Int)) (h1 := fun _ => rfl) hr1) hc1 h).mono ?_
  rintro e w' ⟨rfl, hd⟩
  exact ⟨rfl, hd⟩

end Go.Proofs.Ytceeocgpcagkjaa.PA
