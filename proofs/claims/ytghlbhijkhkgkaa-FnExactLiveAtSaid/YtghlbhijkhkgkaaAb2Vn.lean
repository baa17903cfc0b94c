/- The flow seat: (*Block).used and uses by hand, for whatever function they are handed. -/
import Derived.Test.YtghlbhijkhkgkaaAb2Vl
namespace Go.Proofs.Ytghlbhijkhkgkaa.PA
open Go.RowKit Go.Proofs.YtghlbhijkhkgkaaW.PrintWords Go.Proofs.YtghlbhijkhkgkaaW.PrintLast Go.Proofs.YtghlbhijkhkgkaaW.PrintMore
set_option linter.unusedVariables false
/-- A function that is handed places of numbers, one behind the other; what holds once it has seen some of them. -/
structure Stepper (gf : Nat) (cap : Array Value) (w : World) (ok : Int → Prop) (Inv : List Int → World → Prop) : Prop where
  below : ∀ vis W, Inv vis W → Below w.heap.size w W
  enters : ∀ args W, (callFunc gf args).run Try.prog W = .ok (.enter gf args) W
  step : ∀ vis W ad x, Inv vis W → ok x → w.cell? ad = some (.int .i64 x) → Calls Try.prog gf (#[.pointer (some ad)] ++ cap) W fun e W' => e = .returned (.tuple #[]) ∧ Inv (vis ++ [x]) W'
theorem take_flat {α β : Type} (xs : List α) (f : α → List β) (z : α) (i : Nat) (h : i < xs.length) : (xs.take (i + 1)).flatMap f = (xs.take i).flatMap f ++ f (xs.getD i z) := by
  rw [List.take_succ_eq_append_getElem h, List.flatMap_append, List.getD_eq_getElem?_getD, List.getElem?_eq_getElem h]
  simp
theorem take_one {β : Type} (xs : List β) (z : β) (i : Nat) (h : i < xs.length) : xs.take (i + 1) = xs.take i ++ [xs.getD i z] := by
  rw [List.take_succ_eq_append_getElem h, List.getD_eq_getElem?_getD, List.getElem?_eq_getElem h]
  rfl
section
variable {gf : Nat} {cap : Array Value} {w : World} {ok : Int → Prop} {Inv : List Int → World → Prop}
set_option maxHeartbeats 2000000 in
set_option maxRecDepth 100000 in
theorem used_any (hS : Stepper gf cap w ok Inv) (adb : Addr) (b : S87) (A4 : Option Addr) (c4 : Nat) (hx2 : w.cell? ⟨adb.block, adb.off + 2, none⟩ = some (.int .i64 b.f2)) (hx3 : w.cell? ⟨adb.block, adb.off + 3, none⟩ = some (.int .i64 b.f3)) (hx4 : w.cell? ⟨adb.block, adb.off + 4, none⟩ = some (.slice A4 b.f4.length c4))
    (hi4 : Kd.C k109 w A4 b.f4.length b.f4) (hok3 : b.f2 ≠ 2 → ok b.f3) (hok4 : ∀ x ∈ b.f4, ∀ y ∈ x.f1, ok y) (vis : List Int) (W : World) (hI : Inv vis W) :
    Calls Try.prog 88 #[.pointer (some adb), .func (.func gf) #[] cap] W fun e W' => e = .returned (.tuple #[]) ∧ Inv (vis ++ endL b) W' := by
  have HS := Aside0.mk hS
  have eg := hS.enters
  have HX2 := Aside0.mk hx2
  have HX3 := Aside0.mk hx3
  have HX4 := Aside0.mk hx4
  have HI4 := Aside0.mk hi4
  have HO3 := Aside0.mk hok3
  have HO4 := Aside0.mk hok4
  have HI := Aside0.mk hI
  have hm4 := Kd.C_max hi4
  have y2 := pw_cell_below (hS.below _ _ hI) hx2
  have y3 := pw_cell_below (hS.below _ _ hI) hx3
  have y4 := pw_cell_below (hS.below _ _ hI) hx4
  clear hS hx2 hx3 hx4 hi4 hok3 hok4 hI
  by_cases h2 : b.f2 = 2
  · have c2 : (b.f2 != 2) = false := by rw [h2]; rfl
    have HEND := Aside0.mk (show vis ++ endL b = vis ++ b.f4.flatMap (·.f1) by rw [endL, if_pos h2]; rfl)
    clear h2
    go_enter Try.func88, Try.ntmps88
    go_wp2
    go_loopg [21] b.f4.length (fun gg s21 wr => ∃ i : Nat, s21 = .int .i64 (i : Int) ∧ Aside0 (i ≤ b.f4.length ∧ b.f4.length - i ≤ gg) ∧ Aside0 (Inv (vis ++ (b.f4.take i).flatMap (·.f1)) wr))
    case atStart => exact ⟨0, rfl, ⟨by omega, by omega⟩, ⟨by simpa using HI.out⟩⟩
    case round =>
      clear y2 y3 y4 HI
      obtain ⟨i, rfl, HA, HI⟩ := hrel
      obtain ⟨wo, rfl⟩ : ∃ wo : World, wo = wr := ⟨_, rfl⟩
      have y4 := pw_cell_below (HS.out.below _ _ HI.out) HX4.out
      by_cases hlt : i < b.f4.length
      · obtain ⟨ad, B1, d1, e, hz0, hz1, hl1, hi1⟩ := at_T109 HI4.out (i : Int) (by omega) (by omega)
        cases e
        simp only [Int.toNat_natCast] at hz0 hz1
        have HZ1 := Aside0.mk hz1
        have u1 := pw_cell_below (HS.out.below _ _ HI.out) hz1
        have HJ1 := Aside0.mk hi1
        have hmj := Kd.C_max hi1
        have HL := Aside0.mk hlt
        have HM := Aside0.mk (show rd_T109 b.f4 (i : Int) ∈ b.f4 from getD_mem b.f4 z109 i hlt)
        have HFL := Aside0.mk (show (b.f4.take (i + 1)).flatMap (·.f1) = (b.f4.take i).flatMap (·.f1) ++ (rd_T109 b.f4 (i : Int)).f1 from take_flat b.f4 (·.f1) z109 i hlt)
        obtain ⟨jt, hjt⟩ : ∃ z, z = rd_T109 b.f4 (i : Int) := ⟨_, rfl⟩
        rw [← hjt] at u1 HZ1 HJ1 hmj HM HFL
        clear hz0 hz1 hl1 hi1 hjt
        go_wp2
        go_loopg [33] jt.f1.length (fun gg s33 wi => ∃ j : Nat, s33 = .int .i64 (j : Int) ∧ Aside0 (j ≤ jt.f1.length ∧ jt.f1.length - j ≤ gg) ∧ Aside0 (Inv (vis ++ (b.f4.take i).flatMap (·.f1) ++ jt.f1.take j) wi))
        case atStart => exact ⟨0, rfl, ⟨by omega, by omega⟩, ⟨by simpa using HI.out⟩⟩
        case round =>
          clear u1 y4 HI
          obtain ⟨j, rfl, HAj, HIj⟩ := hrel
          have y4 := pw_cell_below (HS.out.below _ _ HIj.out) HX4.out
          have u1 := pw_cell_below (HS.out.below _ _ HIj.out) HZ1.out
          by_cases hltj : j < jt.f1.length
          · obtain ⟨ad3, e3, hv⟩ := Kd.at_int HJ1.out (j : Int) (by omega) (by omega)
            cases e3
            simp only [Int.toNat_natCast] at hv
            have HLj := Aside0.mk hltj
            have hst := HS.out.step _ _ _ _ HIj.out (HO4.out jt HM.out (rd jt.f1 (j : Int)) (getD_mem jt.f1 0 j hltj)) hv
            have HST := Aside0.mk hst
            clear hst hv
            go_wp2_with (go_at_fn gf; refine (HST.out).mono ?_; rintro e w' ⟨rfl, hI'⟩; have HI' := Aside0.mk hI'; clear hI' HST)
            go_roundg (jt.f1.length - (j + 1))
            case measure => have := HAj.out; have := HLj.out; omega
            case rel => exact ⟨j + 1, by go_num, ⟨by have := HLj.out; omega, by omega⟩, ⟨by rw [take_one jt.f1 0 j HLj.out, ← List.append_assoc]; exact HI'.out⟩⟩
          · have e : j = jt.f1.length := by have := HAj.out; omega
            have HI' := Aside0.mk (show Inv (vis ++ (b.f4.take i).flatMap (·.f1) ++ jt.f1) wr by have := HIj.out; rw [e, List.take_length] at this; exact this)
            go_wp2
            go_roundg (b.f4.length - (i + 1))
            case measure => have := HA.out; have := HL.out; omega
            case rel => exact ⟨i + 1, by go_num, ⟨by have := HL.out; omega, by omega⟩, ⟨by rw [HFL.out, ← List.append_assoc]; exact HI'.out⟩⟩
      · have e : i = b.f4.length := by have := HA.out; omega
        have HIE := Aside0.mk (show Inv (vis ++ endL b) wo by have := HI.out; rw [e, List.take_length] at this; rw [HEND.out]; exact this)
        go_wp2
        go_end0
        exact ⟨rfl, HIE.out⟩
  · have c2 : (b.f2 != 2) = true := bne_iff_ne.mpr h2
    have HEND := Aside0.mk (show vis ++ endL b = (vis ++ [b.f3]) ++ b.f4.flatMap (·.f1) by rw [endL, if_neg h2, List.append_assoc])
    have HST3 := Aside0.mk (HS.out.step _ _ _ _ HI.out (HO3.out h2) HX3.out)
    clear h2 y3
    go_enter Try.func88, Try.ntmps88
    go_wp2_with (go_at_fn gf; refine (HST3.out).mono ?_; rintro e w1 ⟨rfl, hI'⟩; have y4 := pw_cell_below (HS.out.below _ _ hI') HX4.out; have HI := Aside0.mk hI'; clear hI' HST3)
    have y3 := trivial
    go_loopg [21] b.f4.length (fun gg s21 wr => ∃ i : Nat, s21 = .int .i64 (i : Int) ∧ Aside0 (i ≤ b.f4.length ∧ b.f4.length - i ≤ gg) ∧ Aside0 (Inv ((vis ++ [b.f3]) ++ (b.f4.take i).flatMap (·.f1)) wr))
    case atStart => exact ⟨0, rfl, ⟨by omega, by omega⟩, ⟨by simpa using HI.out⟩⟩
    case round =>
      clear y2 y3 y4 HI
      obtain ⟨i, rfl, HA, HI⟩ := hrel
      obtain ⟨wo, rfl⟩ : ∃ wo : World, wo = wr := ⟨_, rfl⟩
      have y4 := pw_cell_below (HS.out.below _ _ HI.out) HX4.out
      by_cases hlt : i < b.f4.length
      · obtain ⟨ad, B1, d1, e, hz0, hz1, hl1, hi1⟩ := at_T109 HI4.out (i : Int) (by omega) (by omega)
        cases e
        simp only [Int.toNat_natCast] at hz0 hz1
        have HZ1 := Aside0.mk hz1
        have u1 := pw_cell_below (HS.out.below _ _ HI.out) hz1
        have HJ1 := Aside0.mk hi1
        have hmj := Kd.C_max hi1
        have HL := Aside0.mk hlt
        have HM := Aside0.mk (show rd_T109 b.f4 (i : Int) ∈ b.f4 from getD_mem b.f4 z109 i hlt)
        have HFL := Aside0.mk (show (b.f4.take (i + 1)).flatMap (·.f1) = (b.f4.take i).flatMap (·.f1) ++ (rd_T109 b.f4 (i : Int)).f1 from take_flat b.f4 (·.f1) z109 i hlt)
        obtain ⟨jt, hjt⟩ : ∃ z, z = rd_T109 b.f4 (i : Int) := ⟨_, rfl⟩
        rw [← hjt] at u1 HZ1 HJ1 hmj HM HFL
        clear hz0 hz1 hl1 hi1 hjt
        go_wp2
        go_loopg [33] jt.f1.length (fun gg s33 wi => ∃ j : Nat, s33 = .int .i64 (j : Int) ∧ Aside0 (j ≤ jt.f1.length ∧ jt.f1.length - j ≤ gg) ∧ Aside0 (Inv ((vis ++ [b.f3]) ++ (b.f4.take i).flatMap (·.f1) ++ jt.f1.take j) wi))
        case atStart => exact ⟨0, rfl, ⟨by omega, by omega⟩, ⟨by simpa using HI.out⟩⟩
        case round =>
          clear u1 y4 HI
          obtain ⟨j, rfl, HAj, HIj⟩ := hrel
          have y4 := pw_cell_below (HS.out.below _ _ HIj.out) HX4.out
          have u1 := pw_cell_below (HS.out.below _ _ HIj.out) HZ1.out
          by_cases hltj : j < jt.f1.length
          · obtain ⟨ad3, e3, hv⟩ := Kd.at_int HJ1.out (j : Int) (by omega) (by omega)
            cases e3
            simp only [Int.toNat_natCast] at hv
            have HLj := Aside0.mk hltj
            have hst := HS.out.step _ _ _ _ HIj.out (HO4.out jt HM.out (rd jt.f1 (j : Int)) (getD_mem jt.f1 0 j hltj)) hv
            have HST := Aside0.mk hst
            clear hst hv
            go_wp2_with (go_at_fn gf; refine (HST.out).mono ?_; rintro e w' ⟨rfl, hI'⟩; have HI' := Aside0.mk hI'; clear hI' HST)
            go_roundg (jt.f1.length - (j + 1))
            case measure => have := HAj.out; have := HLj.out; omega
            case rel => exact ⟨j + 1, by go_num, ⟨by have := HLj.out; omega, by omega⟩, ⟨by rw [take_one jt.f1 0 j HLj.out, ← List.append_assoc]; exact HI'.out⟩⟩
          · have e : j = jt.f1.length := by have := HAj.out; omega
            have HI' := Aside0.mk (show Inv ((vis ++ [b.f3]) ++ (b.f4.take i).flatMap (·.f1) ++ jt.f1) wr by have := HIj.out; rw [e, List.take_length] at this; exact this)
            go_wp2
            go_roundg (b.f4.length - (i + 1))
            case measure => have := HA.out; have := HL.out; omega
            case rel => exact ⟨i + 1, by go_num, ⟨by have := HL.out; omega, by omega⟩, ⟨by rw [HFL.out, ← List.append_assoc]; exact HI'.out⟩⟩
      · have e : i = b.f4.length := by have := HA.out; omega
        have HIE := Aside0.mk (show Inv (vis ++ endL b) wo by have := HI.out; rw [e, List.take_length] at this; rw [HEND.out]; exact this)
        go_wp2
        go_end0
        exact ⟨rfl, HIE.out⟩
end
/-- What a block uses, in the order of the walk. -/
def useL (b : S87) : List Int := insL b ++ endL b
section
variable {gf : Nat} {cap : Array Value} {w : World} {ok : Int → Prop} {Inv : List Int → World → Prop}
end
end Go.Proofs.Ytghlbhijkhkgkaa.PA
