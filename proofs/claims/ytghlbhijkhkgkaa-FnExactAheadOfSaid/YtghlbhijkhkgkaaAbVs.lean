/- The flow seat: the reference's GoodFunc by hand. -/
import Derived.Test.YtghlbhijkhkgkaaAbV0
import Derived.IntWalk
namespace Go.Proofs.Ytghlbhijkhkgkaa.PA
open Go.RowKit Go.Proofs.YtghlbhijkhkgkaaW.PrintWords Go.Proofs.YtghlbhijkhkgkaaW.PrintLast Go.Proofs.YtghlbhijkhkgkaaW.PrintMore
set_option linter.unusedVariables false
theorem l1In_any (n a b : Int) (w : World) : Calls Try.prog 90 #[.int .i64 n, .int .i64 a, .int .i64 b] w fun e w' => e = .returned (.bool (within n a b)) ∧ w = w' := by
  by_cases h : a ≤ n
  · have h1 : decide (n ≥ a) = true := decide_eq_true h
    go_enter Try.func90, Try.ntmps90
    go_wp2
    go_ret
    exact ⟨by simp [within, h], rfl⟩
  · have h1 : decide (n ≥ a) = false := decide_eq_false h
    go_enter Try.func90, Try.ntmps90
    go_wp2
    go_ret
    exact ⟨by simp [within]; intro h'; omega, rfl⟩
theorem same_w {P : Program} {f : Nat} {args : Array Value} {w : World} {v : Value} (h : Calls P f args w fun e w' => e = .returned v ∧ w = w') : Calls P f args w fun e w' => e = .returned v ∧ w' = w := h.mono fun _ _ h => ⟨h.1, h.2.symm⟩
def ar1 (op : Int) : Int := if op = 1 ∨ op = 2 then 0 else if op = 3 then 1 else if op = 11 then 3 else if within op 4 10 = true then 2 else -1
theorem l1Arity_any (op : Int) (w : World) : Calls Try.prog 143 #[.int .i64 op] w fun e w' => e = .returned (.int .i64 (ar1 op)) ∧ w = w' := by
  by_cases h1 : op = 1
  · subst h1
    go_enter Try.func143, Try.ntmps143
    go_wp2
    go_ret
    exact ⟨rfl, rfl⟩
  by_cases h2 : op = 2
  · subst h2
    go_enter Try.func143, Try.ntmps143
    go_wp2
    go_ret
    exact ⟨rfl, rfl⟩
  by_cases h3 : op = 3
  · subst h3
    go_enter Try.func143, Try.ntmps143
    go_wp2
    go_ret
    exact ⟨rfl, rfl⟩
  by_cases h11 : op = 11
  · subst h11
    go_enter Try.func143, Try.ntmps143
    go_wp2
    go_ret
    exact ⟨rfl, rfl⟩
  have b1 : (op == 1) = false := beq_eq_false_iff_ne.mpr h1
  have b2 : (op == 2) = false := beq_eq_false_iff_ne.mpr h2
  have b3 : (op == 3) = false := beq_eq_false_iff_ne.mpr h3
  have b11 : (op == 11) = false := beq_eq_false_iff_ne.mpr h11
  have HE := Aside0.mk (show ar1 op = if within op 4 10 = true then 2 else -1 by simp [ar1, h1, h2, h3, h11])
  clear h1 h2 h3 h11
  rcases Bool.eq_false_or_eq_true (within op 4 10) with q | q
  · have HE2 := Aside0.mk (HE.out.trans (if_pos q))
    go_enter Try.func143, Try.ntmps143
    go_wp2_with (go_at_call 90; refine (l1In_any _ _ _ _).mono ?_; rintro e w' ⟨rfl, rfl⟩)
    go_ret
    exact ⟨by rw [HE2.out]; rfl, rfl⟩
  · have HE2 := Aside0.mk (HE.out.trans (if_neg (by rw [q]; decide)))
    go_enter Try.func143, Try.ntmps143
    go_wp2_with (go_at_call 90; refine (l1In_any _ _ _ _).mono ?_; rintro e w' ⟨rfl, rfl⟩)
    go_ret
    exact ⟨by rw [HE2.out]; rfl, rfl⟩
theorem argF_ar1 (op : Int) (h1 : op ≠ 12) (h2 : op ≠ 13) (h3 : op ≠ 2) : argF op = ar1 op := by
  simp only [argF, ar1, arF, within, h1, h2, h3, if_false, Bool.and_eq_true, decide_eq_true_eq, ne_eq, not_false_iff, and_true, or_false]
  repeat' split
  all_goals omega
theorem l12Arity_any (op : Int) (w : World) : Calls Try.prog 111 #[.int .i64 op] w fun e w' => e = .returned (.int .i64 (argF op)) ∧ w = w' := by
  by_cases h12 : op = 12
  · subst h12
    go_enter Try.func111, Try.ntmps111
    go_wp2
    go_ret
    exact ⟨rfl, rfl⟩
  by_cases h13 : op = 13
  · subst h13
    go_enter Try.func111, Try.ntmps111
    go_wp2
    go_ret
    exact ⟨rfl, rfl⟩
  by_cases h2 : op = 2
  · subst h2
    go_enter Try.func111, Try.ntmps111
    go_wp2
    go_ret
    exact ⟨rfl, rfl⟩
  have b12 : (op == 12) = false := beq_eq_false_iff_ne.mpr h12
  have b13 : (op == 13) = false := beq_eq_false_iff_ne.mpr h13
  have b2 : (op == 2) = false := beq_eq_false_iff_ne.mpr h2
  have HE := Aside0.mk (argF_ar1 op h12 h13 h2)
  clear h12 h13 h2
  go_enter Try.func111, Try.ntmps111
  go_wp2_with (go_at_call 143; refine (l1Arity_any _ _).mono ?_; rintro e w' ⟨rfl, rfl⟩)
  go_ret
  exact ⟨by rw [HE.out]; rfl, rfl⟩
theorem all_hit {α : Type} {xs : List α} {p : α → Bool} (d : α) (x : Int) (h0 : 0 ≤ x) (h1 : x < xs.length) (hp : p (xs.getD x.toNat d) = true) : xs.any p = true := by
  rw [List.any_eq_true]
  have hl : x.toNat < xs.length := by omega
  exact ⟨xs[x.toNat], List.getElem_mem hl, by rw [List.getD_eq_getElem?_getD, List.getElem?_eq_getElem hl] at hp; exact hp⟩
theorem all_miss {α : Type} {xs : List α} {p : α → Bool} (d : α) (ha : ∀ j, j < xs.length → p (xs.getD j d) = false) : xs.any p = false := by
  rw [List.any_eq_false]
  intro x hx
  obtain ⟨j, hj, rfl⟩ := List.getElem_of_mem hx
  have := ha j hj
  rw [List.getD_eq_getElem?_getD, List.getElem?_eq_getElem hj] at this
  simpa using this
set_option maxHeartbeats 1000000 in
theorem l1All_any {A : Option Addr} {c : Nat} (l : List Int) (a b : Int) (w : World) (hr : Kd.C (Kd.int .i64) w A l.length l) :
    Calls Try.prog 112 #[.slice A l.length c, .int .i64 a, .int .i64 b] w fun e w' => e = .returned (.bool (!(l.any fun x => !(within x a b)))) ∧ w = w' := by
  have HR := Aside0.mk hr
  have hmax := Kd.C_max hr
  clear hr
  go_enter Try.func112, Try.ntmps112
  go_wp2
  go_loop [11] (fun s11 => ∃ x : Int, s11 = .int .i64 x ∧ Aside0 (0 ≤ x ∧ x ≤ l.length ∧ ∀ j, j < x.toNat → (!(within (l.getD j 0) a b)) = false)) (fun s11 => l.length - (intOf s11).toNat)
  case atStart => exact ⟨0, rfl, ⟨by omega, by omega, fun j hj => absurd hj (by simp)⟩⟩
  case round =>
    obtain ⟨x, rfl, HA⟩ := hrel
    by_cases hlt : x < l.length
    · have c0 : decide (x < (l.length : Int)) = true := decide_eq_true hlt
      obtain ⟨ad, e, hx⟩ := Kd.at_int HR.out x HA.out.1 hlt
      cases e
      have p0 := eq_true HA.out.1
      have q0 := eq_true hlt
      have HL := Aside0.mk hlt
      clear hlt
      rcases Bool.eq_false_or_eq_true (within (rd l x) a b) with q | q
      · have HQ := Aside0.mk q
        go_wp2_with (go_at_call 90; refine (l1In_any _ _ _ _).mono ?_; rintro e w' ⟨rfl, rfl⟩)
        have hw : wrap64 (x + 1) = x + 1 := by have := HL.out; have := HA.out.1; unfold wrap64; omega
        go_round
        case rel =>
          refine ⟨wrap64 (x + 1), by first | rfl | (rw [hw]; rfl) | (rw [hw]), ⟨by rw [hw]; have := HA.out.1; omega, by rw [hw]; have := HL.out; omega, fun j hj => ?_⟩⟩
          rw [hw] at hj
          by_cases e : j = x.toNat
          · subst e; show (!(within (rd l x) a b)) = false; rw [HQ.out]; rfl
          · exact HA.out.2.2 j (by have := HA.out.1; omega)
        case measure => have := HL.out; have := HA.out.1; simp [intOf]; omega
      · have HQ := Aside0.mk q
        go_wp2_with (go_at_call 90; refine (l1In_any _ _ _ _).mono ?_; rintro e w' ⟨rfl, rfl⟩)
        go_ret
        exact ⟨by rw [all_hit 0 x HA.out.1 HL.out (by show (!(within (rd l x) a b)) = true; rw [HQ.out]; rfl)]; rfl, rfl⟩
    · have c0 : decide (x < (l.length : Int)) = false := decide_eq_false hlt
      have HL := Aside0.mk hlt
      clear hlt
      go_wp2
      go_ret
      exact ⟨by rw [all_miss 0 (fun j hj => HA.out.2.2 j (by have := HL.out; have := HA.out; omega))]; rfl, rfl⟩
end Go.Proofs.Ytghlbhijkhkgkaa.PA
