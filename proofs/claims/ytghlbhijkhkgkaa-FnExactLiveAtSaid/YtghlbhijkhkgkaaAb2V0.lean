/- Parts of the walk. -/
import Derived.Test.YtghlbhijkhkgkaaAb2PAx0
import Derived.IntWalk
section
/- The flow seat: what good functions are, in plain words over the kinds' types. -/
namespace Go.Proofs.Ytghlbhijkhkgkaa.PA
open Go.RowKit Go.Proofs.YtghlbhijkhkgkaaW.PrintWords Go.Proofs.YtghlbhijkhkgkaaW.PrintLast Go.Proofs.YtghlbhijkhkgkaaW.PrintMore
set_option linter.unusedVariables false
/-- How many arguments an op has. -/
def arF (op : Int) : Int := if op = 1 ∨ op = 2 then 0 else if op = 3 then 1 else if op = 11 then 3 else 2
def within (n a b : Int) : Bool := decide (a ≤ n) && decide (n ≤ b)
/-- How many arguments an instruction has; -1 of no such op. -/
def argF (op : Int) : Int := if op = 12 then 1 else if op = 13 then 2 else if within op 1 11 = true ∧ op ≠ 2 then arF op else -1
/-- Numbers of values. -/
def valsB (tot : Int) (l : List Int) : Bool := !(l.any fun x => !(within x 0 (tot - 1)))
def instB (tot op n : Int) (l : List Int) : Bool := (((l.length : Int) == argF op) && ((op == 1) || (n == 0))) && valsB tot l
def jumpB (tot : Int) (bs : List S87) (tj : Int) (l : List Int) : Bool := (within tj 0 ((bs.length : Int) - 1) && ((l.length : Int) == (rd_T87 bs tj).f0)) && valsB tot l
def instsB (tot : Int) (l : List S89) : Bool := l.any fun x => !(instB tot x.f0 x.f1 x.f2)
def jumpsB (tot : Int) (bs : List S87) (l : List S109) : Bool := l.any fun x => !(jumpB tot bs x.f0 x.f1)
def endB (tot : Int) (e v : Int) (n : Nat) : Bool := if e = 1 then ((n : Int) == 0) && valsB tot [v] else if e = 2 then ((n : Int) == 1) && (v == 0) else ((e == 3) && ((n : Int) == 2)) && valsB tot [v]
def blockB (tot : Int) (bs : List S87) (l1 : List S89) (e v : Int) (l4 : List S109) : Bool := if instsB tot l1 = true then false else if jumpsB tot bs l4 = true then false else endB tot e v l4.length
/-- How many values a block has. -/
def blkN (b : S87) : Nat := b.f0.toNat + b.f1.length
/-- The first value of a block, and of what is behind the last one. -/
def totF (p : Int) (bs : List S87) (k : Nat) : Int := p + (((bs.take k).map blkN).sum : Nat)
def firstsF (p : Int) (bs : List S87) (k : Nat) : List Int := (List.range k).map (totF p bs)
def blocksF (p : Int) (bs : List S87) (k : Nat) : List Int := List.replicate p.toNat (-1) ++ (List.range k).flatMap fun (j : Nat) => List.replicate (blkN (rd_T87 bs (j : Int))) (j : Int)
def blkB (b : S87) : Bool := within b.f0 0 4 && !(decide ((b.f1.length : Int) > 80))
def headB (p : Int) (bs : List S87) : Bool := (within p 0 4 && within (bs.length : Int) 1 8) && ((rd_T87 bs 0).f0 == 0)
theorem blkB_iff (b : S87) : blkB b = true ↔ 0 ≤ b.f0 ∧ b.f0 ≤ 4 ∧ b.f1.length ≤ 80 := by
  simp [blkB, within]; omega
theorem headB_iff (p : Int) (bs : List S87) : headB p bs = true ↔ 0 ≤ p ∧ p ≤ 4 ∧ 1 ≤ bs.length ∧ bs.length ≤ 8 ∧ (rd_T87 bs 0).f0 = 0 := by
  simp [headB, within]; omega
theorem rd_nat (bs : List S87) (k : Nat) (h : k < bs.length) : rd_T87 bs (k : Int) = bs[k] := by
  simp [rd_T87, List.getD_eq_getElem?_getD, List.getElem?_eq_getElem h]
theorem totF_succ (p : Int) (bs : List S87) (k : Nat) (h : k < bs.length) : totF p bs (k + 1) = totF p bs k + (blkN (rd_T87 bs (k : Int)) : Nat) := by
  rw [totF, totF, List.take_succ_eq_append_getElem h, List.map_append, List.sum_append, rd_nat bs k h]
  simp; omega
theorem firstsF_succ (p : Int) (bs : List S87) (k : Nat) : firstsF p bs (k + 1) = firstsF p bs k ++ [totF p bs k] := by simp [firstsF, List.range_succ]
theorem blocksF_succ (p : Int) (bs : List S87) (k : Nat) : blocksF p bs (k + 1) = blocksF p bs k ++ List.replicate (blkN (rd_T87 bs (k : Int))) (k : Int) := by simp [blocksF, List.range_succ]
/-- What holds ahead of a block's turn. -/
def Fine (bs : List S87) (k : Nat) : Prop := ∀ j, j < k → blkB (rd_T87 bs (j : Int)) = true
theorem totF_bound (p : Int) (bs : List S87) (hp : 0 ≤ p ∧ p ≤ 4) : ∀ k, k ≤ bs.length → Fine bs k → 0 ≤ totF p bs k ∧ totF p bs k ≤ 4 + 84 * k
  | 0, _, _ => by simp [totF]; omega
  | k + 1, hk, hf => by
    have ih := totF_bound p bs hp k (by omega) (fun j hj => hf j (by omega))
    have hb := (blkB_iff _).1 (hf k (by omega))
    rw [totF_succ p bs k (by omega)]
    unfold blkN
    omega
theorem blocksF_length (p : Int) (bs : List S87) (hp : 0 ≤ p ∧ p ≤ 4) : ∀ k, k ≤ bs.length → ((blocksF p bs k).length : Int) = totF p bs k
  | 0, _ => by simp [blocksF, totF]; omega
  | k + 1, hk => by
    rw [blocksF_succ, totF_succ p bs k (by omega), List.length_append, List.length_replicate, ← blocksF_length p bs hp k (by omega)]
    omega
/-- A good function. -/
def goodB (p : Int) (bs : List S87) : Bool := ((headB p bs && bs.all blkB) && decide (totF p bs bs.length ≤ 80)) && bs.all fun b => blockB (totF p bs bs.length) bs b.f1 b.f2 b.f3 b.f4
end Go.Proofs.Ytghlbhijkhkgkaa.PA
end
section
/- The flow seat: the reference's GoodFunc by hand. -/
namespace Go.Proofs.Ytghlbhijkhkgkaa.PA
open Go.RowKit Go.Proofs.YtghlbhijkhkgkaaW.PrintWords Go.Proofs.YtghlbhijkhkgkaaW.PrintLast Go.Proofs.YtghlbhijkhkgkaaW.PrintMore
set_option linter.unusedVariables false
theorem l1In_any (n a b : Int) (w : World) : Calls Try.prog 90 #[.int .i64 n, .int .i64 a, .int .i64 b] w fun e w' => e = .returned (.bool (within n a b)) ∧ w = w' := by
  by_cases h : a ≤ n
  · have h1 : decide (n ≥ a) = true := decide_eq_true h
    go_enter Try.func90, Try.ntmps90
    go_wp2
    go_ret
    exact ⟨by simp [within, h], rfl⟩
  · have h1 : decide (n ≥ a) = false := decide_eq_false h
    go_enter Try.func90, Try.ntmps90
    go_wp2
    go_ret
    exact ⟨by simp [within]; intro h'; omega, rfl⟩
theorem same_w {P : Program} {f : Nat} {args : Array Value} {w : World} {v : Value} (h : Calls P f args w fun e w' => e = .returned v ∧ w = w') : Calls P f args w fun e w' => e = .returned v ∧ w' = w := h.mono fun _ _ h => ⟨h.1, h.2.symm⟩
def ar1 (op : Int) : Int := if op = 1 ∨ op = 2 then 0 else if op = 3 then 1 else if op = 11 then 3 else if within op 4 10 = true then 2 else -1
theorem l1Arity_any (op : Int) (w : World) : Calls Try.prog 143 #[.int .i64 op] w fun e w' => e = .returned (.int .i64 (ar1 op)) ∧ w = w' := by
  by_cases h1 : op = 1
  · subst h1
    go_enter Try.func143, Try.ntmps143
    go_wp2
    go_ret
    exact ⟨rfl, rfl⟩
  by_cases h2 : op = 2
  · subst h2
    go_enter Try.func143, Try.ntmps143
    go_wp2
    go_ret
    exact ⟨rfl, rfl⟩
  by_cases h3 : op = 3
  · subst h3
    go_enter Try.func143, Try.ntmps143
    go_wp2
    go_ret
    exact ⟨rfl, rfl⟩
  by_cases h11 : op = 11
  · subst h11
    go_enter Try.func143, Try.ntmps143
    go_wp2
    go_ret
    exact ⟨rfl, rfl⟩
  have b1 : (op == 1) = false := beq_eq_false_iff_ne.mpr h1
  have b2 : (op == 2) = false := beq_eq_false_iff_ne.mpr h2
  have b3 : (op == 3) = false := beq_eq_false_iff_ne.mpr h3
  have b11 : (op == 11) = false := beq_eq_false_iff_ne.mpr h11
  have HE := Aside0.mk (show ar1 op = if within op 4 10 = true then 2 else -1 by simp [ar1, h1, h2, h3, h11])
  clear h1 h2 h3 h11
  rcases Bool.eq_false_or_eq_true (within op 4 10) with q | q
  · have HE2 := Aside0.mk (HE.out.trans (if_pos q))
    go_enter Try.func143, Try.ntmps143
    go_wp2_with (go_at_call 90; refine (l1In_any _ _ _ _).mono ?_; rintro e w' ⟨rfl, rfl⟩)
    go_ret
    exact ⟨by rw [HE2.out]; rfl, rfl⟩
  · have HE2 := Aside0.mk (HE.out.trans (if_neg (by rw [q]; decide)))
    go_enter Try.func143, Try.ntmps143
    go_wp2_with (go_at_call 90; refine (l1In_any _ _ _ _).mono ?_; rintro e w' ⟨rfl, rfl⟩)
    go_ret
    exact ⟨by rw [HE2.out]; rfl, rfl⟩
theorem argF_ar1 (op : Int) (h1 : op ≠ 12) (h2 : op ≠ 13) (h3 : op ≠ 2) : argF op = ar1 op := by
  simp only [argF, ar1, arF, within, h1, h2, h3, if_false, Bool.and_eq_true, decide_eq_true_eq, ne_eq, not_false_iff, and_true, or_false]
  repeat' split
  all_goals omega
theorem l12Arity_any (op : Int) (w : World) : Calls Try.prog 111 #[.int .i64 op] w fun e w' => e = .returned (.int .i64 (argF op)) ∧ w = w' := by
  by_cases h12 : op = 12
  · subst h12
    go_enter Try.func111, Try.ntmps111
    go_wp2
    go_ret
    exact ⟨rfl, rfl⟩
  by_cases h13 : op = 13
  · subst h13
    go_enter Try.func111, Try.ntmps111
    go_wp2
    go_ret
    exact ⟨rfl, rfl⟩
  by_cases h2 : op = 2
  · subst h2
    go_enter Try.func111, Try.ntmps111
    go_wp2
    go_ret
    exact ⟨rfl, rfl⟩
  have b12 : (op == 12) = false := beq_eq_false_iff_ne.mpr h12
  have b13 : (op == 13) = false := beq_eq_false_iff_ne.mpr h13
  have b2 : (op == 2) = false := beq_eq_false_iff_ne.mpr h2
  have HE := Aside0.mk (argF_ar1 op h12 h13 h2)
  clear h12 h13 h2
  go_enter Try.func111, Try.ntmps111
  go_wp2_with (go_at_call 143; refine (l1Arity_any _ _).mono ?_; rintro e w' ⟨rfl, rfl⟩)
  go_ret
  exact ⟨by rw [HE.out]; rfl, rfl⟩
theorem all_hit {α : Type} {xs : List α} {p : α → Bool} (d : α) (x : Int) (h0 : 0 ≤ x) (h1 : x < xs.length) (hp : p (xs.getD x.toNat d) = true) : xs.any p = true := by
  rw [List.any_eq_true]
  have hl : x.toNat < xs.length := by omega
  exact ⟨xs[x.toNat], List.getElem_mem hl, by rw [List.getD_eq_getElem?_getD, List.getElem?_eq_getElem hl] at hp; exact hp⟩
theorem all_miss {α : Type} {xs : List α} {p : α → Bool} (d : α) (ha : ∀ j, j < xs.length → p (xs.getD j d) = false) : xs.any p = false := by
  rw [List.any_eq_false]
  intro x hx
  obtain ⟨j, hj, rfl⟩ := List.getElem_of_mem hx
  have := ha j hj
  rw [List.getD_eq_getElem?_getD, List.getElem?_eq_getElem hj] at this
  simpa using this
set_option maxHeartbeats 1000000 in
theorem l1All_any {A : Option Addr} {c : Nat} (l : List Int) (a b : Int) (w : World) (hr : Kd.C (Kd.int .i64) w A l.length l) :
    Calls Try.prog 112 #[.slice A l.length c, .int .i64 a, .int .i64 b] w fun e w' => e = .returned (.bool (!(l.any fun x => !(within x a b)))) ∧ w = w' := by
  have HR := Aside0.mk hr
  have hmax := Kd.C_max hr
  clear hr
  go_enter Try.func112, Try.ntmps112
  go_wp2
  go_loop [11] (fun s11 => ∃ x : Int, s11 = .int .i64 x ∧ Aside0 (0 ≤ x ∧ x ≤ l.length ∧ ∀ j, j < x.toNat → (!(within (l.getD j 0) a b)) = false)) (fun s11 => l.length - (intOf s11).toNat)
  case atStart => exact ⟨0, rfl, ⟨by omega, by omega, fun j hj => absurd hj (by simp)⟩⟩
  case round =>
    obtain ⟨x, rfl, HA⟩ := hrel
    by_cases hlt : x < l.length
    · have c0 : decide (x < (l.length : Int)) = true := decide_eq_true hlt
      obtain ⟨ad, e, hx⟩ := Kd.at_int HR.out x HA.out.1 hlt
      cases e
      have p0 := eq_true HA.out.1
      have q0 := eq_true hlt
      have HL := Aside0.mk hlt
      clear hlt
      rcases Bool.eq_false_or_eq_true (within (rd l x) a b) with q | q
      · have HQ := Aside0.mk q
        go_wp2_with (go_at_call 90; refine (l1In_any _ _ _ _).mono ?_; rintro e w' ⟨rfl, rfl⟩)
        have hw : wrap64 (x + 1) = x + 1 := by have := HL.out; have := HA.out.1; unfold wrap64; omega
        go_round
        case rel =>
          refine ⟨wrap64 (x + 1), by first | rfl | (rw [hw]; rfl) | (rw [hw]), ⟨by rw [hw]; have := HA.out.1; omega, by rw [hw]; have := HL.out; omega, fun j hj => ?_⟩⟩
          rw [hw] at hj
          by_cases e : j = x.toNat
          · subst e; show (!(within (rd l x) a b)) = false; rw [HQ.out]; rfl
          · exact HA.out.2.2 j (by have := HA.out.1; omega)
        case measure => have := HL.out; have := HA.out.1; simp [intOf]; omega
      · have HQ := Aside0.mk q
        go_wp2_with (go_at_call 90; refine (l1In_any _ _ _ _).mono ?_; rintro e w' ⟨rfl, rfl⟩)
        go_ret
        exact ⟨by rw [all_hit 0 x HA.out.1 HL.out (by show (!(within (rd l x) a b)) = true; rw [HQ.out]; rfl)]; rfl, rfl⟩
    · have c0 : decide (x < (l.length : Int)) = false := decide_eq_false hlt
      have HL := Aside0.mk hlt
      clear hlt
      go_wp2
      go_ret
      exact ⟨by rw [all_miss 0 (fun j hj => HA.out.2.2 j (by have := HL.out; have := HA.out; omega))]; rfl, rfl⟩
end Go.Proofs.Ytghlbhijkhkgkaa.PA
end
