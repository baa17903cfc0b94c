/- The flow seat: what good functions are, in plain words over the kinds' types. -/
import Derived.Test.YtghlbhijkhkgkaaAbPAx0
namespace Go.Proofs.Ytghlbhijkhkgkaa.PA
open Go.RowKit Go.Proofs.YtghlbhijkhkgkaaW.PrintWords Go.Proofs.YtghlbhijkhkgkaaW.PrintLast Go.Proofs.YtghlbhijkhkgkaaW.PrintMore
set_option linter.unusedVariables false
/-- How many arguments an op has. -/
def arF (op : Int) : Int := if op = 1 ∨ op = 2 then 0 else if op = 3 then 1 else if op = 11 then 3 else 2
def within (n a b : Int) : Bool := decide (a ≤ n) && decide (n ≤ b)
/-- How many arguments an instruction has; -1 of no such op. -/
def argF (op : Int) : Int := if op = 12 then 1 else if op = 13 then 2 else if within op 1 11 = true ∧ op ≠ 2 then arF op else -1
/-- Numbers of values. -/
def valsB (tot : Int) (l : List Int) : Bool := !(l.any fun x => !(within x 0 (tot - 1)))
def instB (tot op n : Int) (l : List Int) : Bool := (((l.length : Int) == argF op) && ((op == 1) || (n == 0))) && valsB tot l
def jumpB (tot : Int) (bs : List S87) (tj : Int) (l : List Int) : Bool := (within tj 0 ((bs.length : Int) - 1) && ((l.length : Int) == (rd_T87 bs tj).f0)) && valsB tot l
def instsB (tot : Int) (l : List S89) : Bool := l.any fun x => !(instB tot x.f0 x.f1 x.f2)
def jumpsB (tot : Int) (bs : List S87) (l : List S109) : Bool := l.any fun x => !(jumpB tot bs x.f0 x.f1)
def endB (tot : Int) (e v : Int) (n : Nat) : Bool := if e = 1 then ((n : Int) == 0) && valsB tot [v] else if e = 2 then ((n : Int) == 1) && (v == 0) else ((e == 3) && ((n : Int) == 2)) && valsB tot [v]
def blockB (tot : Int) (bs : List S87) (l1 : List S89) (e v : Int) (l4 : List S109) : Bool := if instsB tot l1 = true then false else if jumpsB tot bs l4 = true then false else endB tot e v l4.length
/-- How many values a block has. -/
def blkN (b : S87) : Nat := b.f0.toNat + b.f1.length
/-- The first value of a block, and of what is behind the last one. -/
def totF (p : Int) (bs : List S87) (k : Nat) : Int := p + (((bs.take k).map blkN).sum : Nat)
def firstsF (p : Int) (bs : List S87) (k : Nat) : List Int := (List.range k).map (totF p bs)
def blocksF (p : Int) (bs : List S87) (k : Nat) : List Int := List.replicate p.toNat (-1) ++ (List.range k).flatMap fun (j : Nat) => List.replicate (blkN (rd_T87 bs (j : Int))) (j : Int)
def blkB (b : S87) : Bool := within b.f0 0 4 && !(decide ((b.f1.length : Int) > 80))
def headB (p : Int) (bs : List S87) : Bool := (within p 0 4 && within (bs.length : Int) 1 8) && ((rd_T87 bs 0).f0 == 0)
theorem blkB_iff (b : S87) : blkB b = true ↔ 0 ≤ b.f0 ∧ b.f0 ≤ 4 ∧ b.f1.length ≤ 80 := by
  simp [blkB, within]; omega
theorem headB_iff (p : Int) (bs : List S87) : headB p bs = true ↔ 0 ≤ p ∧ p ≤ 4 ∧ 1 ≤ bs.length ∧ bs.length ≤ 8 ∧ (rd_T87 bs 0).f0 = 0 := by
  simp [headB, within]; omega
theorem rd_nat (bs : List S87) (k : Nat) (h : k < bs.length) : rd_T87 bs (k : Int) = bs[k] := by
  simp [rd_T87, List.getD_eq_getElem?_getD, List.getElem?_eq_getElem h]
theorem totF_succ (p : Int) (bs : List S87) (k : Nat) (h : k < bs.length) : totF p bs (k + 1) = totF p bs k + (blkN (rd_T87 bs (k : Int)) : Nat) := by
  rw [totF, totF, List.take_succ_eq_append_getElem h, List.map_append, List.sum_append, rd_nat bs k h]
  simp; omega
theorem firstsF_succ (p : Int) (bs : List S87) (k : Nat) : firstsF p bs (k + 1) = firstsF p bs k ++ [totF p bs k] := by simp [firstsF, List.range_succ]
theorem blocksF_succ (p : Int) (bs : List S87) (k : Nat) : blocksF p bs (k + 1) = blocksF p bs k ++ List.replicate (blkN (rd_T87 bs (k : Int))) (k : Int) := by simp [blocksF, List.range_succ]
/-- What holds ahead of a block's turn. -/
def Fine (bs : List S87) (k : Nat) : Prop := ∀ j, j < k → blkB (rd_T87 bs (j : Int)) = true
theorem totF_bound (p : Int) (bs : List S87) (hp : 0 ≤ p ∧ p ≤ 4) : ∀ k, k ≤ bs.length → Fine bs k → 0 ≤ totF p bs k ∧ totF p bs k ≤ 4 + 84 * k
  | 0, _, _ => by simp [totF]; omega
  | k + 1, hk, hf => by
    have ih := totF_bound p bs hp k (by omega) (fun j hj => hf j (by omega))
    have hb := (blkB_iff _).1 (hf k (by omega))
    rw [totF_succ p bs k (by omega)]
    unfold blkN
    omega
theorem blocksF_length (p : Int) (bs : List S87) (hp : 0 ≤ p ∧ p ≤ 4) : ∀ k, k ≤ bs.length → ((blocksF p bs k).length : Int) = totF p bs k
  | 0, _ => by simp [blocksF, totF]; omega
  | k + 1, hk => by
    rw [blocksF_succ, totF_succ p bs k (by omega), List.length_append, List.length_replicate, ← blocksF_length p bs hp k (by omega)]
    omega
/-- A good function. -/
def goodB (p : Int) (bs : List S87) : Bool := ((headB p bs && bs.all blkB) && decide (totF p bs bs.length ≤ 80)) && bs.all fun b => blockB (totF p bs bs.length) bs b.f1 b.f2 b.f3 b.f4
end Go.Proofs.Ytghlbhijkhkgkaa.PA
