/- The flow seat: dominators, in plain words. -/
import Derived.Test.YtghlbhijkhkgkaaIbPAz5
namespace Go.Proofs.Ytghlbhijkhkgkaa.PA
open Go.RowKit Go.Proofs.YtghlbhijkhkgkaaW.PrintWords Go.Proofs.YtghlbhijkhkgkaaW.PrintLast Go.Proofs.YtghlbhijkhkgkaaW.PrintMore
set_option linter.unusedVariables false
/-- The blocks that are reached. -/
noncomputable def reached (next : List (List Int)) : List Int := fromL next 0 (-1)
/-- d dominates b: both are reached, and no way to b leaves d out. -/
noncomputable def domB (next : List (List Int)) (b d : Int) : Bool := decide (d ∈ reached next) && (decide (b ∈ reached next) && !decide (b ∈ fromL next 0 d))
/-- The dominators of a block. -/
noncomputable def domsRow (next : List (List Int)) (b : Int) : List Int := numsL next.length (domB next b)
noncomputable def allDoms (next : List (List Int)) : List (List Int) := (List.range next.length).map fun (b : Nat) => domsRow next (b : Int)
/-- What l13Doms tells of a block. -/
noncomputable def isDom (next : List (List Int)) (b d : Int) : Bool := decide (d = b) || !decide (b ∈ fromL next 0 d)
section
variable {next : List (List Int)} {a b d : Int}
theorem not_self (next : List (List Int)) (a b : Int) : b ∉ fromL next a b := fun h => by
  obtain ⟨h1, _, h2⟩ := mem_fromL.1 h
  exact way_ne h2 h1 rfl
theorem domB_iff : domB next b d = true ↔ d ∈ reached next ∧ b ∈ reached next ∧ b ∉ fromL next 0 d := by simp [domB]
theorem mem_domsRow : d ∈ domsRow next b ↔ d ∈ reached next ∧ b ∈ reached next ∧ b ∉ fromL next 0 d := by
  rw [domsRow, mem_numsL, domB_iff]
  exact ⟨fun h => h.2, fun h => ⟨(mem_fromL.1 h.1).2.1, h⟩⟩
theorem domsRow_none (h : b ∉ reached next) : domsRow next b = [] := by
  have : ∀ d, d ∉ domsRow next b := fun d hd => h (mem_domsRow.1 hd).2.1
  exact List.eq_nil_iff_forall_not_mem.2 this
theorem doms_filter (h : b ∈ reached next) : (numsL next.length (isDom next b)).filter (fun d => decide (d ∈ reached next)) = domsRow next b := by
  refine rises_ext _ _ (List.Pairwise.filter _ (rises_numsL _ _)) (rises_numsL _ _) fun d => ?_
  rw [List.mem_filter, mem_numsL, decide_eq_true_iff, mem_domsRow]
  simp only [isDom, Bool.or_eq_true, decide_eq_true_eq, Bool.not_eq_true', decide_eq_false_iff_not]
  constructor
  · rintro ⟨⟨h1, h2⟩, h3⟩
    refine ⟨h3, h, ?_⟩
    rcases h2 with rfl | h2
    · exact not_self _ _ _
    · exact h2
  · rintro ⟨h1, _, h3⟩
    exact ⟨⟨(mem_fromL.1 h1).2.1, .inr h3⟩, h1⟩
theorem numsL_succ (i : Nat) (q : Int → Bool) : numsL (i + 1) q = if q (i : Int) = true then numsL i q ++ [(i : Int)] else numsL i q := by
  rw [numsL, List.range_succ, List.map_append, List.filter_append]
  by_cases h : q (i : Int) = true
  · rw [if_pos h]
    simp [numsL, h]
  · rw [if_neg h]
    simp [numsL, h]
end
theorem doms_l0 (p : Int) (bs : List S87) (hg : GoodRows bs) (b : Int) : ∀ (d i : Nat), bs.length - i = d → i ≤ bs.length →
    Ev (fun k => spec_l13Doms.l0 k b (numsL i (isDom (nextL bs) b)) (bs.length : Int) (i : Int) p bs) (numsL bs.length (isDom (nextL bs) b))
  | 0, i, hd, hi => by
    obtain rfl : i = bs.length := by omega
    exact Ev.step (f := fun _ => some (numsL bs.length (isDom (nextL bs) b))) (fun k => by simp only [spec_l13Doms.l0]; rw [if_neg (by omega)]) (Ev.now _)
  | d + 1, i, hd, hi => by
    have h : i < bs.length := by omega
    have hlen := hg.len
    have ih := doms_l0 p bs hg b d (i + 1) (by omega) (by omega)
    have hl := numsL_len i (isDom (nextL bs) b)
    rw [numsL_succ] at ih
    by_cases e : (i : Int) = b
    · have q : isDom (nextL bs) b (i : Int) = true := by simp [isDom, e]
      rw [if_pos q] at ih
      refine Ev.step (fun k => ?_) ih
      simp only [spec_l13Doms.l0]
      rw [if_pos (by omega), if_pos e, if_pos (by omega), wnext i bs.length h (by unfold Max; omega)]
    · have hf := spec_l13From.is hg p 0 (i : Int) ⟨Int.le_refl _, by omega⟩
      have hfl := fromL_len (nextL bs) 0 (i : Int)
      rw [nextL_len] at hfl
      have hh := has_l0 b (fromL (nextL bs) 0 (i : Int)) (by omega) _ 0 rfl
      rw [List.drop_zero] at hh
      refine Ev.step (f := fun k => (spec_l1Has.f k (fromL (nextL bs) 0 (i : Int)) b).bind fun u => if u = true then spec_l13Doms.l0 k b (numsL i (isDom (nextL bs) b)) (bs.length : Int) ((i + 1 : Nat) : Int) p bs else (if (numsL i (isDom (nextL bs) b)).length < 17592186044416 then spec_l13Doms.l0 k b (numsL i (isDom (nextL bs) b) ++ [(i : Int)]) (bs.length : Int) ((i + 1 : Nat) : Int) p bs else none)) (fun k => ?_) (Ev.bind (Ev.congr (fun k => rfl) hh) ?_)
      · simp only [spec_l13Doms.l0]
        rw [if_pos (by omega), if_neg e, hf, Option.bind_some, wnext i bs.length h (by unfold Max; omega)]
      · by_cases hv : b ∈ fromL (nextL bs) 0 (i : Int)
        · have q : ¬ isDom (nextL bs) b (i : Int) = true := by simp [isDom, e, hv]
          rw [if_neg q] at ih
          exact Ev.congr (fun k => if_pos (by simpa using hv)) ih
        · have q : isDom (nextL bs) b (i : Int) = true := by simp [isDom, hv]
          rw [if_pos q] at ih
          exact Ev.congr (fun k => by rw [if_neg (by simpa using hv), if_pos (by omega)]) ih
theorem doms_any {w : World} {A : Option Addr} {c : Nat} (p : Int) (bs : List S87) (b : Int) (hg : GoodRows bs) (hr : Kd.C k87 w A bs.length bs) (hc : bs.length ≤ c) :
    Calls Try.prog 115 #[.agg #[.int .i64 p, .slice A bs.length c], .int .i64 b] w fun e w' => ∃ v : Value, e = .returned v ∧ (Kd.int .i64).R 3 w' w.heap.size (fun _ => True) v (numsL bs.length (isDom (nextL bs) b)) ∧ Below w.heap.size w w' := by
  obtain ⟨k, hk⟩ := Ev.rounds (Ev.congr (g := fun k => spec_l13Doms.f k p bs b) (fun k => rfl) (doms_l0 p bs hg b _ 0 rfl (Nat.zero_le _)))
  exact spec_l13Doms.calls k p A c bs b _ w hr hc hk
end Go.Proofs.Ytghlbhijkhkgkaa.PA
