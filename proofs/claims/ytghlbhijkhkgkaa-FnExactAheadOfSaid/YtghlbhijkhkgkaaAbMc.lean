/- The flow seat: the reference's AheadOf in plain words. -/
import Derived.Test.YtghlbhijkhkgkaaAbMb
import Derived.Test.YtghlbhijkhkgkaaAbPAz2
namespace Go.Proofs.Ytghlbhijkhkgkaa.PA
open Go.RowKit Go.Proofs.YtghlbhijkhkgkaaW.PrintWords Go.Proofs.YtghlbhijkhkgkaaW.PrintLast Go.Proofs.YtghlbhijkhkgkaaW.PrintMore
set_option linter.unusedVariables false
theorem rd_at (l : List Int) (i : Nat) (h : i < l.length) : rd l (i : Int) = l[i] := by simp [rd, List.getD_eq_getElem?_getD, List.getElem?_eq_getElem h]
theorem put_in (l : List Int) (x : Int) (i : Nat) : (∀ y, y ∈ ([] ++ l.take i ++ [x]) ++ l.drop i ↔ y ∈ l ∨ y = x) := by
  intro y
  conv => rhs; rw [← List.take_append_drop i l]
  simp only [List.mem_append, List.nil_append, List.mem_singleton]
  constructor
  · rintro ((h | h) | h)
    · exact .inl (.inl h)
    · exact .inr h
    · exact .inl (.inr h)
  · rintro ((h | h) | h)
    · exact .inl (.inl h)
    · exact .inr h
    · exact .inl (.inr h)
theorem put_l0 (l : List Int) (x : Int) (hl : l.length ≤ 1000) : ∀ (d i : Nat), l.length - i = d → i ≤ l.length →
    ∃ r, Ev (fun k => spec_l1Put.l0 k l x (i : Int)) r ∧ (∀ y, y ∈ r ↔ y ∈ l ∨ y = x) ∧ r.length ≤ l.length + 1
  | 0, i, hd, hi => by
    refine ⟨([] ++ l.take i ++ [x]) ++ l.drop i, Ev.step (f := fun _ => some (([] ++ l.take i ++ [x]) ++ l.drop i)) (fun k => ?_) (Ev.now _), put_in l x i, by simp; omega⟩
    simp only [spec_l1Put.l0, Option.bind_some, Int.toNat_natCast]
    rw [if_neg (by omega), if_pos (by omega), if_pos (by omega), if_pos (by simp; omega), if_pos (by simp; omega), if_pos (by simp; omega)]
  | d + 1, i, hd, hi => by
    have h : i < l.length := by omega
    by_cases h1 : l[i] < x
    · obtain ⟨r, e, h2, h3⟩ := put_l0 l x hl d (i + 1) (by omega) (by omega)
      refine ⟨r, Ev.step (fun k => ?_) e, h2, h3⟩
      simp only [spec_l1Put.l0]
      rw [if_pos (by omega), if_pos (by omega), rd_at l i h, if_pos h1, wnext i l.length h (by unfold Max; omega)]
    · by_cases h2 : l[i] = x
      · refine ⟨l, Ev.step (f := fun _ => some l) (fun k => ?_) (Ev.now _), fun y => ⟨fun hy => .inl hy, fun hy => ?_⟩, by omega⟩
        · simp only [spec_l1Put.l0]
          rw [if_pos (by omega), if_pos (by omega), rd_at l i h, if_neg h1, if_pos h2]
        · rcases hy with hy | rfl
          · exact hy
          · rw [← h2]; exact List.getElem_mem h
      · refine ⟨([] ++ l.take i ++ [x]) ++ l.drop i, Ev.step (f := fun _ => some (([] ++ l.take i ++ [x]) ++ l.drop i)) (fun k => ?_) (Ev.now _), put_in l x i, by simp; omega⟩
        simp only [spec_l1Put.l0, Option.bind_some, Int.toNat_natCast]
        rw [if_pos (by omega), if_pos (by omega), rd_at l i h, if_neg h1, if_neg h2, if_pos (by omega), if_pos (by simp; omega), if_pos (by simp; omega), if_pos (by simp; omega)]
theorem nexts_l0 (xs : List S109) (hx : xs.length ≤ 2) : ∀ (d i : Nat) (acc : List Int), xs.length - i = d → i ≤ xs.length → acc.length ≤ i →
    ∃ r, Ev (fun k => spec_l13Next.l0 k acc xs (xs.length : Int) (i : Int)) r ∧ (∀ y, y ∈ r ↔ y ∈ acc ∨ y ∈ (xs.drop i).map (·.f0)) ∧ r.length ≤ 2
  | 0, i, acc, hd, hi, ha => ⟨acc, Ev.step (f := fun _ => some acc) (fun k => by simp only [spec_l13Next.l0]; rw [if_neg (by omega)]) (Ev.now _), fun y => by rw [List.drop_of_length_le (by omega)]; simp, by omega⟩
  | d + 1, i, acc, hd, hi, ha => by
    have h : i < xs.length := by omega
    obtain ⟨r1, e1, m1, l1⟩ := put_l0 acc (rd_T109 xs (i : Int)).f0 (by omega) acc.length 0 rfl (Nat.zero_le _)
    obtain ⟨r2, e2, m2, l2⟩ := nexts_l0 xs hx d (i + 1) r1 (by omega) (by omega) (by omega)
    refine ⟨r2, Ev.step (f := fun k => (spec_l1Put.f k acc (rd_T109 xs (i : Int)).f0).bind fun t => spec_l13Next.l0 k t xs (xs.length : Int) ((i + 1 : Nat) : Int)) (fun k => ?_) (Ev.bind e1 e2), fun y => ?_, l2⟩
    · simp only [spec_l13Next.l0]
      rw [if_pos (by omega), if_pos (by omega), if_pos (by omega), wnext i xs.length h (by unfold Max; omega)]
    · have e : rd_T109 xs (i : Int) = xs[i] := by simp [rd_T109, List.getD_eq_getElem?_getD, List.getElem?_eq_getElem h]
      rw [m2 y, m1 y, List.drop_eq_getElem_cons h, List.map_cons, List.mem_cons, e]
      constructor
      · rintro ((h | h) | h)
        · exact .inl h
        · exact .inr (.inl h)
        · exact .inr (.inr h)
      · rintro (h | h | h)
        · exact .inl (.inl h)
        · exact .inl (.inr h)
        · exact .inr h
theorem nexts_f (p : Int) (bs : List S87) (i : Nat) (h : i < bs.length) (hj : (rd_T87 bs (i : Int)).f4.length ≤ 2) : ∃ r, Ev (fun k => spec_l13Next.f k p bs (i : Int)) r ∧ (∀ y, y ∈ r ↔ y ∈ toL (rd_T87 bs (i : Int))) ∧ r.length ≤ 2 := by
  obtain ⟨r, e, m, l⟩ := nexts_l0 (rd_T87 bs (i : Int)).f4 hj _ 0 [] rfl (Nat.zero_le _) (Nat.le_refl _)
  refine ⟨r, Ev.congr (fun k => ?_) e, fun y => by rw [m y]; simp [toL], l⟩
  unfold spec_l13Next.f
  rw [if_pos (by omega), if_pos (by omega)]
  rfl
theorem has_l0 (v : Int) (l : List Int) (hl : l.length ≤ 1000) : ∀ (d i : Nat), l.length - i = d → Ev (fun k => spec_l1Has.l0 k v l (l.length : Int) (i : Int)) (decide (v ∈ l.drop i))
  | 0, i, hd => Ev.step (f := fun _ => some (decide (v ∈ l.drop i))) (fun k => by simp only [spec_l1Has.l0]; rw [if_neg (by omega), List.drop_of_length_le (by omega)]; simp) (Ev.now _)
  | d + 1, i, hd => by
    have h : i < l.length := by omega
    have hr := rd_at l i h
    rw [List.drop_eq_getElem_cons h]
    by_cases e : l[i] = v
    · refine Ev.step (f := fun _ => some (decide (v ∈ l[i] :: l.drop (i + 1)))) (fun k => ?_) (Ev.now _)
      simp only [spec_l1Has.l0]
      rw [if_pos (by omega), if_pos (by omega), if_pos (by omega), hr, if_pos e]
      simp [e]
    · have e2 : decide (v ∈ l[i] :: l.drop (i + 1)) = decide (v ∈ l.drop (i + 1)) := by
        rw [decide_eq_decide, List.mem_cons]
        exact ⟨fun h => h.resolve_left (fun h => e h.symm), .inr⟩
      rw [e2]
      refine Ev.step (fun k => ?_) (has_l0 v l hl d (i + 1) (by omega))
      simp only [spec_l1Has.l0]
      rw [if_pos (by omega), if_pos (by omega), if_pos (by omega), hr, if_neg e, wnext i l.length h (by unfold Max; omega)]
/-- The blocks below k that go to v. -/
def aheadP (bs : List S87) (v : Int) : Nat → List Int
  | 0 => []
  | i + 1 => if v ∈ toL (rd_T87 bs (i : Int)) then aheadP bs v i ++ [(i : Int)] else aheadP bs v i
theorem aheadP_succ (bs : List S87) (v : Int) (i : Nat) : aheadP bs v (i + 1) = if v ∈ toL (rd_T87 bs (i : Int)) then aheadP bs v i ++ [(i : Int)] else aheadP bs v i := rfl
theorem aheadP_len (bs : List S87) (v : Int) : ∀ i, (aheadP bs v i).length ≤ i
  | 0 => Nat.le_refl _
  | i + 1 => by
    have := aheadP_len bs v i
    unfold aheadP
    split
    · rw [List.length_append, List.length_singleton]; omega
    · omega
theorem ahead_l0 (p v : Int) (bs : List S87) (hn : bs.length ≤ 8) (hj : ∀ k, k < bs.length → (rd_T87 bs (k : Int)).f4.length ≤ 2) : ∀ (d i : Nat), bs.length - i = d → i ≤ bs.length →
    Ev (fun k => spec_l13Ahead.l0 k v (aheadP bs v i) (bs.length : Int) (i : Int) p bs) (aheadP bs v bs.length)
  | 0, i, hd, hi => by
    obtain rfl : i = bs.length := by omega
    exact Ev.step (f := fun _ => some (aheadP bs v bs.length)) (fun k => by simp only [spec_l13Ahead.l0]; rw [if_neg (by omega)]) (Ev.now _)
  | d + 1, i, hd, hi => by
    have h : i < bs.length := by omega
    obtain ⟨r, e, m, l⟩ := nexts_f p bs i h (hj i h)
    have hh := has_l0 v r (by omega) _ 0 rfl
    rw [List.drop_zero] at hh
    have ih := ahead_l0 p v bs hn hj d (i + 1) (by omega) (by omega)
    have hal := aheadP_len bs v i
    refine Ev.step (f := fun k => (spec_l13Next.f k p bs (i : Int)).bind fun t => (spec_l1Has.f k t v).bind fun u => if u = true then (if (aheadP bs v i).length < 17592186044416 then spec_l13Ahead.l0 k v (aheadP bs v i ++ [(i : Int)]) (bs.length : Int) ((i + 1 : Nat) : Int) p bs else none) else spec_l13Ahead.l0 k v (aheadP bs v i) (bs.length : Int) ((i + 1 : Nat) : Int) p bs) (fun k => ?_) (Ev.bind e (Ev.bind (Ev.congr (fun k => rfl) hh) ?_))
    · simp only [spec_l13Ahead.l0]
      rw [if_pos (by omega), wnext i bs.length h (by unfold Max; omega)]
    · by_cases hv : v ∈ r
      · have hv2 := (m v).1 hv
        rw [aheadP_succ, if_pos hv2] at ih
        exact Ev.congr (fun k => by rw [if_pos (by simpa using hv), if_pos (by omega)]) ih
      · have hv2 := fun h => hv ((m v).2 h)
        rw [aheadP_succ, if_neg hv2] at ih
        exact Ev.congr (fun k => if_neg (by simpa using hv)) ih
/-- What AheadOf answers. -/
def ansAheadOf (p : Int) (bs : List S87) (v : Int) : List Int × Bool := if goodB p bs = true then if within v 0 ((bs.length : Int) - 1) = true then (aheadP bs v bs.length, true) else ([], false) else ([], false)
theorem l13Is_f (p : Int) (bs : List S87) (v : Int) : Ev (fun k : Nat => spec_l13Is.f p bs v) (goodB p bs && within v 0 ((bs.length : Int) - 1)) := by
  cases hg : goodB p bs with
  | false => exact Ev.congr (fun k => by unfold spec_l13Is.f spec_GoodFunc.f; rw [hg]; rfl) (Ev.now _)
  | true =>
    obtain ⟨hp, hn, hf, ht⟩ := good_iff hg
    refine Ev.congr (f := fun k => (spec_l1In.f v 0 (wrap64 ((bs.length : Int) - 1))).bind fun t2 => some t2) (fun k => by unfold spec_l13Is.f spec_GoodFunc.f; rw [hg]; rfl) (Ev.congr (fun k => ?_) (Ev.now _))
    rw [wrap_small _ (by omega), l1In_f]
    rfl
theorem good_jumps {p : Int} {bs : List S87} (hg : goodB p bs = true) : ∀ k, k < bs.length → (rd_T87 bs (k : Int)).f4.length ≤ 2 := fun k hk => (good_at hg k hk).jumps
theorem specAheadOf_f (p : Int) (bs : List S87) (v : Int) : Ev (fun k => spec_AheadOf.f k p bs v) (ansAheadOf p bs v) := by
  unfold ansAheadOf
  have h0 := l13Is_f p bs v
  cases hg : goodB p bs with
  | false =>
    rw [hg, Bool.false_and] at h0
    exact Ev.congr (fun k => rfl) (Ev.bind h0 (Ev.congr (fun k => if_neg (by decide)) (Ev.now _)))
  | true =>
    obtain ⟨hp, hn, hf, ht⟩ := good_iff hg
    rw [hg, Bool.true_and] at h0
    rw [if_pos rfl]
    cases hw : within v 0 ((bs.length : Int) - 1) with
    | false =>
      rw [hw] at h0
      exact Ev.congr (fun k => rfl) (Ev.bind h0 (Ev.congr (fun k => if_neg (by decide)) (Ev.now _)))
    | true =>
      rw [hw] at h0
      rw [if_pos rfl]
      have := ahead_l0 p v bs hn.2 (good_jumps hg) _ 0 rfl (Nat.zero_le _)
      exact Ev.congr (fun k => rfl) (Ev.bind h0 (Ev.congr (fun k => if_pos rfl) (Ev.bind (f := fun _ t => some (t, true)) (Ev.congr (fun k => rfl) this) (Ev.now _))))
end Go.Proofs.Ytghlbhijkhkgkaa.PA
