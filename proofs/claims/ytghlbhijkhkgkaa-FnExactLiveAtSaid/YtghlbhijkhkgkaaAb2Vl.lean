/- Parts of the walk. -/
import Derived.Test.YtghlbhijkhkgkaaAb2Vk
import Derived.Test.YtghlbhijkhkgkaaAb2Vq
section
/- The flow seat: impl.BlockOf by hand. -/
namespace Go.Proofs.Ytghlbhijkhkgkaa.PA
open Go.RowKit Go.Proofs.YtghlbhijkhkgkaaW.PrintWords Go.Proofs.YtghlbhijkhkgkaaW.PrintLast Go.Proofs.YtghlbhijkhkgkaaW.PrintMore
set_option linter.unusedVariables false
theorem viewOf_no {A : Option Addr} {c : Nat} (p : Int) (bs : List S87) (w : World) (hr : Kd.C k87 w A bs.length bs) (hc : bs.length ≤ c) (hg : goodB p bs = false) :
    Calls Try.prog 56 #[.agg #[.int .i64 p, .slice A bs.length c]] w fun e w' => e = .returned (.pointer none) ∧ Below w.heap.size w w' :=
  (viewOf_any p bs w hr hc).mono fun e w' h => ⟨by rcases h.2 with h2 | h2; exact h2.2; rw [hg] at h2; exact absurd h2.1 (by decide), h.1⟩
theorem viewOf_yes {A : Option Addr} {c : Nat} (p : Int) (bs : List S87) (w : World) (hr : Kd.C k87 w A bs.length bs) (hc : bs.length ≤ c) (hg : goodB p bs = true) :
    Calls Try.prog 56 #[.agg #[.int .i64 p, .slice A bs.length c]] w fun e w' => ∃ g, e = .returned (.pointer (some ⟨g, 0, none⟩)) ∧ Below w.heap.size w w' ∧ View w' g p A bs c (firstsF p bs bs.length) (blocksF p bs bs.length) (totF p bs bs.length) :=
  (viewOf_any p bs w hr hc).mono fun e w' h => by
    rcases h.2 with h2 | ⟨_, g, h2, h3⟩
    · rw [hg] at h2; exact absurd h2.1 (by decide)
    · exact ⟨g, h2, h.1, h3⟩
end Go.Proofs.Ytghlbhijkhkgkaa.PA
end
section
/- The flow seat: what is known of a good function, block by block. -/
namespace Go.Proofs.Ytghlbhijkhkgkaa.PA
open Go.RowKit Go.Proofs.YtghlbhijkhkgkaaW.PrintWords Go.Proofs.YtghlbhijkhkgkaaW.PrintLast Go.Proofs.YtghlbhijkhkgkaaW.PrintMore
set_option linter.unusedVariables false
theorem valsB_iff (tot : Int) (l : List Int) : valsB tot l = true ↔ ∀ y ∈ l, 0 ≤ y ∧ y < tot := by
  rw [valsB, Bool.not_eq_true', List.any_eq_false]
  constructor
  · intro h y hy
    have := h y hy
    simp [within] at this
    omega
  · intro h y hy
    have := h y hy
    simp [within]
    omega
theorem argF_le (op : Int) : argF op ≤ 3 := by
  unfold argF arF
  repeat' split
  all_goals omega
structure GoodB (tot : Int) (bs : List S87) (b : S87) : Prop where
  par : 0 ≤ b.f0 ∧ b.f0 ≤ 4
  ins : b.f1.length ≤ 80
  args : ∀ x ∈ b.f1, x.f2.length ≤ 3 ∧ ∀ y ∈ x.f2, 0 ≤ y ∧ y < tot
  jumps : b.f4.length ≤ 2
  jump : ∀ x ∈ b.f4, (0 ≤ x.f0 ∧ x.f0 < (bs.length : Int)) ∧ (x.f1.length : Int) = (rd_T87 bs x.f0).f0 ∧ ∀ y ∈ x.f1, 0 ≤ y ∧ y < tot
  ends : (b.f2 = 1 ∧ b.f4.length = 0 ∧ 0 ≤ b.f3 ∧ b.f3 < tot) ∨ (b.f2 = 2 ∧ b.f4.length = 1 ∧ b.f3 = 0) ∨ (b.f2 = 3 ∧ b.f4.length = 2 ∧ 0 ≤ b.f3 ∧ b.f3 < tot)
theorem good_at {p : Int} {bs : List S87} (h : goodB p bs = true) (k : Nat) (hk : k < bs.length) : GoodB (totF p bs bs.length) bs (rd_T87 bs (k : Int)) := by
  obtain ⟨hp, hn, hf, ht⟩ := good_iff h
  have hb := (blkB_iff _).1 (hf k hk)
  simp only [goodB, Bool.and_eq_true] at h
  have hbl := List.all_eq_true.1 h.2 bs[k] (List.getElem_mem hk)
  rw [← rd_nat bs k hk] at hbl
  obtain ⟨b, e⟩ : ∃ b, b = rd_T87 bs (k : Int) := ⟨_, rfl⟩
  rw [← e] at hbl hb ⊢
  obtain ⟨tot, et⟩ : ∃ t, t = totF p bs bs.length := ⟨_, rfl⟩
  rw [← et] at hbl ⊢
  rw [block_ends, Bool.and_eq_true, Bool.not_eq_true', instsB, List.any_eq_false, endsB, Bool.and_eq_true, Bool.not_eq_true', jumpsB, List.any_eq_false] at hbl
  obtain ⟨h1, h2, h3⟩ := hbl
  have hj : b.f4.length ≤ 2 := by
    simp only [endB] at h2
    split at h2
    · simp at h2; have := h2.1; simp [this]
    · split at h2
      · simp at h2; omega
      · simp at h2; omega
  refine ⟨⟨hb.1, hb.2.1⟩, hb.2.2, fun x hx => ?_, hj, fun x hx => ?_, ?_⟩
  · have := h1 x hx
    simp only [Bool.not_eq_true', Bool.not_eq_false] at this
    simp only [instB, Bool.and_eq_true, beq_iff_eq] at this
    exact ⟨by have := this.1.1; have := argF_le x.f0; omega, (valsB_iff tot x.f2).1 this.2⟩
  · have := h3 x hx
    simp only [Bool.not_eq_true', Bool.not_eq_false] at this
    simp only [jumpB, Bool.and_eq_true, beq_iff_eq, within, decide_eq_true_eq] at this
    exact ⟨⟨this.1.1.1, by omega⟩, this.1.2, (valsB_iff tot x.f1).1 this.2⟩
  · simp only [endB] at h2
    split at h2
    · rename_i e1
      simp only [Bool.and_eq_true, beq_iff_eq] at h2
      have := (valsB_iff tot [b.f3]).1 h2.2 b.f3 (by simp)
      exact .inl ⟨e1, by omega, this.1, this.2⟩
    · split at h2
      · rename_i e1
        simp only [Bool.and_eq_true, beq_iff_eq] at h2
        exact .inr (.inl ⟨e1, by omega, h2.2⟩)
      · simp only [Bool.and_eq_true, beq_iff_eq] at h2
        have := (valsB_iff tot [b.f3]).1 h2.2 b.f3 (by simp)
        exact .inr (.inr ⟨h2.1.1, by omega, this.1, this.2⟩)
/-- The values that the end of a block uses. -/
def endL (b : S87) : List Int := (if b.f2 = 2 then [] else [b.f3]) ++ b.f4.flatMap (·.f1)
/-- The values that the instructions of a block use. -/
def insL (b : S87) : List Int := b.f1.flatMap (·.f2)
theorem drop_step {α β : Type} (xs : List α) (f : α → List β) (z : α) (i : Nat) (h : i < xs.length) : (xs.drop i).flatMap f = f (xs.getD i z) ++ (xs.drop (i + 1)).flatMap f := by
  rw [List.drop_eq_getElem_cons h, List.flatMap_cons, List.getD_eq_getElem?_getD, List.getElem?_eq_getElem h]
  rfl
theorem flat_len {α β : Type} (f : α → List β) (m : Nat) : ∀ xs : List α, (∀ x ∈ xs, (f x).length ≤ m) → (xs.flatMap f).length ≤ xs.length * m
  | [], _ => by simp
  | x :: xs, h => by
    have := flat_len f m xs (fun y hy => h y (by simp [hy]))
    have := h x (by simp)
    rw [List.flatMap_cons, List.length_append, List.length_cons, Nat.add_mul]
    omega
end Go.Proofs.Ytghlbhijkhkgkaa.PA
end
