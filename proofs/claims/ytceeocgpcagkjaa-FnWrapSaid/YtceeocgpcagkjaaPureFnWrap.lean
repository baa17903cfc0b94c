/- FnWrap's plain law: it holds for all bytes that are handed in. -/
import Derived.Test.YtceeocgpcagkjaaPwr
import Derived.OpenShut
namespace Go.Proofs.Ytceeocgpcagkjaa.Pure
open Go.RowKit Go.Proofs.Ytceeocgpcagkjaa.PB Go.Proofs.YtceeocgpcagkjaaW.PrintWords Go.Proofs.YtceeocgpcagkjaaW.PrintLast
theorem bytes_of' {l : List Int} (h : ∀ x ∈ l, (Lit.int .u8 x).wf = true) : Bytes l := fun x hx => bounds_u8 (h x hx)
theorem FnWrap : laws_FnWrap.Pure := by
  intro l0 l1 _ _ h0 _ s1 _
  obtain ⟨K, hK⟩ : ∃ K : Nat, K = l1.length + 3000 := ⟨_, rfl⟩
  refine ⟨K + 2, ?_⟩
  obtain ⟨q, hq⟩ : ∃ r, laws_big.f l0 l1 = some r := by unfold laws_big.f; split <;> exact ⟨_, rfl⟩
  obtain ⟨a, l, e⟩ := drawDo_ok l0 (bytes_of' h0) (K + 1) (by omega)
  obtain ⟨z, e1, e2⟩ := doOps (K + 1) a l
  obtain ⟨y, e3, e4⟩ := arities (K + 1) a
  have foot := wrap_foot l1 (by omega) K (by omega)
  unfold laws_FnWrap.f
  rw [hq, Option.bind_some]
  by_cases hq1 : q = true
  · rw [if_pos hq1]
  · rw [if_neg hq1, e, Option.bind_some]
    dsimp only
    rw [e1, e2, e3, e4]
    simp only [Option.bind_some, bne_self_eq_false, Bool.false_eq_true, if_false, if_true]
    exact foot
end Go.Proofs.Ytceeocgpcagkjaa.Pure
