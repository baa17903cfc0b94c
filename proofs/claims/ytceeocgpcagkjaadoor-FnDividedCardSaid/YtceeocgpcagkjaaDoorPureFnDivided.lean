/- FnDivided's plain law: it holds for all bytes that are handed in. -/
import Derived.Test.YtceeocgpcagkjaaDoorPe
import Derived.OpenShut
namespace Go.Proofs.YtceeocgpcagkjaaDoor.Pure
open Go.RowKit Go.Proofs.YtceeocgpcagkjaaDoor.PA Go.Proofs.YtceeocgpcagkjaaDoorW.PrintWords Go.Proofs.YtceeocgpcagkjaaDoorW.PrintLast
theorem bytes_of' {l : List Int} (h : ∀ x ∈ l, (Lit.int .u8 x).wf = true) : Bytes l := fun x hx => bounds_u8 (h x hx)
theorem FnDivided : laws_FnDivided.Pure := by
  intro l0 l1 _ _ h0 _ _ h1
  obtain ⟨K, hK⟩ : ∃ K : Nat, K = 1000 := ⟨_, rfl⟩
  refine ⟨K + 6, ?_⟩
  obtain ⟨q, hq⟩ : ∃ r, laws_big.f l0 l1 = some r := by unfold laws_big.f; split <;> exact ⟨_, rfl⟩
  obtain ⟨a, e, ha⟩ := drawOdd_ok l0 (bytes_of' h0) (K + 6) (by omega)
  have foot := foot0 K (by omega) l1 (bytes_of' h1) a ha
  have i := implOdd a K ha
  have s := specOdd a (K + 6) (by omega)
  unfold laws_FnDivided.f
  rw [hq, Option.bind_some]
  by_cases hq1 : q = true
  · rw [if_pos hq1]
  · rw [if_neg hq1, e, Option.bind_some]
    by_cases h : a % 2 = 1
    · obtain ⟨x, e1, hx⟩ := i.1 h
      obtain ⟨y, e2, hy, iy⟩ := s.1 h
      obtain rfl := inv_one a x y hx hy iy
      have hm : (true != (Int.tmod a 2 != 0)) = false := by
        have : ¬ Int.tmod a 2 = 0 := fun q => by have := Int.dvd_of_tmod_eq_zero q; omega
        simp [this]
      rw [e1, e2, Option.bind_some, Option.bind_some]
      dsimp only
      rw [if_neg (by simp), if_pos rfl, if_pos rfl, if_pos (one_of _ hx.1), hm]
      exact foot
    · have hm : (false != (Int.tmod a 2 != 0)) = false := by
        have : Int.tmod a 2 = 0 := Int.tmod_eq_zero_of_dvd (by omega)
        simp [this]
      rw [i.2 h, s.2 h, Option.bind_some, Option.bind_some]
      dsimp only
      rw [if_neg (by simp), if_pos rfl, if_neg (by decide), hm]
      exact foot
end Go.Proofs.YtceeocgpcagkjaaDoor.Pure
