/- FnUnion's plain law: trees of parents tell the same parts as joining does. For all bytes that are handed in. -/
import Derived.Test.YtceeocgpcagkjaaPAx6
import Derived.Test.YtceeocgpcagkjaaPu
import Derived.OpenShut
namespace Go.Proofs.Ytceeocgpcagkjaa.PA
open Go.RowKit Go.Proofs.YtceeocgpcagkjaaW.PrintWords Go.Proofs.YtceeocgpcagkjaaW.PrintLast Go.Proofs.YtceeocgpcagkjaaW.PrintMore
theorem bytes_of {l : List Int} (h : ∀ x ∈ l, (Lit.int .u8 x).wf = true) : Bytes l := fun x hx =>
  bounds_u8 (h x hx)
theorem big_val (l0 l1 : List Int) : ∃ r, laws_big.f l0 l1 = some r := by
  unfold laws_big.f
  split <;> exact ⟨_, rfl⟩
theorem drawUnion_is {c : List Int} (hb : Bytes c) : ∃ l a b, (∀ k, 1010 ≤ k → spec_DrawUnionRoots.f k c = some (l, a, b)) ∧ l.length ≤ 1000 := by
  obtain ⟨l, p, s, e, p0, p1, _, hl⟩ := parents_ok c hb
  obtain ⟨a, p2, s2, e2, a2, b2, _⟩ := pick_ok c hb p s (l.length : Int) p0 (by omega)
  obtain ⟨b, p3, s3, e3, _⟩ := pick_ok c hb p2 s2 (wrap64 ((l.length : Int) + 1)) (by omega) (by omega)
  refine ⟨l, a, b, fun k hk => ?_, hl⟩
  unfold spec_DrawUnionRoots.f spec_newCur.f
  rw [Option.bind_some, e k hk, Option.bind_some]
  dsimp only
  rw [e2, Option.bind_some]
  dsimp only
  rw [e3, Option.bind_some]
theorem drawFind_is {c : List Int} (hb : Bytes c) : ∃ l a, (∀ k, 1010 ≤ k → spec_DrawFindRoot.f k c = some (l, a)) ∧ l.length ≤ 1000 := by
  obtain ⟨l, p, s, e, p0, p1, _, hl⟩ := parents_ok c hb
  obtain ⟨a, p2, s2, e2, _⟩ := pick_ok c hb p s (wrap64 ((l.length : Int) + 2)) p0 (by omega)
  refine ⟨l, wrap64 (a - 1), fun k hk => ?_, hl⟩
  unfold spec_DrawFindRoot.f spec_newCur.f
  rw [Option.bind_some, e k hk, Option.bind_some]
  dsimp only
  rw [e2, Option.bind_some]
/-- The law's foot: what is found is what the reference finds. -/
theorem union_foot {c : List Int} (hb : Bytes c) (k : Nat) (hk : 2000 ≤ k) : ((spec_DrawFindRoot.f k c).bind fun bt304 => ((impl_FindRoot.f k bt304.1 bt304.2).bind fun bt308 => ((spec_FindRoot.f k bt304.1 bt304.2).bind fun bt311 => (if (bt308.2.2 == bt311.2.2) = true then (if bt308.1 = bt311.1 then (some (bt308.2.1 == bt311.2.1)) else (some false)) else (some false))))) = some true := by
  obtain ⟨l, a, e, hl⟩ := drawFind_is hb
  rw [e k (by omega), Option.bind_some]
  dsimp only
  rw [findRoot_is l a k (by omega) (by omega) (by omega), specFindRoot_is l a k (by omega) (by omega) (by omega)]
  by_cases h : parB l = true ∧ inL l a = true
  · rw [if_pos h]; simp
  · rw [if_neg h]; simp
end Go.Proofs.Ytceeocgpcagkjaa.PA
namespace Go.Proofs.Ytceeocgpcagkjaa.Pure
open Go.RowKit Go.Proofs.Ytceeocgpcagkjaa.PA Go.Proofs.YtceeocgpcagkjaaW.PrintWords Go.Proofs.YtceeocgpcagkjaaW.PrintLast
theorem FnUnion : laws_FnUnion.Pure := by
  intro l0 l1 _ _ h0 _ _ h1
  have B0 := bytes_of h0
  have B1 := bytes_of h1
  obtain ⟨K, hK⟩ : ∃ K : Nat, K = 3000 := ⟨_, rfl⟩
  refine ⟨K + 3, ?_⟩
  obtain ⟨q, hq⟩ := big_val l0 l1
  obtain ⟨l, a, b, e, hl⟩ := drawUnion_is B0
  have foot := union_foot B1 (K + 2) (by omega)
  have foot1 := union_foot B1 (K + 1) (by omega)
  unfold laws_FnUnion.f
  rw [hq, Option.bind_some]
  by_cases hq1 : q = true
  · rw [if_pos hq1]
  · rw [if_neg hq1, e (K + 3) (by omega), Option.bind_some]
    dsimp only
    rw [implUnion_f l a b (K + 2) (by omega) (by omega) (by omega), specUnion_f l a b (K + 2) (by omega) (by omega) (by omega)]
    rw [implFlat_f l (K + 3) (by omega) (by omega) (by omega), specFlat_f l (K + 3) (by omega) (by omega) (by omega)]
    have hp : impl_GoodParents.f (K + 3) l = some (parB l) := by unfold impl_GoodParents.f; rw [parentsOK_f l _ (by omega) (by omega), Option.bind_some]
    rw [hp, goodParents_f l (K + 3) (by omega) (by omega)]
    have nil : laws_sameInts.f (K + 3) [] [] = some true := sameInts_is [] _ (by simp) (by simp)
    have flatOk : laws_sameInts.f (K + 3) (flat l) (flat l) = some true := sameInts_is _ _ (by rw [flat_len]; omega) (by rw [flat_len]; omega)
    by_cases h : parB l = true
    · rw [if_pos h]
      by_cases hab : inL l a = true ∧ inL l b = true
      · have hu : laws_sameInts.f (K + 3) (union l a b) (union l a b) = some true := sameInts_is _ _ (by rw [union_len h hab.1 hab.2]; omega) (by rw [union_len h hab.1 hab.2]; omega)
        rw [if_pos ⟨h, hab.1, hab.2⟩]
        simp only [Option.bind_some, bne_self_eq_false, Bool.false_eq_true, if_false, if_true, hu, flatOk]
        have hpu := union_par h hab.1 hab.2
        have hl2 := union_len h hab.1 hab.2
        have hfp := flat_part h hab.1 hab.2
        have ha2 : inL (union l a b) a = true := (inL_iff _ _).2 (by rw [hl2]; exact (inL_iff _ _).1 hab.1)
        have hb2 : inL (union l a b) b = true := (inL_iff _ _).2 (by rw [hl2]; exact (inL_iff _ _).1 hab.2)
        have ha3 : inL (flat l) a = true := (inL_iff _ _).2 (by rw [flat_len]; exact (inL_iff _ _).1 hab.1)
        have hb3 : inL (flat l) b = true := (inL_iff _ _).2 (by rw [flat_len]; exact (inL_iff _ _).1 hab.2)
        have hfu := flat_union h hab.1 hab.2
        have hsr := same_root h hab.1 hab.2
        have hfl := flat_len l
        have hful := flat_len (union l a b)
        have hsame : laws_sameInts.f (K + 2) (join (flat l) a b) (join (flat l) a b) = some true := by
          rw [← hfu]; exact sameInts_is _ _ (by omega) (by omega)
        have hst := (root_at hpu a ((inL_iff _ _).1 ha2).1 ((inL_iff _ _).1 ha2).2).2.2.2.1
        have hgood : partB (join (flat l) a b) = true := by
          rw [← hfu]; exact flat_part hpu ha2 hb2
        simp only [laws_FnUnion.j0]
        rw [if_neg (by decide), if_pos trivial]
        rw [implFlat_f (union l a b) (K + 2) (by omega) (by omega) (by omega), if_pos hpu, joinParts_is (flat l) a b (K + 1) (by omega) (by omega), if_pos (show partB (flat l) = true ∧ inL (flat l) a = true ∧ inL (flat l) b = true from ⟨hfp, ha3, hb3⟩)]
        rw [findRoot_is (union l a b) a (K + 2) (by omega) (by omega) (by omega), if_pos (show parB (union l a b) = true ∧ inL (union l a b) a = true from ⟨hpu, ha2⟩), findRoot_is (union l a b) b (K + 2) (by omega) (by omega) (by omega), if_pos (show parB (union l a b) = true ∧ inL (union l a b) b = true from ⟨hpu, hb2⟩)]
        simp only [Option.bind_some, if_true, hfu, hsame]
        rw [if_pos hsr, if_neg (by omega), goodParts_is _ (K + 2) (by omega), Option.bind_some, hgood]
        simp only [laws_FnUnion.j1]
        rw [if_neg (by decide)]
        exact foot1
      · rw [if_neg (fun x => hab x.2)]
        simp only [Option.bind_some, bne_self_eq_false, Bool.false_eq_true, if_false, if_true, nil, flatOk]
        simp only [laws_FnUnion.j0]
        rw [if_neg (by decide), if_neg (by decide)]
        exact foot
    · rw [if_neg h, if_neg (fun x => h x.1)]
      simp only [Option.bind_some, bne_self_eq_false, Bool.false_eq_true, if_false, if_true, nil]
      simp only [laws_FnUnion.j0]
      rw [if_neg (by decide), if_neg (by decide)]
      exact foot
end Go.Proofs.Ytceeocgpcagkjaa.Pure
