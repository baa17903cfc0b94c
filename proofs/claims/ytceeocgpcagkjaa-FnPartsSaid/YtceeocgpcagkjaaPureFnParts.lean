/- FnParts' plain law: what two lists of parts have in common is finer than both, members are those of one part, a joining takes one part away at most. For all bytes that are handed in. -/
import Derived.Test.YtceeocgpcagkjaaPAx12
import Derived.Test.YtceeocgpcagkjaaPw
import Derived.OpenShut
namespace Go.Proofs.Ytceeocgpcagkjaa.PA
open Go.RowKit Go.Proofs.YtceeocgpcagkjaaW.PrintWords Go.Proofs.YtceeocgpcagkjaaW.PrintLast Go.Proofs.YtceeocgpcagkjaaW.PrintMore
theorem bytes_of' {l : List Int} (h : ∀ x ∈ l, (Lit.int .u8 x).wf = true) : Bytes l := fun x hx => bounds_u8 (h x hx)
theorem big_val' (l0 l1 : List Int) : ∃ r, laws_big.f l0 l1 = some r := by
  unfold laws_big.f
  split <;> exact ⟨_, rfl⟩
theorem implFiner_k (a b : List Int) (k : Nat) (hk : 1000 < k) : impl_IsFinerParts.f k a b = if partB a = true ∧ partB b = true ∧ a.length = b.length then some (finer a b, true) else some (false, false) := by
  obtain ⟨q, rfl⟩ : ∃ q, k = q + 1 := ⟨k - 1, by omega⟩
  exact implFiner_is a b q (by omega)
theorem joinParts_k (l : List Int) (a b : Int) (k : Nat) (hk : 1000 < k) (hm : l.length ≤ 9223372036854775807) : impl_JoinParts.f k l a b = if partB l = true ∧ inL l a = true ∧ inL l b = true then some (join l a b, true) else some ([], false) := by
  obtain ⟨q, rfl⟩ : ∃ q, k = q + 1 := ⟨k - 1, by omega⟩
  exact joinParts_is l a b q (by omega) hm
theorem implMeet_k (a b : List Int) (k : Nat) (hk : 100000 < k) : impl_MeetParts.f k a b = if partB a = true ∧ partB b = true ∧ a.length = b.length then some (meet a b, true) else some ([], false) := by
  obtain ⟨q, rfl⟩ : ∃ q, k = q + 1 := ⟨k - 1, by omega⟩
  exact implMeet_is a b q (by omega)
theorem specMeet_k (a b : List Int) (k : Nat) (hk : 100000 < k) : spec_MeetParts.f k a b = if partB a = true ∧ partB b = true ∧ a.length = b.length then some (meet a b, true) else some ([], false) := by
  obtain ⟨q, rfl⟩ : ∃ q, k = q + 1 := ⟨k - 1, by omega⟩
  exact specMeet_is a b q (by omega)
theorem parts_foot {c : List Int} (hb : Bytes c) (k : Nat) (hk : 200000 ≤ k) : laws_FnParts.j3 (k + 1) c = some true := by
  obtain ⟨a, b, e, ha, hb'⟩ := drawFiner_is hb
  obtain ⟨l, e2, hl⟩ := drawCount_is hb
  simp only [laws_FnParts.j3]
  rw [e k hk, Option.bind_some]
  dsimp only
  rw [implFiner_k a b k (by omega), specFiner_is a b k (by omega), e2 k (by omega)]
  have f1 : ∀ z : Bool × Bool, (if partB a = true ∧ partB b = true ∧ a.length = b.length then some (finer a b, true) else some (false, false)) = some z → ((some z).bind fun bt577 => ((some z).bind fun bt579 => ((some l).bind fun t581 => ((impl_CountParts.f k t581).bind fun bt584 => ((spec_CountParts.f k t581).bind fun bt586 => (if (bt577.2 == bt579.2) = true then (if (bt577.1 == bt579.1) = true then (if (bt584.2 == bt586.2) = true then (some (bt584.1 == bt586.1)) else (some false)) else (some false)) else (some false))))))) = some true := by
    intro z _
    rw [Option.bind_some, Option.bind_some, Option.bind_some, implCount_is l k (by omega), specCount_is l k (by omega)]
    by_cases h : partB l = true
    · rw [if_pos h]; simp
    · rw [if_neg h]; simp
  by_cases h : partB a = true ∧ partB b = true ∧ a.length = b.length
  · have := f1 (finer a b, true) (by rw [if_pos h])
    rw [if_pos h]
    exact this
  · have := f1 (false, false) (by rw [if_neg h])
    rw [if_neg h]
    exact this
theorem parts_j2 {c : List Int} (hb : Bytes c) (k : Nat) (hk : 200000 ≤ k) (l : List Int) (a b : Int) (h : partB l = true) (ha : inL l a = true) (hbb : inL l b = true) : laws_FnParts.j2 (k + 2) c l a b (join l a b) true (memb l (rd l a)) false = some true := by
  have ha' := (inL_iff l a).1 ha
  have hb' := (inL_iff l b).1 hbb
  have hl := part_len h
  have hj := join_part h ha hbb
  have hjl := join_len l a b
  have haj : inL (join l a b) a = true := (inL_iff _ _).2 (by rw [hjl]; exact ha')
  have hc := join_cnt h ha hbb
  have hcl : cnt l ≤ l.length := cntFrom_le _ _ _
  have hw : wrap64 ((cnt l : Int) - 1) = (cnt l : Int) - 1 := by unfold wrap64; omega
  have hr : ∀ x : Int, 0 ≤ x → x < l.length → rd (join l a b) x = if rd l x = mx (rd l a) (rd l b) then mn (rd l a) (rd l b) else rd l x := fun x h0 h1 => named_rd l _ _ x h0 h1
  have hmx := mx_mn (rd l a) (rd l b)
  have same : rd (join l a b) b = rd (join l a b) a := by
    rw [hr a ha'.1 ha'.2, hr b hb'.1 hb'.2]
    rcases hmx with ⟨e1, e2, e3⟩ | ⟨e1, e2, e3⟩
    · rw [e1, e2, if_pos rfl]
      by_cases q : rd l b = rd l a
      · rw [if_pos q]
      · rw [if_neg q]
    · rw [e1, e2, if_pos rfl]
      by_cases q : rd l a = rd l b
      · rw [if_pos q]
      · rw [if_neg q]
  have hhas : b ∈ memb (join l a b) (rd (join l a b) a) := (mem_memb _ _ _).2 ⟨hb'.1, by rw [hjl]; exact hb'.2, same⟩
  have hsub : ∀ x ∈ memb l (rd l a), x ∈ memb (join l a b) (rd (join l a b) a) := by
    intro x hx
    obtain ⟨x0, x1, x2⟩ := (mem_memb _ _ _).1 hx
    refine (mem_memb _ _ _).2 ⟨x0, by rw [hjl]; exact x1, ?_⟩
    rw [hr x x0 x1, hr a ha'.1 ha'.2, x2]
  have l1 : (memb (join l a b) (rd (join l a b) a)).length ≤ 200 := Nat.le_trans (membFrom_len _ _ _ _) (by omega)
  have l2 : (memb l (rd l a)).length ≤ 200 := Nat.le_trans (membFrom_len _ _ _ _) (by omega)
  simp only [laws_FnParts.j2]
  rw [if_neg (by decide), if_pos trivial, implCount_is l (k + 1) (by omega), if_pos h, implCount_is (join l a b) (k + 1) (by omega), if_pos hj, implMembers_is (join l a b) a (k + 1) (by omega) (by omega), if_pos (show partB (join l a b) = true ∧ inL (join l a b) a = true from ⟨hj, haj⟩)]
  rw [Option.bind_some, Option.bind_some, Option.bind_some]
  dsimp only
  rw [if_pos rfl, if_pos rfl, if_pos rfl, if_neg (by omega), hw, if_neg (by omega), has_is _ b (by omega) hhas (k + 1) (by omega), Option.bind_some, if_pos rfl, within_is _ _ (by omega) (by omega) hsub (k + 1) (by omega), Option.bind_some, if_pos rfl]
  exact parts_foot hb k hk
theorem parts_j1 {c : List Int} (hb : Bytes c) (k : Nat) (hk : 200000 ≤ k) : laws_FnParts.j1 (k + 3) c = some true := by
  obtain ⟨l, a, b, e, hl⟩ := drawJoin_is hb
  have f3 := parts_foot hb k hk
  simp only [laws_FnParts.j1]
  rw [e (k + 2) (by omega), Option.bind_some]
  dsimp only
  rw [joinParts_k l a b (k + 2) (by omega) (by omega), specJoinParts_is l a b (k + 2) (by omega) (by omega), implMembers_is l a (k + 2) (by omega) (by omega), specMembers_is l a (k + 2) (by omega) (by omega)]
  have same : ∀ x : List Int, x.length ≤ 1000 → laws_sameInts.f (k + 2) x x = some true := fun x hx => sameInts_is x _ (by omega) (by omega)
  by_cases h : partB l = true ∧ inL l a = true
  · have ml : (memb l (rd l a)).length ≤ 1000 := Nat.le_trans (membFrom_len _ _ _ _) (by omega)
    rw [if_pos h]
    by_cases hbb : inL l b = true
    · rw [if_pos (show partB l = true ∧ inL l a = true ∧ inL l b = true from ⟨h.1, h.2, hbb⟩)]
      simp only [Option.bind_some, bne_self_eq_false, Bool.false_eq_true, if_false, same _ ml, same _ (show (join l a b).length ≤ 1000 by rw [join_len]; omega), if_true, Bool.not_true]
      exact parts_j2 hb k hk l a b h.1 h.2 hbb
    · rw [if_neg (fun x => hbb x.2.2)]
      simp only [Option.bind_some, bne_self_eq_false, Bool.false_eq_true, if_false, same _ ml, same [] (by simp), if_true, Bool.not_true]
      simp only [laws_FnParts.j2]
      rw [if_neg (by decide), if_neg (by decide)]
      exact f3
  · rw [if_neg h, if_neg (fun x => h ⟨x.1, x.2.1⟩)]
    simp only [Option.bind_some, bne_self_eq_false, Bool.false_eq_true, if_false, same [] (by simp), if_true, Bool.not_true]
    simp only [laws_FnParts.j2]
    rw [if_neg (by decide), if_neg (by decide)]
    exact f3
end Go.Proofs.Ytceeocgpcagkjaa.PA
namespace Go.Proofs.Ytceeocgpcagkjaa.Pure
open Go.RowKit Go.Proofs.Ytceeocgpcagkjaa.PA Go.Proofs.YtceeocgpcagkjaaW.PrintWords Go.Proofs.YtceeocgpcagkjaaW.PrintLast
theorem FnParts : laws_FnParts.Pure := by
  intro l0 l1 _ _ h0 _ _ h1
  have B0 := bytes_of' h0
  have B1 := bytes_of' h1
  obtain ⟨K, hK⟩ : ∃ K : Nat, K = 300000 := ⟨_, rfl⟩
  refine ⟨K + 5, ?_⟩
  obtain ⟨q, hq⟩ := big_val' l0 l1
  obtain ⟨a, b, e, la, lb⟩ := drawMeet_is B0
  have j1 := parts_j1 B1 (K + 1) (by omega)
  have same : ∀ x : List Int, x.length ≤ 1000 → laws_sameInts.f (K + 5) x x = some true := fun x hx => sameInts_is x _ (by omega) (by omega)
  unfold laws_FnParts.f
  rw [hq, Option.bind_some]
  by_cases hq1 : q = true
  · rw [if_pos hq1]
  · rw [if_neg hq1, e (K + 5) (by omega), Option.bind_some]
    dsimp only
    rw [implMeet_k a b (K + 5) (by omega), specMeet_k a b (K + 5) (by omega), goodParts_is a (K + 5) (by omega), specParts_is a (K + 5) (by omega)]
    by_cases h : partB a = true ∧ partB b = true ∧ a.length = b.length
    · have hl := part_len h.1
      have hm := meet_part a b hl
      have f := meet_finer a b
      rw [if_pos h]
      simp only [Option.bind_some, bne_self_eq_false, Bool.false_eq_true, if_false, same _ (show (meet a b).length ≤ 1000 by rw [meet_len]; omega), if_true]
      simp only [laws_FnParts.j0]
      rw [if_neg (by decide), if_pos trivial, implFiner_k (meet a b) a (K + 4) (by omega), if_pos (show partB (meet a b) = true ∧ partB a = true ∧ (meet a b).length = a.length from ⟨hm, h.1, meet_len a b⟩), implFiner_k (meet a b) b (K + 4) (by omega), if_pos (show partB (meet a b) = true ∧ partB b = true ∧ (meet a b).length = b.length from ⟨hm, h.2.1, (meet_len a b).trans h.2.2⟩)]
      rw [Option.bind_some, Option.bind_some, f.1, f.2 h.2.2]
      dsimp only
      rw [if_pos rfl, if_pos rfl, if_pos rfl, if_pos rfl, goodParts_is _ (K + 4) (by omega), Option.bind_some, hm, if_pos rfl]
      exact j1
    · rw [if_neg h]
      simp only [Option.bind_some, bne_self_eq_false, Bool.false_eq_true, if_false, same [] (by simp), if_true]
      simp only [laws_FnParts.j0]
      rw [if_neg (by decide), if_neg (by decide)]
      exact j1
end Go.Proofs.Ytceeocgpcagkjaa.Pure
