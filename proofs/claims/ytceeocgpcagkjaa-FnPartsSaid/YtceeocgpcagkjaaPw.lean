/- Parts: the drawn ones (plain lemmas). -/
import Derived.Test.YtceeocgpcagkjaaPv
namespace Go.Proofs.Ytceeocgpcagkjaa.PA
open Go.RowKit Go.Proofs.YtceeocgpcagkjaaW.PrintWords Go.Proofs.YtceeocgpcagkjaaW.PrintLast Go.Proofs.YtceeocgpcagkjaaW.PrintMore

/-! ### the drawn parts -/
theorem join_len (l : List Int) (a b : Int) : (join l a b).length = l.length := by unfold join; rw [named_len]
theorem parts_l1 (c : List Int) (hb : Bytes c) (n : Int) (hn : 1 ≤ n) (hn2 : n ≤ 1000) (d : Nat) : ∀ (k : Nat) (x : List Int) (p s : Int), d + 1001 < k → x.length = n.toNat → 0 ≤ p → p + 8 * d ≤ 1000000000 →
    ∃ r p' s', spec_l1Cur_parts.l1 k n x (d : Int) c p s = some (r, p', s') ∧ 0 ≤ p' ∧ p' ≤ p + 8 * d + 8 ∧ r.length = n.toNat := by
  induction d with
  | zero =>
    intro k x p s hk hx hp hp2
    obtain ⟨k, rfl⟩ : ∃ q, k = q + 1 := ⟨k - 1, by omega⟩
    obtain ⟨r, p1, s1, e, a, b⟩ := one_ok c hb p s 30 hp (by omega)
    have hw : wrap64 (n - 1) = n - 1 := by unfold wrap64; omega
    simp only [spec_l1Cur_parts.l1]
    rw [if_neg (by omega), e, Option.bind_some]
    dsimp only
    by_cases hr : r = true
    · rw [if_pos hr]
      obtain ⟨r2, p2, s2, e2, a2, b2⟩ := among_ok c hb p1 s1 [-1, n, 0] (by simp) (by omega) (by omega)
      rw [e2, Option.bind_some]
      dsimp only
      rw [hw, if_pos (by omega), if_pos (by omega)]
      exact ⟨_, _, _, rfl, by omega, by omega, by rw [List.length_set]; omega⟩
    · rw [if_neg hr]
      exact ⟨_, _, _, rfl, by omega, by omega, hx⟩
  | succ d ih =>
    intro k x p s hk hx hp hp2
    obtain ⟨k, rfl⟩ : ∃ q, k = q + 1 := ⟨k - 1, by omega⟩
    obtain ⟨a, p1, s1, e1, a1, b1, ra, ra2, _⟩ := pick_ok c hb p s n hp (by omega)
    obtain ⟨b, p2, s2, e2, a2, b2, rb, rb2, _⟩ := pick_ok c hb p1 s1 n (by omega) (by omega)
    have := ra2 hn
    have := rb2 hn
    have hw : wrap64 (((d + 1 : Nat) : Int) - 1) = (d : Int) := by unfold wrap64; omega
    simp only [spec_l1Cur_parts.l1]
    rw [if_pos (by omega), e1, Option.bind_some]
    dsimp only
    rw [e2, Option.bind_some]
    dsimp only
    rw [specJoin_is x a b (by omega) k (by omega) ra (by omega) rb (by omega), Option.bind_some, hw]
    obtain ⟨r, p3, s3, e3, q0, q1, q2⟩ := ih k (join x a b) p2 s2 (by omega) (by rw [join_len]; exact hx) (by omega) (by omega)
    exact ⟨r, p3, s3, e3, q0, by omega, q2⟩
theorem parts_l0 (c : List Int) (hb : Bytes c) (n : Int) (hn : 1 ≤ n) (hn2 : n ≤ 1000) (d : Nat) : ∀ (k : Nat) (x : List Int) (i p s : Int), 0 ≤ i → n - i = d → d + 3000 < k → x.length = i.toNat → 0 ≤ p → p ≤ 10000000 →
    ∃ r p' s', spec_l1Cur_parts.l0 k n x i c p s = some (r, p', s') ∧ 0 ≤ p' ∧ p' ≤ p + 10000 ∧ r.length = n.toNat := by
  induction d with
  | zero =>
    intro k x i p s h0 hd hk hx hp hp2
    obtain ⟨k, rfl⟩ : ∃ q, k = q + 1 := ⟨k - 1, by omega⟩
    have hw : wrap64 (n + 1) = n + 1 := by unfold wrap64; omega
    obtain ⟨m, p1, s1, e, a, b, m0, m1, _⟩ := pick_ok c hb p s (n + 1) hp (by omega)
    have := m1 (by omega)
    simp only [spec_l1Cur_parts.l0]
    rw [if_neg (by omega), hw, e, Option.bind_some]
    dsimp only
    obtain ⟨r, p2, s2, e2, q0, q1, q2⟩ := parts_l1 c hb n hn hn2 m.toNat k x p1 s1 (by omega) (by omega) (by omega) (by omega)
    rw [Int.toNat_of_nonneg m0] at e2
    exact ⟨r, p2, s2, e2, q0, by omega, q2⟩
  | succ d ih =>
    intro k x i p s h0 hd hk hx hp hp2
    obtain ⟨k, rfl⟩ : ∃ q, k = q + 1 := ⟨k - 1, by omega⟩
    have hw : wrap64 (i + 1) = i + 1 := by unfold wrap64; omega
    simp only [spec_l1Cur_parts.l0]
    rw [if_pos (by omega), if_pos (by omega), hw]
    exact ih k _ (i + 1) p s (by omega) (by omega) (by omega) (by rw [List.length_append, List.length_singleton]; omega) hp hp2
theorem parts_ok (c : List Int) (hb : Bytes c) (n p s : Int) (hn : 1 ≤ n) (hn2 : n ≤ 1000) (hp : 0 ≤ p) (hp2 : p ≤ 10000000) : ∃ r p' s', (∀ k, 10000 ≤ k → spec_l1Cur_parts.f k c p s n = some (r, p', s')) ∧ 0 ≤ p' ∧ p' ≤ p + 10000 ∧ r.length = n.toNat := by
  obtain ⟨K, hK⟩ : ∃ K : Nat, K = 10000 := ⟨_, rfl⟩
  obtain ⟨r, p', s', e, q⟩ := parts_l0 c hb n hn hn2 n.toNat K [] 0 p s (by omega) (by omega) (by omega) rfl hp hp2
  refine ⟨r, p', s', fun k hk => ?_, q⟩
  have mono : ∀ k, LeO (spec_l1Cur_parts.f k c p s n) (spec_l1Cur_parts.f (k + 1) c p s n) := spec_l1Cur_parts.mono _ _ _ _
  exact at_rounds mono (show K ≤ k by omega) (by unfold spec_l1Cur_parts.f; exact e)
theorem drawMeet_is {c : List Int} (hb : Bytes c) : ∃ a b, (∀ k, 10000 ≤ k → spec_DrawMeetParts.f k c = some (a, b)) ∧ a.length ≤ 1000 ∧ b.length ≤ 1000 := by
  obtain ⟨n, p1, s1, e1, a1, b1, n0, n1, _⟩ := pick_ok c hb 0 0 10 (by omega) (by omega)
  have := n1 (by omega)
  have hw : wrap64 (1 + n) = 1 + n := by unfold wrap64; omega
  obtain ⟨a, p2, s2, e2, a2, b2, l2⟩ := parts_ok c hb (1 + n) p1 s1 (by omega) (by omega) (by omega) (by omega)
  obtain ⟨m, p3, s3, e3, a3, b3, m0, m1, _⟩ := pick_ok c hb p2 s2 20 (by omega) (by omega)
  have := m1 (by omega)
  have hd : Int.tdiv m 19 = m / 19 := Int.tdiv_eq_ediv_of_nonneg m0
  have hw2 : wrap64 (1 + n + wrap64 (Int.tdiv m 19)) = 1 + n + m / 19 := by rw [hd]; unfold wrap64; omega
  obtain ⟨b, p4, s4, e4, a4, b4, l4⟩ := parts_ok c hb (1 + n + m / 19) p3 s3 (by omega) (by omega) (by omega) (by omega)
  refine ⟨a, b, fun k hk => ?_, by omega, by omega⟩
  unfold spec_DrawMeetParts.f spec_newCur.f
  rw [Option.bind_some]
  dsimp only
  rw [e1, Option.bind_some]
  dsimp only
  rw [hw, e2 k hk, Option.bind_some]
  dsimp only
  rw [e3, Option.bind_some]
  dsimp only
  rw [hw2, e4 k hk, Option.bind_some]
theorem drawJoin_is {c : List Int} (hb : Bytes c) : ∃ l a b, (∀ k, 10000 ≤ k → spec_DrawJoinParts.f k c = some (l, a, b)) ∧ l.length ≤ 1000 := by
  obtain ⟨n, p1, s1, e1, a1, b1, n0, n1, _⟩ := pick_ok c hb 0 0 12 (by omega) (by omega)
  have := n1 (by omega)
  have hw : wrap64 (1 + n) = 1 + n := by unfold wrap64; omega
  obtain ⟨l, p2, s2, e2, a2, b2, l2⟩ := parts_ok c hb (1 + n) p1 s1 (by omega) (by omega) (by omega) (by omega)
  obtain ⟨a, p3, s3, e3, a3, b3, _⟩ := pick_ok c hb p2 s2 (l.length : Int) (by omega) (by omega)
  obtain ⟨b, p4, s4, e4, -⟩ := pick_ok c hb p3 s3 (wrap64 ((l.length : Int) + 1)) (by omega) (by omega)
  refine ⟨l, a, b, fun k hk => ?_, by omega⟩
  unfold spec_DrawJoinParts.f spec_newCur.f
  rw [Option.bind_some]
  dsimp only
  rw [e1, Option.bind_some]
  dsimp only
  rw [hw, e2 k hk, Option.bind_some]
  dsimp only
  rw [e3, Option.bind_some]
  dsimp only
  rw [e4, Option.bind_some]
theorem drawCount_is {c : List Int} (hb : Bytes c) : ∃ l, (∀ k, 10000 ≤ k → spec_DrawCountParts.f k c = some l) ∧ l.length ≤ 1000 := by
  obtain ⟨n, p1, s1, e1, a1, b1, n0, n1, _⟩ := pick_ok c hb 0 0 12 (by omega) (by omega)
  have := n1 (by omega)
  have hw : wrap64 (1 + n) = 1 + n := by unfold wrap64; omega
  obtain ⟨l, p2, s2, e2, a2, b2, l2⟩ := parts_ok c hb (1 + n) p1 s1 (by omega) (by omega) (by omega) (by omega)
  refine ⟨l, fun k hk => ?_, by omega⟩
  unfold spec_DrawCountParts.f spec_DrawGoodParts.f spec_newCur.f
  rw [Option.bind_some]
  dsimp only
  rw [e1, Option.bind_some]
  dsimp only
  rw [hw, e2 k hk, Option.bind_some, Option.bind_some]
theorem drawFiner_is {c : List Int} (hb : Bytes c) : ∃ a b, (∀ k, 200000 ≤ k → spec_DrawIsFinerParts.f k c = some (a, b)) ∧ a.length ≤ 1000 ∧ b.length ≤ 1000 := by
  obtain ⟨n, p1, s1, e1, a1, b1, n0, n1, _⟩ := pick_ok c hb 0 0 10 (by omega) (by omega)
  have := n1 (by omega)
  have hw : wrap64 (1 + n) = 1 + n := by unfold wrap64; omega
  obtain ⟨a, p2, s2, e2, a2, b2, l2⟩ := parts_ok c hb (1 + n) p1 s1 (by omega) (by omega) (by omega) (by omega)
  obtain ⟨b, p3, s3, e3, a3, b3, l3⟩ := parts_ok c hb (1 + n) p2 s2 (by omega) (by omega) (by omega) (by omega)
  obtain ⟨o, p4, s4, e4, a4, b4⟩ := one_ok c hb p3 s3 2 (by omega) (by omega)
  have step : ∀ k, 200000 ≤ k → spec_DrawIsFinerParts.f k c = ((spec_MeetParts.f k a b).bind fun bt485 => (if bt485.2 = true then (if o = true then (some (bt485.1, a)) else (some (a, b))) else (some (a, b)))) := by
    intro k hk
    unfold spec_DrawIsFinerParts.f spec_newCur.f
    rw [Option.bind_some]
    dsimp only
    rw [e1, Option.bind_some]
    dsimp only
    rw [hw, e2 k (by omega), Option.bind_some]
    dsimp only
    rw [e3 k (by omega), Option.bind_some]
    dsimp only
    simp only [e4, Option.bind_some]
  have meetk : ∀ k, 200000 ≤ k → spec_MeetParts.f k a b = if partB a = true ∧ partB b = true ∧ a.length = b.length then some (meet a b, true) else some ([], false) := by
    intro k hk
    obtain ⟨q, rfl⟩ : ∃ q, k = q + 1 := ⟨k - 1, by omega⟩
    exact specMeet_is a b q (by omega)
  by_cases h : partB a = true ∧ partB b = true ∧ a.length = b.length
  · by_cases ho : o = true
    · refine ⟨meet a b, a, fun k hk => ?_, by rw [meet_len]; omega, by omega⟩
      rw [step k hk, meetk k hk, if_pos h, Option.bind_some]
      dsimp only
      rw [if_pos rfl, if_pos ho]
    · refine ⟨a, b, fun k hk => ?_, by omega, by omega⟩
      rw [step k hk, meetk k hk, if_pos h, Option.bind_some]
      dsimp only
      rw [if_pos rfl, if_neg ho]
  · refine ⟨a, b, fun k hk => ?_, by omega, by omega⟩
    rw [step k hk, meetk k hk, if_neg h, Option.bind_some]
    dsimp only
    rw [if_neg (by decide)]
end Go.Proofs.Ytceeocgpcagkjaa.PA
