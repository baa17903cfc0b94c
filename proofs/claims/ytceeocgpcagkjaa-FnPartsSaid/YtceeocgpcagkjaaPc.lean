/- The cursor that draws: what it answers lies in its bounds (plain lemmas). -/
import Derived.Test.YtceeocgpcagkjaaPAx2
namespace Go.Proofs.Ytceeocgpcagkjaa.PA
open Go.RowKit Go.Proofs.YtceeocgpcagkjaaW.PrintWords Go.Proofs.YtceeocgpcagkjaaW.PrintLast Go.Proofs.YtceeocgpcagkjaaW.PrintMore

theorem u64_and255 (x : Int) (h0 : 0 ≤ x) (h1 : x < 18446744073709551616) : bits .and .u64 x 255 = x % 256 :=
  bits_mask .u64 64 (by decide) (fun n a b => by rw [IntKind.wrap_u64]; omega) 8 (by decide) x h0 h1
/-- Bytes, as a slice of them is handed in. -/
def Bytes (c : List Int) : Prop := ∀ x ∈ c, 0 ≤ x ∧ x ≤ 255
theorem rd_bytes {c : List Int} (hb : Bytes c) (i : Int) (h0 : 0 ≤ i) (h1 : i < c.length) : 0 ≤ rd c i ∧ rd c i ≤ 255 := by
  have hl : i.toNat < c.length := by omega
  have : rd c i = c[i.toNat] := by unfold rd; rw [List.getD_eq_getElem?_getD, List.getElem?_eq_getElem hl]; rfl
  rw [this]
  exact hb _ (List.getElem_mem hl)
theorem seed_byte (n : Int) : 0 ≤ wrap64 (bits .and .u64 (IntKind.u64.wrap n / 1099511627776) 255) ∧ wrap64 (bits .and .u64 (IntKind.u64.wrap n / 1099511627776) 255) ≤ 255 := by
  have h : 0 ≤ IntKind.u64.wrap n ∧ IntKind.u64.wrap n < 18446744073709551616 := by rw [IntKind.wrap_u64]; omega
  rw [u64_and255 _ (by omega) (by omega)]
  unfold wrap64
  omega
/-- The next byte. -/
theorem next_ok (c : List Int) (hb : Bytes c) (p s : Int) (h0 : 0 ≤ p) (h1 : p ≤ 4611686018427387904) : ∃ r s', spec_l1Cur_next.f c p s = some (r, p + 1, s') ∧ 0 ≤ r ∧ r ≤ 255 := by
  have hw : wrap64 (p + 1) = p + 1 := by unfold wrap64; omega
  unfold spec_l1Cur_next.f
  rw [hw]
  by_cases a : p < c.length
  · have := rd_bytes hb p h0 a
    rw [if_pos a, if_pos h0]
    by_cases b : p + 1 ≤ c.length
    · rw [if_pos b]
      exact ⟨_, _, rfl, by unfold wrap64; omega, by unfold wrap64; omega⟩
    · rw [if_neg b]
      exact ⟨_, _, rfl, (seed_byte _).1, (seed_byte _).2⟩
  · rw [if_neg a]
    by_cases b : p + 1 ≤ c.length
    · omega
    · rw [if_neg b]
      exact ⟨_, _, rfl, (seed_byte _).1, (seed_byte _).2⟩
/-- A number from 0 to n - 1. -/
theorem pick_ok (c : List Int) (hb : Bytes c) (p s n : Int) (h0 : 0 ≤ p) (h1 : p ≤ 4000000000000000000) : ∃ r p' s', spec_l1Cur_pick.f c p s n = some (r, p', s') ∧ p ≤ p' ∧ p' ≤ p + 2 ∧ 0 ≤ r ∧ (1 ≤ n → r < n) ∧ (n ≤ 1 → r = 0) := by
  unfold spec_l1Cur_pick.f
  by_cases a : n ≤ 1
  · rw [if_pos a]
    exact ⟨0, p, s, rfl, by omega, by omega, by omega, fun _ => by omega, fun _ => rfl⟩
  · rw [if_neg a]
    obtain ⟨r, s1, e, ra, rb⟩ := next_ok c hb p s h0 (by omega)
    rw [e, Option.bind_some]
    by_cases b : n > 200
    · rw [if_pos b]
      obtain ⟨q, s2, e2, qa, qb⟩ := next_ok c hb (p + 1) s1 (by omega) (by omega)
      simp only [e2, Option.bind_some]
      rw [if_neg (by omega)]
      have hw : wrap64 (wrap64 (r * 256) + q) = r * 256 + q := by unfold wrap64; omega
      refine ⟨_, _, _, rfl, by omega, by omega, ?_, fun _ => ?_, fun _ => by omega⟩
      · rw [hw, Int.tmod_eq_emod_of_nonneg (by omega)]; exact Int.emod_nonneg _ (by omega)
      · rw [hw, Int.tmod_eq_emod_of_nonneg (by omega)]; exact Int.emod_lt_of_pos _ (by omega)
    · rw [if_neg b]
      simp only
      rw [if_neg (by omega)]
      refine ⟨_, _, _, rfl, by omega, by omega, ?_, fun _ => ?_, fun _ => by omega⟩
      · rw [Int.tmod_eq_emod_of_nonneg (by omega)]; exact Int.emod_nonneg _ (by omega)
      · rw [Int.tmod_eq_emod_of_nonneg (by omega)]; exact Int.emod_lt_of_pos _ (by omega)
theorem one_ok (c : List Int) (hb : Bytes c) (p s n : Int) (h0 : 0 ≤ p) (h1 : p ≤ 4000000000000000000) : ∃ r p' s', spec_l1Cur_one.f c p s n = some (r, p', s') ∧ p ≤ p' ∧ p' ≤ p + 2 := by
  obtain ⟨r, p', s', e, a, b, _⟩ := pick_ok c hb p s n h0 h1
  unfold spec_l1Cur_one.f
  rw [e, Option.bind_some]
  exact ⟨_, _, _, rfl, a, b⟩
theorem among_ok (c : List Int) (hb : Bytes c) (p s : Int) (l : List Int) (hl : 0 < l.length) (h0 : 0 ≤ p) (h1 : p ≤ 4000000000000000000) : ∃ r p' s', spec_l1Cur_among.f c p s l = some (r, p', s') ∧ p ≤ p' ∧ p' ≤ p + 2 := by
  obtain ⟨r, p', s', e, a, b, ra, rb, _⟩ := pick_ok c hb p s (l.length : Int) h0 h1
  have := rb (by omega)
  unfold spec_l1Cur_among.f
  rw [e, Option.bind_some]
  simp only
  rw [if_pos ra, if_pos this]
  exact ⟨_, _, _, rfl, a, b⟩
/-- Parents: some list of at most 201 numbers, one at least. -/
theorem parents_l0 (c : List Int) (hb : Bytes c) (m : Int) (hm : 1 ≤ m) (hm2 : m ≤ 1000) (d : Nat) : ∀ (k : Nat) (x : List Int) (i p s : Int), 0 ≤ i → m - i = d → d < k → x.length = i.toNat → 0 ≤ p → p ≤ 1000000 + 4 * i →
    ∃ r p' s', spec_l1Cur_parents.l0 k x m i c p s = some (r, p', s') ∧ 0 ≤ p' ∧ p' ≤ 2000000 ∧ r.length = m.toNat := by
  induction d with
  | zero =>
    intro k x i p s h0 hd hk hx hp hp2
    obtain ⟨k, rfl⟩ : ∃ q, k = q + 1 := ⟨k - 1, by omega⟩
    obtain ⟨r, p', s', e, a, b⟩ := one_ok c hb p s 30 hp (by omega)
    simp only [spec_l1Cur_parents.l0]
    rw [if_neg (by omega), e, Option.bind_some]
    simp only
    by_cases hr : r = true
    · rw [if_pos hr]
      obtain ⟨r2, p2, s2, e2, a2, b2⟩ := among_ok c hb p' s' [-1, 1] (by simp) (by omega) (by omega)
      rw [e2, Option.bind_some]
      simp only
      rw [if_pos (by omega)]
      exact ⟨_, _, _, rfl, by omega, by omega, by rw [List.length_set]; omega⟩
    · rw [if_neg hr]
      exact ⟨_, _, _, rfl, by omega, by omega, by omega⟩
  | succ d ih =>
    intro k x i p s h0 hd hk hx hp hp2
    obtain ⟨k, rfl⟩ : ∃ q, k = q + 1 := ⟨k - 1, by omega⟩
    obtain ⟨r, p', s', e, a, b⟩ := one_ok c hb p s 2 hp (by omega)
    have hw : wrap64 (i + 1) = i + 1 := by unfold wrap64; omega
    simp only [spec_l1Cur_parents.l0]
    rw [if_pos (by omega), e, Option.bind_some]
    simp only
    by_cases hr : r = true
    · rw [if_pos hr, if_pos (by omega), hw]
      exact ih k _ (i + 1) p' s' (by omega) (by omega) (by omega) (by rw [List.length_append, List.length_singleton]; omega) (by omega) (by omega)
    · rw [if_neg hr, hw]
      obtain ⟨q, p2, s2, e2, a2, b2, _⟩ := pick_ok c hb p' s' (i + 1) (by omega) (by omega)
      rw [e2, Option.bind_some]
      simp only
      rw [if_pos (by omega)]
      exact ih k _ (i + 1) p2 s2 (by omega) (by omega) (by omega) (by rw [List.length_append, List.length_singleton]; omega) (by omega) (by omega)
theorem parents_ok (c : List Int) (hb : Bytes c) : ∃ r p' s', (∀ k, 1010 ≤ k → spec_l1Cur_parents.f k c 0 0 = some (r, p', s')) ∧ 0 ≤ p' ∧ p' ≤ 2000000 ∧ 1 ≤ r.length ∧ r.length ≤ 1000 := by
  have mono : ∀ k, LeO (spec_l1Cur_parents.f k c 0 0) (spec_l1Cur_parents.f (k + 1) c 0 0) := spec_l1Cur_parents.mono _ _ _
  obtain ⟨K, hK⟩ : ∃ K : Nat, K = 1009 := ⟨_, rfl⟩
  suffices h : ∃ r p' s', spec_l1Cur_parents.f (K + 1) c 0 0 = some (r, p', s') ∧ 0 ≤ p' ∧ p' ≤ 2000000 ∧ 1 ≤ r.length ∧ r.length ≤ 1000 by
    obtain ⟨r, p', s', e, rest⟩ := h
    exact ⟨r, p', s', fun k hk => at_rounds mono (by omega) e, rest⟩
  unfold spec_l1Cur_parents.f
  obtain ⟨n, p1, s1, e1, a1, b1, n0, n1, _⟩ := pick_ok c hb 0 0 12 (by omega) (by omega)
  have := n1 (by omega)
  rw [e1, Option.bind_some]
  obtain ⟨o, p2, s2, e2, a2, b2⟩ := one_ok c hb p1 s1 30 (by omega) (by omega)
  simp only [e2, Option.bind_some]
  by_cases ho : o = true
  · rw [if_pos ho]
    obtain ⟨m, p3, s3, e3, a3, b3, m0, m1, _⟩ := pick_ok c hb p2 s2 2 (by omega) (by omega)
    have := m1 (by omega)
    simp only [e3, Option.bind_some]
    have hw : wrap64 (200 + m) = 200 + m := by unfold wrap64; omega
    rw [hw]
    simp only [spec_l1Cur_parents.j0]
    obtain ⟨r, p', s', e, q⟩ := parents_l0 c hb (200 + m) (by omega) (by omega) (200 + m).toNat K [] 0 p3 s3 (by omega) (by omega) (by omega) rfl (by omega) (by omega)
    exact ⟨r, p', s', e, q.1, q.2.1, by omega, by omega⟩
  · rw [if_neg ho]
    have hw : wrap64 (1 + n) = 1 + n := by unfold wrap64; omega
    rw [hw]
    simp only [spec_l1Cur_parents.j0]
    obtain ⟨r, p', s', e, q⟩ := parents_l0 c hb (1 + n) (by omega) (by omega) (1 + n).toNat K [] 0 p2 s2 (by omega) (by omega) (by omega) rfl (by omega) (by omega)
    exact ⟨r, p', s', e, q.1, q.2.1, by omega, by omega⟩
end Go.Proofs.Ytceeocgpcagkjaa.PA
