/- FnWrap's plain law. -/
import Derived.Test.YtceeocgpcagkjaaPBx4
namespace Go.Proofs.Ytceeocgpcagkjaa.PB
open Go.RowKit Go.Proofs.YtceeocgpcagkjaaW.PrintWords Go.Proofs.YtceeocgpcagkjaaW.PrintLast Go.Proofs.YtceeocgpcagkjaaW.PrintMore

theorem u64_and255 (x : Int) (h0 : 0 ≤ x) (h1 : x < 18446744073709551616) : bits .and .u64 x 255 = x % 256 :=
  bits_mask .u64 64 (by decide) (fun n a b => by rw [IntKind.wrap_u64]; omega) 8 (by decide) x h0 h1
/-- Bytes, as a slice of them is handed in. -/
def Bytes (c : List Int) : Prop := ∀ x ∈ c, 0 ≤ x ∧ x ≤ 255
theorem rd_bytes {c : List Int} (hb : Bytes c) (i : Int) (h0 : 0 ≤ i) (h1 : i < c.length) : 0 ≤ rd c i ∧ rd c i ≤ 255 := by
  have hl : i.toNat < c.length := by omega
  have : rd c i = c[i.toNat] := by unfold rd; rw [List.getD_eq_getElem?_getD, List.getElem?_eq_getElem hl]; rfl
  rw [this]
  exact hb _ (List.getElem_mem hl)
theorem seed_byte (n : Int) : 0 ≤ wrap64 (bits .and .u64 (IntKind.u64.wrap n / 1099511627776) 255) ∧ wrap64 (bits .and .u64 (IntKind.u64.wrap n / 1099511627776) 255) ≤ 255 := by
  have h : 0 ≤ IntKind.u64.wrap n ∧ IntKind.u64.wrap n < 18446744073709551616 := by rw [IntKind.wrap_u64]; omega
  rw [u64_and255 _ (by omega) (by omega)]
  unfold wrap64
  omega
/-- The next byte. -/
theorem next_ok (c : List Int) (hb : Bytes c) (p s : Int) (h0 : 0 ≤ p) (h1 : p ≤ 4611686018427387904) : ∃ r s', spec_l1Cur_next.f c p s = some (r, p + 1, s') ∧ 0 ≤ r ∧ r ≤ 255 := by
  have hw : wrap64 (p + 1) = p + 1 := by unfold wrap64; omega
  unfold spec_l1Cur_next.f
  rw [hw]
  by_cases a : p < c.length
  · have := rd_bytes hb p h0 a
    rw [if_pos a, if_pos h0]
    by_cases b : p + 1 ≤ c.length
    · rw [if_pos b]
      exact ⟨_, _, rfl, by unfold wrap64; omega, by unfold wrap64; omega⟩
    · rw [if_neg b]
      exact ⟨_, _, rfl, (seed_byte _).1, (seed_byte _).2⟩
  · rw [if_neg a]
    by_cases b : p + 1 ≤ c.length
    · omega
    · rw [if_neg b]
      exact ⟨_, _, rfl, (seed_byte _).1, (seed_byte _).2⟩
/-- A number from 0 to n - 1. -/
theorem pick_ok (c : List Int) (hb : Bytes c) (p s n : Int) (h0 : 0 ≤ p) (h1 : p ≤ 4000000000000000000) : ∃ r p' s', spec_l1Cur_pick.f c p s n = some (r, p', s') ∧ p ≤ p' ∧ p' ≤ p + 2 ∧ 0 ≤ r ∧ (1 ≤ n → r < n) ∧ (n ≤ 1 → r = 0) := by
  unfold spec_l1Cur_pick.f
  by_cases a : n ≤ 1
  · rw [if_pos a]
    exact ⟨0, p, s, rfl, by omega, by omega, by omega, fun _ => by omega, fun _ => rfl⟩
  · rw [if_neg a]
    obtain ⟨r, s1, e, ra, rb⟩ := next_ok c hb p s h0 (by omega)
    rw [e, Option.bind_some]
    by_cases b : n > 200
    · rw [if_pos b]
      obtain ⟨q, s2, e2, qa, qb⟩ := next_ok c hb (p + 1) s1 (by omega) (by omega)
      simp only [e2, Option.bind_some]
      rw [if_neg (by omega)]
      have hw : wrap64 (wrap64 (r * 256) + q) = r * 256 + q := by unfold wrap64; omega
      refine ⟨_, _, _, rfl, by omega, by omega, ?_, fun _ => ?_, fun _ => by omega⟩
      · rw [hw, Int.tmod_eq_emod_of_nonneg (by omega)]; exact Int.emod_nonneg _ (by omega)
      · rw [hw, Int.tmod_eq_emod_of_nonneg (by omega)]; exact Int.emod_lt_of_pos _ (by omega)
    · rw [if_neg b]
      simp only
      rw [if_neg (by omega)]
      refine ⟨_, _, _, rfl, by omega, by omega, ?_, fun _ => ?_, fun _ => by omega⟩
      · rw [Int.tmod_eq_emod_of_nonneg (by omega)]; exact Int.emod_nonneg _ (by omega)
      · rw [Int.tmod_eq_emod_of_nonneg (by omega)]; exact Int.emod_lt_of_pos _ (by omega)

/-! ### numbers that are drawn -/
theorem num_l0 (c : List Int) (hb : Bytes c) (d : Nat) : ∀ (k : Nat) (x i p s : Int), 0 ≤ i → 8 - i = d → d < k → 0 ≤ p → p ≤ 2000000 - d → ∃ r p' s', spec_l1Cur_num.l0 k x i c p s = some (r, p', s') ∧ 0 ≤ p' ∧ p' ≤ p + d := by
  induction d with
  | zero =>
    intro k x i p s h0 hd hk hp hp2
    obtain ⟨k, rfl⟩ : ∃ q, k = q + 1 := ⟨k - 1, by omega⟩
    simp only [spec_l1Cur_num.l0]
    rw [if_neg (by omega)]
    exact ⟨_, _, _, rfl, hp, by omega⟩
  | succ d ih =>
    intro k x i p s h0 hd hk hp hp2
    obtain ⟨k, rfl⟩ : ∃ q, k = q + 1 := ⟨k - 1, by omega⟩
    have hw : wrap64 (i + 1) = i + 1 := by unfold wrap64; omega
    obtain ⟨r, s1, e, _, _⟩ := next_ok c hb p s hp (by omega)
    simp only [spec_l1Cur_num.l0]
    rw [if_pos (by omega), e, Option.bind_some]
    dsimp only
    rw [hw]
    obtain ⟨r2, p2, s2, e2, q0, q1⟩ := ih k (bits .or .i64 (wrap64 (x * 256)) r) (i + 1) (p + 1) s1 (by omega) (by omega) (by omega) (by omega) (by omega)
    exact ⟨r2, p2, s2, e2, q0, by omega⟩
theorem num_ok (c : List Int) (hb : Bytes c) (p s : Int) (k : Nat) (hk : 10 ≤ k) (hp : 0 ≤ p) (hp2 : p ≤ 100000) : ∃ r p' s', spec_l1Cur_num.f k c p s = some (r, p', s') ∧ 0 ≤ p' ∧ p' ≤ p + 20 := by
  obtain ⟨n, p1, s1, e1, a1, b1, -⟩ := pick_ok c hb p s 7 hp (by omega)
  obtain ⟨m, p2, s2, e2, a2, b2, -⟩ := pick_ok c hb p1 s1 8 (by omega) (by omega)
  unfold spec_l1Cur_num.f
  rw [e1, Option.bind_some]
  dsimp only
  rw [e2, Option.bind_some]
  dsimp only
  by_cases h0 : m = 0
  · rw [if_pos h0]
    obtain ⟨r, p3, s3, e3, q0, q1⟩ := num_l0 c hb 8 k (wrap64 (n - 2)) 0 p2 s2 (by omega) (by omega) (by omega) (by omega) (by omega)
    exact ⟨r, p3, s3, e3, q0, by omega⟩
  · rw [if_neg h0]
    by_cases h1 : m = 1
    · rw [if_pos h1]
      obtain ⟨j, p3, s3, e3, a3, b3, -⟩ := pick_ok c hb p2 s2 64 (by omega) (by omega)
      rw [e3, Option.bind_some]
      dsimp only
      have hu : 0 ≤ IntKind.u64.wrap j := by rw [IntKind.wrap_u64]; omega
      rw [if_pos hu]
      exact ⟨_, _, _, rfl, by omega, by omega⟩
    · rw [if_neg h1]
      by_cases h2 : m = 2
      · rw [if_pos h2]
        obtain ⟨j, p3, s3, e3, a3, b3, -⟩ := pick_ok c hb p2 s2 3 (by omega) (by omega)
        rw [e3, Option.bind_some]
        exact ⟨_, _, _, rfl, by dsimp only; omega, by dsimp only; omega⟩
      · rw [if_neg h2]
        exact ⟨_, _, _, rfl, by omega, by omega⟩
theorem nums_l0 (c : List Int) (hb : Bytes c) (d : Nat) : ∀ (k : Nat) (n : Int) (x : List Int) (p s : Int), n ≤ d → d ≤ 1000 → d + 10 < k → x.length + d ≤ 10000 → 0 ≤ p → p + 20 * d ≤ 100000 → ∃ r p' s', spec_l1Cur_nums.l0 k n x c p s = some (r, p', s') := by
  induction d with
  | zero =>
    intro k n x p s hn hd2 hk hx hp hp2
    obtain ⟨k, rfl⟩ : ∃ q, k = q + 1 := ⟨k - 1, by omega⟩
    simp only [spec_l1Cur_nums.l0]
    rw [if_neg (by omega)]
    exact ⟨_, _, _, rfl⟩
  | succ d ih =>
    intro k n x p s hn hd2 hk hx hp hp2
    obtain ⟨k, rfl⟩ : ∃ q, k = q + 1 := ⟨k - 1, by omega⟩
    simp only [spec_l1Cur_nums.l0]
    by_cases h : n > 0
    · have hw : wrap64 (n - 1) = n - 1 := by unfold wrap64; omega
      obtain ⟨r, p1, s1, e, a, b⟩ := num_ok c hb p s k (by omega) hp (by omega)
      rw [if_pos h, e, Option.bind_some]
      dsimp only
      rw [if_pos (by omega), hw]
      exact ih k (n - 1) _ p1 s1 (by omega) (by omega) (by omega) (by rw [List.length_append, List.length_singleton]; omega) a (by omega)
    · rw [if_neg h]
      exact ⟨_, _, _, rfl⟩

/-! ### the operations -/
theorem two_ways (a : Int) (h0 : 0 ≤ a) (h1 : a < 13) : a = 0 ∨ a = 1 ∨ a = 2 ∨ a = 3 ∨ a = 4 ∨ a = 5 ∨ a = 6 ∨ a = 7 ∨ a = 8 ∨ a = 9 ∨ a = 10 ∨ a = 11 ∨ a = 12 := by omega
/-- How many arguments an operation has. -/
def ar (a : Int) : Int := if a = 1 ∨ a = 2 then 0 else if a = 3 then 1 else if a = 11 then 3 else if 4 ≤ a ∧ a ≤ 10 then 2 else -1
theorem specAr (k : Nat) (a : Int) : spec_l1Arity.f (k + 1) a = some (ar a) := by
  unfold spec_l1Arity.f ar
  simp only [spec_l1Arity.j0, spec_l1In.f]
  by_cases h1 : a = 1
  · rw [if_pos h1, if_pos trivial, if_pos (.inl h1)]
  · rw [if_neg h1]
    by_cases h2 : a = 2
    · rw [if_pos (by simp [h2]), if_pos (.inr h2)]
    · rw [if_neg (by simp [h2]), if_neg (show ¬ (a = 1 ∨ a = 2) by omega)]
      by_cases h3 : a = 3
      · rw [if_pos h3, if_pos h3]
      · rw [if_neg h3, if_neg h3]
        by_cases h4 : a = 11
        · rw [if_pos h4, if_pos h4]
        · rw [if_neg h4, if_neg h4]
          by_cases h5 : a ≥ 4
          · rw [if_pos h5, Option.bind_some]
            by_cases h6 : a ≤ 10
            · rw [if_pos (by simp [h6]), if_pos ⟨h5, h6⟩]
            · rw [if_neg (by simp [h6]), if_neg (fun h => h6 h.2)]
          · rw [if_neg h5, Option.bind_some, if_neg (by decide), if_neg (fun h => h5 h.1)]
theorem implAr (k : Nat) (a : Int) (h1 : 1 ≤ a) (h2 : a ≤ 11) : impl_arity.f (k + 1) a = some (ar a) := by
  unfold impl_arity.f ar
  simp only [impl_arity.j0]
  by_cases h1 : a = 1
  · rw [if_pos h1, if_pos (by simp [h1]), if_pos (.inl h1)]
  · rw [if_neg h1]
    by_cases h2 : a = 2
    · rw [if_pos (by simp [h2]), if_pos (.inr h2)]
    · rw [if_neg (by simp [h2]), if_neg (show ¬ (a = 1 ∨ a = 2) by omega)]
      by_cases h3 : a = 3
      · rw [if_pos h3, if_pos h3]
      · rw [if_neg h3, if_neg h3]
        by_cases h4 : a = 11
        · rw [if_pos h4, if_pos h4]
        · rw [if_neg h4, if_neg h4, if_pos (by omega)]
theorem i64_and63 (n : Int) : bits .and .i64 n 63 = n % 64 := by
  have h63 : (BitVec.ofInt 64 63).toNat = 2 ^ 6 - 1 := by decide
  have key : (BitVec.ofInt 64 n &&& BitVec.ofInt 64 63).toNat = (n % ((2 ^ 64 : Nat) : Int)).toNat % 2 ^ 6 := by
    rw [BitVec.toNat_and, BitVec.toNat_ofInt, h63, Nat.and_two_pow_sub_one_eq_mod]
  show IntKind.i64.wrap ((BitVec.ofInt 64 n &&& BitVec.ofInt 64 63).toNat : Nat) = n % 64
  rw [key, IntKind.wrap_i64]
  omega
theorem shift_same (y : Int) : Int.tmod (IntKind.u64.wrap y) 64 = y % 64 ∧ IntKind.u64.wrap (bits .and .i64 y 63) = y % 64 := by
  have h : 0 ≤ IntKind.u64.wrap y := by rw [IntKind.wrap_u64]; omega
  constructor
  · rw [Int.tmod_eq_emod_of_nonneg h, IntKind.wrap_u64]; omega
  · rw [i64_and63, IntKind.wrap_u64]; omega
theorem div_same (x y : Int) (h : ¬ y = 0) : spec_l1Div.f x y = some (wrap64 (Int.tdiv x y)) := by
  unfold spec_l1Div.f
  by_cases h1 : y = -1
  · rw [if_pos h1, h1, Int.tdiv_neg, Int.tdiv_one]
  · rw [if_neg h1, if_neg h]
theorem do_same (a : Int) (l : List Int) : spec_l1Do.f a l = impl_doOp.f a l := by
  unfold spec_l1Do.f impl_doOp.f
  have one : ∀ b : Bool, spec_l1Bool.f b = impl_oneIf.f b := fun b => rfl
  have d : ∀ x y : Int, (if y = 0 then some ((0 : Int), true) else if 0 < (l.length : Int) then ((spec_l1Div.f x y).bind fun t => some (t, false)) else none) = (if y = 0 then some (0, true) else if 0 < (l.length : Int) then some (wrap64 (Int.tdiv x y), false) else none) := by
    intro x y
    by_cases h : y = 0
    · rw [if_pos h, if_pos h]
    · rw [if_neg h, if_neg h, div_same x y h, Option.bind_some]
  simp only [one, d, (shift_same (rd l 1)).1, (shift_same (rd l 1)).2]
/-- An operation's answer, whole: it answers, and both alike. -/
theorem doOp_some (a : Int) (l : List Int) (h0 : 3 ≤ a) (h1 : a ≤ 11) (hl : (l.length : Int) = ar a) : ∃ n t, impl_doOp.f a l = some (n, t) := by
  unfold impl_doOp.f
  unfold ar at hl
  have hy := (shift_same (rd l 1)).1
  have hy2 : 0 ≤ rd l 1 % 64 := by omega
  rw [hy]
  unfold impl_oneIf.f
  by_cases g1 : 0 < (l.length : Int)
  · by_cases g2 : a = 3
    · rw [if_pos g2, if_pos g1]; exact ⟨_, _, rfl⟩
    · rw [if_neg (by omega), if_neg (by omega)] at hl
      have g3 : 1 < (l.length : Int) := by split at hl <;> omega
      simp only [if_pos g1, if_pos g3, if_pos hy2, if_neg g2]
      by_cases e4 : a = 4
      · rw [if_pos e4]; exact ⟨_, _, rfl⟩
      rw [if_neg e4]
      by_cases e5 : a = 5
      · rw [if_pos e5]; exact ⟨_, _, rfl⟩
      rw [if_neg e5]
      by_cases e6 : a = 6
      · rw [if_pos e6]; exact ⟨_, _, rfl⟩
      rw [if_neg e6]
      by_cases e7 : a = 7
      · rw [if_pos e7]; exact ⟨_, _, rfl⟩
      rw [if_neg e7]
      by_cases e8 : a = 8
      · rw [if_pos e8]; split <;> exact ⟨_, _, rfl⟩
      rw [if_neg e8]
      by_cases e9 : a = 9
      · rw [if_pos e9]; split <;> exact ⟨_, _, rfl⟩
      rw [if_neg e9]
      by_cases e10 : a = 10
      · rw [if_pos e10]; split <;> exact ⟨_, _, rfl⟩
      rw [if_neg e10]
      have e11 : a = 11 := by omega
      rw [if_pos e11] at hl
      by_cases z : rd l 0 = 0
      · rw [if_pos z, if_pos (by omega)]; exact ⟨_, _, rfl⟩
      · rw [if_neg z]; exact ⟨_, _, rfl⟩
  · exfalso; split at hl; omega; split at hl; omega; split at hl; omega; split at hl <;> omega
theorem doOps (k : Nat) (a : Int) (l : List Int) : ∃ z, impl_DoOp.f (k + 1) a l = some z ∧ spec_DoOp.f (k + 1) a l = some z := by
  unfold impl_DoOp.f spec_DoOp.f impl_within.f spec_l1In.f
  by_cases h : a ≥ 3
  · rw [if_pos h, Option.bind_some, Option.bind_some]
    by_cases h2 : a ≤ 11
    · rw [if_pos (by simp [h2]), if_pos (by simp [h2]), implAr k a (by omega) h2, specAr, Option.bind_some, Option.bind_some]
      by_cases hl : (l.length : Int) = ar a
      · obtain ⟨n, t, e⟩ := doOp_some a l h h2 hl
        rw [if_pos hl, if_pos hl, do_same, e, Option.bind_some]
        exact ⟨_, rfl, rfl⟩
      · rw [if_neg hl, if_neg hl]; exact ⟨_, rfl, rfl⟩
    · rw [if_neg (by simp [h2]), if_neg (by simp [h2])]; exact ⟨_, rfl, rfl⟩
  · rw [if_neg h, Option.bind_some, Option.bind_some, if_neg (by decide), if_neg (by decide)]
    exact ⟨_, rfl, rfl⟩
theorem arities (k : Nat) (a : Int) : ∃ z, impl_ArityOf.f (k + 1) a = some z ∧ spec_ArityOf.f (k + 1) a = some z := by
  unfold impl_ArityOf.f spec_ArityOf.f impl_isOp.f impl_within.f
  rw [specAr, Option.bind_some]
  by_cases h : a ≥ 1
  · rw [if_pos h, Option.bind_some, Option.bind_some]
    by_cases h2 : a ≤ 11
    · rw [if_pos (by simp [h2]), implAr k a h h2, Option.bind_some, if_neg (by unfold ar; repeat' split; all_goals omega)]
      exact ⟨_, rfl, rfl⟩
    · rw [if_neg (by simp [h2]), if_pos (by unfold ar; repeat' split; all_goals omega)]
      exact ⟨_, rfl, rfl⟩
  · rw [if_neg h, Option.bind_some, Option.bind_some, if_neg (by decide), if_pos (by unfold ar; repeat' split; all_goals omega)]
    exact ⟨_, rfl, rfl⟩
theorem drawDo_ok (c : List Int) (hb : Bytes c) (k : Nat) (hk : 1020 ≤ k) : ∃ a l, spec_DrawDoOp.f (k + 1) c = some (a, l) := by
  obtain ⟨a, p1, s1, e1, a1, b1, a0, al, -⟩ := pick_ok c hb 0 0 13 (by omega) (by omega)
  have := al (by omega)
  have har : ar a ≤ 3 ∧ -1 ≤ ar a := by unfold ar; repeat' split
                                        all_goals omega
  obtain ⟨m, hm, hm0, hm1⟩ : ∃ m, spec_l1Most.f 0 (ar a) = some m ∧ 0 ≤ m ∧ m ≤ 3 := by
    unfold spec_l1Most.f
    by_cases h : (0 : Int) > ar a
    · rw [if_pos h]; exact ⟨_, rfl, by omega, by omega⟩
    · rw [if_neg h]; exact ⟨_, rfl, by omega, by omega⟩
  obtain ⟨n, p2, s2, e2, a2, b2, n0, nl, -⟩ := pick_ok c hb p1 s1 20 (by omega) (by omega)
  have := nl (by omega)
  have hd : Int.tdiv n 19 = n / 19 := Int.tdiv_eq_ediv_of_nonneg n0
  have hw : wrap64 (m + wrap64 (Int.tdiv n 19)) = m + n / 19 := by rw [hd]; unfold wrap64; omega
  obtain ⟨r, p3, s3, e3⟩ := nums_l0 c hb 4 (k + 1) (m + n / 19) [] p2 s2 (by omega) (by omega) (by omega) (by simp) (by omega) (by omega)
  unfold spec_DrawDoOp.f spec_newCur.f spec_l1Cur_nums.f
  rw [Option.bind_some]
  dsimp only
  rw [e1, Option.bind_some]
  dsimp only
  rw [specAr, Option.bind_some, hm, Option.bind_some, e2, Option.bind_some]
  dsimp only
  rw [hw, e3, Option.bind_some]
  exact ⟨_, _, rfl⟩

/-! ### the three numbers -/
theorem number_l0 (l : List Int) (hl : l.length ≤ 1000000000000000) (d : Nat) : ∀ (k : Nat) (x i : Int), 0 ≤ i → (l.length : Int) - i = d → d < k → ∃ r, laws_numberOf.l0 k x l (l.length : Int) i = some r := by
  induction d with
  | zero =>
    intro k x i h0 hd hk
    obtain ⟨k, rfl⟩ : ∃ q, k = q + 1 := ⟨k - 1, by omega⟩
    simp only [laws_numberOf.l0]
    rw [if_neg (by omega)]
    exact ⟨_, rfl⟩
  | succ d ih =>
    intro k x i h0 hd hk
    obtain ⟨k, rfl⟩ : ∃ q, k = q + 1 := ⟨k - 1, by omega⟩
    have hw : wrap64 (i + 1) = i + 1 := by unfold wrap64; omega
    simp only [laws_numberOf.l0]
    rw [if_pos (by omega), if_pos h0, if_pos (by omega), hw]
    exact ih k _ (i + 1) (by omega) (by omega) (by omega)
theorem longs_l0 (d : Nat) : ∀ (k : Nat) (x : List Int) (s : Int), d < k → x.length + d ≤ 1000 → ∃ r, laws_longs.l0 k (d : Int) x s = some r ∧ r.length = x.length + d := by
  induction d with
  | zero =>
    intro k x s hk hx
    obtain ⟨k, rfl⟩ : ∃ q, k = q + 1 := ⟨k - 1, by omega⟩
    simp only [laws_longs.l0]
    rw [if_neg (by omega)]
    exact ⟨_, rfl, rfl⟩
  | succ d ih =>
    intro k x s hk hx
    obtain ⟨k, rfl⟩ : ∃ q, k = q + 1 := ⟨k - 1, by omega⟩
    have hw : wrap64 (((d + 1 : Nat) : Int) - 1) = (d : Int) := by unfold wrap64; omega
    have step : ∀ (v z : Int), ∃ r, laws_longs.l0 k (d : Int) (x ++ [v]) z = some r ∧ r.length = x.length + (d + 1) := fun v z =>
      (ih k (x ++ [v]) z (by omega) (by rw [List.length_append, List.length_singleton]; omega)).imp fun r hr => ⟨hr.1, by rw [hr.2, List.length_append, List.length_singleton]; omega⟩
    simp only [laws_longs.l0]
    rw [if_pos (by omega), hw]
    split
    · rw [if_pos (by omega)]; exact step _ _
    · rw [if_pos (by omega)]; exact step _ _
theorem longs_ok (l : List Int) (hl : l.length ≤ 1000000000000000) (k : Nat) (hk : l.length + 10 < k) : ∃ a b c, laws_longs.f k l 3 = some [a, b, c] := by
  obtain ⟨n, e⟩ := number_l0 l hl l.length k 0 0 (by omega) (by omega) (by omega)
  obtain ⟨r, e2, hr⟩ := longs_l0 3 k [] (IntKind.u64.wrap n) (by omega) (by simp)
  unfold laws_longs.f laws_numberOf.f
  rw [e, Option.bind_some]
  match r, hr with
  | [a, b, c], _ => exact ⟨a, b, c, e2⟩
theorem do4 (k : Nat) (x y : Int) : impl_DoOp.f (k + 1) 4 [x, y] = some (wrap64 (x + y), false, true) := by
  simp [impl_DoOp.f, impl_within.f, impl_arity.f, impl_arity.j0, impl_doOp.f, rd]
theorem do5 (k : Nat) (x y : Int) : impl_DoOp.f (k + 1) 5 [x, y] = some (wrap64 (x - y), false, true) := by
  simp [impl_DoOp.f, impl_within.f, impl_arity.f, impl_arity.j0, impl_doOp.f, rd]
theorem do6 (k : Nat) (x y : Int) : impl_DoOp.f (k + 1) 6 [x, y] = some (wrap64 (x * y), false, true) := by
  simp [impl_DoOp.f, impl_within.f, impl_arity.f, impl_arity.j0, impl_doOp.f, rd]
theorem do3 (k : Nat) (x : Int) : impl_DoOp.f (k + 1) 3 [x] = some (wrap64 (-x), false, true) := by
  simp [impl_DoOp.f, impl_within.f, impl_arity.f, impl_arity.j0, impl_doOp.f, rd]
theorem shl3 (x : Int) : shl .i64 x 3 = wrap64 (x * 8) := by
  show IntKind.i64.wrap (x * 2 ^ 3) = _
  rw [IntKind.wrap_i64]
  unfold wrap64
  omega
theorem do7 (k : Nat) (x : Int) : impl_DoOp.f (k + 1) 7 [x, 3] = some (wrap64 (x * 8), false, true) := by
  have h : Int.tmod (IntKind.u64.wrap 3) 64 = 3 := (shift_same 3).1
  have r : rd [x, 3] 1 = 3 := rfl
  have r0 : rd [x, 3] 0 = x := rfl
  simp [impl_DoOp.f, impl_within.f, impl_arity.f, impl_arity.j0, impl_doOp.f, r, r0, h, shl3]
theorem wr (x q : Int) : wrap64 (x + q * 18446744073709551616) = wrap64 x := by unfold wrap64; omega
theorem wex (x : Int) : ∃ q, wrap64 x = x + q * 18446744073709551616 := ⟨-((x + 9223372036854775808) / 18446744073709551616), by unfold wrap64; omega⟩
theorem over (a b c : Int) : wrap64 (wrap64 (a + b) * c) = wrap64 (wrap64 (a * c) + wrap64 (b * c)) := by
  obtain ⟨p, e1⟩ := wex (a + b)
  obtain ⟨q, e2⟩ := wex (a * c)
  obtain ⟨r, e3⟩ := wex (b * c)
  rw [e1, e2, e3, show (a + b + p * 18446744073709551616) * c = (a * c + b * c) + p * c * 18446744073709551616 from by rw [Int.add_mul, Int.add_mul, Int.mul_right_comm], show a * c + q * 18446744073709551616 + (b * c + r * 18446744073709551616) = (a * c + b * c) + (q + r) * 18446744073709551616 from by rw [Int.add_mul]; omega, wr, wr]
theorem less (a b : Int) : wrap64 (a - b) = wrap64 (a + wrap64 (-b)) := by
  obtain ⟨p, e⟩ := wex (-b)
  rw [e, show a + (-b + p * 18446744073709551616) = (a - b) + p * 18446744073709551616 from by omega, wr]
theorem wrap_foot (l : List Int) (hl : l.length ≤ 1000000000000000) (k : Nat) (hk : l.length + 20 < k) : laws_FnWrap.j0 (k + 2) l false = some true := by
  obtain ⟨a, b, c, e⟩ := longs_ok l hl (k + 1) (by omega)
  have r0 : rd [a, b, c] 0 = a := rfl
  have r1 : rd [a, b, c] 1 = b := rfl
  have r2 : rd [a, b, c] 2 = c := rfl
  simp only [laws_FnWrap.j0]
  rw [if_neg (by decide), e, Option.bind_some, if_pos (show 0 < (([a, b, c] : List Int).length : Int) by simp), if_pos (show 1 < (([a, b, c] : List Int).length : Int) by simp), if_pos (show 2 < (([a, b, c] : List Int).length : Int) by simp)]
  rw [r0, r1, r2]
  simp only [do4, do6, do3, do5, do7, Option.bind_some]
  rw [if_pos trivial, if_pos trivial, if_pos trivial, if_pos trivial, if_pos trivial, if_pos trivial, if_pos trivial, if_pos trivial, if_pos trivial, if_pos (over a b c), if_pos (less a b), if_pos trivial, beq_self_eq_true]
end Go.Proofs.Ytceeocgpcagkjaa.PB
