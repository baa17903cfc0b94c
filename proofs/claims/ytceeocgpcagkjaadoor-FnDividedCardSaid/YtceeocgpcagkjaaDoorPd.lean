/- FnDivided's plain law: the parts. -/
import Derived.Test.YtceeocgpcagkjaaDoorPAx4
namespace Go.Proofs.YtceeocgpcagkjaaDoor.PA
open Go.RowKit Go.Proofs.YtceeocgpcagkjaaDoorW.PrintWords Go.Proofs.YtceeocgpcagkjaaDoorW.PrintLast Go.Proofs.YtceeocgpcagkjaaDoorW.PrintMore

theorem u64_and255 (x : Int) (h0 : 0 ≤ x) (h1 : x < 18446744073709551616) : bits .and .u64 x 255 = x % 256 :=
  bits_mask .u64 64 (by decide) (fun n a b => by rw [IntKind.wrap_u64]; omega) 8 (by decide) x h0 h1
/-- Bytes, as a slice of them is handed in. -/
def Bytes (c : List Int) : Prop := ∀ x ∈ c, 0 ≤ x ∧ x ≤ 255
theorem rd_bytes {c : List Int} (hb : Bytes c) (i : Int) (h0 : 0 ≤ i) (h1 : i < c.length) : 0 ≤ rd c i ∧ rd c i ≤ 255 := by
  have hl : i.toNat < c.length := by omega
  have : rd c i = c[i.toNat] := by unfold rd; rw [List.getD_eq_getElem?_getD, List.getElem?_eq_getElem hl]; rfl
  rw [this]
  exact hb _ (List.getElem_mem hl)
theorem seed_byte (n : Int) : 0 ≤ wrap64 (bits .and .u64 (IntKind.u64.wrap n / 1099511627776) 255) ∧ wrap64 (bits .and .u64 (IntKind.u64.wrap n / 1099511627776) 255) ≤ 255 := by
  have h : 0 ≤ IntKind.u64.wrap n ∧ IntKind.u64.wrap n < 18446744073709551616 := by rw [IntKind.wrap_u64]; omega
  rw [u64_and255 _ (by omega) (by omega)]
  unfold wrap64
  omega
/-- The next byte. -/
theorem next_ok (c : List Int) (hb : Bytes c) (p s : Int) (h0 : 0 ≤ p) (h1 : p ≤ 4611686018427387904) : ∃ r s', spec_l1Cur_next.f c p s = some (r, p + 1, s') ∧ 0 ≤ r ∧ r ≤ 255 := by
  have hw : wrap64 (p + 1) = p + 1 := by unfold wrap64; omega
  unfold spec_l1Cur_next.f
  rw [hw]
  by_cases a : p < c.length
  · have := rd_bytes hb p h0 a
    rw [if_pos a, if_pos h0]
    by_cases b : p + 1 ≤ c.length
    · rw [if_pos b]
      exact ⟨_, _, rfl, by unfold wrap64; omega, by unfold wrap64; omega⟩
    · rw [if_neg b]
      exact ⟨_, _, rfl, (seed_byte _).1, (seed_byte _).2⟩
  · rw [if_neg a]
    by_cases b : p + 1 ≤ c.length
    · omega
    · rw [if_neg b]
      exact ⟨_, _, rfl, (seed_byte _).1, (seed_byte _).2⟩
/-- A number from 0 to n - 1. -/
theorem pick_ok (c : List Int) (hb : Bytes c) (p s n : Int) (h0 : 0 ≤ p) (h1 : p ≤ 4000000000000000000) : ∃ r p' s', spec_l1Cur_pick.f c p s n = some (r, p', s') ∧ p ≤ p' ∧ p' ≤ p + 2 ∧ 0 ≤ r ∧ (1 ≤ n → r < n) ∧ (n ≤ 1 → r = 0) := by
  unfold spec_l1Cur_pick.f
  by_cases a : n ≤ 1
  · rw [if_pos a]
    exact ⟨0, p, s, rfl, by omega, by omega, by omega, fun _ => by omega, fun _ => rfl⟩
  · rw [if_neg a]
    obtain ⟨r, s1, e, ra, rb⟩ := next_ok c hb p s h0 (by omega)
    rw [e, Option.bind_some]
    by_cases b : n > 200
    · rw [if_pos b]
      obtain ⟨q, s2, e2, qa, qb⟩ := next_ok c hb (p + 1) s1 (by omega) (by omega)
      simp only [e2, Option.bind_some]
      rw [if_neg (by omega)]
      have hw : wrap64 (wrap64 (r * 256) + q) = r * 256 + q := by unfold wrap64; omega
      refine ⟨_, _, _, rfl, by omega, by omega, ?_, fun _ => ?_, fun _ => by omega⟩
      · rw [hw, Int.tmod_eq_emod_of_nonneg (by omega)]; exact Int.emod_nonneg _ (by omega)
      · rw [hw, Int.tmod_eq_emod_of_nonneg (by omega)]; exact Int.emod_lt_of_pos _ (by omega)
    · rw [if_neg b]
      simp only
      rw [if_neg (by omega)]
      refine ⟨_, _, _, rfl, by omega, by omega, ?_, fun _ => ?_, fun _ => by omega⟩
      · rw [Int.tmod_eq_emod_of_nonneg (by omega)]; exact Int.emod_nonneg _ (by omega)
      · rw [Int.tmod_eq_emod_of_nonneg (by omega)]; exact Int.emod_lt_of_pos _ (by omega)


def I64 (x : Int) : Prop := -9223372036854775808 ≤ x ∧ x ≤ 9223372036854775807
theorem i64_wrap64 (x : Int) : I64 (wrap64 x) := by unfold I64 wrap64; omega
theorem i64_wrap (x : Int) : I64 (IntKind.i64.wrap x) := by unfold I64; rw [IntKind.wrap_i64]; omega
theorem wrap64_id {x : Int} (h : I64 x) : wrap64 x = x := by unfold I64 at h; unfold wrap64; omega
theorem i64_shl (x y : Int) : I64 (shl .i64 x y) := i64_wrap _
theorem i64_bits (x y : Int) : I64 (bits .or .i64 x y) := i64_wrap _

/-! ### numbers that are drawn -/
theorem num_l0 (c : List Int) (hb : Bytes c) (d : Nat) : ∀ (k : Nat) (x i p s : Int), 0 ≤ i → 8 - i = d → d < k → 0 ≤ p → p ≤ 2000000 - d → I64 x → ∃ r p' s', spec_l1Cur_num.l0 k x i c p s = some (r, p', s') ∧ 0 ≤ p' ∧ p' ≤ p + d ∧ I64 r := by
  induction d with
  | zero =>
    intro k x i p s h0 hd hk hp hp2 hx
    obtain ⟨k, rfl⟩ : ∃ q, k = q + 1 := ⟨k - 1, by omega⟩
    simp only [spec_l1Cur_num.l0]
    rw [if_neg (by omega)]
    exact ⟨_, _, _, rfl, hp, by omega, hx⟩
  | succ d ih =>
    intro k x i p s h0 hd hk hp hp2 hx
    obtain ⟨k, rfl⟩ : ∃ q, k = q + 1 := ⟨k - 1, by omega⟩
    have hw : wrap64 (i + 1) = i + 1 := by unfold wrap64; omega
    obtain ⟨r, s1, e, _, _⟩ := next_ok c hb p s hp (by omega)
    simp only [spec_l1Cur_num.l0]
    rw [if_pos (by omega), e, Option.bind_some]
    dsimp only
    rw [hw]
    obtain ⟨r2, p2, s2, e2, q0, q1, q2⟩ := ih k (bits .or .i64 (wrap64 (x * 256)) r) (i + 1) (p + 1) s1 (by omega) (by omega) (by omega) (by omega) (by omega) (i64_bits _ _)
    exact ⟨r2, p2, s2, e2, q0, by omega, q2⟩
theorem num_ok (c : List Int) (hb : Bytes c) (p s : Int) (k : Nat) (hk : 10 ≤ k) (hp : 0 ≤ p) (hp2 : p ≤ 100000) : ∃ r p' s', spec_l1Cur_num.f k c p s = some (r, p', s') ∧ 0 ≤ p' ∧ p' ≤ p + 20 ∧ I64 r := by
  obtain ⟨n, p1, s1, e1, a1, b1, -⟩ := pick_ok c hb p s 7 hp (by omega)
  obtain ⟨m, p2, s2, e2, a2, b2, -⟩ := pick_ok c hb p1 s1 8 (by omega) (by omega)
  unfold spec_l1Cur_num.f
  rw [e1, Option.bind_some]
  dsimp only
  rw [e2, Option.bind_some]
  dsimp only
  by_cases h0 : m = 0
  · rw [if_pos h0]
    obtain ⟨r, p3, s3, e3, q0, q1, q2⟩ := num_l0 c hb 8 k (wrap64 (n - 2)) 0 p2 s2 (by omega) (by omega) (by omega) (by omega) (by omega) (i64_wrap64 _)
    exact ⟨r, p3, s3, e3, q0, by omega, q2⟩
  · rw [if_neg h0]
    by_cases h1 : m = 1
    · rw [if_pos h1]
      obtain ⟨j, p3, s3, e3, a3, b3, -⟩ := pick_ok c hb p2 s2 64 (by omega) (by omega)
      rw [e3, Option.bind_some]
      dsimp only
      have hu : 0 ≤ IntKind.u64.wrap j := by rw [IntKind.wrap_u64]; omega
      rw [if_pos hu]
      exact ⟨_, _, _, rfl, by omega, by omega, i64_shl _ _⟩
    · rw [if_neg h1]
      by_cases h2 : m = 2
      · rw [if_pos h2]
        obtain ⟨j, p3, s3, e3, a3, b3, -⟩ := pick_ok c hb p2 s2 3 (by omega) (by omega)
        rw [e3, Option.bind_some]
        exact ⟨_, _, _, rfl, by dsimp only; omega, by dsimp only; omega, i64_wrap64 _⟩
      · rw [if_neg h2]
        exact ⟨_, _, _, rfl, by omega, by omega, i64_wrap64 _⟩
theorem drawOdd_ok (c : List Int) (hb : Bytes c) (k : Nat) (hk : 10 ≤ k) : ∃ a, spec_DrawOddInverse.f k c = some a ∧ I64 a := by
  obtain ⟨r, p', s', e, _, _, hr⟩ := num_ok c hb 0 0 k hk (by omega) (by omega)
  unfold spec_DrawOddInverse.f spec_newCur.f
  rw [Option.bind_some]
  dsimp only
  rw [e, Option.bind_some]
  exact ⟨_, rfl, hr⟩
theorem drawPower_ok (c : List Int) (hb : Bytes c) (k : Nat) (hk : 10 ≤ k) : ∃ a n, spec_DrawPowerOf.f k c = some (a, n) ∧ -1 ≤ n ∧ n ≤ 65 := by
  obtain ⟨r, p1, s1, e, a1, b1, hr⟩ := num_ok c hb 0 0 k hk (by omega) (by omega)
  obtain ⟨j, p2, s2, e2, _, _, j0, j1, _⟩ := pick_ok c hb p1 s1 7 a1 (by omega)
  have := j1 (by omega)
  unfold spec_DrawPowerOf.f spec_newCur.f spec_l1Cur_among.f
  rw [Option.bind_some]
  dsimp only
  rw [e, Option.bind_some]
  dsimp only
  rw [show ((([-1, 0, 1, 2, 3, 64, 65] : List Int).length : Nat) : Int) = 7 from rfl, e2, Option.bind_some]
  dsimp only
  rw [if_pos j0, if_pos this, Option.bind_some]
  refine ⟨_, _, rfl, ?_⟩
  dsimp only
  rcases (show j = 0 ∨ j = 1 ∨ j = 2 ∨ j = 3 ∨ j = 4 ∨ j = 5 ∨ j = 6 by omega) with rfl | rfl | rfl | rfl | rfl | rfl | rfl <;> exact ⟨by decide, by decide⟩

/-! ### powers -/
def pw (a : Int) : Nat → Int
  | 0 => 1
  | n + 1 => wrap64 (pw a n * a)
theorem implPow_l0 (a : Int) (n : Nat) (hn : n ≤ 1000) (d : Nat) : ∀ (k i : Nat), i + d = n → d < k → impl_power.l0 k a (pw a i) (n : Int) (i : Int) = some (pw a n) := by
  induction d with
  | zero =>
    intro k i hd hk
    obtain ⟨k, rfl⟩ : ∃ q, k = q + 1 := ⟨k - 1, by omega⟩
    simp only [impl_power.l0]
    rw [if_neg (by omega), show i = n by omega]
  | succ d ih =>
    intro k i hd hk
    obtain ⟨k, rfl⟩ : ∃ q, k = q + 1 := ⟨k - 1, by omega⟩
    have hw : wrap64 ((i : Int) + 1) = ((i + 1 : Nat) : Int) := by unfold wrap64; omega
    simp only [impl_power.l0]
    rw [if_pos (by omega), hw]
    exact ih k (i + 1) (by omega) (by omega)
theorem specPow_l0 (a : Int) (n : Nat) (hn : n ≤ 1000) (d : Nat) : ∀ (k i : Nat), i + d = n → d < k → spec_l1Power.l0 k a (d : Int) (pw a i) = some (pw a n) := by
  induction d with
  | zero =>
    intro k i hd hk
    obtain ⟨k, rfl⟩ : ∃ q, k = q + 1 := ⟨k - 1, by omega⟩
    simp only [spec_l1Power.l0]
    rw [if_neg (by omega), show i = n by omega]
  | succ d ih =>
    intro k i hd hk
    obtain ⟨k, rfl⟩ : ∃ q, k = q + 1 := ⟨k - 1, by omega⟩
    have hw : wrap64 (((d + 1 : Nat) : Int) - 1) = (d : Int) := by unfold wrap64; omega
    simp only [spec_l1Power.l0]
    rw [if_pos (by omega), hw]
    exact ih k (i + 1) (by omega) (by omega)
theorem implPower (a n : Int) (k : Nat) (hk : 100 ≤ k) : impl_PowerOf.f k a n = if 0 ≤ n ∧ n ≤ 64 then some (pw a n.toNat, true) else some (0, false) := by
  unfold impl_PowerOf.f impl_within.f impl_power.f
  by_cases h : n ≥ 0
  · rw [if_pos h, Option.bind_some]
    by_cases h2 : n ≤ 64
    · have := implPow_l0 a n.toNat (by omega) n.toNat k 0 (by omega) (by omega)
      rw [Int.toNat_of_nonneg h] at this
      rw [if_pos (by simp [h2]), if_pos ⟨h, h2⟩]
      show ((impl_power.l0 k a (pw a 0) n ((0 : Nat) : Int)).bind fun t => some (t, true)) = _
      rw [this, Option.bind_some]
    · rw [if_neg (by simp [h2]), if_neg (fun q => h2 q.2)]
  · rw [if_neg h, Option.bind_some, if_neg (by decide), if_neg (fun q => h q.1)]
theorem specPower (a n : Int) (k : Nat) (hk : 100 ≤ k) : spec_PowerOf.f k a n = if 0 ≤ n ∧ n ≤ 64 then some (pw a n.toNat, true) else some (0, false) := by
  unfold spec_PowerOf.f spec_l1In.f spec_l1Power.f
  by_cases h : n ≥ 0
  · rw [if_pos h, Option.bind_some]
    by_cases h2 : n ≤ 64
    · have := specPow_l0 a n.toNat (by omega) n.toNat k 0 (by omega) (by omega)
      rw [Int.toNat_of_nonneg h] at this
      rw [if_pos (by simp [h2]), if_pos ⟨h, h2⟩]
      show ((spec_l1Power.l0 k a n (pw a 0)).bind fun t => some (t, true)) = _
      rw [this, Option.bind_some]
    · rw [if_neg (by simp [h2]), if_neg (fun q => h2 q.2)]
  · rw [if_neg h, Option.bind_some, if_neg (by decide), if_neg (fun q => h q.1)]

/-! ### division -/
theorem do8 (k : Nat) (x y : Int) : impl_DoOp.f (k + 1) 8 [x, y] = if y = 0 then some (0, true, true) else some (wrap64 (Int.tdiv x y), false, true) := by
  have r0 : rd [x, y] 0 = x := rfl
  have r1 : rd [x, y] 1 = y := rfl
  by_cases h : y = 0
  · subst h
    simp [impl_DoOp.f, impl_within.f, impl_arity.f, impl_arity.j0, impl_doOp.f, r1]
  · simp [impl_DoOp.f, impl_within.f, impl_arity.f, impl_arity.j0, impl_doOp.f, r0, r1, h]
theorem rest_is (x y : Int) (hx : I64 x) (h0 : 0 < y) (h1 : y < 2147483648) : wrap64 (x - wrap64 (wrap64 (Int.tdiv x y) * y)) = Int.tmod x y := by
  have e := Int.mul_tdiv_add_tmod x y
  have a1 : Int.tmod x y < y := Int.tmod_lt_of_pos x h0
  have a2 : -y < Int.tmod x y := by have := Int.lt_tmod_of_pos x h0; omega
  have hq : I64 (Int.tdiv x y) := by
    unfold I64 at *
    rcases Int.lt_or_le x 0 with n | n
    · have e2 : Int.tdiv x y = -((-x) / y) := by rw [← Int.tdiv_eq_ediv_of_nonneg (by omega), Int.neg_tdiv, Int.neg_neg]
      have b1 : 0 ≤ (-x) / y := Int.ediv_nonneg (by omega) (by omega)
      have b2 : (-x) / y ≤ -x := Int.ediv_le_self _ (by omega)
      omega
    · have e2 : Int.tdiv x y = x / y := Int.tdiv_eq_ediv_of_nonneg n
      have b1 : 0 ≤ x / y := Int.ediv_nonneg n (by omega)
      have b2 : x / y ≤ x := Int.ediv_le_self _ n
      omega
  rw [wrap64_id hq]
  have hm : Int.tdiv x y * y = x - Int.tmod x y := by rw [Int.mul_comm]; omega
  rw [hm]
  unfold wrap64
  unfold I64 at hx
  omega
theorem foot4 (k : Nat) (x y : Int) (hx : I64 x) (hy : ¬ y = 0) : laws_FnDivided.j4 (k + 1) x y (wrap64 (Int.tdiv x y)) false = some true := by
  simp only [laws_FnDivided.j4]
  rw [if_neg (by decide)]
  by_cases h0 : y > 0
  · rw [if_pos h0]
    by_cases h1 : y < 2147483648
    · have a1 : Int.tmod x y < y := Int.tmod_lt_of_pos x h0
      have a2 : -y < Int.tmod x y := by have := Int.lt_tmod_of_pos x h0; omega
      have hw : wrap64 (-y) = -y := by unfold wrap64; omega
      rw [if_pos h1, rest_is x y hx h0 h1, hw, if_pos a1, if_pos (by omega)]
      by_cases z : Int.tmod x y = 0
      · rw [if_pos z]
      · rw [if_neg z]
        have : decide (Int.tmod x y < 0) = decide (x < 0) := by
          by_cases n : x < 0
          · have : Int.tmod x y ≤ 0 := by
              have q : 0 ≤ Int.tmod (-x) y := Int.tmod_nonneg y (by omega)
              rw [Int.neg_tmod] at q
              omega
            rw [decide_eq_true n, decide_eq_true (by omega)]
          · have : 0 ≤ Int.tmod x y := Int.tmod_nonneg y (by omega)
            rw [decide_eq_false n, decide_eq_false (by omega)]
        rw [this]
        simp
    · rw [if_neg h1]
  · rw [if_neg h0]
theorem foot3 (k : Nat) (x y : Int) (hx : I64 x) : laws_FnDivided.j3 (k + 3) x y = some true := by
  simp only [laws_FnDivided.j3]
  rw [do8 (k + 1)]
  by_cases h : y = 0
  · rw [if_pos h, Option.bind_some]
    dsimp only
    rw [if_pos rfl, h]
    simp [laws_FnDivided.j4]
  · rw [if_neg h, Option.bind_some]
    dsimp only
    rw [if_pos rfl, show (false != (y == 0)) = false by simp [h]]
    exact foot4 (k + 1) x y hx h
theorem foot0 (k : Nat) (hk : 200 ≤ k) (c : List Int) (hb : Bytes c) (x : Int) (hx : I64 x) : laws_FnDivided.j0 (k + 6) c x false = some true := by
  obtain ⟨a, n, e, n0, n1⟩ := drawPower_ok c hb (k + 5) (by omega)
  simp only [laws_FnDivided.j0]
  rw [if_neg (by decide), e, Option.bind_some]
  dsimp only
  rw [implPower a n (k + 5) (by omega), specPower a n (k + 5) (by omega)]
  have f3 := foot3 k x a hx
  by_cases h : 0 ≤ n ∧ n ≤ 64
  · rw [if_pos h, Option.bind_some, Option.bind_some]
    dsimp only
    rw [if_neg (by simp), bne_self_eq_false]
    simp only [laws_FnDivided.j1]
    rw [if_neg (by decide), if_pos trivial]
    by_cases p : n > 0
    · have hw : wrap64 (n - 1) = n - 1 := by unfold wrap64; omega
      rw [decide_eq_true p]
      simp only [laws_FnDivided.j2]
      rw [if_pos trivial, hw, implPower a (n - 1) (k + 3) (by omega), if_pos (by omega), Option.bind_some]
      dsimp only
      rw [if_pos rfl, if_pos (show wrap64 (pw a (n - 1).toNat * a) = pw a n.toNat by rw [show n.toNat = (n - 1).toNat + 1 by omega]; rfl)]
      exact f3
    · rw [decide_eq_false p]
      simp only [laws_FnDivided.j2]
      rw [if_neg (by decide)]
      exact f3
  · rw [if_neg h, Option.bind_some, Option.bind_some]
    dsimp only
    rw [if_neg (by simp), bne_self_eq_false]
    simp only [laws_FnDivided.j1]
    rw [if_neg (by decide), if_neg (by decide)]
    simp only [laws_FnDivided.j2]
    rw [if_neg (by decide)]
    exact f3
end Go.Proofs.YtceeocgpcagkjaaDoor.PA
