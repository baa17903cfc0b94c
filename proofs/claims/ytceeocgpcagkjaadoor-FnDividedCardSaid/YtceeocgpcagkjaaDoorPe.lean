/- FnDivided's plain law: odd inverses. -/
import Derived.Test.YtceeocgpcagkjaaDoorPd
namespace Go.Proofs.YtceeocgpcagkjaaDoor.PA
open Go.RowKit Go.Proofs.YtceeocgpcagkjaaDoorW.PrintWords Go.Proofs.YtceeocgpcagkjaaDoorW.PrintLast Go.Proofs.YtceeocgpcagkjaaDoorW.PrintMore

theorem ctz_odd (x : Nat) (hx : x < 2 ^ 64) : Lib.ctz 64 x = 0 ↔ x % 2 = 1 := by
  unfold Lib.ctz
  by_cases h : x = 0
  · rw [if_pos h, h]; decide
  · rw [if_neg h]
    obtain ⟨m, e, _⟩ := Lib.ctzFrom_spec 64 x (by omega) hx
    generalize Lib.ctzFrom 64 x = t at e
    cases t with
    | zero => rw [Nat.pow_zero, Nat.one_mul] at e; omega
    | succ s =>
      rw [Nat.pow_succ, Nat.mul_assoc, Nat.mul_left_comm] at e
      generalize 2 ^ s * (2 * m + 1) = z at e
      omega
theorem wex (x : Int) : ∃ q, wrap64 x = x + q * 18446744073709551616 := ⟨-((x + 9223372036854775808) / 18446744073709551616), by unfold wrap64; omega⟩
theorem one_of (z : Int) (h : (18446744073709551616 : Int) ∣ z - 1) : wrap64 z = 1 := by
  obtain ⟨q, e⟩ := h
  unfold wrap64
  omega
theorem newton (a x D E : Int) (hD : D ∣ x * a - 1) (hE : E ∣ D * D) (hM : E ∣ 18446744073709551616) : E ∣ wrap64 (x * wrap64 (2 - wrap64 (x * a))) * a - 1 := by
  obtain ⟨p, e1⟩ := wex (x * a)
  obtain ⟨q, e2⟩ := wex (2 - wrap64 (x * a))
  obtain ⟨r, e3⟩ := wex (x * wrap64 (2 - wrap64 (x * a)))
  rw [e3, e2, e1]
  have key : (x * (2 - (x * a + p * 18446744073709551616) + q * 18446744073709551616) + r * 18446744073709551616) * a - 1 = -((x * a - 1) * (x * a - 1)) + (x * (q - p) * a + r * a) * 18446744073709551616 := by grind
  rw [key]
  exact Int.dvd_add (Int.dvd_neg.2 (Int.dvd_trans hE (Int.mul_dvd_mul hD hD))) (Int.dvd_trans hM (Int.dvd_mul_left _ _))
def Inv (a x : Int) : Prop := (18446744073709551616 : Int) ∣ x * a - 1 ∧ I64 x
theorem odd_step (a x D E : Int) (k : Nat) (hx : I64 x) (hD : D ∣ x * a - 1) (hE : E ∣ D * D) (hM : E ∣ 18446744073709551616) (go : ∀ y, I64 y → E ∣ y * a - 1 → ∃ z, impl_OddInverse.l0 k a y = some (z, true) ∧ Inv a z) :
    ∃ z, impl_OddInverse.l0 (k + 1) a x = some (z, true) ∧ Inv a z := by
  simp only [impl_OddInverse.l0]
  by_cases h : wrap64 (x * a) = 1
  · rw [if_pos h]
    obtain ⟨q, e⟩ := wex (x * a)
    exact ⟨x, rfl, ⟨-q, by rw [h] at e; omega⟩, hx⟩
  · rw [if_neg h]
    exact go _ (i64_wrap64 _) (newton a x D E hD hE hM)
theorem odd_square (a : Int) (h : a % 2 = 1) : (8 : Int) ∣ a * a - 1 := by
  have e : a % 8 = 1 ∨ a % 8 = 3 ∨ a % 8 = 5 ∨ a % 8 = 7 := by omega
  have : (a * a) % 8 = 1 := by
    rw [Int.mul_emod]
    rcases e with e | e | e | e <;> rw [e] <;> decide
  omega
theorem impl_odd (a : Int) (k : Nat) (ha : I64 a) (h : a % 2 = 1) : ∃ z, impl_OddInverse.l0 (k + 6) a a = some (z, true) ∧ Inv a z :=
  odd_step a a 8 64 (k + 5) ha (odd_square a h) (by decide) (by decide) fun x hx h => odd_step a x 64 4096 (k + 4) hx h (by decide) (by decide) fun x hx h =>
  odd_step a x 4096 16777216 (k + 3) hx h (by decide) (by decide) fun x hx h => odd_step a x 16777216 281474976710656 (k + 2) hx h (by decide) (by decide) fun x hx h =>
  odd_step a x 281474976710656 18446744073709551616 (k + 1) hx h (by decide) (by decide) fun x hx h => by
    simp only [impl_OddInverse.l0]
    rw [if_pos (one_of _ h)]
    exact ⟨x, rfl, h, hx⟩
theorem implOdd (a : Int) (k : Nat) (ha : I64 a) : (a % 2 = 1 → ∃ z, impl_OddInverse.f (k + 6) a = some (z, true) ∧ Inv a z) ∧ (¬ a % 2 = 1 → impl_OddInverse.f (k + 6) a = some (0, false)) := by
  have hu : 0 ≤ IntKind.u64.wrap a ∧ IntKind.u64.wrap a < 18446744073709551616 := by rw [IntKind.wrap_u64]; omega
  have hp : IntKind.u64.wrap a % 2 = a % 2 := by rw [IntKind.wrap_u64]; omega
  have c := ctz_odd (IntKind.u64.wrap a).toNat (by omega)
  unfold impl_OddInverse.f bits_TrailingZeros64.f
  rw [if_pos hu, Option.bind_some]
  constructor
  · intro h
    rw [if_pos (by have := c.2 (by omega); omega)]
    exact impl_odd a k ha h
  · intro h
    rw [if_neg (fun q => h (by have := c.1 (by omega); omega))]

/-! ### bit by bit -/
theorem i64_and1 (n : Int) : bits .and .i64 n 1 = n % 2 := by
  have h1 : (BitVec.ofInt 64 1).toNat = 2 ^ 1 - 1 := by decide
  have key : (BitVec.ofInt 64 n &&& BitVec.ofInt 64 1).toNat = (n % ((2 ^ 64 : Nat) : Int)).toNat % 2 ^ 1 := by
    rw [BitVec.toNat_and, BitVec.toNat_ofInt, h1, Nat.and_two_pow_sub_one_eq_mod]
  show IntKind.i64.wrap ((BitVec.ofInt 64 n &&& BitVec.ofInt 64 1).toNat : Nat) = n % 2
  rw [key, IntKind.wrap_i64]
  omega
theorem spec_l0 (a : Int) (ha : a % 2 = 1) (d : Nat) : ∀ (k j : Nat) (x : Int), 1 ≤ j → j + d = 64 → d < k → I64 x → ((2 : Int) ^ j ∣ a * x - 1) → ∃ z, spec_OddInverse.l0 k a x (j : Int) = some (z, true) ∧ ((18446744073709551616 : Int) ∣ a * z - 1) ∧ I64 z := by
  induction d with
  | zero =>
    intro k j x hj hd hk hx hD
    obtain ⟨k, rfl⟩ : ∃ q, k = q + 1 := ⟨k - 1, by omega⟩
    simp only [spec_OddInverse.l0]
    rw [if_neg (by omega)]
    have : j = 64 := by omega
    subst this
    exact ⟨x, rfl, hD, hx⟩
  | succ d ih =>
    intro k j x hj hd hk hx hD
    obtain ⟨k, rfl⟩ : ∃ q, k = q + 1 := ⟨k - 1, by omega⟩
    have hw : wrap64 ((j : Int) + 1) = ((j + 1 : Nat) : Int) := by unfold wrap64; omega
    have hu : IntKind.u64.wrap (j : Int) = (j : Int) := by rw [IntKind.wrap_u64]; omega
    have hs : ∀ v : Int, shr .i64 v (j : Int) = v / 2 ^ j := fun v => by
      unfold shr
      rw [Int.toNat_natCast, Nat.min_eq_left (show j ≤ IntKind.i64.bits by show j ≤ 64; omega)]
    have hl : shl .i64 1 (j : Int) = IntKind.i64.wrap (2 ^ j) := by
      unfold shl
      rw [Int.toNat_natCast, Nat.min_eq_left (show j ≤ IntKind.i64.bits by show j ≤ 64; omega), Int.one_mul]
    simp only [spec_OddInverse.l0]
    rw [if_pos (by omega), if_neg (by omega), hu, if_pos (by omega), hs, i64_and1, hw, hl]
    have hM : (18446744073709551616 : Int) = 2 ^ j * (2 * 2 ^ (63 - j)) := by
      have : (2 : Int) ^ j * (2 * 2 ^ (63 - j)) = 2 ^ (j + (63 - j + 1)) := by rw [Int.pow_add, Int.pow_succ, Int.mul_comm (2 ^ (63 - j)) 2]
      rw [this, show j + (63 - j + 1) = 64 by omega]
      decide
    have hD1 : (1 : Int) < 2 ^ j := by
      have : (2 : Nat) ^ 1 ≤ 2 ^ j := Nat.pow_le_pow_right (by decide) hj
      have : (2 : Int) ≤ 2 ^ j := by exact_mod_cast this
      omega
    have hstep : (2 : Int) ^ (j + 1) = 2 ^ j * 2 := Int.pow_succ _ _
    obtain ⟨q, eq⟩ := hD
    obtain ⟨z, ez⟩ := wex (a * x)
    generalize hDD : (2 : Int) ^ j = D at *
    generalize hcc : (2 : Int) ^ (63 - j) = c at *
    have hbit : wrap64 (a * x) / D % 2 = q % 2 := by
      have : wrap64 (a * x) = 1 + D * (q + 2 * (c * z)) := by rw [ez, hM]; grind
      rw [this, Int.add_mul_ediv_left _ _ (by omega), Int.ediv_eq_zero_of_lt (by omega) hD1]
      omega
    rw [hbit]
    by_cases t : q % 2 = 0
    · rw [if_pos t]
      refine ih k (j + 1) x (by omega) (by omega) (by omega) hx ?_
      rw [hstep, eq]
      exact Int.mul_dvd_mul (Int.dvd_refl D) (by omega)
    · rw [if_neg t]
      refine ih k (j + 1) _ (by omega) (by omega) (by omega) (i64_wrap64 _) ?_
      obtain ⟨y, ey⟩ : ∃ y, wrap64 (x + IntKind.i64.wrap D) = x + D + y * 18446744073709551616 := by
        obtain ⟨y1, e1⟩ := wex (x + IntKind.i64.wrap D)
        obtain ⟨y2, e2⟩ := wex D
        have : IntKind.i64.wrap D = wrap64 D := by unfold wrap64; exact IntKind.wrap_i64 D
        exact ⟨y1 + y2, by rw [e1, this, e2]; omega⟩
      rw [ey, hstep, hM, show a * (x + D + y * (D * (2 * c))) - 1 = D * (q + a + 2 * (a * y * c)) by grind]
      exact Int.mul_dvd_mul (Int.dvd_refl D) (by omega)
theorem specOdd (a : Int) (k : Nat) (hk : 100 ≤ k) : (a % 2 = 1 → ∃ z, spec_OddInverse.f k a = some (z, true) ∧ ((18446744073709551616 : Int) ∣ a * z - 1) ∧ I64 z) ∧ (¬ a % 2 = 1 → spec_OddInverse.f k a = some (0, false)) := by
  unfold spec_OddInverse.f
  rw [i64_and1]
  constructor
  · intro h
    obtain ⟨k, rfl⟩ : ∃ q, k = q + 1 := ⟨k - 1, by omega⟩
    rw [if_neg (by omega)]
    have e0 : IntKind.u64.wrap 0 = 0 := by rw [IntKind.wrap_u64]; rfl
    have e1 : bits .and .i64 (shr .i64 (wrap64 (a * 1)) 0) 1 = 1 := by
      rw [i64_and1]
      show wrap64 (a * 1) / 1 % 2 = 1
      unfold wrap64
      omega
    have e2 : wrap64 (0 + 1) = ((1 : Nat) : Int) := by unfold wrap64; omega
    simp only [spec_OddInverse.l0]
    rw [if_pos (by omega), if_pos trivial, e0, if_pos (by omega), e1, if_pos rfl, e2]
    exact spec_l0 a h 63 k 1 1 (by omega) (by omega) (by omega) (by unfold I64; omega) (by omega)
  · intro h
    rw [if_pos (by omega)]
theorem inv_one (a x y : Int) (hx : Inv a x) (hy : (18446744073709551616 : Int) ∣ a * y - 1) (iy : I64 y) : x = y := by
  obtain ⟨⟨p, e1⟩, ix⟩ := hx
  obtain ⟨q, e2⟩ := hy
  have key : x - y = 18446744073709551616 * (p * y - q * x) := by grind
  generalize p * y - q * x = z at key
  unfold I64 at ix iy
  omega
end Go.Proofs.YtceeocgpcagkjaaDoor.PA
