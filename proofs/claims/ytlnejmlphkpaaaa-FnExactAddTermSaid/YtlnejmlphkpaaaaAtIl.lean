/- The graph seat: helpers of exact laws with a term. -/
import Derived.Test.YtlnejmlphkpaaaaAtIu
import Derived.Test.YtlnejmlphkpaaaaAtGh
import Derived.Test.YtlnejmlphkpaaaaAtIh
import Derived.Test.YtlnejmlphkpaaaaAtIk
namespace Go.Proofs.Ytlnejmlphkpaaaa.PA
open Go.RowKit Go.Proofs.YtlnejmlphkpaaaaW.PrintWords Go.Proofs.YtlnejmlphkpaaaaW.PrintLast Go.Proofs.YtlnejmlphkpaaaaW.PrintMore
set_option linter.unusedVariables false
set_option linter.unusedSimpArgs false
def cT (x : S127) : S125 := ⟨x.f0, x.f1⟩
theorem szT_any (l : List S127) (a : Int) (h0 : 0 ≤ a) (h1 : a ≤ 1048576) (hl : l.length ≤ Max) : ∃ r, laws_szNodeS.f l a = some r ∧ (r < 0 ∨ (0 ≤ r ∧ r ≤ a ∧ l.length ≤ 1048576)) := by
  unfold laws_szNodeS.f
  rw [wsub a l.length h0 h1 hl]
  by_cases h : a - (l.length : Int) < 0
  · exact ⟨-1, if_pos h, .inl (by omega)⟩
  · exact ⟨a - (l.length : Int), if_neg h, .inr ⟨by omega, by omega, by omega⟩⟩
theorem toT_l0 (xs : List S127) (hn : xs.length ≤ 1048576) : ∀ (d i : Nat), xs.length - i = d → i ≤ xs.length → Ev (fun k => laws_toNodeS.l0 k xs ((xs.map cT).take i ++ List.replicate ((xs.map cT).length - i) z125) (i : Int)) (xs.map cT)
  | 0, i, hd, hi => by
    obtain rfl : i = xs.length := by omega
    refine Ev.step (f := fun _ => some (xs.map cT)) (fun k => ?_) (Ev.now _)
    simp only [laws_toNodeS.l0]
    rw [if_neg (by omega), List.take_of_length_le (by simp), List.length_map, Nat.sub_self, List.replicate_zero, List.append_nil]
  | d + 1, i, hd, hi => by
    have h : i < xs.length := by omega
    have e : rd_T127 xs (i : Int) = xs[i] := by simp [rd_T127, List.getD_eq_getElem?_getD, List.getElem?_eq_getElem h]
    have ih := toT_l0 xs hn d (i + 1) (by omega) (by omega)
    rw [← acc_set (xs.map cT) z125 i (by simpa using h) (⟨(rd_T127 xs (i : Int)).f0, (rd_T127 xs (i : Int)).f1⟩ : S125) (by rw [e]; simp [cT])] at ih
    refine Ev.step (fun k => ?_) ih
    simp only [laws_toNodeS.l0]
    rw [if_pos (by omega), if_pos (by omega), Int.toNat_natCast, wnext64 i xs.length h (by omega)]
    simp only [laws_toNode.f, Option.bind_some]
    rw [if_pos (by simp; omega)]
theorem toT_f (xs : List S127) (hn : xs.length ≤ 1048576) : Ev (fun k => laws_toNodeS.f k xs) (xs.map cT) :=
  Ev.congr (f := fun k => laws_toNodeS.l0 k xs ((xs.map cT).take 0 ++ List.replicate ((xs.map cT).length - 0) z125) ((0 : Nat) : Int)) (fun k => by unfold laws_toNodeS.f; rw [if_pos (by omega), if_pos (by omega), Int.toNat_natCast, List.length_map]; rfl) (toT_l0 xs hn xs.length 0 rfl (Nat.zero_le _))
theorem toT_any {A : Option Addr} {c : Nat} {t : List S127} (h : t.length ≤ 1048576) (W : World) (h0 : Kd.C k127 W A t.length t) (l0 : t.length ≤ c) :
    Calls Try.prog 47 #[.slice A t.length c] W fun e w' => ∃ v : Value, e = .returned v ∧ Kd.R k125 125 w' W.heap.size (fun _ => True) v (t.map cT) ∧ Below W.heap.size W w' := by
  obtain ⟨k, hk⟩ := Ev.rounds (toT_f t h)
  exact laws_toNodeS.calls k A c t _ W h0 l0 hk
theorem markT_l0 : ∀ (d : Nat) (l : List S125) (a : Int) (i : Nat), l.length - i = d → i ≤ l.length → l.length ≤ 1048576 → 0 ≤ a → a + 2 * (d : Int) ≤ 4000000000003000000 → ∃ r2, Ev (fun k => laws_markNodeS.l0 k l a (i : Int)) (a + 2 * (d : Int), r2)
  | 0, l, a, i, hd, hi, hl, h0, h1 => by
    refine ⟨l, Ev.step (f := fun _ => some (a, l)) (fun k => ?_) (by simpa using Ev.now (a, l))⟩
    simp only [laws_markNodeS.l0]
    rw [if_neg (by omega)]
  | d + 1, l, a, i, hd, hi, hl, h0, h1 => by
    have h : i < l.length := by omega
    obtain ⟨y, hy⟩ : ∃ y, y = l.set i (⟨a, (rd_T125 l (i : Int)).f1⟩ : S125) := ⟨_, rfl⟩
    obtain ⟨z, hz⟩ : ∃ z, z = y.set i (⟨(rd_T125 y (i : Int)).f0, a + 1⟩ : S125) := ⟨_, rfl⟩
    have hzl : z.length = l.length := by rw [hz, hy]; simp
    obtain ⟨r2, ih⟩ := markT_l0 d z (a + 2) (i + 1) (by omega) (by omega) (by omega) (by omega) (by omega)
    refine ⟨r2, ?_⟩
    rw [show a + 2 * ((d + 1 : Nat) : Int) = a + 2 + 2 * (d : Int) by omega]
    refine Ev.step (fun k => ?_) ih
    simp only [laws_markNodeS.l0]
    rw [if_pos (by omega), if_pos (by omega), Int.toNat_natCast, Option.bind_some, ← hy, show wrap64 (a + 1) = a + 1 by unfold wrap64; omega, ← hz, show wrap64 (a + 1 + 1) = a + 2 by unfold wrap64; omega, wnext64 i l.length h (by omega)]
theorem markT_any {w0 w : World} {P : Nat → Prop} {u : Value} (l : List S125) (k : Int) (h0 : 0 ≤ k) (h1 : k ≤ 4000000000000000000) (hl : l.length ≤ 1048576) (hB : Below w0.heap.size w0 w) (ho : Kd.R k125 125 w w0.heap.size P u l) :
    Calls Try.prog 49 #[u, .int .i64 k] w fun e w' => e = .returned (.int .i64 (k + 2 * (l.length : Int))) ∧ Below w0.heap.size w0 w' ∧ Kept w w' P := by
  obtain ⟨r2, hr⟩ := markT_l0 l.length l k 0 rfl (Nat.zero_le _) hl h0 (by omega)
  obtain ⟨j, hj⟩ := Ev.rounds hr
  exact (laws_markNodeS.calls j P u l k _ _ w0 w hB ho hj).mono fun e w' h => ⟨h.1, h.2.2.1, h.2.2.2⟩
theorem ansT_small (nodes : List S36) (parts : List Int) (t : List S125) : (ansAddTerm nodes parts t).1.1.length ≤ 1000 ∧ (∀ y ∈ (ansAddTerm nodes parts t).1.1, y.f2.length ≤ 1000) ∧ (ansAddTerm nodes parts t).1.2.length ≤ 1000 := by
  have h0 : (([], []) : List S36 × List Int).1.length ≤ 1000 ∧ (∀ y ∈ (([], []) : List S36 × List Int).1, y.f2.length ≤ 1000) ∧ (([], []) : List S36 × List Int).2.length ≤ 1000 := ⟨by simp, (fun y hy => by cases hy), by simp⟩
  rw [ansAddTerm]
  cases hT : treeT t with
  | none => exact h0
  | some T =>
    dsimp only
    split
    · rename_i h
      have hg := ((addR_ok [] _ T (Nat.le_refl _) (treeT_some hT).2.1 (nodes, parts) (goodG_iff.1 h.1) (BOk.nil _ _)).1 h.2).1
      exact ⟨by have := hg.most; dsimp only; omega, (good_GI hg).kids, by have := hg.most; have := hg.len; dsimp only; omega⟩
    · exact h0
/-- A term that is read. -/
def TC (W : World) (v : Value) (t : List S125) : Prop := ∃ A c, v = .slice A t.length c ∧ Kd.C k125 W A t.length t ∧ t.length ≤ c
/-- What stands throughout the walk: the boxed graph and the reference's answer. -/
structure LA7 (w : World) (b2 : Array Value) (g6 : Nat) (u0 u1 : Value) (a1 : List S36) (a2 : List Int) (n3 : Nat) (W : World) : Prop where
  hb : Below w.heap.size w W
  k2 : W.heap[w.heap.size]? = some (.cells b2 25 (0, 0))
  k6 : W.heap[g6]? = some (.cells #[u0, u1] 32 (0, 0))
  s6 : Kd.S k36 36 W w.heap.size (fun k => k < n3) u0 a1
  r6 : (Kd.int .i64).R 3 W w.heap.size (fun k => k < n3) u1 a2
  lt : w.heap.size < n3
  lg : g6 < n3
/-- A term of one's own. -/
def LT (w : World) (m n : Nat) (u : Value) (l : List S125) (W : World) : Prop := Kd.R k125 125 W w.heap.size (fun k => m ≤ k ∧ k < n) u l
section
variable {w W W1 : World} {b2 : Array Value} {g6 n3 m n : Nat} {u0 u1 u : Value} {a1 : List S36} {a2 : List Int} {l : List S125} {S : Nat → Prop}
theorem LA7.below (h : LA7 w b2 g6 u0 u1 a1 a2 n3 W) (hb : Below W.heap.size W W1) : LA7 w b2 g6 u0 u1 a1 a2 n3 W1 := ⟨below_step h.hb hb, blk_below h.k2 hb, blk_below h.k6 hb, Kd.S_below h.s6 hb, Kd.R_below h.r6 hb, h.lt, h.lg⟩
theorem LA7.kept (h : LA7 w b2 g6 u0 u1 a1 a2 n3 W) (hb : Below w.heap.size w W1) (hk : Kept W W1 S) (hS : ∀ k, k < n3 → ¬ S k) : LA7 w b2 g6 u0 u1 a1 a2 n3 W1 := ⟨hb, blk_kept h.k2 hk (hS _ h.lt), blk_kept h.k6 hk (hS _ h.lg), Kd.S_kept h.s6 hk hS, Kd.R_kept h.r6 hk hS, h.lt, h.lg⟩
theorem LT.below (h : LT w m n u l W) (hb : Below W.heap.size W W1) : LT w m n u l W1 := Kd.R_below h hb
theorem LT.kept (h : LT w m n u l W) (hk : Kept W W1 S) (hS : ∀ k, m ≤ k → k < n → ¬ S k) : LT w m n u l W1 := Kd.R_kept h hk (fun k h => hS k h.1 h.2)
theorem LT.mk_ {w0 : World} (hr : Kd.R k125 125 W w0.heap.size (fun _ => True) u l) (hw : w.heap.size ≤ w0.heap.size) : LT w w0.heap.size W.heap.size u l W := Kd.R_lower (Kd.R_mono (Kd.R_bound hr) (fun k hk => ⟨hk.2.1, hk.2.2.1⟩)) hw
end
end Go.Proofs.Ytlnejmlphkpaaaa.PA
