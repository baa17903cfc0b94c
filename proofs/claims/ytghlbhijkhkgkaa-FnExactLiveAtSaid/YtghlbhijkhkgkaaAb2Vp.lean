/- The flow seat: the exact laws' helpers in plain words: a size that is small, a copy, equality of what is the same. -/
import Derived.Test.YtghlbhijkhkgkaaAb2PAx5
namespace Go.Proofs.Ytghlbhijkhkgkaa.PA
open Go.RowKit Go.Proofs.YtghlbhijkhkgkaaW.PrintWords Go.Proofs.YtghlbhijkhkgkaaW.PrintLast Go.Proofs.YtghlbhijkhkgkaaW.PrintMore
set_option linter.unusedVariables false
abbrev Max : Nat := 9223372036854775807
def FitI (x : S142) : Prop := x.f2.length ≤ Max
def FitJ (x : S144) : Prop := x.f1.length ≤ Max
def FitB (b : S95) : Prop := (b.f1.length ≤ Max ∧ ∀ x ∈ b.f1, FitI x) ∧ (b.f4.length ≤ Max ∧ ∀ x ∈ b.f4, FitJ x)
def Fit (bs : List S95) : Prop := bs.length ≤ Max ∧ ∀ b ∈ bs, FitB b
def SmallI (x : S142) : Prop := x.f2.length ≤ 1048576
def SmallJ (x : S144) : Prop := x.f1.length ≤ 1048576
def SmallB (b : S95) : Prop := (b.f1.length ≤ 1048576 ∧ ∀ x ∈ b.f1, SmallI x) ∧ (b.f4.length ≤ 1048576 ∧ ∀ x ∈ b.f4, SmallJ x)
def Small (bs : List S95) : Prop := bs.length ≤ 1048576 ∧ ∀ b ∈ bs, SmallB b
def cI (x : S142) : S89 := ⟨x.f0, x.f1, x.f2⟩
def cJ (x : S144) : S109 := ⟨x.f0, x.f1⟩
def cB (b : S95) : S87 := ⟨b.f0, b.f1.map cI, b.f2, b.f3, b.f4.map cJ⟩
theorem wsub (a : Int) (n : Nat) (h0 : 0 ≤ a) (h1 : a ≤ 1048576) (hn : n ≤ Max) : wrap64 (a - (n : Int)) = a - (n : Int) := by unfold Max at hn; unfold wrap64; omega
theorem wnext (i n : Nat) (h : i < n) (hn : n ≤ Max) : wrap64 ((i : Int) + 1) = ((i + 1 : Nat) : Int) := by unfold Max at hn; unfold wrap64; omega
theorem getD_mem {α : Type} (xs : List α) (z : α) (i : Nat) (h : i < xs.length) : xs.getD i z ∈ xs := by
  rw [List.getD_eq_getElem?_getD, List.getElem?_eq_getElem h]; exact List.getElem_mem h
theorem acc_set {β : Type} (ys : List β) (z : β) (i : Nat) (h : i < ys.length) (y : β) (hy : y = ys[i]) : (ys.take i ++ List.replicate (ys.length - i) z).set i y = ys.take (i + 1) ++ List.replicate (ys.length - (i + 1)) z := by
  subst hy
  have h1 : (ys.take i).length = i := by simp; omega
  have h2 : ys.length - i = (ys.length - (i + 1)) + 1 := by omega
  rw [List.set_append_right _ _ (by omega), h1, Nat.sub_self, h2, List.replicate_succ, List.set_cons_zero, List.take_succ_eq_append_getElem h, List.append_assoc]
  rfl
theorem szIntS_any (l : List Int) (a : Int) (h0 : 0 ≤ a) (h1 : a ≤ 1048576) (hl : l.length ≤ Max) : ∃ r, laws_szIntS.f l a = some r ∧ (r < 0 ∨ (0 ≤ r ∧ r ≤ a ∧ l.length ≤ 1048576)) := by
  unfold laws_szIntS.f
  rw [wsub a l.length h0 h1 hl]
  by_cases h : a - (l.length : Int) < 0
  · exact ⟨_, if_pos h, .inl (by omega)⟩
  · exact ⟨_, if_neg h, .inr (by omega)⟩
theorem szInst_any (p q : Int) (l : List Int) (a : Int) (h0 : 0 ≤ a) (h1 : a ≤ 1048576) (hl : l.length ≤ Max) : ∃ r, laws_szInst.f p q l a = some r ∧ (r < 0 ∨ (0 ≤ r ∧ r ≤ a ∧ l.length ≤ 1048576)) := by
  obtain ⟨r, e, h⟩ := szIntS_any l a h0 h1 hl
  unfold laws_szInst.f
  rw [e]; simp only [Option.bind_some]
  rcases h with h | h
  · exact ⟨_, if_pos h, .inl (by omega)⟩
  · exact ⟨_, if_neg (by omega), .inr h⟩
theorem szJump_any (p : Int) (l : List Int) (a : Int) (h0 : 0 ≤ a) (h1 : a ≤ 1048576) (hl : l.length ≤ Max) : ∃ r, laws_szJump.f p l a = some r ∧ (r < 0 ∨ (0 ≤ r ∧ r ≤ a ∧ l.length ≤ 1048576)) := by
  obtain ⟨r, e, h⟩ := szIntS_any l a h0 h1 hl
  unfold laws_szJump.f
  rw [e]; simp only [Option.bind_some]
  rcases h with h | h
  · exact ⟨_, if_pos h, .inl (by omega)⟩
  · exact ⟨_, if_neg (by omega), .inr h⟩
theorem szInstS_l0 (xs : List S142) (hn : xs.length ≤ Max) (hf : ∀ x ∈ xs, FitI x) : ∀ (d i : Nat) (left : Int), xs.length - i = d → 0 ≤ left → left ≤ 1048576 →
    ∃ r, Ev (fun k => laws_szInstS.l0 k xs left (i : Int)) r ∧ (r < 0 ∨ (0 ≤ r ∧ r ≤ left ∧ ∀ j, i ≤ j → j < xs.length → SmallI (xs.getD j z142)))
  | 0, i, left, hd, h0, h1 => ⟨left, Ev.step (f := fun _ => some left) (fun k => by simp only [laws_szInstS.l0]; rw [if_neg (by omega)]) (Ev.now _), .inr ⟨h0, Int.le_refl _, fun j h1 h2 => by omega⟩⟩
  | d + 1, i, left, hd, h0, h1 => by
    have hi : i < xs.length := by omega
    have hm := hf _ (getD_mem xs z142 i hi)
    obtain ⟨r, e, h⟩ := szInst_any (rd_T142 xs (i : Int)).f0 (rd_T142 xs (i : Int)).f1 (rd_T142 xs (i : Int)).f2 left h0 h1 hm
    have st : ∀ k, laws_szInstS.l0 (k + 1) xs left (i : Int) = (laws_szInst.f (rd_T142 xs (i : Int)).f0 (rd_T142 xs (i : Int)).f1 (rd_T142 xs (i : Int)).f2 left).bind fun t => if t < 0 then some (-1) else laws_szInstS.l0 k xs t ((i + 1 : Nat) : Int) := fun k => by
      simp only [laws_szInstS.l0]; rw [if_pos (by omega), if_pos (by omega), wnext i xs.length hi hn]
    rcases h with h | ⟨g0, g1, g2⟩
    · exact ⟨-1, Ev.step st (Ev.bind (⟨0, fun _ _ => e⟩ : Ev (fun _ => laws_szInst.f (rd_T142 xs (i : Int)).f0 (rd_T142 xs (i : Int)).f1 (rd_T142 xs (i : Int)).f2 left) r) (Ev.congr (fun k => if_pos h) (Ev.now _))), .inl (by omega)⟩
    · obtain ⟨r2, e2, h2⟩ := szInstS_l0 xs hn hf d (i + 1) r (by omega) g0 (by omega)
      refine ⟨r2, Ev.step st (Ev.bind (⟨0, fun _ _ => e⟩ : Ev (fun _ => laws_szInst.f (rd_T142 xs (i : Int)).f0 (rd_T142 xs (i : Int)).f1 (rd_T142 xs (i : Int)).f2 left) r) (Ev.congr (fun k => if_neg (by omega)) e2)), ?_⟩
      rcases h2 with h2 | ⟨k0, k1, k2⟩
      · exact .inl h2
      · refine .inr ⟨k0, by omega, fun j hj hj2 => ?_⟩
        by_cases e : j = i
        · subst e; exact g2
        · exact k2 j (by omega) hj2
theorem szInstS_any (xs : List S142) (left : Int) (h0 : 0 ≤ left) (h1 : left ≤ 1048576) (hn : xs.length ≤ Max) (hf : ∀ x ∈ xs, FitI x) : ∃ r, Ev (fun k => laws_szInstS.f k xs left) r ∧ (r < 0 ∨ (0 ≤ r ∧ r ≤ left ∧ xs.length ≤ 1048576 ∧ ∀ x ∈ xs, SmallI x)) := by
  by_cases h : left - (xs.length : Int) < 0
  · exact ⟨-1, Ev.congr (f := fun _ => some (-1)) (fun k => by unfold laws_szInstS.f; rw [wsub left xs.length h0 h1 hn, if_pos h]) (Ev.now _), .inl (by omega)⟩
  · obtain ⟨r, e, hh⟩ := szInstS_l0 xs hn hf xs.length 0 (left - (xs.length : Int)) rfl (by omega) (by omega)
    refine ⟨r, Ev.congr (fun k => by unfold laws_szInstS.f; rw [wsub left xs.length h0 h1 hn, if_neg h]; rfl) e, ?_⟩
    rcases hh with hh | ⟨k0, k1, k2⟩
    · exact .inl hh
    · refine .inr ⟨k0, by omega, by omega, fun x hx => ?_⟩
      obtain ⟨j, hj, rfl⟩ := List.getElem_of_mem hx
      have := k2 j (Nat.zero_le _) hj
      rwa [List.getD_eq_getElem?_getD, List.getElem?_eq_getElem hj] at this
theorem szJumpS_l0 (xs : List S144) (hn : xs.length ≤ Max) (hf : ∀ x ∈ xs, FitJ x) : ∀ (d i : Nat) (left : Int), xs.length - i = d → 0 ≤ left → left ≤ 1048576 →
    ∃ r, Ev (fun k => laws_szJumpS.l0 k xs left (i : Int)) r ∧ (r < 0 ∨ (0 ≤ r ∧ r ≤ left ∧ ∀ j, i ≤ j → j < xs.length → SmallJ (xs.getD j z144)))
  | 0, i, left, hd, h0, h1 => ⟨left, Ev.step (f := fun _ => some left) (fun k => by simp only [laws_szJumpS.l0]; rw [if_neg (by omega)]) (Ev.now _), .inr ⟨h0, Int.le_refl _, fun j h1 h2 => by omega⟩⟩
  | d + 1, i, left, hd, h0, h1 => by
    have hi : i < xs.length := by omega
    have hm := hf _ (getD_mem xs z144 i hi)
    obtain ⟨r, e, h⟩ := szJump_any (rd_T144 xs (i : Int)).f0 (rd_T144 xs (i : Int)).f1 left h0 h1 hm
    have st : ∀ k, laws_szJumpS.l0 (k + 1) xs left (i : Int) = (laws_szJump.f (rd_T144 xs (i : Int)).f0 (rd_T144 xs (i : Int)).f1 left).bind fun t => if t < 0 then some (-1) else laws_szJumpS.l0 k xs t ((i + 1 : Nat) : Int) := fun k => by
      simp only [laws_szJumpS.l0]; rw [if_pos (by omega), if_pos (by omega), wnext i xs.length hi hn]
    rcases h with h | ⟨g0, g1, g2⟩
    · exact ⟨-1, Ev.step st (Ev.bind (⟨0, fun _ _ => e⟩ : Ev (fun _ => laws_szJump.f (rd_T144 xs (i : Int)).f0 (rd_T144 xs (i : Int)).f1 left) r) (Ev.congr (fun k => if_pos h) (Ev.now _))), .inl (by omega)⟩
    · obtain ⟨r2, e2, h2⟩ := szJumpS_l0 xs hn hf d (i + 1) r (by omega) g0 (by omega)
      refine ⟨r2, Ev.step st (Ev.bind (⟨0, fun _ _ => e⟩ : Ev (fun _ => laws_szJump.f (rd_T144 xs (i : Int)).f0 (rd_T144 xs (i : Int)).f1 left) r) (Ev.congr (fun k => if_neg (by omega)) e2)), ?_⟩
      rcases h2 with h2 | ⟨k0, k1, k2⟩
      · exact .inl h2
      · refine .inr ⟨k0, by omega, fun j hj hj2 => ?_⟩
        by_cases e : j = i
        · subst e; exact g2
        · exact k2 j (by omega) hj2
theorem szJumpS_any (xs : List S144) (left : Int) (h0 : 0 ≤ left) (h1 : left ≤ 1048576) (hn : xs.length ≤ Max) (hf : ∀ x ∈ xs, FitJ x) : ∃ r, Ev (fun k => laws_szJumpS.f k xs left) r ∧ (r < 0 ∨ (0 ≤ r ∧ r ≤ left ∧ xs.length ≤ 1048576 ∧ ∀ x ∈ xs, SmallJ x)) := by
  by_cases h : left - (xs.length : Int) < 0
  · exact ⟨-1, Ev.congr (f := fun _ => some (-1)) (fun k => by unfold laws_szJumpS.f; rw [wsub left xs.length h0 h1 hn, if_pos h]) (Ev.now _), .inl (by omega)⟩
  · obtain ⟨r, e, hh⟩ := szJumpS_l0 xs hn hf xs.length 0 (left - (xs.length : Int)) rfl (by omega) (by omega)
    refine ⟨r, Ev.congr (fun k => by unfold laws_szJumpS.f; rw [wsub left xs.length h0 h1 hn, if_neg h]; rfl) e, ?_⟩
    rcases hh with hh | ⟨k0, k1, k2⟩
    · exact .inl hh
    · refine .inr ⟨k0, by omega, by omega, fun x hx => ?_⟩
      obtain ⟨j, hj, rfl⟩ := List.getElem_of_mem hx
      have := k2 j (Nat.zero_le _) hj
      rwa [List.getD_eq_getElem?_getD, List.getElem?_eq_getElem hj] at this
theorem szBlock_any (p : Int) (l1 : List S142) (q s : Int) (l4 : List S144) (a : Int) (h0 : 0 ≤ a) (h1 : a ≤ 1048576) (hl : (l1.length ≤ Max ∧ ∀ x ∈ l1, FitI x) ∧ (l4.length ≤ Max ∧ ∀ x ∈ l4, FitJ x)) :
    ∃ r, Ev (fun k => laws_szBlock.f k p l1 q s l4 a) r ∧ (r < 0 ∨ (0 ≤ r ∧ r ≤ a ∧ (l1.length ≤ 1048576 ∧ ∀ x ∈ l1, SmallI x) ∧ (l4.length ≤ 1048576 ∧ ∀ x ∈ l4, SmallJ x))) := by
  obtain ⟨r, e, h⟩ := szInstS_any l1 a h0 h1 hl.1.1 hl.1.2
  rcases h with h | ⟨g0, g1, g2, g3⟩
  · exact ⟨-1, Ev.congr (fun k => rfl) (Ev.bind e (Ev.congr (fun k => if_pos h) (Ev.now _))), .inl (by omega)⟩
  · obtain ⟨r2, e2, h2⟩ := szJumpS_any l4 r g0 (by omega) hl.2.1 hl.2.2
    rcases h2 with h2 | ⟨k0, k1, k2, k3⟩
    · exact ⟨-1, Ev.congr (fun k => rfl) (Ev.bind e (Ev.congr (fun k => if_neg (by omega)) (Ev.bind e2 (Ev.congr (fun k => if_pos h2) (Ev.now _))))), .inl (by omega)⟩
    · exact ⟨r2, Ev.congr (fun k => rfl) (Ev.bind e (Ev.congr (fun k => if_neg (by omega)) (Ev.bind e2 (Ev.congr (fun k => if_neg (by omega)) (Ev.now _))))), .inr ⟨k0, by omega, ⟨g2, g3⟩, ⟨k2, k3⟩⟩⟩
theorem szBlockS_l0 (xs : List S95) (hn : xs.length ≤ Max) (hf : ∀ x ∈ xs, FitB x) : ∀ (d i : Nat) (left : Int), xs.length - i = d → 0 ≤ left → left ≤ 1048576 →
    ∃ r, Ev (fun k => laws_szBlockS.l0 k xs left (i : Int)) r ∧ (r < 0 ∨ (0 ≤ r ∧ r ≤ left ∧ ∀ j, i ≤ j → j < xs.length → SmallB (xs.getD j z95)))
  | 0, i, left, hd, h0, h1 => ⟨left, Ev.step (f := fun _ => some left) (fun k => by simp only [laws_szBlockS.l0]; rw [if_neg (by omega)]) (Ev.now _), .inr ⟨h0, Int.le_refl _, fun j h1 h2 => by omega⟩⟩
  | d + 1, i, left, hd, h0, h1 => by
    have hi : i < xs.length := by omega
    have hm := hf _ (getD_mem xs z95 i hi)
    obtain ⟨r, e, h⟩ := szBlock_any (rd_T95 xs (i : Int)).f0 (rd_T95 xs (i : Int)).f1 (rd_T95 xs (i : Int)).f2 (rd_T95 xs (i : Int)).f3 (rd_T95 xs (i : Int)).f4 left h0 h1 hm
    have st : ∀ k, laws_szBlockS.l0 (k + 1) xs left (i : Int) = (laws_szBlock.f k (rd_T95 xs (i : Int)).f0 (rd_T95 xs (i : Int)).f1 (rd_T95 xs (i : Int)).f2 (rd_T95 xs (i : Int)).f3 (rd_T95 xs (i : Int)).f4 left).bind fun t => if t < 0 then some (-1) else laws_szBlockS.l0 k xs t ((i + 1 : Nat) : Int) := fun k => by
      simp only [laws_szBlockS.l0]; rw [if_pos (by omega), if_pos (by omega), wnext i xs.length hi hn]
    rcases h with h | ⟨g0, g1, g2⟩
    · exact ⟨-1, Ev.step st (Ev.bind e (Ev.congr (fun k => if_pos h) (Ev.now _))), .inl (by omega)⟩
    · obtain ⟨r2, e2, h2⟩ := szBlockS_l0 xs hn hf d (i + 1) r (by omega) g0 (by omega)
      refine ⟨r2, Ev.step st (Ev.bind e (Ev.congr (fun k => if_neg (by omega)) e2)), ?_⟩
      rcases h2 with h2 | ⟨k0, k1, k2⟩
      · exact .inl h2
      · refine .inr ⟨k0, by omega, fun j hj hj2 => ?_⟩
        by_cases e : j = i
        · subst e; exact g2
        · exact k2 j (by omega) hj2
theorem szBlockS_any (xs : List S95) (left : Int) (h0 : 0 ≤ left) (h1 : left ≤ 1048576) (hn : xs.length ≤ Max) (hf : ∀ x ∈ xs, FitB x) : ∃ r, Ev (fun k => laws_szBlockS.f k xs left) r ∧ (r < 0 ∨ (0 ≤ r ∧ r ≤ left ∧ xs.length ≤ 1048576 ∧ ∀ x ∈ xs, SmallB x)) := by
  by_cases h : left - (xs.length : Int) < 0
  · exact ⟨-1, Ev.congr (f := fun _ => some (-1)) (fun k => by unfold laws_szBlockS.f; rw [wsub left xs.length h0 h1 hn, if_pos h]) (Ev.now _), .inl (by omega)⟩
  · obtain ⟨r, e, hh⟩ := szBlockS_l0 xs hn hf xs.length 0 (left - (xs.length : Int)) rfl (by omega) (by omega)
    refine ⟨r, Ev.congr (fun k => by unfold laws_szBlockS.f; rw [wsub left xs.length h0 h1 hn, if_neg h]; rfl) e, ?_⟩
    rcases hh with hh | ⟨k0, k1, k2⟩
    · exact .inl hh
    · refine .inr ⟨k0, by omega, by omega, fun x hx => ?_⟩
      obtain ⟨j, hj, rfl⟩ := List.getElem_of_mem hx
      have := k2 j (Nat.zero_le _) hj
      rwa [List.getD_eq_getElem?_getD, List.getElem?_eq_getElem hj] at this
theorem szFunc_any (p : Int) (bs : List S95) (h : Fit bs) : ∃ r, Ev (fun k => laws_szFunc.f k p bs 1048576) r ∧ (r < 0 ∨ (0 ≤ r ∧ Small bs)) := by
  obtain ⟨r, e, hh⟩ := szBlockS_any bs 1048576 (by omega) (by omega) h.1 h.2
  rcases hh with hh | ⟨g0, g1, g2, g3⟩
  · exact ⟨-1, Ev.congr (fun k => rfl) (Ev.bind e (Ev.congr (fun k => if_pos hh) (Ev.now _))), .inl (by omega)⟩
  · exact ⟨r, Ev.congr (fun k => rfl) (Ev.bind e (Ev.congr (fun k => if_neg (by omega)) (Ev.now _))), .inr ⟨g0, g2, g3⟩⟩
theorem toIntS_l0 (xs : List Int) (hn : xs.length ≤ 1048576) : ∀ (d i : Nat), xs.length - i = d → i ≤ xs.length → Ev (fun k => laws_toIntS.l0 k xs (xs.take i ++ List.replicate (xs.length - i) 0) (i : Int)) xs
  | 0, i, hd, hi => Ev.step (f := fun _ => some xs) (fun k => by simp only [laws_toIntS.l0]; rw [if_neg (by omega), hd, List.replicate_zero, List.append_nil, List.take_of_length_le (by omega)]) (Ev.now _)
  | d + 1, i, hd, hi => by
    have h : i < xs.length := by omega
    refine Ev.step (fun k => ?_) (toIntS_l0 xs hn d (i + 1) (by omega) (by omega))
    simp only [laws_toIntS.l0]
    rw [if_pos (by omega), if_pos (by omega), if_pos (by simp; omega), wnext i xs.length h (by unfold Max; omega)]
    simp only [Int.toNat_natCast]
    rw [acc_set xs 0 i h _ (by simp [rd, List.getD_eq_getElem?_getD, List.getElem?_eq_getElem h])]
theorem toIntS_any (xs : List Int) (hn : xs.length ≤ 1048576) : Ev (fun k => laws_toIntS.f k xs) xs := by
  refine Ev.congr (fun k => ?_) (toIntS_l0 xs hn xs.length 0 rfl (Nat.zero_le _))
  unfold laws_toIntS.f
  rw [if_pos (by omega), if_pos (by omega)]
  simp
theorem toInst_any (x : S142) (h : SmallI x) : Ev (fun k => laws_toInst.f k x.f0 x.f1 x.f2) (x.f0, x.f1, x.f2) := Ev.congr (fun k => rfl) (Ev.bind (toIntS_any x.f2 h) (Ev.now _))
theorem toJump_any (x : S144) (h : SmallJ x) : Ev (fun k => laws_toJump.f k x.f0 x.f1) (x.f0, x.f1) := Ev.congr (fun k => rfl) (Ev.bind (toIntS_any x.f1 h) (Ev.now _))
theorem toInstS_l0 (xs : List S142) (hn : xs.length ≤ 1048576) (hs : ∀ x ∈ xs, SmallI x) : ∀ (d i : Nat), xs.length - i = d → i ≤ xs.length → Ev (fun k => laws_toInstS.l0 k xs ((xs.map cI).take i ++ List.replicate ((xs.map cI).length - i) z89) (i : Int)) (xs.map cI)
  | 0, i, hd, hi => Ev.step (f := fun _ => some (xs.map cI)) (fun k => by simp only [laws_toInstS.l0]; rw [if_neg (by omega), List.length_map, hd, List.replicate_zero, List.append_nil, List.take_of_length_le (by rw [List.length_map]; omega)]) (Ev.now _)
  | d + 1, i, hd, hi => by
    have h : i < xs.length := by omega
    have hm : SmallI (rd_T142 xs (i : Int)) := hs _ (getD_mem xs z142 i h)
    refine Ev.step (f := fun k => (laws_toInst.f k (rd_T142 xs (i : Int)).f0 (rd_T142 xs (i : Int)).f1 (rd_T142 xs (i : Int)).f2).bind fun bt => laws_toInstS.l0 k xs (((xs.map cI).take i ++ List.replicate ((xs.map cI).length - i) z89).set i (⟨bt.1, bt.2.1, bt.2.2⟩ : S89)) ((i + 1 : Nat) : Int)) (fun k => ?_) (Ev.bind (toInst_any _ hm) ?_)
    · simp only [laws_toInstS.l0]
      rw [if_pos (by omega), if_pos (by omega), wnext i xs.length h (by unfold Max; omega)]
      congr 1
      funext bt
      rw [if_pos (by simp; omega)]
      simp only [Int.toNat_natCast]
    · have := toInstS_l0 xs hn hs d (i + 1) (by omega) (by omega)
      refine Ev.congr (fun k => ?_) this
      rw [acc_set (xs.map cI) z89 i (by simpa using h) _ (by simp [rd_T142, List.getD_eq_getElem?_getD, List.getElem?_eq_getElem h, cI])]
theorem toInstS_any (xs : List S142) (hn : xs.length ≤ 1048576) (hs : ∀ x ∈ xs, SmallI x) : Ev (fun k => laws_toInstS.f k xs) (xs.map cI) := by
  refine Ev.congr (fun k => ?_) (toInstS_l0 xs hn hs xs.length 0 rfl (Nat.zero_le _))
  unfold laws_toInstS.f
  rw [if_pos (by omega), if_pos (by omega)]
  simp
theorem toJumpS_l0 (xs : List S144) (hn : xs.length ≤ 1048576) (hs : ∀ x ∈ xs, SmallJ x) : ∀ (d i : Nat), xs.length - i = d → i ≤ xs.length → Ev (fun k => laws_toJumpS.l0 k xs ((xs.map cJ).take i ++ List.replicate ((xs.map cJ).length - i) z109) (i : Int)) (xs.map cJ)
  | 0, i, hd, hi => Ev.step (f := fun _ => some (xs.map cJ)) (fun k => by simp only [laws_toJumpS.l0]; rw [if_neg (by omega), List.length_map, hd, List.replicate_zero, List.append_nil, List.take_of_length_le (by rw [List.length_map]; omega)]) (Ev.now _)
  | d + 1, i, hd, hi => by
    have h : i < xs.length := by omega
    have hm : SmallJ (rd_T144 xs (i : Int)) := hs _ (getD_mem xs z144 i h)
    refine Ev.step (f := fun k => (laws_toJump.f k (rd_T144 xs (i : Int)).f0 (rd_T144 xs (i : Int)).f1).bind fun bt => laws_toJumpS.l0 k xs (((xs.map cJ).take i ++ List.replicate ((xs.map cJ).length - i) z109).set i (⟨bt.1, bt.2⟩ : S109)) ((i + 1 : Nat) : Int)) (fun k => ?_) (Ev.bind (toJump_any _ hm) ?_)
    · simp only [laws_toJumpS.l0]
      rw [if_pos (by omega), if_pos (by omega), wnext i xs.length h (by unfold Max; omega)]
      congr 1
      funext bt
      rw [if_pos (by simp; omega)]
      simp only [Int.toNat_natCast]
    · have := toJumpS_l0 xs hn hs d (i + 1) (by omega) (by omega)
      refine Ev.congr (fun k => ?_) this
      rw [acc_set (xs.map cJ) z109 i (by simpa using h) _ (by simp [rd_T144, List.getD_eq_getElem?_getD, List.getElem?_eq_getElem h, cJ])]
theorem toJumpS_any (xs : List S144) (hn : xs.length ≤ 1048576) (hs : ∀ x ∈ xs, SmallJ x) : Ev (fun k => laws_toJumpS.f k xs) (xs.map cJ) := by
  refine Ev.congr (fun k => ?_) (toJumpS_l0 xs hn hs xs.length 0 rfl (Nat.zero_le _))
  unfold laws_toJumpS.f
  rw [if_pos (by omega), if_pos (by omega)]
  simp
theorem toBlock_any (b : S95) (h : SmallB b) : Ev (fun k => laws_toBlock.f k b.f0 b.f1 b.f2 b.f3 b.f4) (b.f0, b.f1.map cI, b.f2, b.f3, b.f4.map cJ) :=
  Ev.congr (fun k => rfl) (Ev.bind (toInstS_any b.f1 h.1.1 h.1.2) (Ev.bind (toJumpS_any b.f4 h.2.1 h.2.2) (Ev.now _)))
theorem toBlockS_l0 (xs : List S95) (hn : xs.length ≤ 1048576) (hs : ∀ x ∈ xs, SmallB x) : ∀ (d i : Nat), xs.length - i = d → i ≤ xs.length → Ev (fun k => laws_toBlockS.l0 k xs ((xs.map cB).take i ++ List.replicate ((xs.map cB).length - i) z87) (i : Int)) (xs.map cB)
  | 0, i, hd, hi => Ev.step (f := fun _ => some (xs.map cB)) (fun k => by simp only [laws_toBlockS.l0]; rw [if_neg (by omega), List.length_map, hd, List.replicate_zero, List.append_nil, List.take_of_length_le (by rw [List.length_map]; omega)]) (Ev.now _)
  | d + 1, i, hd, hi => by
    have h : i < xs.length := by omega
    have hm : SmallB (rd_T95 xs (i : Int)) := hs _ (getD_mem xs z95 i h)
    refine Ev.step (f := fun k => (laws_toBlock.f k (rd_T95 xs (i : Int)).f0 (rd_T95 xs (i : Int)).f1 (rd_T95 xs (i : Int)).f2 (rd_T95 xs (i : Int)).f3 (rd_T95 xs (i : Int)).f4).bind fun bt => laws_toBlockS.l0 k xs (((xs.map cB).take i ++ List.replicate ((xs.map cB).length - i) z87).set i (⟨bt.1, bt.2.1, bt.2.2.1, bt.2.2.2.1, bt.2.2.2.2⟩ : S87)) ((i + 1 : Nat) : Int)) (fun k => ?_) (Ev.bind (toBlock_any _ hm) ?_)
    · simp only [laws_toBlockS.l0]
      rw [if_pos (by omega), if_pos (by omega), wnext i xs.length h (by unfold Max; omega)]
      congr 1
      funext bt
      rw [if_pos (by simp; omega)]
      simp only [Int.toNat_natCast]
    · have := toBlockS_l0 xs hn hs d (i + 1) (by omega) (by omega)
      refine Ev.congr (fun k => ?_) this
      rw [acc_set (xs.map cB) z87 i (by simpa using h) _ (by simp [rd_T95, List.getD_eq_getElem?_getD, List.getElem?_eq_getElem h, cB])]
theorem toBlockS_any (xs : List S95) (hn : xs.length ≤ 1048576) (hs : ∀ x ∈ xs, SmallB x) : Ev (fun k => laws_toBlockS.f k xs) (xs.map cB) := by
  refine Ev.congr (fun k => ?_) (toBlockS_l0 xs hn hs xs.length 0 rfl (Nat.zero_le _))
  unfold laws_toBlockS.f
  rw [if_pos (by omega), if_pos (by omega)]
  simp
theorem toFunc_any (p : Int) (bs : List S95) (h : Small bs) : Ev (fun k => laws_toFunc.f k p bs) (p, bs.map cB) := Ev.congr (fun k => rfl) (Ev.bind (toBlockS_any bs h.1 h.2) (Ev.now _))
theorem eqIntS_l0 (xs : List Int) (hn : xs.length ≤ Max) : ∀ (d i : Nat), xs.length - i = d → Ev (fun k => laws_eqIntS.l0 k xs xs (i : Int)) true
  | 0, i, hd => Ev.step (f := fun _ => some true) (fun k => by simp only [laws_eqIntS.l0]; rw [if_neg (by omega)]) (Ev.now _)
  | d + 1, i, hd => Ev.step (fun k => by simp only [laws_eqIntS.l0]; rw [if_pos (by omega), if_pos (by omega), if_pos (by omega), if_pos (by trivial), wnext i xs.length (by omega) hn]) (eqIntS_l0 xs hn d (i + 1) (by omega))
theorem eqIntS_any (xs : List Int) (hn : xs.length ≤ Max) : Ev (fun k => laws_eqIntS.f k xs xs) true := Ev.congr (fun k => by unfold laws_eqIntS.f; rw [if_pos rfl]; rfl) (eqIntS_l0 xs hn xs.length 0 rfl)
def OkI (x : S89) : Prop := x.f2.length ≤ Max
def OkJ (x : S109) : Prop := x.f1.length ≤ Max
def OkB (b : S87) : Prop := (b.f1.length ≤ Max ∧ ∀ x ∈ b.f1, OkI x) ∧ (b.f4.length ≤ Max ∧ ∀ x ∈ b.f4, OkJ x)
theorem eqInst_any (x : S89) (h : OkI x) : Ev (fun k => laws_eqInst.f k x.f0 x.f1 x.f2 x.f0 x.f1 x.f2) true :=
  Ev.congr (fun k => by unfold laws_eqInst.f; rw [if_pos rfl, if_pos rfl]) (Ev.bind (eqIntS_any x.f2 h) (Ev.congr (fun k => if_pos rfl) (Ev.now _)))
theorem eqJump_any (x : S109) (h : OkJ x) : Ev (fun k => laws_eqJump.f k x.f0 x.f1 x.f0 x.f1) true :=
  Ev.congr (fun k => by unfold laws_eqJump.f; rw [if_pos rfl]) (Ev.bind (eqIntS_any x.f1 h) (Ev.congr (fun k => if_pos rfl) (Ev.now _)))
theorem eqInstS_l0 (xs : List S89) (hn : xs.length ≤ Max) (ho : ∀ x ∈ xs, OkI x) : ∀ (d i : Nat), xs.length - i = d → Ev (fun k => laws_eqInstS.l0 k xs xs (i : Int)) true
  | 0, i, hd => Ev.step (f := fun _ => some true) (fun k => by simp only [laws_eqInstS.l0]; rw [if_neg (by omega)]) (Ev.now _)
  | d + 1, i, hd => Ev.step (f := fun k => (laws_eqInst.f k (rd_T89 xs (i : Int)).f0 (rd_T89 xs (i : Int)).f1 (rd_T89 xs (i : Int)).f2 (rd_T89 xs (i : Int)).f0 (rd_T89 xs (i : Int)).f1 (rd_T89 xs (i : Int)).f2).bind fun t => if t = true then laws_eqInstS.l0 k xs xs ((i + 1 : Nat) : Int) else some false)
      (fun k => by simp only [laws_eqInstS.l0]; rw [if_pos (by omega), if_pos (by omega), if_pos (by omega), wnext i xs.length (by omega) hn])
      (Ev.bind (eqInst_any _ (ho _ (getD_mem xs z89 i (by omega)))) (Ev.congr (fun k => if_pos rfl) (eqInstS_l0 xs hn ho d (i + 1) (by omega))))
theorem eqInstS_any (xs : List S89) (hn : xs.length ≤ Max) (ho : ∀ x ∈ xs, OkI x) : Ev (fun k => laws_eqInstS.f k xs xs) true := Ev.congr (fun k => by unfold laws_eqInstS.f; rw [if_pos rfl]; rfl) (eqInstS_l0 xs hn ho xs.length 0 rfl)
theorem eqJumpS_l0 (xs : List S109) (hn : xs.length ≤ Max) (ho : ∀ x ∈ xs, OkJ x) : ∀ (d i : Nat), xs.length - i = d → Ev (fun k => laws_eqJumpS.l0 k xs xs (i : Int)) true
  | 0, i, hd => Ev.step (f := fun _ => some true) (fun k => by simp only [laws_eqJumpS.l0]; rw [if_neg (by omega)]) (Ev.now _)
  | d + 1, i, hd => Ev.step (f := fun k => (laws_eqJump.f k (rd_T109 xs (i : Int)).f0 (rd_T109 xs (i : Int)).f1 (rd_T109 xs (i : Int)).f0 (rd_T109 xs (i : Int)).f1).bind fun t => if t = true then laws_eqJumpS.l0 k xs xs ((i + 1 : Nat) : Int) else some false)
      (fun k => by simp only [laws_eqJumpS.l0]; rw [if_pos (by omega), if_pos (by omega), if_pos (by omega), wnext i xs.length (by omega) hn])
      (Ev.bind (eqJump_any _ (ho _ (getD_mem xs z109 i (by omega)))) (Ev.congr (fun k => if_pos rfl) (eqJumpS_l0 xs hn ho d (i + 1) (by omega))))
theorem eqJumpS_any (xs : List S109) (hn : xs.length ≤ Max) (ho : ∀ x ∈ xs, OkJ x) : Ev (fun k => laws_eqJumpS.f k xs xs) true := Ev.congr (fun k => by unfold laws_eqJumpS.f; rw [if_pos rfl]; rfl) (eqJumpS_l0 xs hn ho xs.length 0 rfl)
theorem eqBlock_any (b : S87) (h : OkB b) : Ev (fun k => laws_eqBlock.f k b.f0 b.f1 b.f2 b.f3 b.f4 b.f0 b.f1 b.f2 b.f3 b.f4) true :=
  Ev.congr (fun k => by unfold laws_eqBlock.f; rw [if_pos rfl]) (Ev.bind (eqInstS_any b.f1 h.1.1 h.1.2) (Ev.congr (fun k => by rw [if_pos rfl, if_pos rfl, if_pos rfl]) (Ev.bind (eqJumpS_any b.f4 h.2.1 h.2.2) (Ev.congr (fun k => if_pos rfl) (Ev.now _)))))
theorem eqBlockS_l0 (xs : List S87) (hn : xs.length ≤ Max) (ho : ∀ x ∈ xs, OkB x) : ∀ (d i : Nat), xs.length - i = d → Ev (fun k => laws_eqBlockS.l0 k xs xs (i : Int)) true
  | 0, i, hd => Ev.step (f := fun _ => some true) (fun k => by simp only [laws_eqBlockS.l0]; rw [if_neg (by omega)]) (Ev.now _)
  | d + 1, i, hd => Ev.step (f := fun k => (laws_eqBlock.f k (rd_T87 xs (i : Int)).f0 (rd_T87 xs (i : Int)).f1 (rd_T87 xs (i : Int)).f2 (rd_T87 xs (i : Int)).f3 (rd_T87 xs (i : Int)).f4 (rd_T87 xs (i : Int)).f0 (rd_T87 xs (i : Int)).f1 (rd_T87 xs (i : Int)).f2 (rd_T87 xs (i : Int)).f3 (rd_T87 xs (i : Int)).f4).bind fun t => if t = true then laws_eqBlockS.l0 k xs xs ((i + 1 : Nat) : Int) else some false)
      (fun k => by simp only [laws_eqBlockS.l0]; rw [if_pos (by omega), if_pos (by omega), if_pos (by omega), wnext i xs.length (by omega) hn])
      (Ev.bind (eqBlock_any _ (ho _ (getD_mem xs z87 i (by omega)))) (Ev.congr (fun k => if_pos rfl) (eqBlockS_l0 xs hn ho d (i + 1) (by omega))))
theorem eqBlockS_any (xs : List S87) (hn : xs.length ≤ Max) (ho : ∀ x ∈ xs, OkB x) : Ev (fun k => laws_eqBlockS.f k xs xs) true := Ev.congr (fun k => by unfold laws_eqBlockS.f; rw [if_pos rfl]; rfl) (eqBlockS_l0 xs hn ho xs.length 0 rfl)
theorem eqFunc_any (p : Int) (bs : List S87) (hn : bs.length ≤ Max) (ho : ∀ x ∈ bs, OkB x) : Ev (fun k => laws_eqFunc.f k p bs p bs) true :=
  Ev.congr (fun k => by unfold laws_eqFunc.f; rw [if_pos rfl]) (Ev.bind (eqBlockS_any bs hn ho) (Ev.congr (fun k => if_pos rfl) (Ev.now _)))
theorem small_ok {bs : List S95} (h : Small bs) : (bs.map cB).length ≤ Max ∧ ∀ x ∈ bs.map cB, OkB x := by
  refine ⟨by rw [List.length_map]; have := h.1; unfold Max; omega, fun x hx => ?_⟩
  obtain ⟨b, hb, rfl⟩ := List.mem_map.1 hx
  obtain ⟨⟨h1, h2⟩, h3, h4⟩ := h.2 b hb
  refine ⟨⟨by simp only [cB, List.length_map]; unfold Max; omega, fun x hx => ?_⟩, by simp only [cB, List.length_map]; unfold Max; omega, fun x hx => ?_⟩
  · obtain ⟨y, hy, rfl⟩ := List.mem_map.1 hx
    have := h2 y hy
    unfold SmallI at this
    show y.f2.length ≤ Max
    unfold Max; omega
  · obtain ⟨y, hy, rfl⟩ := List.mem_map.1 hx
    have := h4 y hy
    unfold SmallJ at this
    show y.f1.length ≤ Max
    unfold Max; omega
end Go.Proofs.Ytghlbhijkhkgkaa.PA
