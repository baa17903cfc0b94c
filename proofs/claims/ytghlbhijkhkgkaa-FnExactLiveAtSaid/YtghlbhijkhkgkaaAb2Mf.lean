/- Parts of the walk. -/
import Derived.Test.YtghlbhijkhkgkaaAb2Ma
import Derived.Test.YtghlbhijkhkgkaaAb2PAz1
import Derived.Test.YtghlbhijkhkgkaaAb2PAx3
import Derived.Test.YtghlbhijkhkgkaaAb2V0
section
/- The flow seat: marking a row of numbers and finding the marks again, in plain words. -/
namespace Go.Proofs.Ytghlbhijkhkgkaa.PA
open Go.RowKit Go.Proofs.YtghlbhijkhkgkaaW.PrintWords Go.Proofs.YtghlbhijkhkgkaaW.PrintLast Go.Proofs.YtghlbhijkhkgkaaW.PrintMore
set_option linter.unusedVariables false
/-- The marks 1, 2, .. -/
def marksL (n : Nat) : List Int := (List.range n).map fun (j : Nat) => 1 + (j : Int)
theorem marksL_len (n : Nat) : (marksL n).length = n := by simp [marksL]
theorem mark_l0 (l : List Int) (hl : l.length ≤ 1000) : ∀ (d i : Nat), l.length - i = d → i ≤ l.length → Ev (fun k => laws_markIntS.l0 k (marksL i ++ l.drop i) (1 + (i : Int)) (i : Int)) (1 + (l.length : Int), marksL l.length)
  | 0, i, hd, hi => by
    obtain rfl : i = l.length := by omega
    refine Ev.step (f := fun _ => some (1 + (l.length : Int), marksL l.length)) (fun k => ?_) (Ev.now _)
    simp only [laws_markIntS.l0]
    rw [List.drop_of_length_le (Nat.le_refl _), List.append_nil, marksL_len, if_neg (by omega)]
  | d + 1, i, hd, hi => by
    have h : i < l.length := by omega
    refine Ev.step (fun k => ?_) (mark_l0 l hl d (i + 1) (by omega) (by omega))
    simp only [laws_markIntS.l0]
    have e : (marksL i ++ l.drop i).set i (1 + (i : Int)) = marksL (i + 1) ++ l.drop (i + 1) := by
      rw [List.set_append_right _ _ (by rw [marksL_len]; exact Nat.le_refl _), marksL_len, Nat.sub_self, List.drop_eq_getElem_cons h, List.set_cons_zero, marksL, marksL, List.range_succ, List.map_append, List.append_assoc]
      rfl
    have e2 : wrap64 (1 + (i : Int) + 1) = 1 + ((i + 1 : Nat) : Int) := by unfold wrap64; omega
    rw [if_pos (by rw [List.length_append, marksL_len, List.length_drop]; omega), if_pos (by omega), Int.toNat_natCast, e, e2, wnext i l.length h (by unfold Max; omega)]
theorem mark_f (l : List Int) (hl : l.length ≤ 1000) : Ev (fun k => laws_markIntS.f k l 1) (1 + (l.length : Int), marksL l.length) := by
  have := mark_l0 l hl _ 0 rfl (Nat.zero_le _)
  exact Ev.congr (fun k => rfl) this
theorem held_l0 (n : Nat) (hn : n ≤ 1000) : ∀ (d i : Nat), n - i = d → i ≤ n → Ev (fun k => laws_heldIntS.l0 k (marksL n) (1 + (i : Int)) (i : Int)) (1 + (n : Int))
  | 0, i, hd, hi => by
    obtain rfl : i = n := by omega
    exact Ev.step (f := fun _ => some (1 + (i : Int))) (fun k => by simp only [laws_heldIntS.l0]; rw [marksL_len, if_neg (by omega)]) (Ev.now _)
  | d + 1, i, hd, hi => by
    have h : i < n := by omega
    have hr : rd (marksL n) (i : Int) = 1 + (i : Int) := by simp [rd, marksL, List.getD_eq_getElem?_getD, h]
    have e2 : wrap64 (1 + (i : Int) + 1) = 1 + ((i + 1 : Nat) : Int) := by unfold wrap64; omega
    refine Ev.step (fun k => ?_) (held_l0 n hn d (i + 1) (by omega) (by omega))
    simp only [laws_heldIntS.l0]
    rw [marksL_len, if_pos (by omega), if_pos (by omega), if_pos hr, e2, wnext i n h (by unfold Max; omega)]
theorem held_f (n : Nat) (hn : n ≤ 1000) : Ev (fun k => laws_heldIntS.f k (marksL n) 1) (1 + (n : Int)) := Ev.congr (fun k => rfl) (held_l0 n hn _ 0 rfl (Nat.zero_le _))
theorem mark_any {w0 w : World} {P : Nat → Prop} {u : Value} (l : List Int) (hl : l.length ≤ 1000) (hB : Below w0.heap.size w0 w) (ho : (Kd.int .i64).R 3 w w0.heap.size P u l) :
    Calls Try.prog 27 #[u, .int .i64 1] w fun e w' => e = .returned (.int .i64 (1 + (l.length : Int))) ∧ (Kd.int .i64).R 3 w' w0.heap.size (fun k => (P k ∨ w.heap.size ≤ k)) u (marksL l.length) ∧ Below w0.heap.size w0 w' ∧ Kept w w' (fun k => P k) := by
  obtain ⟨k, hk⟩ := Ev.rounds (mark_f l hl)
  exact laws_markIntS.calls k P u l 1 _ _ w0 w hB ho hk
theorem held_any {w : World} {A : Option Addr} {c : Nat} (n : Nat) (hn : n ≤ 1000) (hr : (Kd.int .i64).C w A n (marksL n)) (hc : n ≤ c) :
    Calls Try.prog 28 #[.slice A n c, .int .i64 1] w fun e w' => e = .returned (.int .i64 (1 + (n : Int))) ∧ Drawn0 w w' := by
  obtain ⟨k, hk⟩ := Ev.rounds (held_f n hn)
  have := laws_heldIntS.calls k A c (marksL n) 1 _ w (by rw [marksL_len]; exact hr) (by rw [marksL_len]; exact hc) hk
  rwa [marksL_len] at this
theorem eqInt_any {w : World} {A A' : Option Addr} {c c' : Nat} (l : List Int) (hl : l.length ≤ 1000) (h1 : (Kd.int .i64).C w A l.length l) (h2 : l.length ≤ c) (h3 : (Kd.int .i64).C w A' l.length l) (h4 : l.length ≤ c') :
    Calls Try.prog 25 #[.slice A l.length c, .slice A' l.length c'] w fun e w' => e = .returned (.bool true) ∧ Drawn0 w w' := by
  obtain ⟨k, hk⟩ := Ev.rounds (eqIntS_any l (by unfold Max; omega))
  exact laws_eqIntS.calls k A c l A' c' l true w h1 h2 h3 h4 hk
theorem small_mark {bs : List S95} (h : Small bs) : (bs.map cB).length ≤ 1048576 ∧ ∀ x ∈ bs.map cB, (x.f1.length ≤ 1048576 ∧ ∀ y ∈ x.f1, y.f2.length ≤ 1048576) ∧ (x.f4.length ≤ 1048576 ∧ ∀ y ∈ x.f4, y.f1.length ≤ 1048576) := by
  refine ⟨by rw [List.length_map]; exact h.1, fun x hx => ?_⟩
  obtain ⟨b, hb, rfl⟩ := List.mem_map.1 hx
  obtain ⟨⟨h1, h2⟩, h3, h4⟩ := h.2 b hb
  refine ⟨⟨by simpa [cB] using h1, fun y hy => ?_⟩, by simpa [cB] using h3, fun y hy => ?_⟩
  · simp only [cB, List.mem_map] at hy
    obtain ⟨z, hz, rfl⟩ := hy
    exact h2 z hz
  · simp only [cB, List.mem_map] at hy
    obtain ⟨z, hz, rfl⟩ := hy
    exact h4 z hz
end Go.Proofs.Ytghlbhijkhkgkaa.PA
end
section
/- The flow seat: what all walks of laws of lists share. -/
namespace Go.Proofs.Ytghlbhijkhkgkaa.PA
open Go.RowKit Go.Proofs.YtghlbhijkhkgkaaW.PrintWords Go.Proofs.YtghlbhijkhkgkaaW.PrintLast Go.Proofs.YtghlbhijkhkgkaaW.PrintMore
set_option linter.unusedVariables false
theorem toFunc_calls (p : Int) (bs : List S95) (hs : Small bs) {A : Option Addr} {c : Nat} (W : World) (hr : Kd.C k95 W A bs.length bs) (hc : bs.length ≤ c) :
    Calls Try.prog 18 #[.agg #[.int .i64 p, .slice A bs.length c]] W fun e w' => ∃ A1 c1, e = .returned (.agg #[.int .i64 p, .slice A1 (bs.map cB).length c1]) ∧ (bs.map cB).length ≤ c1 ∧ Kd.R k87 87 w' W.heap.size (fun _ => True) (.slice A1 (bs.map cB).length c1) (bs.map cB) ∧ Below W.heap.size W w' := by
  obtain ⟨k, hk⟩ := Ev.rounds (toFunc_any p bs hs)
  refine (laws_toFunc.calls k p A c bs p (bs.map cB) W hr hc hk).mono fun e w' h => ?_
  obtain ⟨v1, rfl, hR, hb⟩ := h
  obtain ⟨A1, c1, rfl, hl, _⟩ := Kd.R_reads hR
  exact ⟨A1, c1, rfl, hl, hR, hb⟩
/-- What stands throughout the walk: the boxed argument and the reference's answer. -/
structure QW (w W : World) (p : Int) (A : Option Addr) (n c : Nat) (l : List Int) (A6 : Option Addr) (d6 n3 : Nat) : Prop where
  hb : Below w.heap.size w W
  k0 : W.cell? ⟨w.heap.size, 0, none⟩ = some (.int .i64 p)
  k1 : W.cell? ⟨w.heap.size, 1, none⟩ = some (.slice A n c)
  v6 : (Kd.int .i64).R 3 W w.heap.size (fun k => k < n3) (.slice A6 l.length d6) l
section
variable {w W W1 : World} {p : Int} {A : Option Addr} {n c : Nat} {l : List Int} {A6 : Option Addr} {d6 n3 : Nat} {S : Nat → Prop}
theorem QW.below (h : QW w W p A n c l A6 d6 n3) (hb : Below W.heap.size W W1) : QW w W1 p A n c l A6 d6 n3 := ⟨below_step h.hb hb, pw_cell_below hb h.k0, pw_cell_below hb h.k1, Kd.R_below h.v6 hb⟩
theorem QW.kept (h : QW w W p A n c l A6 d6 n3) (hb : Below w.heap.size w W1) (hk : Kept W W1 S) (hS : ∀ k, k < n3 → ¬ S k) (hw : w.heap.size < n3) : QW w W1 p A n c l A6 d6 n3 := ⟨hb, cell_kept h.k0 hk (hS _ hw), cell_kept h.k1 hk (hS _ hw), Kd.R_kept h.v6 hk hS⟩
theorem eqInt_b {A A' : Option Addr} {c c' : Nat} (hl : l.length ≤ 1000) (h1 : (Kd.int .i64).C W A l.length l) (h2 : l.length ≤ c) (h3 : (Kd.int .i64).C W A' l.length l) (h4 : l.length ≤ c') :
    Calls Try.prog 25 #[.slice A l.length c, .slice A' l.length c'] W fun e w' => e = .returned (.bool true) ∧ Below W.heap.size W w' :=
  (eqInt_any l hl h1 h2 h3 h4).mono fun e w' h => ⟨h.1, by obtain ⟨m, rfl⟩ := h.2; exact pw_below_drewN (Below.refl _ _) m⟩
theorem held_b {A : Option Addr} {c : Nat} (n : Nat) (hn : n ≤ 1000) (hr : (Kd.int .i64).C W A n (marksL n)) (hc : n ≤ c) : Calls Try.prog 28 #[.slice A n c, .int .i64 1] W fun e w' => e = .returned (.int .i64 (1 + (n : Int))) ∧ Below W.heap.size W w' :=
  (held_any n hn hr hc).mono fun e w' h => ⟨h.1, by obtain ⟨m, rfl⟩ := h.2; exact pw_below_drewN (Below.refl _ _) m⟩
end
end Go.Proofs.Ytghlbhijkhkgkaa.PA
end
section
/- The flow seat: small contracts by hand: arity, argsOf, IndexFunc and ContainsFunc over ints, valuesOK. -/
namespace Go.Proofs.Ytghlbhijkhkgkaa.PA
open Go.RowKit Go.Proofs.YtghlbhijkhkgkaaW.PrintWords Go.Proofs.YtghlbhijkhkgkaaW.PrintLast Go.Proofs.YtghlbhijkhkgkaaW.PrintMore
set_option linter.unusedVariables false
theorem within_any (n a b : Int) (w : World) : Calls Try.prog 100 #[.int .i64 n, .int .i64 a, .int .i64 b] w fun e w' => e = .returned (.bool (within n a b)) ∧ w = w' := by
  by_cases h : a ≤ n
  · have h1 : decide (n ≥ a) = true := decide_eq_true h
    go_enter Try.func100, Try.ntmps100
    go_wp2
    go_ret
    exact ⟨by simp [within, h], rfl⟩
  · have h1 : decide (n ≥ a) = false := decide_eq_false h
    go_enter Try.func100, Try.ntmps100
    go_wp2
    go_ret
    exact ⟨by simp [within]; intro h'; omega, rfl⟩
theorem isOp_any (n : Int) (w : World) : Calls Try.prog 164 #[.int .i64 n] w fun e w' => e = .returned (.bool (within n 1 11)) ∧ w = w' := by
  go_enter Try.func164, Try.ntmps164
  go_wp2_with (go_at_call 100; refine (within_any _ _ _ _).mono ?_; rintro e w' ⟨rfl, rfl⟩)
  go_ret
  exact ⟨rfl, rfl⟩
theorem arity_any (n : Int) (w : World) : Calls Try.prog 165 #[.int .i64 n] w fun e w' => e = .returned (.int .i64 (arF n)) ∧ w = w' := by
  by_cases h1 : n = 1
  · subst h1
    go_enter Try.func165, Try.ntmps165
    go_wp2
    go_ret
    exact ⟨rfl, rfl⟩
  by_cases h2 : n = 2
  · subst h2
    go_enter Try.func165, Try.ntmps165
    go_wp2
    go_ret
    exact ⟨rfl, rfl⟩
  by_cases h3 : n = 3
  · subst h3
    go_enter Try.func165, Try.ntmps165
    go_wp2
    go_ret
    exact ⟨rfl, rfl⟩
  have b1 : (n == 1) = false := beq_eq_false_iff_ne.mpr h1
  have b2 : (n == 2) = false := beq_eq_false_iff_ne.mpr h2
  have b3 : (n == 3) = false := beq_eq_false_iff_ne.mpr h3
  have HE := Aside0.mk (show arF n = if n = 11 then 3 else 2 by simp [arF, h1, h2, h3])
  clear h1 h2 h3
  by_cases h4 : n = 11
  · subst h4
    go_enter Try.func165, Try.ntmps165
    go_wp2
    go_ret
    exact ⟨rfl, rfl⟩
  · have b4 : (n == 11) = false := beq_eq_false_iff_ne.mpr h4
    have HE2 := Aside0.mk (HE.out.trans (if_neg h4))
    clear h4
    go_enter Try.func165, Try.ntmps165
    go_wp2
    go_ret
    exact ⟨by rw [HE2.out]; rfl, rfl⟩
theorem argsOf_any (n : Int) (w : World) : Calls Try.prog 150 #[.int .i64 n] w fun e w' => e = .returned (.int .i64 (argF n)) ∧ w = w' := by
  by_cases h1 : n = 12
  · subst h1
    go_enter Try.func150, Try.ntmps150
    go_wp2
    go_ret
    exact ⟨rfl, rfl⟩
  by_cases h2 : n = 13
  · subst h2
    go_enter Try.func150, Try.ntmps150
    go_wp2
    go_ret
    exact ⟨rfl, rfl⟩
  have b1 : (n == 12) = false := beq_eq_false_iff_ne.mpr h1
  have b2 : (n == 13) = false := beq_eq_false_iff_ne.mpr h2
  have HE := Aside0.mk (show argF n = if within n 1 11 = true ∧ n ≠ 2 then arF n else -1 by simp [argF, h1, h2])
  clear h1 h2
  obtain ⟨ar, har⟩ : ∃ a, a = arF n := ⟨_, rfl⟩
  have HA := arity_any n
  rw [← har] at HA
  have HH := Aside0.mk HA
  have HR := Aside0.mk har
  clear HA har
  cases hq : within n 1 11 with
  | false =>
    have hc : ∀ w, Calls Try.prog 164 #[.int .i64 n] w fun e w' => e = .returned (.bool false) ∧ w = w' := fun w => by rw [← hq]; exact isOp_any n w
    have HC := Aside0.mk hc
    have HQ := Aside0.mk hq
    clear hc hq
    go_enter Try.func150, Try.ntmps150
    go_wp2_with (go_at_call 164; refine (HC.out _).mono ?_; rintro e w' ⟨rfl, rfl⟩)
    go_ret
    exact ⟨by rw [HE.out, HQ.out]; rfl, rfl⟩
  | true =>
    have hc : ∀ w, Calls Try.prog 164 #[.int .i64 n] w fun e w' => e = .returned (.bool true) ∧ w = w' := fun w => by rw [← hq]; exact isOp_any n w
    have HC := Aside0.mk hc
    have HQ := Aside0.mk hq
    clear hc hq
    by_cases h3 : n = 2
    · subst h3
      go_enter Try.func150, Try.ntmps150
      go_wp2_with (go_at_call 164; refine (HC.out _).mono ?_; rintro e w' ⟨rfl, rfl⟩)
      go_ret
      exact ⟨rfl, rfl⟩
    · have b3 : (n != 2) = true := bne_iff_ne.mpr h3
      have HN := Aside0.mk h3
      clear h3
      go_enter Try.func150, Try.ntmps150
      go_wp2_with (first | (go_at_call 164; refine (HC.out _).mono ?_; rintro e w' ⟨rfl, rfl⟩) | (go_at_call 165; refine (HH.out _).mono ?_; rintro e w' ⟨rfl, rfl⟩))
      go_ret
      exact ⟨by rw [HE.out, HQ.out, if_pos ⟨rfl, HN.out⟩, ← HR.out]; rfl, rfl⟩
end Go.Proofs.Ytghlbhijkhkgkaa.PA
end
