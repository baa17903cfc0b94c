/- Parts of the walk. -/
import Derived.Test.YtghlbhijkhkgkaaEbOf
import Derived.Test.YtghlbhijkhkgkaaEbPAx3
import Derived.Test.YtghlbhijkhkgkaaEbV0
section
/- The flow seat: rows of rows found again and compared; the reference's Dominators. -/
namespace Go.Proofs.Ytghlbhijkhkgkaa.PA
open Go.RowKit Go.Proofs.YtghlbhijkhkgkaaW.PrintWords Go.Proofs.YtghlbhijkhkgkaaW.PrintLast Go.Proofs.YtghlbhijkhkgkaaW.PrintMore
set_option linter.unusedVariables false
theorem markRows_at (rows : List (List Int)) (i : Nat) (hi : i < rows.length) : rd_L1 (markRows 1 rows) (i : Int) = marksQ (1 + (sumL (rows.take i) : Int)) (rows[i]).length := by
  have h : rows = rows.take i ++ [rows[i]] ++ rows.drop (i + 1) := by rw [← List.take_succ_eq_append_getElem hi, List.take_append_drop]
  have hg : ∀ (q : Int) (l r : List (List Int)), markRows q (l ++ r) = markRows q l ++ markRows (q + (sumL l : Int)) r := by
    intro q l
    induction l generalizing q with
    | nil => intro r; simp [markRows, sumL]
    | cons a l ih =>
      intro r
      rw [List.cons_append, markRows, markRows, ih, List.cons_append]
      simp only [sumL, List.map_cons, List.sum_cons]
      rw [show q + (a.length : Int) + (((l.map List.length).sum : Nat) : Int) = q + ((a.length + (l.map List.length).sum : Nat) : Int) by omega]
  rw [rd_L1, Int.toNat_natCast]
  have hl : (markRows 1 (rows.take i)).length = i := by rw [markRows_len, List.length_take]; omega
  conv => lhs; rw [h]
  rw [hg, List.getD_eq_getElem?_getD, List.getElem?_append_left (by rw [markRows_len]; simp; omega), markRows_snoc, List.getElem?_append_right (by omega), hl, Nat.sub_self]
  rfl
theorem heldSS_l0 (rows : List (List Int)) (hs : SmallRows rows) : ∀ (d i : Nat), rows.length - i = d → i ≤ rows.length → Ev (fun k => laws_heldIntSS.l0 k (markRows 1 rows) (1 + (sumL (rows.take i) : Int)) (i : Int)) (1 + (sumL rows : Int))
  | 0, i, hd, hi => by
    have : rows.take i = rows := List.take_of_length_le (by omega)
    rw [this]
    exact Ev.step (f := fun _ => some (1 + (sumL rows : Int))) (fun k => by simp only [laws_heldIntSS.l0]; rw [markRows_len, if_neg (by omega)]) (Ev.now _)
  | d + 1, i, hd, hi => by
    have h : i < rows.length := by omega
    have hrl := hs.2 _ (List.getElem_mem h)
    have hsum := hs.sum i
    have hn := hs.1
    have hsn : sumL (rows.take (i + 1)) = sumL (rows.take i) + (rows[i]).length := by rw [List.take_succ_eq_append_getElem h, sumL_snoc]
    have ev := heldq_f (1 + (sumL (rows.take i) : Int)) (by omega) (rows[i]).length (by omega)
    have ih := heldSS_l0 rows hs d (i + 1) (by omega) (by omega)
    refine Ev.step (f := fun k => (laws_heldIntS.f k (marksQ (1 + (sumL (rows.take i) : Int)) (rows[i]).length) (1 + (sumL (rows.take i) : Int))).bind fun t => if t < 0 then some (-1) else laws_heldIntSS.l0 k (markRows 1 rows) t ((i + 1 : Nat) : Int)) (fun k => ?_) (Ev.bind ev ?_)
    · simp only [laws_heldIntSS.l0]
      rw [markRows_len, if_pos (by omega), if_pos (by omega), markRows_at rows i h, wnext i _ h (by unfold Max; omega)]
    · refine Ev.congr (fun k => ?_) ih
      rw [if_neg (by omega), hsn]
      rw [show 1 + ((sumL (rows.take i) + (rows[i]).length : Nat) : Int) = 1 + (sumL (rows.take i) : Int) + ((rows[i]).length : Int) by omega]
theorem heldSS_any {w : World} {A : Option Addr} {c : Nat} (rows : List (List Int)) (hs : SmallRows rows) (hr : Kd.C kR w A rows.length (markRows 1 rows)) (hc : rows.length ≤ c) :
    Calls Try.prog 39 #[.slice A rows.length c, .int .i64 1] w fun e w' => e = .returned (.int .i64 (1 + (sumL rows : Int))) ∧ Below w.heap.size w w' := by
  have h0 := heldSS_l0 rows hs _ 0 rfl (Nat.zero_le _)
  rw [List.take_zero, show (1 : Int) + ((sumL [] : Nat) : Int) = 1 from rfl] at h0
  obtain ⟨k, hk⟩ := Ev.rounds (Ev.congr (g := fun k => laws_heldIntSS.f k (markRows 1 rows) 1) (fun k => rfl) h0)
  have := laws_heldIntSS.calls k A c (markRows 1 rows) 1 _ w (by rw [markRows_len]; exact hr) (by rw [markRows_len]; exact hc) hk
  rw [markRows_len] at this
  exact this.mono fun e w' h => ⟨h.1, by obtain ⟨m, rfl⟩ := h.2; exact pw_below_drewN (Below.refl _ _) m⟩
theorem eqSS_l0 (rows : List (List Int)) (hs : SmallRows rows) : ∀ (d i : Nat), rows.length - i = d → i ≤ rows.length → Ev (fun k => laws_eqIntSS.l0 k rows rows (i : Int)) true
  | 0, i, hd, hi => Ev.step (f := fun _ => some true) (fun k => by simp only [laws_eqIntSS.l0]; rw [if_neg (by omega)]) (Ev.now _)
  | d + 1, i, hd, hi => by
    have h : i < rows.length := by omega
    have hn := hs.1
    have hrl := hs.2 _ (List.getElem_mem h)
    have hrd : rd_L1 rows (i : Int) = rows[i] := by simp [rd_L1, List.getD_eq_getElem?_getD, List.getElem?_eq_getElem h]
    have ev := eqIntS_any rows[i] (by unfold Max; omega)
    have ih := eqSS_l0 rows hs d (i + 1) (by omega) (by omega)
    refine Ev.step (f := fun k => (laws_eqIntS.f k rows[i] rows[i]).bind fun t => if t = true then laws_eqIntSS.l0 k rows rows ((i + 1 : Nat) : Int) else some false) (fun k => ?_) (Ev.bind ev ?_)
    · simp only [laws_eqIntSS.l0]
      rw [if_pos (by omega), if_pos (by omega), if_pos (by omega), hrd, wnext i _ h (by unfold Max; omega)]
    · exact Ev.congr (fun k => if_pos rfl) ih
theorem eqSS_any {w : World} {A A' : Option Addr} {c c' : Nat} (rows : List (List Int)) (hs : SmallRows rows) (h1 : Kd.C kR w A rows.length rows) (h2 : rows.length ≤ c) (h3 : Kd.C kR w A' rows.length rows) (h4 : rows.length ≤ c') :
    Calls Try.prog 37 #[.slice A rows.length c, .slice A' rows.length c'] w fun e w' => e = .returned (.bool true) ∧ Below w.heap.size w w' := by
  obtain ⟨k, hk⟩ := Ev.rounds (Ev.congr (g := fun k => laws_eqIntSS.f k rows rows) (fun k => if_pos rfl) (eqSS_l0 rows hs _ 0 rfl (Nat.zero_le _)))
  exact (laws_eqIntSS.calls k A c rows A' c' rows true w h1 h2 h3 h4 hk).mono fun e w' h => ⟨h.1, by obtain ⟨m, rfl⟩ := h.2; exact pw_below_drewN (Below.refl _ _) m⟩
end Go.Proofs.Ytghlbhijkhkgkaa.PA
end
section
/- The flow seat: what all walks of laws of lists of lists share. -/
namespace Go.Proofs.Ytghlbhijkhkgkaa.PA
open Go.RowKit Go.Proofs.YtghlbhijkhkgkaaW.PrintWords Go.Proofs.YtghlbhijkhkgkaaW.PrintLast Go.Proofs.YtghlbhijkhkgkaaW.PrintMore
set_option linter.unusedVariables false
theorem toFunc_calls (p : Int) (bs : List S95) (hs : Small bs) {A : Option Addr} {c : Nat} (W : World) (hr : Kd.C k95 W A bs.length bs) (hc : bs.length ≤ c) :
    Calls Try.prog 18 #[.agg #[.int .i64 p, .slice A bs.length c]] W fun e w' => ∃ A1 c1, e = .returned (.agg #[.int .i64 p, .slice A1 (bs.map cB).length c1]) ∧ (bs.map cB).length ≤ c1 ∧ Kd.R k87 87 w' W.heap.size (fun _ => True) (.slice A1 (bs.map cB).length c1) (bs.map cB) ∧ Below W.heap.size W w' := by
  obtain ⟨k, hk⟩ := Ev.rounds (toFunc_any p bs hs)
  refine (laws_toFunc.calls k p A c bs p (bs.map cB) W hr hc hk).mono fun e w' h => ?_
  obtain ⟨v1, rfl, hR, hb⟩ := h
  obtain ⟨A1, c1, rfl, hl, _⟩ := Kd.R_reads hR
  exact ⟨A1, c1, rfl, hl, hR, hb⟩
theorem rowsS_kept {W W1 : World} {base : Nat} {ok S : Nat → Prop} {v : Value} {xs : List (List Int)} (h : Kd.S kR 34 W base ok v xs) (hk : Kept W W1 S) (hS : ∀ k, ok k → ¬ S k) : Kd.S kR 34 W1 base ok v xs := Kd.S_step h (fun k ho hlt => hk.2 k hlt (hS k ho))
/-- What stands throughout the walk: the boxed argument and the reference's answer. -/
structure QS (w W : World) (p : Int) (A : Option Addr) (n c : Nat) (l : List (List Int)) (A6 : Option Addr) (d6 n3 : Nat) : Prop where
  hb : Below w.heap.size w W
  k0 : W.cell? ⟨w.heap.size, 0, none⟩ = some (.int .i64 p)
  k1 : W.cell? ⟨w.heap.size, 1, none⟩ = some (.slice A n c)
  v6 : Kd.R kR 34 W w.heap.size (fun k => k < n3) (.slice A6 l.length d6) l
section
variable {w W W1 : World} {p : Int} {A : Option Addr} {n c : Nat} {l : List (List Int)} {A6 : Option Addr} {d6 n3 : Nat} {S : Nat → Prop}
theorem QS.below (h : QS w W p A n c l A6 d6 n3) (hb : Below W.heap.size W W1) : QS w W1 p A n c l A6 d6 n3 := ⟨below_step h.hb hb, pw_cell_below hb h.k0, pw_cell_below hb h.k1, Kd.R_below h.v6 hb⟩
theorem QS.kept (h : QS w W p A n c l A6 d6 n3) (hb : Below w.heap.size w W1) (hk : Kept W W1 S) (hS : ∀ k, k < n3 → ¬ S k) (hw : w.heap.size < n3) : QS w W1 p A n c l A6 d6 n3 := ⟨hb, cell_kept h.k0 hk (hS _ hw), cell_kept h.k1 hk (hS _ hw), Kd.R_kept h.v6 hk hS⟩
end
end Go.Proofs.Ytghlbhijkhkgkaa.PA
end
section
/- The flow seat: small contracts by hand: arity, argsOf, IndexFunc and ContainsFunc over ints, valuesOK. -/
namespace Go.Proofs.Ytghlbhijkhkgkaa.PA
open Go.RowKit Go.Proofs.YtghlbhijkhkgkaaW.PrintWords Go.Proofs.YtghlbhijkhkgkaaW.PrintLast Go.Proofs.YtghlbhijkhkgkaaW.PrintMore
set_option linter.unusedVariables false
theorem within_any (n a b : Int) (w : World) : Calls Try.prog 100 #[.int .i64 n, .int .i64 a, .int .i64 b] w fun e w' => e = .returned (.bool (within n a b)) ∧ w = w' := by
  by_cases h : a ≤ n
  · have h1 : decide (n ≥ a) = true := decide_eq_true h
    go_enter Try.func100, Try.ntmps100
    go_wp2
    go_ret
    exact ⟨by simp [within, h], rfl⟩
  · have h1 : decide (n ≥ a) = false := decide_eq_false h
    go_enter Try.func100, Try.ntmps100
    go_wp2
    go_ret
    exact ⟨by simp [within]; intro h'; omega, rfl⟩
theorem isOp_any (n : Int) (w : World) : Calls Try.prog 164 #[.int .i64 n] w fun e w' => e = .returned (.bool (within n 1 11)) ∧ w = w' := by
  go_enter Try.func164, Try.ntmps164
  go_wp2_with (go_at_call 100; refine (within_any _ _ _ _).mono ?_; rintro e w' ⟨rfl, rfl⟩)
  go_ret
  exact ⟨rfl, rfl⟩
theorem arity_any (n : Int) (w : World) : Calls Try.prog 165 #[.int .i64 n] w fun e w' => e = .returned (.int .i64 (arF n)) ∧ w = w' := by
  by_cases h1 : n = 1
  · subst h1
    go_enter Try.func165, Try.ntmps165
    go_wp2
    go_ret
    exact ⟨rfl, rfl⟩
  by_cases h2 : n = 2
  · subst h2
    go_enter Try.func165, Try.ntmps165
    go_wp2
    go_ret
    exact ⟨rfl, rfl⟩
  by_cases h3 : n = 3
  · subst h3
    go_enter Try.func165, Try.ntmps165
    go_wp2
    go_ret
    exact ⟨rfl, rfl⟩
  have b1 : (n == 1) = false := beq_eq_false_iff_ne.mpr h1
  have b2 : (n == 2) = false := beq_eq_false_iff_ne.mpr h2
  have b3 : (n == 3) = false := beq_eq_false_iff_ne.mpr h3
  have HE := Aside0.mk (show arF n = if n = 11 then 3 else 2 by simp [arF, h1, h2, h3])
  clear h1 h2 h3
  by_cases h4 : n = 11
  · subst h4
    go_enter Try.func165, Try.ntmps165
    go_wp2
    go_ret
    exact ⟨rfl, rfl⟩
  · have b4 : (n == 11) = false := beq_eq_false_iff_ne.mpr h4
    have HE2 := Aside0.mk (HE.out.trans (if_neg h4))
    clear h4
    go_enter Try.func165, Try.ntmps165
    go_wp2
    go_ret
    exact ⟨by rw [HE2.out]; rfl, rfl⟩
theorem argsOf_any (n : Int) (w : World) : Calls Try.prog 150 #[.int .i64 n] w fun e w' => e = .returned (.int .i64 (argF n)) ∧ w = w' := by
  by_cases h1 : n = 12
  · subst h1
    go_enter Try.func150, Try.ntmps150
    go_wp2
    go_ret
    exact ⟨rfl, rfl⟩
  by_cases h2 : n = 13
  · subst h2
    go_enter Try.func150, Try.ntmps150
    go_wp2
    go_ret
    exact ⟨rfl, rfl⟩
  have b1 : (n == 12) = false := beq_eq_false_iff_ne.mpr h1
  have b2 : (n == 13) = false := beq_eq_false_iff_ne.mpr h2
  have HE := Aside0.mk (show argF n = if within n 1 11 = true ∧ n ≠ 2 then arF n else -1 by simp [argF, h1, h2])
  clear h1 h2
  obtain ⟨ar, har⟩ : ∃ a, a = arF n := ⟨_, rfl⟩
  have HA := arity_any n
  rw [← har] at HA
  have HH := Aside0.mk HA
  have HR := Aside0.mk har
  clear HA har
  cases hq : within n 1 11 with
  | false =>
    have hc : ∀ w, Calls Try.prog 164 #[.int .i64 n] w fun e w' => e = .returned (.bool false) ∧ w = w' := fun w => by rw [← hq]; exact isOp_any n w
    have HC := Aside0.mk hc
    have HQ := Aside0.mk hq
    clear hc hq
    go_enter Try.func150, Try.ntmps150
    go_wp2_with (go_at_call 164; refine (HC.out _).mono ?_; rintro e w' ⟨rfl, rfl⟩)
    go_ret
    exact ⟨by rw [HE.out, HQ.out]; rfl, rfl⟩
  | true =>
    have hc : ∀ w, Calls Try.prog 164 #[.int .i64 n] w fun e w' => e = .returned (.bool true) ∧ w = w' := fun w => by rw [← hq]; exact isOp_any n w
    have HC := Aside0.mk hc
    have HQ := Aside0.mk hq
    clear hc hq
    by_cases h3 : n = 2
    · subst h3
      go_enter Try.func150, Try.ntmps150
      go_wp2_with (go_at_call 164; refine (HC.out _).mono ?_; rintro e w' ⟨rfl, rfl⟩)
      go_ret
      exact ⟨rfl, rfl⟩
    · have b3 : (n != 2) = true := bne_iff_ne.mpr h3
      have HN := Aside0.mk h3
      clear h3
      go_enter Try.func150, Try.ntmps150
      go_wp2_with (first | (go_at_call 164; refine (HC.out _).mono ?_; rintro e w' ⟨rfl, rfl⟩) | (go_at_call 165; refine (HH.out _).mono ?_; rintro e w' ⟨rfl, rfl⟩))
      go_ret
      exact ⟨by rw [HE.out, HQ.out, if_pos ⟨rfl, HN.out⟩, ← HR.out]; rfl, rfl⟩
end Go.Proofs.Ytghlbhijkhkgkaa.PA
end
