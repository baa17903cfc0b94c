/- The flow seat: the reference's UsesOf in plain words. -/
import Derived.Test.YtghlbhijkhkgkaaVy
import Derived.Test.YtghlbhijkhkgkaaPAx6
namespace Go.Proofs.Ytghlbhijkhkgkaa.PA
open Go.RowKit Go.Proofs.YtghlbhijkhkgkaaW.PrintWords Go.Proofs.YtghlbhijkhkgkaaW.PrintLast Go.Proofs.YtghlbhijkhkgkaaW.PrintMore
set_option linter.unusedVariables false
theorem endL_l0 (js : List S109) (hj : js.length ≤ 2) (hm : ∀ x ∈ js, x.f1.length ≤ 4) : ∀ (d i : Nat) (acc : List Int), js.length - i = d → acc.length ≤ 1000 + 4 * i → Ev (fun k => spec_l14End.l0 k acc js (js.length : Int) (i : Int)) (acc ++ (js.drop i).flatMap (·.f1))
  | 0, i, acc, hd, ha => Ev.step (f := fun _ => some (acc ++ (js.drop i).flatMap (·.f1))) (fun k => by simp only [spec_l14End.l0]; rw [if_neg (by omega), List.drop_of_length_le (by omega)]; simp) (Ev.now _)
  | d + 1, i, acc, hd, ha => by
    have h : i < js.length := by omega
    have hl : (rd_T109 js (i : Int)).f1.length ≤ 4 := hm _ (getD_mem js z109 i h)
    have e : (js.drop i).flatMap (·.f1) = (rd_T109 js (i : Int)).f1 ++ (js.drop (i + 1)).flatMap (·.f1) := drop_step js (·.f1) z109 i h
    rw [e, ← List.append_assoc]
    refine Ev.step (fun k => ?_) (endL_l0 js hj hm d (i + 1) (acc ++ (rd_T109 js (i : Int)).f1) (by omega) (by rw [List.length_append]; omega))
    simp only [spec_l14End.l0]
    rw [if_pos (by omega), if_pos (by omega), if_pos (by omega), if_pos (by omega), wnext i js.length h (by unfold Max; omega)]
theorem endL_f (b : S87) (hj : b.f4.length ≤ 2) (hm : ∀ x ∈ b.f4, x.f1.length ≤ 4) : Ev (fun k => spec_l14End.f k b.f0 b.f1 b.f2 b.f3 b.f4) (endL b) := by
  have key : ∀ acc : List Int, acc.length ≤ 1 → Ev (fun k => spec_l14End.j0 k acc b.f0 b.f1 b.f2 b.f3 b.f4) (acc ++ b.f4.flatMap (·.f1)) := fun acc ha =>
    Ev.step (fun k => by simp only [spec_l14End.j0]; rfl) (by simpa using endL_l0 b.f4 hj hm b.f4.length 0 acc rfl (by omega))
  unfold endL
  by_cases e : b.f2 = 2
  · rw [if_pos e]
    exact Ev.congr (fun k => by unfold spec_l14End.f; rw [if_pos e]) (key [] (by simp))
  · rw [if_neg e]
    exact Ev.congr (fun k => by unfold spec_l14End.f; rw [if_neg e, if_pos (by simp)]; rfl) (key [b.f3] (by simp))
/-- What a function uses, block by block. -/
def usesL (bs : List S87) : List Int := bs.flatMap fun b => endL b ++ insL b
theorem uses_l2 (v : Int) (bs : List S87) (all : List Int) (ha : all.length ≤ 1000) (x16 : Int) (r : Int) : ∀ (d i : Nat) (n : Int), all.length - i = d → 0 ≤ n → n + all.length - i ≤ 1000000 →
    Ev (fun k => spec_l14Uses.l0 k v (n + ((all.drop i).count v : Nat)) bs (bs.length : Int) (wrap64 (x16 + 1))) r → Ev (fun k => spec_l14Uses.l2 k v n bs (bs.length : Int) x16 all (all.length : Int) (i : Int)) r
  | 0, i, n, hd, h0, h1, he => by
    refine Ev.step (f := fun k => spec_l14Uses.l0 k v n bs (bs.length : Int) (wrap64 (x16 + 1))) (fun k => by simp only [spec_l14Uses.l2]; rw [if_neg (by omega)]) ?_
    rw [List.drop_of_length_le (by omega)] at he
    simpa using he
  | d + 1, i, n, hd, h0, h1, he => by
    have h : i < all.length := by omega
    rw [List.drop_eq_getElem_cons h, List.count_cons] at he
    have hr : rd all (i : Int) = all[i] := by simp [rd, List.getD_eq_getElem?_getD, List.getElem?_eq_getElem h]
    by_cases e : all[i] = v
    · refine Ev.step (f := fun k => spec_l14Uses.l2 k v (n + 1) bs (bs.length : Int) x16 all (all.length : Int) ((i + 1 : Nat) : Int)) (fun k => ?_) (uses_l2 v bs all ha x16 r d (i + 1) (n + 1) (by omega) (by omega) (by omega) ?_)
      · simp only [spec_l14Uses.l2]
        rw [if_pos (by omega), if_pos (by omega), if_pos (by omega), hr, if_pos e, wnext i all.length h (by unfold Max; omega), wrap_small _ (by omega)]
      · rw [e] at he
        simp only [beq_self_eq_true, if_true] at he
        have e2 : n + (((all.drop (i + 1)).count v + 1 : Nat) : Int) = n + 1 + ((all.drop (i + 1)).count v : Nat) := by omega
        rwa [e2] at he
    · refine Ev.step (f := fun k => spec_l14Uses.l2 k v n bs (bs.length : Int) x16 all (all.length : Int) ((i + 1 : Nat) : Int)) (fun k => ?_) (uses_l2 v bs all ha x16 r d (i + 1) n (by omega) (by omega) (by omega) ?_)
      · simp only [spec_l14Uses.l2]
        rw [if_pos (by omega), if_pos (by omega), if_pos (by omega), hr, if_neg e, wnext i all.length h (by unfold Max; omega)]
      · have : (all[i] == v) = false := beq_eq_false_iff_ne.mpr e
        rw [this] at he
        simpa using he
theorem uses_l1 (v : Int) (bs : List S87) (xs : List S89) (hx : xs.length ≤ 80) (hm : ∀ x ∈ xs, x.f2.length ≤ 3) (x16 n r : Int) (h0 : 0 ≤ n) (h1 : n ≤ 100000) : ∀ (d i : Nat) (acc : List Int), xs.length - i = d → acc.length ≤ 20 + 3 * i → i ≤ xs.length →
    Ev (fun k => spec_l14Uses.l0 k v (n + ((acc ++ (xs.drop i).flatMap (·.f2)).count v : Nat)) bs (bs.length : Int) (wrap64 (x16 + 1))) r → Ev (fun k => spec_l14Uses.l1 k v n acc bs (bs.length : Int) x16 xs (xs.length : Int) (i : Int)) r
  | 0, i, acc, hd, ha, hi, he => by
    refine Ev.step (f := fun k => spec_l14Uses.l2 k v n bs (bs.length : Int) x16 acc (acc.length : Int) 0) (fun k => by simp only [spec_l14Uses.l1]; rw [if_neg (by omega)]) ?_
    rw [List.drop_of_length_le (by omega)] at he
    exact uses_l2 v bs acc (by omega) x16 r acc.length 0 n rfl h0 (by omega) (by simpa using he)
  | d + 1, i, acc, hd, ha, hi, he => by
    have h : i < xs.length := by omega
    have hl : (rd_T89 xs (i : Int)).f2.length ≤ 3 := hm _ (getD_mem xs z89 i h)
    have e : (xs.drop i).flatMap (·.f2) = (rd_T89 xs (i : Int)).f2 ++ (xs.drop (i + 1)).flatMap (·.f2) := drop_step xs (·.f2) z89 i h
    rw [e, ← List.append_assoc] at he
    refine Ev.step (fun k => ?_) (uses_l1 v bs xs hx hm x16 n r h0 h1 d (i + 1) (acc ++ (rd_T89 xs (i : Int)).f2) (by omega) (by rw [List.length_append]; omega) (by omega) he)
    simp only [spec_l14Uses.l1]
    rw [if_pos (by omega), if_pos (by omega), if_pos (by omega), if_pos (by omega), wnext i xs.length h (by unfold Max; omega)]
theorem uses_l0 (v tot : Int) (bs : List S87) (hn : bs.length ≤ 8) (hg : ∀ k, k < bs.length → GoodB tot bs (rd_T87 bs (k : Int)) ∧ ∀ x ∈ (rd_T87 bs (k : Int)).f4, x.f1.length ≤ 4) : ∀ (d i : Nat) (n : Int), bs.length - i = d → 0 ≤ n → n ≤ 1000 * i → i ≤ bs.length →
    Ev (fun k => spec_l14Uses.l0 k v n bs (bs.length : Int) (i : Int)) (n + (((bs.drop i).flatMap fun b => endL b ++ insL b).count v : Nat))
  | 0, i, n, hd, h0, h1, hi => Ev.step (f := fun _ => some (n + (((bs.drop i).flatMap fun b => endL b ++ insL b).count v : Nat))) (fun k => by simp only [spec_l14Uses.l0]; rw [if_neg (by omega), List.drop_of_length_le (by omega)]; simp) (Ev.now _)
  | d + 1, i, n, hd, h0, h1, hi => by
    have h : i < bs.length := by omega
    obtain ⟨g, gm⟩ := hg i h
    rw [drop_step bs (fun b => endL b ++ insL b) z87 i h]
    have e0 : bs.getD i z87 = rd_T87 bs (i : Int) := rfl
    rw [e0]
    obtain ⟨b, hb⟩ : ∃ b, b = rd_T87 bs (i : Int) := ⟨_, rfl⟩
    rw [← hb] at g gm ⊢
    have hel : (endL b).length ≤ 9 := by
      have := flat_len (fun x : S109 => x.f1) 4 b.f4 gm
      have := g.jumps
      unfold endL
      rw [List.length_append]
      split
      · rw [List.length_nil]; omega
      · rw [List.length_singleton]; omega
    have hil : (insL b).length ≤ 240 := by
      have := flat_len (fun x : S89 => x.f2) 3 b.f1 (fun x hx => (g.args x hx).1)
      have := g.ins
      unfold insL
      omega
    refine Ev.step (f := fun k => (spec_l14End.f k b.f0 b.f1 b.f2 b.f3 b.f4).bind fun t => spec_l14Uses.l1 k v n t bs (bs.length : Int) (i : Int) b.f1 (b.f1.length : Int) 0) (fun k => ?_) (Ev.bind (endL_f b g.jumps gm) ?_)
    · simp only [spec_l14Uses.l0]
      rw [if_pos (by omega), if_pos (by omega), if_pos (by omega), ← hb]
    · refine uses_l1 v bs b.f1 g.ins (fun x hx => (g.args x hx).1) (i : Int) n _ h0 (by omega) b.f1.length 0 (endL b) rfl (by omega) (Nat.zero_le _) ?_
      rw [wnext i bs.length h (by unfold Max; omega), List.drop_zero]
      have hc : (endL b ++ insL b).count v ≤ 249 := by have := List.count_le_length (l := endL b ++ insL b) (a := v); rw [List.length_append] at this; omega
      have := uses_l0 v tot bs hn hg d (i + 1) (n + ((endL b ++ insL b).count v : Nat)) (by omega) (by omega) (by omega) (by omega)
      rw [List.count_append (l₁ := endL b ++ insL b)]
      have e3 : n + (((endL b ++ insL b).count v + ((bs.drop (i + 1)).flatMap fun b => endL b ++ insL b).count v : Nat) : Int) = n + ((endL b ++ insL b).count v : Nat) + (((bs.drop (i + 1)).flatMap fun b => endL b ++ insL b).count v : Nat) := by omega
      rw [e3]
      exact this
/-- What UsesOf answers. -/
def ansUsesOf (p : Int) (bs : List S87) (v : Int) : Int × Bool := if goodB p bs = true then if within v 0 (totF p bs bs.length - 1) = true then (((usesL bs).count v : Nat), true) else (0, false) else (0, false)
theorem jump_len {tot : Int} {bs : List S87} {b : S87} (hf : Fine bs bs.length) (g : GoodB tot bs b) : ∀ x ∈ b.f4, x.f1.length ≤ 4 := fun x hx => by
  obtain ⟨⟨h1, h2⟩, h3, _⟩ := g.jump x hx
  obtain ⟨j, hj⟩ := Int.eq_ofNat_of_zero_le h1
  have := (blkB_iff _).1 (hf j (by omega))
  rw [hj] at h3
  omega
theorem specUsesOf_f (p : Int) (bs : List S87) (v : Int) : Ev (fun k => spec_UsesOf.f k p bs v) (ansUsesOf p bs v) := by
  unfold ansUsesOf
  have h0 := l14Is_f p bs v
  cases hg : goodB p bs with
  | false =>
    rw [hg, Bool.false_and] at h0
    exact Ev.congr (fun k => rfl) (Ev.bind h0 (Ev.congr (fun k => if_neg (by decide)) (Ev.now _)))
  | true =>
    obtain ⟨hp, hn, hf, ht⟩ := good_iff hg
    rw [hg, Bool.true_and] at h0
    rw [if_pos rfl]
    cases hw : within v 0 (totF p bs bs.length - 1) with
    | false =>
      rw [hw] at h0
      exact Ev.congr (fun k => rfl) (Ev.bind h0 (Ev.congr (fun k => if_neg (by decide)) (Ev.now _)))
    | true =>
      rw [hw] at h0
      rw [if_pos rfl]
      have := uses_l0 v (totF p bs bs.length) bs hn.2 (fun k hk => ⟨good_at hg k hk, jump_len hf (good_at hg k hk)⟩) bs.length 0 0 rfl (Int.le_refl _) (by omega) (Nat.zero_le _)
      rw [List.drop_zero, Int.zero_add] at this
      exact Ev.congr (fun k => rfl) (Ev.bind h0 (Ev.congr (fun k => if_pos rfl) (Ev.bind (f := fun _ t => some (t, true)) (Ev.congr (fun k => rfl) this) (Ev.now _))))
end Go.Proofs.Ytghlbhijkhkgkaa.PA
