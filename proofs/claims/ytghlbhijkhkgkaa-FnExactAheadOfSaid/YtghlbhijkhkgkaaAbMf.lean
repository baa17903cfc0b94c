/- The flow seat: marking a row of numbers and finding the marks again, in plain words. -/
import Derived.Test.YtghlbhijkhkgkaaAbMa
import Derived.Test.YtghlbhijkhkgkaaAbPAz1
namespace Go.Proofs.Ytghlbhijkhkgkaa.PA
open Go.RowKit Go.Proofs.YtghlbhijkhkgkaaW.PrintWords Go.Proofs.YtghlbhijkhkgkaaW.PrintLast Go.Proofs.YtghlbhijkhkgkaaW.PrintMore
set_option linter.unusedVariables false
/-- The marks 1, 2, .. -/
def marksL (n : Nat) : List Int := (List.range n).map fun (j : Nat) => 1 + (j : Int)
theorem marksL_len (n : Nat) : (marksL n).length = n := by simp [marksL]
theorem mark_l0 (l : List Int) (hl : l.length ≤ 1000) : ∀ (d i : Nat), l.length - i = d → i ≤ l.length → Ev (fun k => laws_markIntS.l0 k (marksL i ++ l.drop i) (1 + (i : Int)) (i : Int)) (1 + (l.length : Int), marksL l.length)
  | 0, i, hd, hi => by
    obtain rfl : i = l.length := by omega
    refine Ev.step (f := fun _ => some (1 + (l.length : Int), marksL l.length)) (fun k => ?_) (Ev.now _)
    simp only [laws_markIntS.l0]
    rw [List.drop_of_length_le (Nat.le_refl _), List.append_nil, marksL_len, if_neg (by omega)]
  | d + 1, i, hd, hi => by
    have h : i < l.length := by omega
    refine Ev.step (fun k => ?_) (mark_l0 l hl d (i + 1) (by omega) (by omega))
    simp only [laws_markIntS.l0]
    have e : (marksL i ++ l.drop i).set i (1 + (i : Int)) = marksL (i + 1) ++ l.drop (i + 1) := by
      rw [List.set_append_right _ _ (by rw [marksL_len]; exact Nat.le_refl _), marksL_len, Nat.sub_self, List.drop_eq_getElem_cons h, List.set_cons_zero, marksL, marksL, List.range_succ, List.map_append, List.append_assoc]
      rfl
    have e2 : wrap64 (1 + (i : Int) + 1) = 1 + ((i + 1 : Nat) : Int) := by unfold wrap64; omega
    rw [if_pos (by rw [List.length_append, marksL_len, List.length_drop]; omega), if_pos (by omega), Int.toNat_natCast, e, e2, wnext i l.length h (by unfold Max; omega)]
theorem mark_f (l : List Int) (hl : l.length ≤ 1000) : Ev (fun k => laws_markIntS.f k l 1) (1 + (l.length : Int), marksL l.length) := by
  have := mark_l0 l hl _ 0 rfl (Nat.zero_le _)
  exact Ev.congr (fun k => rfl) this
theorem held_l0 (n : Nat) (hn : n ≤ 1000) : ∀ (d i : Nat), n - i = d → i ≤ n → Ev (fun k => laws_heldIntS.l0 k (marksL n) (1 + (i : Int)) (i : Int)) (1 + (n : Int))
  | 0, i, hd, hi => by
    obtain rfl : i = n := by omega
    exact Ev.step (f := fun _ => some (1 + (i : Int))) (fun k => by simp only [laws_heldIntS.l0]; rw [marksL_len, if_neg (by omega)]) (Ev.now _)
  | d + 1, i, hd, hi => by
    have h : i < n := by omega
    have hr : rd (marksL n) (i : Int) = 1 + (i : Int) := by simp [rd, marksL, List.getD_eq_getElem?_getD, h]
    have e2 : wrap64 (1 + (i : Int) + 1) = 1 + ((i + 1 : Nat) : Int) := by unfold wrap64; omega
    refine Ev.step (fun k => ?_) (held_l0 n hn d (i + 1) (by omega) (by omega))
    simp only [laws_heldIntS.l0]
    rw [marksL_len, if_pos (by omega), if_pos (by omega), if_pos hr, e2, wnext i n h (by unfold Max; omega)]
theorem held_f (n : Nat) (hn : n ≤ 1000) : Ev (fun k => laws_heldIntS.f k (marksL n) 1) (1 + (n : Int)) := Ev.congr (fun k => rfl) (held_l0 n hn _ 0 rfl (Nat.zero_le _))
theorem mark_any {w0 w : World} {P : Nat → Prop} {u : Value} (l : List Int) (hl : l.length ≤ 1000) (hB : Below w0.heap.size w0 w) (ho : (Kd.int .i64).R 3 w w0.heap.size P u l) :
    Calls Try.prog 27 #[u, .int .i64 1] w fun e w' => e = .returned (.int .i64 (1 + (l.length : Int))) ∧ (Kd.int .i64).R 3 w' w0.heap.size (fun k => (P k ∨ w.heap.size ≤ k)) u (marksL l.length) ∧ Below w0.heap.size w0 w' ∧ Kept w w' (fun k => P k) := by
  obtain ⟨k, hk⟩ := Ev.rounds (mark_f l hl)
  exact laws_markIntS.calls k P u l 1 _ _ w0 w hB ho hk
theorem held_any {w : World} {A : Option Addr} {c : Nat} (n : Nat) (hn : n ≤ 1000) (hr : (Kd.int .i64).C w A n (marksL n)) (hc : n ≤ c) :
    Calls Try.prog 28 #[.slice A n c, .int .i64 1] w fun e w' => e = .returned (.int .i64 (1 + (n : Int))) ∧ Drawn0 w w' := by
  obtain ⟨k, hk⟩ := Ev.rounds (held_f n hn)
  have := laws_heldIntS.calls k A c (marksL n) 1 _ w (by rw [marksL_len]; exact hr) (by rw [marksL_len]; exact hc) hk
  rwa [marksL_len] at this
theorem eqInt_any {w : World} {A A' : Option Addr} {c c' : Nat} (l : List Int) (hl : l.length ≤ 1000) (h1 : (Kd.int .i64).C w A l.length l) (h2 : l.length ≤ c) (h3 : (Kd.int .i64).C w A' l.length l) (h4 : l.length ≤ c') :
    Calls Try.prog 25 #[.slice A l.length c, .slice A' l.length c'] w fun e w' => e = .returned (.bool true) ∧ Drawn0 w w' := by
  obtain ⟨k, hk⟩ := Ev.rounds (eqIntS_any l (by unfold Max; omega))
  exact laws_eqIntS.calls k A c l A' c' l true w h1 h2 h3 h4 hk
theorem small_mark {bs : List S95} (h : Small bs) : (bs.map cB).length ≤ 1048576 ∧ ∀ x ∈ bs.map cB, (x.f1.length ≤ 1048576 ∧ ∀ y ∈ x.f1, y.f2.length ≤ 1048576) ∧ (x.f4.length ≤ 1048576 ∧ ∀ y ∈ x.f4, y.f1.length ≤ 1048576) := by
  refine ⟨by rw [List.length_map]; exact h.1, fun x hx => ?_⟩
  obtain ⟨b, hb, rfl⟩ := List.mem_map.1 hx
  obtain ⟨⟨h1, h2⟩, h3, h4⟩ := h.2 b hb
  refine ⟨⟨by simpa [cB] using h1, fun y hy => ?_⟩, by simpa [cB] using h3, fun y hy => ?_⟩
  · simp only [cB, List.mem_map] at hy
    obtain ⟨z, hz, rfl⟩ := hy
    exact h2 z hz
  · simp only [cB, List.mem_map] at hy
    obtain ⟨z, hz, rfl⟩ := hy
    exact h4 z hz
end Go.Proofs.Ytghlbhijkhkgkaa.PA
