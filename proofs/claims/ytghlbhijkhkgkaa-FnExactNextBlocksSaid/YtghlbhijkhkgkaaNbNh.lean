/- The flow seat: the reference's NextBlocks in plain words. -/
import Derived.Test.YtghlbhijkhkgkaaNbNg
import Derived.Test.YtghlbhijkhkgkaaNbPAz7
namespace Go.Proofs.Ytghlbhijkhkgkaa.PA
open Go.RowKit Go.Proofs.YtghlbhijkhkgkaaW.PrintWords Go.Proofs.YtghlbhijkhkgkaaW.PrintLast Go.Proofs.YtghlbhijkhkgkaaW.PrintMore
set_option linter.unusedVariables false
theorem specNextBlocks_f (p : Int) (bs : List S87) (v : Int) : Ev (fun k => spec_NextBlocks.f k p bs v) (ansNextBlocks p bs v) := by
  unfold ansNextBlocks
  have h0 := l13Is_f p bs v
  cases hg : goodB p bs with
  | false =>
    rw [hg, Bool.false_and] at h0
    exact Ev.congr (fun k => rfl) (Ev.bind h0 (Ev.congr (fun k => if_neg (by decide)) (Ev.now _)))
  | true =>
    have hgr := rows_of_good hg
    rw [hg, Bool.true_and] at h0
    rw [if_pos rfl]
    cases hw : within v 0 ((bs.length : Int) - 1) with
    | false =>
      rw [hw] at h0
      exact Ev.congr (fun k => rfl) (Ev.bind h0 (Ev.congr (fun k => if_neg (by decide)) (Ev.now _)))
    | true =>
      rw [hw] at h0
      rw [if_pos rfl]
      have hv : 0 ≤ v ∧ v < (bs.length : Int) := by simp [within] at hw; omega
      obtain ⟨vn, rfl⟩ := Int.eq_ofNat_of_zero_le hv.1
      have hvn : vn < bs.length := by omega
      obtain ⟨r, ev, h1, h2, h3⟩ := nexts_fs p bs vn hvn (hgr.two vn hvn)
      have hl : (toL (rd_T87 bs (vn : Int))).length ≤ 2 := by have := hgr.two vn hvn; simpa [toL] using this
      obtain ⟨h4, h5⟩ := comp2_rises _ hl
      have e : r = comp2 (sort2 (toL (rd_T87 bs (vn : Int)))) := rises_ext _ _ h3 h4 fun y => by rw [h1 y, h5 y]
      rw [← e]
      exact Ev.congr (fun k => rfl) (Ev.bind h0 (Ev.congr (fun k => if_pos rfl) (Ev.bind (f := fun _ t => some (t, true)) ev (Ev.now _))))
theorem specNextBlocks_any {A : Option Addr} {c : Nat} (p : Int) (bs : List S87) (v : Int) (w : World) (hr : Kd.C k87 w A bs.length bs) (hc : bs.length ≤ c) :
    Calls Try.prog 23 #[.agg #[.int .i64 p, .slice A bs.length c], .int .i64 v] w fun e w' => ∃ v0 : Value, e = .returned (.tuple #[v0, .bool (ansNextBlocks p bs v).2]) ∧ (Kd.int .i64).R 3 w' w.heap.size (fun _ => True) v0 (ansNextBlocks p bs v).1 ∧ Below w.heap.size w w' := by
  obtain ⟨k, hk⟩ := Ev.rounds (specNextBlocks_f p bs v)
  exact spec_NextBlocks.calls k p A c bs v _ _ w hr hc hk
theorem ansNextBlocks_len (p : Int) (bs : List S87) (v : Int) : (ansNextBlocks p bs v).1.length ≤ 1000 := by
  unfold ansNextBlocks
  split
  · rename_i hg
    split
    · rename_i hw
      have hgr := rows_of_good hg
      have hv : 0 ≤ v ∧ v < (bs.length : Int) := by simp [within] at hw; omega
      obtain ⟨vn, rfl⟩ := Int.eq_ofNat_of_zero_le hv.1
      have hl : (toL (rd_T87 bs (vn : Int))).length ≤ 2 := by have := hgr.two vn (by omega); simpa [toL] using this
      have h1 := sort2_len (toL (rd_T87 bs (vn : Int)))
      have : (comp2 (sort2 (toL (rd_T87 bs (vn : Int))))).length ≤ 2 := by
        generalize sort2 (toL (rd_T87 bs (vn : Int))) = l at h1
        rcases two_cases l (by omega) with rfl | ⟨x, rfl⟩ | ⟨x, y, rfl⟩
        · simp [comp2]
        · simp [comp2]
        · simp only [comp2]; split <;> simp
      show (comp2 (sort2 (toL (rd_T87 bs (vn : Int))))).length ≤ 1000
      omega
    · simp
  · simp
end Go.Proofs.Ytghlbhijkhkgkaa.PA
