/- The flow seat: l12Count by hand, and when goodB holds. -/
import Derived.Test.YtghlbhijkhkgkaaAb2Vt
namespace Go.Proofs.Ytghlbhijkhkgkaa.PA
open Go.RowKit Go.Proofs.YtghlbhijkhkgkaaW.PrintWords Go.Proofs.YtghlbhijkhkgkaaW.PrintLast Go.Proofs.YtghlbhijkhkgkaaW.PrintMore
set_option linter.unusedVariables false
theorem fine_all (bs : List S87) : Fine bs bs.length ↔ bs.all blkB = true := by
  rw [List.all_eq_true]
  constructor
  · intro h x hx
    obtain ⟨j, hj, rfl⟩ := List.getElem_of_mem hx
    have := h j hj
    rwa [rd_nat bs j hj] at this
  · intro h j hj
    rw [rd_nat bs j hj]
    exact h _ (List.getElem_mem hj)
theorem block_ends (tot : Int) (bs : List S87) (b : S87) : blockB tot bs b.f1 b.f2 b.f3 b.f4 = (!(instsB tot b.f1) && endsB tot bs b.f2 b.f3 b.f4) := by
  rw [blockB, endsB]
  cases instsB tot b.f1 <;> cases jumpsB tot bs b.f4 <;> simp
theorem good_head {p : Int} {bs : List S87} (h : headB p bs = false) : goodB p bs = false := by rw [goodB, h]; simp
theorem good_fine {p : Int} {bs : List S87} (h : ¬ Fine bs bs.length) : goodB p bs = false := by
  rw [fine_all] at h
  rw [goodB, Bool.eq_false_iff.2 h]; simp
theorem good_tot {p : Int} {bs : List S87} (h : ¬ totF p bs bs.length ≤ 80) : goodB p bs = false := by rw [goodB, decide_eq_false h]; simp
theorem good_block {p : Int} {bs : List S87} (k : Nat) (hk : k < bs.length) (h : blockB (totF p bs bs.length) bs (rd_T87 bs (k : Int)).f1 (rd_T87 bs (k : Int)).f2 (rd_T87 bs (k : Int)).f3 (rd_T87 bs (k : Int)).f4 = false) : goodB p bs = false := by
  have : (bs.all fun b => blockB (totF p bs bs.length) bs b.f1 b.f2 b.f3 b.f4) = false := by
    rw [List.all_eq_false]
    exact ⟨bs[k], List.getElem_mem hk, by rw [rd_nat bs k hk] at h; simp [h]⟩
  rw [goodB, this]; simp
theorem good_true {p : Int} {bs : List S87} (h1 : headB p bs = true) (h2 : Fine bs bs.length) (h3 : totF p bs bs.length ≤ 80) (h4 : ∀ k, k < bs.length → blockB (totF p bs bs.length) bs (rd_T87 bs (k : Int)).f1 (rd_T87 bs (k : Int)).f2 (rd_T87 bs (k : Int)).f3 (rd_T87 bs (k : Int)).f4 = true) : goodB p bs = true := by
  rw [goodB, h1, (fine_all bs).1 h2, decide_eq_true h3]
  simp only [Bool.and_self, Bool.true_and]
  rw [List.all_eq_true]
  intro x hx
  obtain ⟨j, hj, rfl⟩ := List.getElem_of_mem hx
  have := h4 j hj
  rwa [rd_nat bs j hj] at this
set_option maxHeartbeats 1000000 in
theorem l12Count_any {A : Option Addr} {c : Nat} (p : Int) (bs : List S87) (w : World) (hr : Kd.C k87 w A bs.length bs) (hp : 0 ≤ p ∧ p ≤ 4) (hn : bs.length ≤ 8) (hf : Fine bs bs.length) :
    Calls Try.prog 91 #[.agg #[.int .i64 p, .slice A bs.length c]] w fun e w' => e = .returned (.int .i64 (totF p bs bs.length)) ∧ Below w.heap.size w w' := by
  have HR := Aside0.mk hr
  have HP := Aside0.mk hp
  have HN := Aside0.mk hn
  have HF := Aside0.mk hf
  have HB := Aside0.mk (Below.refl w.heap.size w)
  clear hr hp hf
  go_enter Try.func91, Try.ntmps91
  go_wp2
  go_loopg [3, 11] bs.length (fun gg s3 s11 wr => ∃ k : Nat, s3 = .int .i64 (totF p bs k) ∧ s11 = .int .i64 (k : Int) ∧ Aside0 (k ≤ bs.length ∧ bs.length - k ≤ gg) ∧ Aside0 (Below w.heap.size w wr))
  case atStart => exact ⟨0, by simp [totF], rfl, ⟨by omega, by omega⟩, ⟨by repeat (first | exact HB.out | apply below_alloc)⟩⟩
  case round =>
    obtain ⟨k, rfl, rfl, HA, HB1⟩ := hrel
    by_cases hlt : k < bs.length
    · obtain ⟨ad2, B1, d1, B4, d4, e, hx0, hx1, hx2, hx3, hx4, _, _, _, _⟩ := at_T87 (Kd.C_below HR.out HB1.out) (k : Int) (by omega) (by omega)
      cases e
      simp only [Int.toNat_natCast] at hx0 hx1 hx2 hx3 hx4
      have HL := Aside0.mk hlt
      have hbb := (blkB_iff _).1 (HF.out k hlt)
      have htt := totF_bound p bs HP.out k (by omega) (fun j hj => HF.out j (by omega))
      have HS := Aside0.mk (totF_succ p bs k hlt)
      obtain ⟨b, hb⟩ : ∃ b, b = rd_T87 bs (k : Int) := ⟨_, rfl⟩
      rw [← hb] at hx0 hx1 hx2 hx3 hx4 hbb HS
      obtain ⟨t, ht⟩ : ∃ t, t = totF p bs k := ⟨_, rfl⟩
      rw [← ht] at htt HS ⊢
      have HT := Aside0.mk ht
      clear hb ht
      have hw1 : wrap64 (b.f0 + (b.f1.length : Int)) = b.f0 + (b.f1.length : Int) := by unfold wrap64; omega
      go_wp2
      go_roundg (bs.length - (k + 1))
      case measure => have := HA.out; have := HL.out; omega
      case rel => exact ⟨k + 1, by rw [HS.out]; unfold blkN; first | rfl | (congr 1; omega), by go_num, ⟨by have := HL.out; omega, by omega⟩, ⟨by repeat (first | exact HB1.out | apply below_alloc)⟩⟩
    · have e : k = bs.length := by have := HA.out; omega
      subst e
      go_wp2
      go_ret
      exact ⟨rfl, HB1.out⟩
end Go.Proofs.Ytghlbhijkhkgkaa.PA
