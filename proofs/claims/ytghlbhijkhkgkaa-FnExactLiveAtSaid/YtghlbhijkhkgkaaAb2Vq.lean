/- The flow seat: the reference's BlockOf in plain words. -/
import Derived.Test.YtghlbhijkhkgkaaAb2Vp
namespace Go.Proofs.Ytghlbhijkhkgkaa.PA
open Go.RowKit Go.Proofs.YtghlbhijkhkgkaaW.PrintWords Go.Proofs.YtghlbhijkhkgkaaW.PrintLast Go.Proofs.YtghlbhijkhkgkaaW.PrintMore
set_option linter.unusedVariables false
theorem good_iff {p : Int} {bs : List S87} (h : goodB p bs = true) : (0 ≤ p ∧ p ≤ 4) ∧ (1 ≤ bs.length ∧ bs.length ≤ 8) ∧ Fine bs bs.length ∧ totF p bs bs.length ≤ 80 := by
  simp only [goodB, Bool.and_eq_true, decide_eq_true_eq] at h
  have h1 := (headB_iff p bs).1 h.1.1.1
  exact ⟨⟨h1.1, h1.2.1⟩, ⟨h1.2.2.1, h1.2.2.2.1⟩, (fine_all bs).2 h.1.1.2, h.1.2⟩
theorem wrap_small (x : Int) (h : -1000000 ≤ x ∧ x ≤ 1000000) : wrap64 x = x := by unfold wrap64; omega
theorem totF_take (p : Int) (bs : List S87) (i j : Nat) (h : j ≤ i) : totF p (bs.take i) j = totF p bs j := by
  rw [totF, totF, List.take_take, Nat.min_eq_left h]
theorem rd_take (bs : List S87) (i j : Nat) (h : j < i) (hi : i ≤ bs.length) : rd_T87 (bs.take i) (j : Int) = rd_T87 bs (j : Int) := by
  rw [rd_nat _ j (by simp; omega), rd_nat bs j (by omega), List.getElem_take]
theorem fine_take {bs : List S87} {i : Nat} (hi : i ≤ bs.length) (h : Fine bs bs.length) : Fine (bs.take i) (bs.take i).length := by
  intro j hj
  have hj' : j < i := by simp at hj; omega
  rw [rd_take bs i j hj' hi]
  exact h j (by omega)
theorem count_l0 (p : Int) (bs : List S87) (hp : 0 ≤ p ∧ p ≤ 4) (hn : bs.length ≤ 8) (hf : Fine bs bs.length) : ∀ (d i : Nat), bs.length - i = d → i ≤ bs.length → Ev (fun k => spec_l12Count.l0 k (totF p bs i) bs (bs.length : Int) (i : Int)) (totF p bs bs.length)
  | 0, i, hd, hi => by
    have e : i = bs.length := by omega
    subst e
    exact Ev.step (f := fun _ => some (totF p bs bs.length)) (fun k => by simp only [spec_l12Count.l0]; rw [if_neg (by omega)]) (Ev.now _)
  | d + 1, i, hd, hi => by
    have h : i < bs.length := by omega
    have hb := (blkB_iff _).1 (hf i h)
    have ht := totF_bound p bs hp i (by omega) (fun j hj => hf j (by omega))
    refine Ev.step (fun k => ?_) (count_l0 p bs hp hn hf d (i + 1) (by omega) (by omega))
    simp only [spec_l12Count.l0]
    rw [if_pos (by omega), if_pos (by omega), if_pos (by omega), wnext i bs.length h (by unfold Max; omega), wrap_small ((rd_T87 bs (i : Int)).f0 + _) (by omega), wrap_small _ (by omega), totF_succ p bs i h]
    unfold blkN
    congr 1
    omega
theorem first_l0 (p : Int) (bs : List S87) (hp : 0 ≤ p ∧ p ≤ 4) (hn : bs.length ≤ 8) (hf : Fine bs bs.length) : ∀ (d i : Nat), bs.length - i = d → i ≤ bs.length → Ev (fun k => spec_l12First.l0 k (totF p bs i) bs (bs.length : Int) (i : Int)) (totF p bs bs.length)
  | 0, i, hd, hi => by
    have e : i = bs.length := by omega
    subst e
    exact Ev.step (f := fun _ => some (totF p bs bs.length)) (fun k => by simp only [spec_l12First.l0]; rw [if_neg (by omega)]) (Ev.now _)
  | d + 1, i, hd, hi => by
    have h : i < bs.length := by omega
    have hb := (blkB_iff _).1 (hf i h)
    have ht := totF_bound p bs hp i (by omega) (fun j hj => hf j (by omega))
    refine Ev.step (fun k => ?_) (first_l0 p bs hp hn hf d (i + 1) (by omega) (by omega))
    simp only [spec_l12First.l0]
    rw [if_pos (by omega), if_pos (by omega), if_pos (by omega), wnext i bs.length h (by unfold Max; omega), wrap_small ((rd_T87 bs (i : Int)).f0 + _) (by omega), wrap_small _ (by omega), totF_succ p bs i h]
    unfold blkN
    congr 1
    omega
theorem first_f (p : Int) (bs : List S87) (hp : 0 ≤ p ∧ p ≤ 4) (hn : bs.length ≤ 8) (hf : Fine bs bs.length) (i : Nat) (hi : i ≤ bs.length) : Ev (fun k => spec_l12First.f k p bs (i : Int)) (totF p bs i) := by
  have hl : (bs.take i).length = i := by simp; omega
  have := first_l0 p (bs.take i) hp (by omega) (fine_take hi hf) (bs.take i).length 0 rfl (Nat.zero_le _)
  rw [hl, totF_take p bs i ((0 : Nat)) (Nat.zero_le _), totF_take p bs i i (Nat.le_refl _)] at this
  refine Ev.congr (fun k => ?_) this
  unfold spec_l12First.f
  rw [if_pos (by omega), if_pos (by omega)]
  simp only [Option.bind_some, Int.toNat_natCast, hl]
  congr 1
  simp [totF]
theorem totF_le (p : Int) (bs : List S87) (i : Nat) : ∀ j, i ≤ j → j ≤ bs.length → totF p bs i ≤ totF p bs j
  | 0, h, _ => by rw [Nat.le_zero.1 h]; exact Int.le_refl _
  | j + 1, h, hj => by
    by_cases e : i = j + 1
    · rw [e]; exact Int.le_refl _
    · have := totF_le p bs i j (by omega) (by omega)
      rw [totF_succ p bs j (by omega)]
      omega
theorem block_step (v p : Int) (bs : List S87) (hp : 0 ≤ p ∧ p ≤ 4) (hn : bs.length ≤ 8) (hf : Fine bs bs.length) (ht : totF p bs bs.length ≤ 80) (hv : 0 ≤ v ∧ v ≤ 80) (i : Nat) (hi : i < bs.length) (r : Int)
    (h : Ev (fun k => if (decide (totF p bs i ≤ v) && decide (v < totF p bs (i + 1))) = true then some (i : Int) else spec_l14Block.l0 k v bs (bs.length : Int) ((i + 1 : Nat) : Int) p bs) r) : Ev (fun k => spec_l14Block.l0 k v bs (bs.length : Int) (i : Int) p bs) r := by
  have hb := (blkB_iff _).1 (hf i hi)
  have hs := totF_succ p bs i hi
  have hi1 := totF_bound p bs hp i (by omega) (fun j hj => hf j (by omega))
  unfold blkN at hs
  refine Ev.step (f := fun k => (spec_l12First.f k p bs (i : Int)).bind fun t => (spec_l1In.f (wrap64 (v - t)) 0 (wrap64 (wrap64 ((rd_T87 bs (i : Int)).f0 + ((rd_T87 bs (i : Int)).f1.length : Int)) - 1))).bind fun t2 => if t2 = true then some (i : Int) else spec_l14Block.l0 k v bs (bs.length : Int) ((i + 1 : Nat) : Int) p bs) (fun k => ?_) (Ev.bind (first_f p bs hp hn hf i (by omega)) (Ev.congr (fun k => ?_) h))
  · simp only [spec_l14Block.l0]
    rw [if_pos (by omega), if_pos (by omega), if_pos (by omega), wnext i bs.length hi (by unfold Max; omega)]
  · rw [wrap_small (v - _) (by omega), wrap_small ((rd_T87 bs (i : Int)).f0 + _) (by omega), wrap_small _ (by omega)]
    unfold spec_l1In.f
    by_cases h1 : totF p bs i ≤ v
    · rw [if_pos (by omega)]
      simp only [Option.bind_some]
      have : decide (v - totF p bs i ≤ (rd_T87 bs (i : Int)).f0 + ((rd_T87 bs (i : Int)).f1.length : Int) - 1) = (decide (totF p bs i ≤ v) && decide (v < totF p bs (i + 1))) := by
        rw [decide_eq_true h1, Bool.true_and]
        exact decide_eq_decide.2 (by omega)
      rw [this]
    · rw [if_neg (by omega), decide_eq_false h1]
      simp
theorem block_hit (v p : Int) (bs : List S87) (hp : 0 ≤ p ∧ p ≤ 4) (hn : bs.length ≤ 8) (hf : Fine bs bs.length) (ht : totF p bs bs.length ≤ 80) (hv : 0 ≤ v ∧ v ≤ 80) (j : Nat) (hj : j < bs.length) (h1 : totF p bs j ≤ v) (h2 : v < totF p bs (j + 1)) :
    ∀ (d i : Nat), j - i = d → i ≤ j → Ev (fun k => spec_l14Block.l0 k v bs (bs.length : Int) (i : Int) p bs) (j : Int)
  | 0, i, hd, hi => by
    obtain rfl : i = j := by omega
    refine block_step v p bs hp hn hf ht hv i hj _ (Ev.congr (fun k => ?_) (Ev.now _))
    rw [if_pos (by simp; omega)]
  | d + 1, i, hd, hi => by
    have := totF_le p bs (i + 1) j (by omega) (by omega)
    refine block_step v p bs hp hn hf ht hv i (by omega) _ (Ev.congr (fun k => ?_) (block_hit v p bs hp hn hf ht hv j hj h1 h2 d (i + 1) (by omega) (by omega)))
    rw [if_neg (by simp; omega)]
theorem block_miss (v p : Int) (bs : List S87) (hp : 0 ≤ p ∧ p ≤ 4) (hn : bs.length ≤ 8) (hf : Fine bs bs.length) (ht : totF p bs bs.length ≤ 80) (hv : 0 ≤ v ∧ v < p) :
    ∀ (d i : Nat), bs.length - i = d → i ≤ bs.length → Ev (fun k => spec_l14Block.l0 k v bs (bs.length : Int) (i : Int) p bs) (-1)
  | 0, i, hd, hi => Ev.step (f := fun _ => some (-1)) (fun k => by simp only [spec_l14Block.l0]; rw [if_neg (by omega)]) (Ev.now _)
  | d + 1, i, hd, hi => by
    have h0 := totF_le p bs 0 i (Nat.zero_le _) (by omega)
    have e0 : totF p bs 0 = p := by simp [totF]
    refine block_step v p bs hp hn hf ht ⟨hv.1, by omega⟩ i (by omega) _ (Ev.congr (fun k => ?_) (block_miss v p bs hp hn hf ht hv d (i + 1) (by omega) (by omega)))
    rw [if_neg (by simp; omega)]
theorem blocks_low (p : Int) (bs : List S87) (v : Int) (hv : 0 ≤ v ∧ v < p) (k : Nat) : (blocksF p bs k).getD v.toNat 0 = -1 := by
  rw [blocksF, List.getD_eq_getElem?_getD, List.getElem?_append_left (by simp; omega), List.getElem?_replicate, if_pos (by omega)]
  rfl
theorem blocks_at (p : Int) (bs : List S87) (hp : 0 ≤ p ∧ p ≤ 4) (v : Int) (j : Nat) (h1 : totF p bs j ≤ v) (h2 : v < totF p bs (j + 1)) (h0 : 0 ≤ v) : ∀ k, j < k → k ≤ bs.length → (blocksF p bs k).getD v.toNat 0 = (j : Int)
  | 0, h, _ => absurd h (by omega)
  | k + 1, h, hk => by
    have hl := blocksF_length p bs hp k (by omega)
    rw [blocksF_succ, List.getD_eq_getElem?_getD]
    by_cases e : j = k
    · subst e
      rw [totF_succ p bs j (by omega)] at h2
      rw [List.getElem?_append_right (by omega), List.getElem?_replicate, if_pos (by omega)]
      rfl
    · have := totF_le p bs (j + 1) k (by omega) (by omega)
      rw [List.getElem?_append_left (by omega), ← List.getD_eq_getElem?_getD]
      exact blocks_at p bs hp v j h1 h2 h0 k (by omega) (by omega)
theorem block_where (p : Int) (bs : List S87) (v : Int) : ∀ k, k ≤ bs.length → p ≤ v → v < totF p bs k → ∃ j, j < k ∧ totF p bs j ≤ v ∧ v < totF p bs (j + 1)
  | 0, _, h1, h2 => by simp [totF] at h2; omega
  | k + 1, hk, h1, h2 => by
    by_cases h : v < totF p bs k
    · obtain ⟨j, hj, h3⟩ := block_where p bs v k (by omega) h1 h
      exact ⟨j, by omega, h3⟩
    · exact ⟨k, by omega, by omega, h2⟩
theorem l1In_f (n a b : Int) : spec_l1In.f n a b = some (within n a b) := by
  unfold spec_l1In.f within
  by_cases h : a ≤ n
  · rw [if_pos (by omega), decide_eq_true h]; simp
  · rw [if_neg (by omega), decide_eq_false h]; simp
end Go.Proofs.Ytghlbhijkhkgkaa.PA
