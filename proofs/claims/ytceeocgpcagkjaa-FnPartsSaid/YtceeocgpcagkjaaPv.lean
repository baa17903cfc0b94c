/- Parts: what is in common, members, counts: what the printed functions come to (plain lemmas). -/
import Derived.Test.YtceeocgpcagkjaaPu
import Derived.Test.YtceeocgpcagkjaaPAx7
import Derived.Test.YtceeocgpcagkjaaPAx8
import Derived.Test.YtceeocgpcagkjaaPAx9
import Derived.Test.YtceeocgpcagkjaaPAx10
import Derived.Test.YtceeocgpcagkjaaPAx11
namespace Go.Proofs.Ytceeocgpcagkjaa.PA
open Go.RowKit Go.Proofs.YtceeocgpcagkjaaW.PrintWords Go.Proofs.YtceeocgpcagkjaaW.PrintLast Go.Proofs.YtceeocgpcagkjaaW.PrintMore

theorem specParts_l0 (k : Nat) : spec_GoodParts.l0 k = impl_GoodParts.l0 k := by
  induction k with
  | zero => funext a b c d; simp [spec_GoodParts.l0, impl_GoodParts.l0]
  | succ k ih => funext a b c d; simp only [spec_GoodParts.l0, impl_GoodParts.l0, ih]
theorem specParts_is (l : List Int) (k : Nat) (hk : 300 < k) : spec_GoodParts.f k l = some (partB l) := by
  rw [← goodParts_is l k hk]
  unfold spec_GoodParts.f impl_GoodParts.f
  rw [specParts_l0]
theorem part_at {l : List Int} (h : partB l = true) (x : Int) (h0 : 0 ≤ x) (h1 : x < l.length) : 0 ≤ rd l x ∧ rd l x ≤ x ∧ rd l (rd l x) = rd l x := by
  have := ((partB_iff l).1 h).2 x.toNat (by omega)
  rw [rd_toNat l x]
  exact ⟨this.1, by omega, this.2.2⟩
theorem part_len {l : List Int} (h : partB l = true) : l.length ≤ 200 := ((partB_iff l).1 h).1
theorem part_mk {l : List Int} (hl : l.length ≤ 200) (h : ∀ x : Int, 0 ≤ x → x < l.length → 0 ≤ rd l x ∧ rd l x ≤ x ∧ rd l (rd l x) = rd l x) : partB l = true := by
  rw [partB_iff]
  refine ⟨hl, fun k hk => ?_⟩
  have := h k (by omega) (by omega)
  rw [rd_at] at this
  exact this

/-! ### what is in common -/
def alikeAt (a b : List Int) (k i : Int) : Prop := rd a i = rd a k ∧ rd b i = rd b k
instance (a b : List Int) (k i : Int) : Decidable (alikeAt a b k i) := by unfold alikeAt; infer_instance
def meetLoop (a b : List Int) (k : Int) : Nat → Int → Int
  | 0, at_ => at_
  | n + 1, at_ => meetLoop a b k n (if alikeAt a b k n then (n : Int) else at_)
theorem meetLoop_is (a b : List Int) (k : Int) (n : Nat) : ∀ at_ : Int, (0 ≤ meetLoop a b k n at_ ∧ meetLoop a b k n at_ < n ∧ alikeAt a b k (meetLoop a b k n at_) ∧ ∀ j : Int, 0 ≤ j → j < meetLoop a b k n at_ → ¬ alikeAt a b k j) ∨ (meetLoop a b k n at_ = at_ ∧ ∀ j : Int, 0 ≤ j → j < n → ¬ alikeAt a b k j) := by
  induction n with
  | zero => intro at_; exact .inr ⟨rfl, fun j h0 h1 => by omega⟩
  | succ n ih =>
    intro at_
    simp only [meetLoop]
    by_cases h : alikeAt a b k n
    · rw [if_pos h]
      rcases ih n with ⟨p0, p1, p2, p3⟩ | ⟨p0, p1⟩
      · exact .inl ⟨p0, by omega, p2, p3⟩
      · refine .inl ⟨by omega, by omega, by rw [p0]; exact h, fun j h0 h1 => p1 j h0 (by omega)⟩
    · rw [if_neg h]
      rcases ih at_ with ⟨p0, p1, p2, p3⟩ | ⟨p0, p1⟩
      · exact .inl ⟨p0, by omega, p2, p3⟩
      · refine .inr ⟨p0, fun j h0 h1 => ?_⟩
        by_cases e : j = n
        · rw [e]; exact h
        · exact p1 j h0 (by omega)
def mt (a b : List Int) (k : Int) : Int := meetLoop a b k (k.toNat + 1) 0
theorem mt_is (a b : List Int) (k : Int) (h0 : 0 ≤ k) : 0 ≤ mt a b k ∧ mt a b k ≤ k ∧ alikeAt a b k (mt a b k) ∧ ∀ j : Int, 0 ≤ j → j < mt a b k → ¬ alikeAt a b k j := by
  rcases meetLoop_is a b k (k.toNat + 1) 0 with ⟨p0, p1, p2, p3⟩ | ⟨p0, p1⟩
  · exact ⟨p0, by unfold mt; omega, p2, p3⟩
  · exact absurd ⟨rfl, rfl⟩ (p1 k h0 (by omega))
/-- What stood at first counts for nothing. -/
theorem meetLoop_any (a b : List Int) (k : Int) (h0 : 0 ≤ k) (at_ : Int) : meetLoop a b k (k.toNat + 1) at_ = mt a b k := by
  unfold mt
  simp only [meetLoop]
  have : alikeAt a b k (k.toNat : Int) := by rw [Int.toNat_of_nonneg h0]; exact ⟨rfl, rfl⟩
  rw [if_pos this, if_pos this]
def meet (a b : List Int) : List Int := (List.range a.length).map fun k : Nat => mt a b (k : Int)
theorem meet_len (a b : List Int) : (meet a b).length = a.length := by simp [meet]
theorem meet_rd (a b : List Int) (x : Int) (h0 : 0 ≤ x) (h1 : x < a.length) : rd (meet a b) x = mt a b x := by
  have hl : x.toNat < a.length := by omega
  rw [rd_toNat, List.getD_eq_getElem?_getD, List.getElem?_eq_getElem (by rw [meet_len]; exact hl)]
  simp [meet, Int.toNat_of_nonneg h0]
theorem mt_mt (a b : List Int) (x : Int) (h0 : 0 ≤ x) : mt a b (mt a b x) = mt a b x := by
  have p := mt_is a b x h0
  have q := mt_is a b (mt a b x) p.1
  have e : alikeAt a b x (mt a b (mt a b x)) := ⟨q.2.2.1.1.trans p.2.2.1.1, q.2.2.1.2.trans p.2.2.1.2⟩
  rcases Int.lt_or_le (mt a b (mt a b x)) (mt a b x) with h | h
  · exact absurd e (p.2.2.2 _ q.1 h)
  · omega
theorem meet_part (a b : List Int) (ha : a.length ≤ 200) : partB (meet a b) = true :=
  part_mk (by rw [meet_len]; exact ha) fun x h0 h1 => by
    rw [meet_len] at h1
    have p := mt_is a b x h0
    rw [meet_rd a b x h0 h1, meet_rd a b _ p.1 (by omega), mt_mt a b x h0]
    exact ⟨p.1, p.2.1, rfl⟩
theorem take_meet (a b : List Int) (i : Nat) (hi : i < a.length) : (meet a b).take (i + 1) = (meet a b).take i ++ [mt a b (i : Int)] := by
  rw [take_succ' _ i (by rw [meet_len]; exact hi), meet_rd a b i (by omega) (by omega)]
theorem implMeet_l1 (a b : List Int) (hl : a.length ≤ 200) (he : a.length = b.length) (x6 : List Int) (h6 : x6.length = a.length) (m : Int) (q : Int) (x : Nat) (hx : x < a.length) (d : Nat) : ∀ (k : Nat) (v : Int), d ≤ x + 1 → d < k →
    impl_MeetParts.l1 k a b (x6.set x v) x ((d : Int) - 1) m q = impl_MeetParts.l0 (k - d - 1) a b (x6.set x (meetLoop a b x d v)) m (wrap64 (q + 1)) := by
  induction d with
  | zero =>
    intro k v hd hk
    obtain ⟨k, rfl⟩ : ∃ r, k = r + 1 := ⟨k - 1, by omega⟩
    simp only [impl_MeetParts.l1, meetLoop]
    rw [if_neg (by omega)]
    rfl
  | succ d ih =>
    intro k v hd hk
    obtain ⟨k, rfl⟩ : ∃ r, k = r + 1 := ⟨k - 1, by omega⟩
    have hi : ((d + 1 : Nat) : Int) - 1 = (d : Int) := by omega
    have hw : wrap64 ((d : Int) - 1) = (d : Int) - 1 := by unfold wrap64; omega
    rw [hi]
    simp only [impl_MeetParts.l1, meetLoop]
    rw [if_pos (by omega), if_pos (by omega), if_pos (by omega), if_pos (by omega), if_pos (by omega), hw]
    rw [show k + 1 - (d + 1) - 1 = k - d - 1 from by omega]
    by_cases h1 : rd a d = rd a x
    · rw [if_pos h1, if_pos (by omega), if_pos (by omega)]
      by_cases h2 : rd b d = rd b x
      · rw [if_pos h2, if_pos (by rw [List.length_set]; omega), if_pos (show alikeAt a b x d from ⟨h1, h2⟩)]
        rw [show ((x : Int)).toNat = x from by omega, List.set_set]
        exact ih k d (by omega) (by omega)
      · rw [if_neg h2, if_neg (fun (e : alikeAt a b x d) => h2 e.2)]
        exact ih k v (by omega) (by omega)
    · rw [if_neg h1, if_neg (fun (e : alikeAt a b x d) => h1 e.1)]
      exact ih k v (by omega) (by omega)
theorem implMeet_l0 (a b : List Int) (hl : a.length ≤ 200) (he : a.length = b.length) (d : Nat) : ∀ (k i : Nat), i + d = a.length → 300 * d + 1 ≤ k → impl_MeetParts.l0 k a b ((meet a b).take i ++ List.replicate (a.length - i) 0) (a.length : Int) (i : Int) = some (meet a b, true) := by
  induction d with
  | zero =>
    intro k i hd hk
    obtain ⟨k, rfl⟩ : ∃ r, k = r + 1 := ⟨k - 1, by omega⟩
    simp only [impl_MeetParts.l0]
    rw [if_neg (by omega)]
    have : i = a.length := by omega
    subst this
    rw [Nat.sub_self, List.replicate_zero, List.append_nil, List.take_of_length_le (by rw [meet_len]; omega)]
  | succ d ih =>
    intro k i hd hk
    obtain ⟨k, rfl⟩ : ∃ r, k = r + 1 := ⟨k - 1, by omega⟩
    have hi : i < a.length := by omega
    have hw : wrap64 ((i : Int) + 1) = ((i + 1 : Nat) : Int) := by unfold wrap64; omega
    have hlen : ((meet a b).take i).length = i := by rw [List.length_take, meet_len]; omega
    have hset : ∀ v : Int, ((meet a b).take i ++ List.replicate (a.length - i) 0).set i v = (meet a b).take i ++ v :: List.replicate (a.length - (i + 1)) 0 := fun v => by
      rw [show a.length - i = (a.length - (i + 1)) + 1 from by omega, List.replicate_succ, List.set_append_right _ _ (by omega), hlen, Nat.sub_self, List.set_cons_zero]
    simp only [impl_MeetParts.l0]
    rw [if_pos (by omega)]
    have h0 : (meet a b).take i ++ List.replicate (a.length - i) 0 = ((meet a b).take i ++ List.replicate (a.length - i) 0).set i 0 := by
      rw [hset 0, show a.length - i = (a.length - (i + 1)) + 1 from by omega, List.replicate_succ]
    rw [h0]
    have := implMeet_l1 a b hl he ((meet a b).take i ++ List.replicate (a.length - i) 0) (by rw [List.length_append, hlen, List.length_replicate]; omega) (a.length : Int) (i : Int) i hi (i + 1) k 0 (by omega) (by omega)
    rw [show ((i + 1 : Nat) : Int) - 1 = (i : Int) from by omega] at this
    rw [this, hw]
    have hm := meetLoop_any a b (i : Int) (by omega) 0
    rw [Int.toNat_natCast] at hm
    rw [hm, hset, show (meet a b).take i ++ mt a b (i : Int) :: List.replicate (a.length - (i + 1)) 0 = (meet a b).take (i + 1) ++ List.replicate (a.length - (i + 1)) 0 from by rw [take_meet a b i hi, List.append_assoc]; rfl]
    exact ih _ (i + 1) (by omega) (by omega)
theorem specMeet_l1 (a b : List Int) (hl : a.length ≤ 200) (he : a.length = b.length) (x6 : List Int) (h6 : x6.length ≤ 200) (m : Int) (q : Int) (x : Nat) (hx : x < a.length) (d : Nat) : ∀ (k : Nat) (v : Int), d ≤ x + 1 → d < k →
    spec_MeetParts.l1 k a b x6 x v ((d : Int) - 1) m q = spec_MeetParts.l0 (k - d - 1) a b (x6 ++ [meetLoop a b x d v]) m (wrap64 (q + 1)) := by
  induction d with
  | zero =>
    intro k v hd hk
    obtain ⟨k, rfl⟩ : ∃ r, k = r + 1 := ⟨k - 1, by omega⟩
    simp only [spec_MeetParts.l1, meetLoop]
    rw [if_neg (by omega), if_pos (by omega)]
    rfl
  | succ d ih =>
    intro k v hd hk
    obtain ⟨k, rfl⟩ : ∃ r, k = r + 1 := ⟨k - 1, by omega⟩
    have hi : ((d + 1 : Nat) : Int) - 1 = (d : Int) := by omega
    have hw : wrap64 ((d : Int) - 1) = (d : Int) - 1 := by unfold wrap64; omega
    rw [hi]
    simp only [spec_MeetParts.l1, meetLoop]
    rw [if_pos (by omega), if_pos (by omega), if_pos (by omega), if_pos (by omega), if_pos (by omega), hw]
    rw [show k + 1 - (d + 1) - 1 = k - d - 1 from by omega]
    by_cases h1 : rd a d = rd a x
    · rw [if_pos h1, if_pos (by omega), if_pos (by omega)]
      by_cases h2 : rd b d = rd b x
      · rw [if_pos h2, if_pos (show alikeAt a b x d from ⟨h1, h2⟩)]
        exact ih k d (by omega) (by omega)
      · rw [if_neg h2, if_neg (fun (e : alikeAt a b x d) => h2 e.2)]
        exact ih k v (by omega) (by omega)
    · rw [if_neg h1, if_neg (fun (e : alikeAt a b x d) => h1 e.1)]
      exact ih k v (by omega) (by omega)
theorem specMeet_l0 (a b : List Int) (hl : a.length ≤ 200) (he : a.length = b.length) (d : Nat) : ∀ (k i : Nat), i + d = a.length → 300 * d + 1 ≤ k → spec_MeetParts.l0 k a b ((meet a b).take i) (a.length : Int) (i : Int) = some (meet a b, true) := by
  induction d with
  | zero =>
    intro k i hd hk
    obtain ⟨k, rfl⟩ : ∃ r, k = r + 1 := ⟨k - 1, by omega⟩
    simp only [spec_MeetParts.l0]
    rw [if_neg (by omega)]
    have : i = a.length := by omega
    subst this
    rw [List.take_of_length_le (by rw [meet_len]; omega)]
  | succ d ih =>
    intro k i hd hk
    obtain ⟨k, rfl⟩ : ∃ r, k = r + 1 := ⟨k - 1, by omega⟩
    have hi : i < a.length := by omega
    have hw : wrap64 ((i : Int) + 1) = ((i + 1 : Nat) : Int) := by unfold wrap64; omega
    have hlen : ((meet a b).take i).length = i := by rw [List.length_take, meet_len]; omega
    simp only [spec_MeetParts.l0]
    rw [if_pos (by omega)]
    have := specMeet_l1 a b hl he ((meet a b).take i) (by omega) (a.length : Int) (i : Int) i hi (i + 1) k (i : Int) (by omega) (by omega)
    rw [show ((i + 1 : Nat) : Int) - 1 = (i : Int) from by omega] at this
    rw [this, hw]
    have hm := meetLoop_any a b (i : Int) (by omega) (i : Int)
    rw [Int.toNat_natCast] at hm
    rw [hm, ← take_meet a b i hi]
    exact ih _ (i + 1) (by omega) (by omega)
theorem implMeet_is (a b : List Int) (k : Nat) (hk : 100000 ≤ k) : impl_MeetParts.f (k + 1) a b = if partB a = true ∧ partB b = true ∧ a.length = b.length then some (meet a b, true) else some ([], false) := by
  unfold impl_MeetParts.f
  rw [goodParts_is a _ (by omega), goodParts_is b _ (by omega), Option.bind_some]
  by_cases ha : partB a = true
  · have hl := part_len ha
    rw [if_pos ha, Option.bind_some]
    by_cases hb : partB b = true
    · rw [if_pos hb]
      simp only [impl_MeetParts.j0]
      by_cases e : a.length = b.length
      · rw [if_pos (show partB a = true ∧ partB b = true ∧ a.length = b.length from ⟨ha, hb, e⟩), if_neg (by rw [e]; simp), if_pos (by omega), if_pos (by omega)]
        have := implMeet_l0 a b hl e a.length k 0 (by omega) (by omega)
        rw [List.take_zero, List.nil_append, Nat.sub_zero] at this
        rw [Int.toNat_natCast]
        exact this
      · rw [if_pos (by rw [bne_iff_ne]; omega), if_neg (fun h : partB a = true ∧ partB b = true ∧ a.length = b.length => e h.2.2)]
    · rw [if_neg hb, if_neg (fun h => hb h.2.1)]
      simp only [impl_MeetParts.j0]
      rw [if_pos trivial]
  · rw [if_neg ha, if_neg (fun h => ha h.1)]
    simp only [impl_MeetParts.j0]
    rw [if_pos trivial]
theorem specMeet_is (a b : List Int) (k : Nat) (hk : 100000 ≤ k) : spec_MeetParts.f (k + 1) a b = if partB a = true ∧ partB b = true ∧ a.length = b.length then some (meet a b, true) else some ([], false) := by
  unfold spec_MeetParts.f
  rw [specParts_is a _ (by omega), specParts_is b _ (by omega), Option.bind_some]
  by_cases ha : partB a = true
  · have hl := part_len ha
    rw [if_pos ha, Option.bind_some]
    by_cases hb : partB b = true
    · rw [if_pos hb]
      simp only [spec_MeetParts.j0]
      by_cases e : a.length = b.length
      · rw [if_pos (show partB a = true ∧ partB b = true ∧ a.length = b.length from ⟨ha, hb, e⟩), if_neg (by rw [e]; simp)]
        have := specMeet_l0 a b hl e a.length k 0 (by omega) (by omega)
        rwa [List.take_zero] at this
      · rw [if_pos (by rw [bne_iff_ne]; omega), if_neg (fun h : partB a = true ∧ partB b = true ∧ a.length = b.length => e h.2.2)]
    · rw [if_neg hb, if_neg (fun h => hb h.2.1)]
      simp only [spec_MeetParts.j0]
      rw [if_pos trivial]
  · rw [if_neg ha, if_neg (fun h => ha h.1)]
    simp only [spec_MeetParts.j0]
    rw [if_pos trivial]

/-! ### finer -/
def finerFrom (a b : List Int) : Nat → Nat → Bool
  | 0, _ => true
  | d + 1, i => decide (rd b (i : Int) = rd b (rd a (i : Int))) && finerFrom a b d (i + 1)
def finer (a b : List Int) : Bool := finerFrom a b a.length 0
theorem implFiner_l0 (a b : List Int) (ha : partB a = true) (he : a.length = b.length) (d : Nat) : ∀ (k i : Nat), i + d = a.length → d < k → impl_IsFinerParts.l0 k b a (a.length : Int) (i : Int) = some (finerFrom a b d i, true) := by
  have hl := part_len ha
  induction d with
  | zero =>
    intro k i hd hk
    obtain ⟨k, rfl⟩ : ∃ r, k = r + 1 := ⟨k - 1, by omega⟩
    simp only [impl_IsFinerParts.l0, finerFrom]
    rw [if_neg (by omega)]
  | succ d ih =>
    intro k i hd hk
    obtain ⟨k, rfl⟩ : ∃ r, k = r + 1 := ⟨k - 1, by omega⟩
    have hw : wrap64 ((i : Int) + 1) = ((i + 1 : Nat) : Int) := by unfold wrap64; omega
    have p := part_at ha i (by omega) (by omega)
    simp only [impl_IsFinerParts.l0, finerFrom]
    rw [if_pos (by omega), if_pos (by omega), if_pos (by omega), if_pos (by omega), if_pos p.1, if_pos (by omega), hw]
    by_cases e : rd b (i : Int) = rd b (rd a (i : Int))
    · rw [if_pos e, decide_eq_true e, Bool.true_and]; exact ih k (i + 1) (by omega) (by omega)
    · rw [if_neg e, decide_eq_false e, Bool.false_and]
theorem specFiner_l0 (a b : List Int) (ha : partB a = true) (he : a.length = b.length) (d : Nat) : ∀ (k i : Nat), i + d = a.length → d < k → spec_l5Finer.l0 k a b (a.length : Int) (i : Int) = some (finerFrom a b d i) := by
  have hl := part_len ha
  induction d with
  | zero =>
    intro k i hd hk
    obtain ⟨k, rfl⟩ : ∃ r, k = r + 1 := ⟨k - 1, by omega⟩
    simp only [spec_l5Finer.l0, finerFrom]
    rw [if_neg (by omega)]
  | succ d ih =>
    intro k i hd hk
    obtain ⟨k, rfl⟩ : ∃ r, k = r + 1 := ⟨k - 1, by omega⟩
    have hw : wrap64 ((i : Int) + 1) = ((i + 1 : Nat) : Int) := by unfold wrap64; omega
    have p := part_at ha i (by omega) (by omega)
    simp only [spec_l5Finer.l0, finerFrom]
    rw [if_pos (by omega), if_pos (by omega), if_pos (by omega), if_pos (by omega), if_pos p.1, if_pos (by omega), hw]
    by_cases e : rd b (i : Int) = rd b (rd a (i : Int))
    · rw [if_pos e, decide_eq_true e, Bool.true_and]; exact ih k (i + 1) (by omega) (by omega)
    · rw [if_neg e, decide_eq_false e, Bool.false_and]
theorem implFiner_is (a b : List Int) (k : Nat) (hk : 400 < k) : impl_IsFinerParts.f (k + 1) a b = if partB a = true ∧ partB b = true ∧ a.length = b.length then some (finer a b, true) else some (false, false) := by
  unfold impl_IsFinerParts.f
  rw [goodParts_is a _ (by omega), goodParts_is b _ (by omega), Option.bind_some]
  by_cases ha : partB a = true
  · have hl := part_len ha
    rw [if_pos ha, Option.bind_some]
    by_cases hb : partB b = true
    · rw [if_pos hb]
      simp only [impl_IsFinerParts.j0]
      by_cases e : a.length = b.length
      · rw [if_pos (show partB a = true ∧ partB b = true ∧ a.length = b.length from ⟨ha, hb, e⟩), if_neg (by rw [e]; simp)]
        exact implFiner_l0 a b ha e a.length k 0 (by omega) (by omega)
      · rw [if_pos (by rw [bne_iff_ne]; omega), if_neg (fun h : partB a = true ∧ partB b = true ∧ a.length = b.length => e h.2.2)]
    · rw [if_neg hb, if_neg (fun h => hb h.2.1)]
      simp only [impl_IsFinerParts.j0]
      rw [if_pos trivial]
  · rw [if_neg ha, if_neg (fun h => ha h.1)]
    simp only [impl_IsFinerParts.j0]
    rw [if_pos trivial]
theorem specFiner_is (a b : List Int) (k : Nat) (hk : 400 < k) : spec_IsFinerParts.f k a b = if partB a = true ∧ partB b = true ∧ a.length = b.length then some (finer a b, true) else some (false, false) := by
  unfold spec_IsFinerParts.f
  rw [specParts_is a _ (by omega), specParts_is b _ (by omega), Option.bind_some]
  by_cases ha : partB a = true
  · have hl := part_len ha
    rw [if_pos ha, Option.bind_some]
    by_cases hb : partB b = true
    · rw [if_pos hb]
      by_cases e : a.length = b.length
      · rw [if_pos (show partB a = true ∧ partB b = true ∧ a.length = b.length from ⟨ha, hb, e⟩), if_pos (by omega)]
        unfold spec_l5Finer.f
        have := specFiner_l0 a b ha e a.length k 0 (by omega) (by omega)
        rw [Int.natCast_zero] at this
        rw [this]
        rfl
      · rw [if_neg (by omega), if_neg (fun h : partB a = true ∧ partB b = true ∧ a.length = b.length => e h.2.2)]
    · rw [if_neg hb, if_neg (fun h => hb h.2.1)]
  · rw [if_neg ha, if_neg (fun h => ha h.1)]
theorem finerFrom_all (a b : List Int) (d : Nat) : ∀ i : Nat, (∀ j : Nat, i ≤ j → j < i + d → rd b (j : Int) = rd b (rd a (j : Int))) → finerFrom a b d i = true := by
  induction d with
  | zero => intro i _; rfl
  | succ d ih =>
    intro i h
    simp only [finerFrom]
    rw [decide_eq_true (h i (by omega) (by omega)), Bool.true_and]
    exact ih (i + 1) (fun j h1 h2 => h j (by omega) (by omega))
theorem meet_finer (a b : List Int) : finer (meet a b) a = true ∧ (a.length = b.length → finer (meet a b) b = true) := by
  constructor
  · refine finerFrom_all _ _ _ 0 (fun j _ h2 => ?_)
    rw [meet_len] at h2
    rw [meet_rd a b j (by omega) (by omega)]
    exact (mt_is a b j (by omega)).2.2.1.1.symm
  · intro _
    refine finerFrom_all _ _ _ 0 (fun j _ h2 => ?_)
    rw [meet_len] at h2
    rw [meet_rd a b j (by omega) (by omega)]
    exact (mt_is a b j (by omega)).2.2.1.2.symm

/-! ### joining by the reference -/
theorem specJoin_l0 (l : List Int) (t g : Int) (hl : l.length ≤ 17592186044416) (d : Nat) : ∀ (k i : Nat), i + d = l.length → d < k → spec_l5Join.l0 k t g (named (l.take i) t g ++ l.drop i) l (l.length : Int) (i : Int) = some (named l t g) := by
  induction d with
  | zero =>
    intro k i hd hk
    obtain ⟨k, rfl⟩ : ∃ q, k = q + 1 := ⟨k - 1, by omega⟩
    simp only [spec_l5Join.l0]
    rw [if_neg (by omega)]
    have : i = l.length := by omega
    subst this
    rw [List.take_length, List.drop_length, List.append_nil]
  | succ d ih =>
    intro k i hd hk
    obtain ⟨k, rfl⟩ : ∃ q, k = q + 1 := ⟨k - 1, by omega⟩
    have hi : i < l.length := by omega
    have hw : wrap64 ((i : Int) + 1) = ((i + 1 : Nat) : Int) := by unfold wrap64; omega
    have hlen : (named (l.take i) t g).length = i := by rw [named_len, List.length_take]; omega
    simp only [spec_l5Join.l0]
    rw [if_pos (by omega), if_pos (by omega), if_pos (by omega), hw]
    have hstep : ∀ v, v = (if rd l (i : Int) = g then t else rd l (i : Int)) → named (l.take i) t g ++ v :: l.drop (i + 1) = named (l.take (i + 1)) t g ++ l.drop (i + 1) := by
      intro v hv
      rw [take_succ' l i hi]
      simp only [named, List.map_append, List.map_cons, List.map_nil, List.append_assoc, List.singleton_append]
      rw [hv]
    by_cases e : rd l (i : Int) = g
    · rw [if_pos e, if_pos (by rw [List.length_append, hlen, List.length_drop]; omega)]
      have : (named (l.take i) t g ++ l.drop i).set (i : Int).toNat t = named (l.take (i + 1)) t g ++ l.drop (i + 1) := by
        rw [drop_succ' l i hi, List.set_append_right _ _ (by rw [hlen]; omega), hlen, show (i : Int).toNat - i = 0 from by omega, List.set_cons_zero]
        exact hstep t (by rw [if_pos e])
      rw [this]
      exact ih k (i + 1) (by omega) (by omega)
    · rw [if_neg e]
      have : named (l.take i) t g ++ l.drop i = named (l.take (i + 1)) t g ++ l.drop (i + 1) := by
        rw [drop_succ' l i hi]
        exact hstep _ (by rw [if_neg e])
      rw [this]
      exact ih k (i + 1) (by omega) (by omega)
theorem specJoin_is (l : List Int) (a b : Int) (hl : l.length < 17592186044416) (k : Nat) (hk : l.length < k) (ha0 : 0 ≤ a) (ha1 : a < l.length) (hb0 : 0 ≤ b) (hb1 : b < l.length) : spec_l5Join.f k l a b = some (join l a b) := by
  unfold spec_l5Join.f
  rw [if_pos ha0, if_pos ha1, if_pos hb0, if_pos hb1, least_f, most_f, own_f l hl]
  simp only [Option.bind_some]
  have := specJoin_l0 l (mn (rd l a) (rd l b)) (mx (rd l a) (rd l b)) (by omega) l.length k 0 (by omega) hk
  rw [List.take_zero, List.drop_zero] at this
  exact this
theorem asked_is (l : List Int) (a : Int) (k : Nat) (hk : 300 < k) (hm : l.length ≤ 9223372036854775807) : spec_l5Asked.f k l a = some (partB l && inL l a) := by
  unfold spec_l5Asked.f
  rw [specParts_is l k hk, Option.bind_some, in_val, len_wrap l hm]
  by_cases h : partB l = true
  · rw [if_pos h, h, Bool.true_and]; rfl
  · rw [if_neg h, Bool.eq_false_iff.2 h, Bool.false_and]
theorem specJoinParts_is (l : List Int) (a b : Int) (k : Nat) (hk : 400 < k) (hm : l.length ≤ 9223372036854775807) : spec_JoinParts.f k l a b = if partB l = true ∧ inL l a = true ∧ inL l b = true then some (join l a b, true) else some ([], false) := by
  unfold spec_JoinParts.f
  rw [asked_is l a k (by omega) hm, asked_is l b k (by omega) hm]
  by_cases h : partB l = true
  · have hl := part_len h
    by_cases ha : inL l a = true
    · by_cases hb : inL l b = true
      · have ha' := (inL_iff l a).1 ha
        have hb' := (inL_iff l b).1 hb
        rw [if_pos (show partB l = true ∧ inL l a = true ∧ inL l b = true from ⟨h, ha, hb⟩), h, ha, hb]
        simp only [Option.bind_some, Bool.and_self, if_true]
        rw [specJoin_is l a b (by omega) k (by omega) ha'.1 ha'.2 hb'.1 hb'.2]
        rfl
      · rw [if_neg (fun x => hb x.2.2), h, ha, Bool.eq_false_iff.2 hb]
        simp
    · rw [if_neg (fun x => ha x.2.1), h, Bool.eq_false_iff.2 ha]
      simp
  · rw [if_neg (fun x => h x.1), Bool.eq_false_iff.2 h]
    simp

/-! ### members -/
def membFrom (l : List Int) (p : Int) : Nat → Nat → List Int
  | 0, _ => []
  | d + 1, i => if rd l (i : Int) = p then (i : Int) :: membFrom l p d (i + 1) else membFrom l p d (i + 1)
def memb (l : List Int) (p : Int) : List Int := membFrom l p l.length 0
theorem membFrom_len (l : List Int) (p : Int) (d : Nat) : ∀ i, (membFrom l p d i).length ≤ d := by
  induction d with
  | zero => intro i; exact Nat.le_refl _
  | succ d ih =>
    intro i
    simp only [membFrom]
    have := ih (i + 1)
    split
    · rw [List.length_cons]; omega
    · omega
theorem mem_from (l : List Int) (p : Int) (d : Nat) : ∀ (i : Nat) (x : Int), x ∈ membFrom l p d i ↔ (i : Int) ≤ x ∧ x < i + d ∧ rd l x = p := by
  induction d with
  | zero => intro i x; simp only [membFrom, List.not_mem_nil, false_iff]; omega
  | succ d ih =>
    intro i x
    simp only [membFrom]
    by_cases e : rd l (i : Int) = p
    · rw [if_pos e, List.mem_cons, ih (i + 1) x]
      constructor
      · rintro (rfl | ⟨h1, h2, h3⟩)
        · exact ⟨by omega, by omega, e⟩
        · exact ⟨by omega, by omega, h3⟩
      · rintro ⟨h1, h2, h3⟩
        by_cases q : x = i
        · exact .inl q
        · exact .inr ⟨by omega, by omega, h3⟩
    · rw [if_neg e, ih (i + 1) x]
      constructor
      · rintro ⟨h1, h2, h3⟩; exact ⟨by omega, by omega, h3⟩
      · rintro ⟨h1, h2, h3⟩
        refine ⟨?_, by omega, h3⟩
        by_cases q : x = i
        · rw [q] at h3; exact absurd h3 e
        · omega
theorem mem_memb (l : List Int) (p x : Int) : x ∈ memb l p ↔ 0 ≤ x ∧ x < l.length ∧ rd l x = p := by
  unfold memb
  rw [mem_from]
  simp
theorem implMemb_l0 (l : List Int) (p : Int) (hl : l.length ≤ 200) (d : Nat) : ∀ (k i : Nat) (x : List Int), i + d = l.length → d < k → x.length ≤ i → impl_members.l0 k p x l (l.length : Int) (i : Int) = some (x ++ membFrom l p d i) := by
  induction d with
  | zero =>
    intro k i x hd hk hx
    obtain ⟨k, rfl⟩ : ∃ q, k = q + 1 := ⟨k - 1, by omega⟩
    simp only [impl_members.l0, membFrom]
    rw [if_neg (by omega), List.append_nil]
  | succ d ih =>
    intro k i x hd hk hx
    obtain ⟨k, rfl⟩ : ∃ q, k = q + 1 := ⟨k - 1, by omega⟩
    have hw : wrap64 ((i : Int) + 1) = ((i + 1 : Nat) : Int) := by unfold wrap64; omega
    simp only [impl_members.l0, membFrom]
    rw [if_pos (by omega), if_pos (by omega), if_pos (by omega), hw]
    by_cases e : rd l (i : Int) = p
    · rw [if_pos e, if_pos (by omega), if_pos e, ih k (i + 1) _ (by omega) (by omega) (by rw [List.length_append, List.length_singleton]; omega), List.append_assoc]
      rfl
    · rw [if_neg e, if_neg e]
      exact ih k (i + 1) x (by omega) (by omega) (by omega)
theorem specMemb_l0 (l : List Int) (a : Int) (hl : l.length ≤ 200) (ha0 : 0 ≤ a) (ha1 : a < l.length) (d : Nat) : ∀ (k i : Nat) (x : List Int), i + d = l.length → d < k → x.length ≤ i → spec_l5Members.l0 k l a x l (l.length : Int) (i : Int) = some (x ++ membFrom l (rd l a) d i) := by
  induction d with
  | zero =>
    intro k i x hd hk hx
    obtain ⟨k, rfl⟩ : ∃ q, k = q + 1 := ⟨k - 1, by omega⟩
    simp only [spec_l5Members.l0, membFrom]
    rw [if_neg (by omega), List.append_nil]
  | succ d ih =>
    intro k i x hd hk hx
    obtain ⟨k, rfl⟩ : ∃ q, k = q + 1 := ⟨k - 1, by omega⟩
    have hw : wrap64 ((i : Int) + 1) = ((i + 1 : Nat) : Int) := by unfold wrap64; omega
    simp only [spec_l5Members.l0, membFrom]
    rw [if_pos (by omega), if_pos (by omega), if_pos (by omega), if_pos ha0, if_pos ha1, hw]
    by_cases e : rd l (i : Int) = rd l a
    · rw [if_pos e, if_pos (by omega), if_pos e, ih k (i + 1) _ (by omega) (by omega) (by rw [List.length_append, List.length_singleton]; omega), List.append_assoc]
      rfl
    · rw [if_neg e, if_neg e]
      exact ih k (i + 1) x (by omega) (by omega) (by omega)
theorem implMembers_is (l : List Int) (a : Int) (k : Nat) (hk : 400 < k) (hm : l.length ≤ 9223372036854775807) : impl_MembersOf.f k l a = if partB l = true ∧ inL l a = true then some (memb l (rd l a), true) else some ([], false) := by
  unfold impl_MembersOf.f
  rw [goodParts_is l k (by omega), Option.bind_some, within_eq, in_val, len_wrap l hm]
  by_cases h : partB l = true
  · have hl := part_len h
    rw [if_pos h, Option.bind_some]
    change (if inL l a = true then _ else _) = _
    by_cases ha : inL l a = true
    · have ha' := (inL_iff l a).1 ha
      rw [if_pos ha, if_pos (show partB l = true ∧ inL l a = true from ⟨h, ha⟩), if_pos ha'.1, if_pos ha'.2]
      unfold impl_members.f
      have := implMemb_l0 l (rd l a) hl l.length k 0 [] (by omega) (by omega) (by simp)
      rw [Int.natCast_zero, List.nil_append] at this
      rw [this]
      rfl
    · rw [if_neg ha, if_neg (fun x => ha x.2)]
  · rw [if_neg h, if_neg (fun x => h x.1)]
theorem specMembers_is (l : List Int) (a : Int) (k : Nat) (hk : 400 < k) (hm : l.length ≤ 9223372036854775807) : spec_MembersOf.f k l a = if partB l = true ∧ inL l a = true then some (memb l (rd l a), true) else some ([], false) := by
  unfold spec_MembersOf.f
  rw [asked_is l a k (by omega) hm, Option.bind_some]
  by_cases h : partB l = true
  · have hl := part_len h
    by_cases ha : inL l a = true
    · have ha' := (inL_iff l a).1 ha
      rw [h, ha, if_pos (by decide), if_pos (show true = true ∧ true = true from ⟨rfl, rfl⟩)]
      unfold spec_l5Members.f
      have := specMemb_l0 l a hl ha'.1 ha'.2 l.length k 0 [] (by omega) (by omega) (by simp)
      rw [Int.natCast_zero, List.nil_append] at this
      rw [this]
      rfl
    · rw [h, Bool.eq_false_iff.2 ha]; simp
  · rw [Bool.eq_false_iff.2 h]; simp

/-! ### how many -/
def cntFrom (l : List Int) : Nat → Nat → Nat
  | 0, _ => 0
  | d + 1, i => (if rd l (i : Int) = (i : Int) then 1 else 0) + cntFrom l d (i + 1)
def cnt (l : List Int) : Nat := cntFrom l l.length 0
theorem cntFrom_le (l : List Int) (d : Nat) : ∀ i, cntFrom l d i ≤ d := by
  induction d with
  | zero => intro i; exact Nat.le_refl _
  | succ d ih =>
    intro i
    simp only [cntFrom]
    have := ih (i + 1)
    split <;> omega
theorem implCnt_l0 (l : List Int) (hl : l.length ≤ 200) (d : Nat) : ∀ (k i : Nat) (x : List Int), i + d = l.length → d < k → x.length ≤ i → ∃ r, impl_partList.l0 k x l (l.length : Int) (i : Int) = some r ∧ r.length = x.length + cntFrom l d i := by
  induction d with
  | zero =>
    intro k i x hd hk hx
    obtain ⟨k, rfl⟩ : ∃ q, k = q + 1 := ⟨k - 1, by omega⟩
    simp only [impl_partList.l0, cntFrom]
    rw [if_neg (by omega)]
    exact ⟨x, rfl, rfl⟩
  | succ d ih =>
    intro k i x hd hk hx
    obtain ⟨k, rfl⟩ : ∃ q, k = q + 1 := ⟨k - 1, by omega⟩
    have hw : wrap64 ((i : Int) + 1) = ((i + 1 : Nat) : Int) := by unfold wrap64; omega
    simp only [impl_partList.l0, cntFrom]
    rw [if_pos (by omega), if_pos (by omega), if_pos (by omega), hw]
    by_cases e : rd l (i : Int) = (i : Int)
    · rw [if_pos e, if_pos (by omega), if_pos e]
      obtain ⟨r, h1, h2⟩ := ih k (i + 1) (x ++ [(i : Int)]) (by omega) (by omega) (by rw [List.length_append, List.length_singleton]; omega)
      exact ⟨r, h1, by rw [h2, List.length_append, List.length_singleton]; omega⟩
    · rw [if_neg e, if_neg e]
      obtain ⟨r, h1, h2⟩ := ih k (i + 1) x (by omega) (by omega) (by omega)
      exact ⟨r, h1, by omega⟩
theorem specCnt_l0 (l : List Int) (hl : l.length ≤ 200) (d : Nat) : ∀ (k i n : Nat), i + d = l.length → d < k → n ≤ i → spec_CountParts.l0 k (n : Int) l (l.length : Int) (i : Int) = some (((n + cntFrom l d i : Nat) : Int), true) := by
  induction d with
  | zero =>
    intro k i n hd hk hn
    obtain ⟨k, rfl⟩ : ∃ q, k = q + 1 := ⟨k - 1, by omega⟩
    simp only [spec_CountParts.l0, cntFrom]
    rw [if_neg (by omega)]
    rfl
  | succ d ih =>
    intro k i n hd hk hn
    obtain ⟨k, rfl⟩ : ∃ q, k = q + 1 := ⟨k - 1, by omega⟩
    have hw : wrap64 ((i : Int) + 1) = ((i + 1 : Nat) : Int) := by unfold wrap64; omega
    have hw2 : wrap64 ((n : Int) + 1) = ((n + 1 : Nat) : Int) := by unfold wrap64; omega
    simp only [spec_CountParts.l0, cntFrom]
    rw [if_pos (by omega), if_pos (by omega), if_pos (by omega), hw, hw2]
    by_cases e : rd l (i : Int) = (i : Int)
    · rw [if_pos e, if_pos e, ih k (i + 1) (n + 1) (by omega) (by omega) (by omega)]
      congr 3
      omega
    · rw [if_neg e, if_neg e, ih k (i + 1) n (by omega) (by omega) (by omega)]
      congr 3
      omega
theorem implCount_is (l : List Int) (k : Nat) (hk : 400 < k) : impl_CountParts.f k l = if partB l = true then some ((cnt l : Int), true) else some (0, false) := by
  unfold impl_CountParts.f
  rw [goodParts_is l k (by omega), Option.bind_some]
  by_cases h : partB l = true
  · have hl := part_len h
    rw [if_pos h, if_pos h]
    unfold impl_partList.f
    obtain ⟨r, h1, h2⟩ := implCnt_l0 l hl l.length k 0 [] (by omega) (by omega) (by simp)
    rw [Int.natCast_zero] at h1
    rw [h1, Option.bind_some]
    have : r.length = cnt l := by rw [h2]; simp [cnt]
    rw [this]
  · rw [if_neg h, if_neg h]
theorem specCount_is (l : List Int) (k : Nat) (hk : 400 < k) : spec_CountParts.f k l = if partB l = true then some ((cnt l : Int), true) else some (0, false) := by
  unfold spec_CountParts.f
  rw [specParts_is l k (by omega), Option.bind_some]
  by_cases h : partB l = true
  · have hl := part_len h
    rw [if_pos h, if_pos h]
    have := specCnt_l0 l hl l.length k 0 0 (by omega) (by omega) (by omega)
    rw [Int.natCast_zero, Nat.zero_add] at this
    exact this
  · rw [if_neg h, if_neg h]
/-- What a joining does to the least ones. -/
theorem cnt_named (l : List Int) (t g : Int) (hp : partB l = true) (_ht0 : 0 ≤ t) (ht : rd l t = t) (htg : t < g) (d : Nat) : ∀ i : Nat, i + d = l.length →
    cntFrom l d i = cntFrom (named l t g) d i + (if (i : Int) ≤ g ∧ g < l.length ∧ rd l g = g then 1 else 0) := by
  have hl := part_len hp
  induction d with
  | zero =>
    intro i hd
    simp only [cntFrom]
    rw [if_neg (by omega)]
  | succ d ih =>
    intro i hd
    simp only [cntFrom]
    rw [ih (i + 1) (by omega), named_rd l t g i (by omega) (by omega)]
    have p := part_at hp i (by omega) (by omega)
    have f1 : rd l (i : Int) = g → rd l g = g := fun e => by rw [← e]; exact p.2.2
    have f2 : (i : Int) = g → rd l (i : Int) = rd l g := fun e => by rw [e]
    have f3 : rd l (i : Int) = t → t ≤ (i : Int) := fun e => by omega
    by_cases e : rd l (i : Int) = g
    · rw [if_pos e]
      repeat' split
      all_goals omega
    · rw [if_neg e]
      repeat' split
      all_goals omega
theorem join_cnt {l : List Int} {a b : Int} (hp : partB l = true) (ha : inL l a = true) (hb : inL l b = true) : cnt (join l a b) ≤ cnt l ∧ cnt l ≤ cnt (join l a b) + 1 := by
  have ha' := (inL_iff l a).1 ha
  have hb' := (inL_iff l b).1 hb
  have pa := part_at hp a ha'.1 ha'.2
  have pb := part_at hp b hb'.1 hb'.2
  unfold join
  have hm := mx_mn (rd l a) (rd l b)
  generalize ht : mn (rd l a) (rd l b) = t at *
  generalize hg : mx (rd l a) (rd l b) = g at *
  have t0 : 0 ≤ t := by omega
  have tt : rd l t = t := by rcases hm with ⟨_, e, _⟩ | ⟨_, e, _⟩ <;> rw [e] <;> omega
  by_cases q : t = g
  · have : named l t g = l := by
      unfold named
      rw [q]
      conv => rhs; rw [← List.map_id l]
      apply List.map_congr_left
      intro x _
      by_cases e : x = g
      · rw [if_pos e, e]; rfl
      · rw [if_neg e]; rfl
    rw [this]
    omega
  · have := cnt_named l t g hp t0 tt (by omega) l.length 0 (by omega)
    unfold cnt
    rw [named_len]
    split at this <;> omega
theorem join_part {l : List Int} {a b : Int} (hp : partB l = true) (ha : inL l a = true) (hb : inL l b = true) : partB (join l a b) = true := by
  have ha' := (inL_iff l a).1 ha
  have hb' := (inL_iff l b).1 hb
  have pa := part_at hp a ha'.1 ha'.2
  have pb := part_at hp b hb'.1 hb'.2
  unfold join
  have hm := mx_mn (rd l a) (rd l b)
  generalize ht : mn (rd l a) (rd l b) = t at *
  generalize hg : mx (rd l a) (rd l b) = g at *
  have t0 : 0 ≤ t := by omega
  have tt : rd l t = t := by rcases hm with ⟨_, e, _⟩ | ⟨_, e, _⟩ <;> rw [e] <;> omega
  refine part_mk (by rw [named_len]; exact part_len hp) (fun x h0 h1 => ?_)
  rw [named_len] at h1
  have p := part_at hp x h0 h1
  rw [named_rd l t g x h0 h1]
  by_cases e : rd l x = g
  · rw [if_pos e, named_rd l t g t t0 (by omega), tt]
    by_cases q : t = g
    · rw [if_pos q]; omega
    · rw [if_neg q]; omega
  · rw [if_neg e, named_rd l t g (rd l x) p.1 (by omega), p.2.2, if_neg e]
    exact ⟨p.1, p.2.1, rfl⟩

/-! ### has, within -/
theorem has_l0 (l : List Int) (n : Int) (hl : l.length ≤ 1000000) (d : Nat) : ∀ (k i : Nat), i + d = l.length → d < k → (∃ j : Nat, i ≤ j ∧ j < l.length ∧ rd l (j : Int) = n) → laws_has.l0 k n l (l.length : Int) (i : Int) = some true := by
  induction d with
  | zero => intro k i hd hk ⟨j, h1, h2, _⟩; omega
  | succ d ih =>
    intro k i hd hk ⟨j, h1, h2, h3⟩
    obtain ⟨k, rfl⟩ : ∃ q, k = q + 1 := ⟨k - 1, by omega⟩
    have hw : wrap64 ((i : Int) + 1) = ((i + 1 : Nat) : Int) := by unfold wrap64; omega
    simp only [laws_has.l0]
    rw [if_pos (by omega), if_pos (by omega), if_pos (by omega), hw]
    by_cases e : rd l (i : Int) = n
    · rw [if_pos e]
    · rw [if_neg e]
      refine ih k (i + 1) (by omega) (by omega) ⟨j, ?_, h2, h3⟩
      by_cases q : j = i
      · rw [q] at h3; exact absurd h3 e
      · omega
theorem has_is (l : List Int) (n : Int) (hl : l.length ≤ 1000000) (h : n ∈ l) (k : Nat) (hk : l.length < k) : laws_has.f k l n = some true := by
  obtain ⟨j, hj, e⟩ := List.getElem_of_mem h
  unfold laws_has.f
  refine has_l0 l n hl l.length k 0 (by omega) hk ⟨j, by omega, hj, ?_⟩
  rw [rd_at, List.getD_eq_getElem?_getD, List.getElem?_eq_getElem hj]
  exact e
theorem within_l0 (s l : List Int) (hl : l.length ≤ 1000) (hs : s.length ≤ 1000) (h : ∀ x ∈ s, x ∈ l) (d : Nat) : ∀ (k i : Nat), i + d = s.length → d + 1001 < k → laws_within.l0 k l s (s.length : Int) (i : Int) = some true := by
  induction d with
  | zero =>
    intro k i hd hk
    obtain ⟨k, rfl⟩ : ∃ q, k = q + 1 := ⟨k - 1, by omega⟩
    simp only [laws_within.l0]
    rw [if_neg (by omega)]
  | succ d ih =>
    intro k i hd hk
    obtain ⟨k, rfl⟩ : ∃ q, k = q + 1 := ⟨k - 1, by omega⟩
    have hw : wrap64 ((i : Int) + 1) = ((i + 1 : Nat) : Int) := by unfold wrap64; omega
    have hi : i < s.length := by omega
    have hmem : rd s (i : Int) ∈ l := by
      rw [rd_at, List.getD_eq_getElem?_getD, List.getElem?_eq_getElem hi]
      exact h _ (List.getElem_mem hi)
    simp only [laws_within.l0]
    rw [if_pos (by omega), if_pos (by omega), if_pos (by omega), has_is l _ (by omega) hmem k (by omega), Option.bind_some, if_pos rfl, hw]
    exact ih k (i + 1) (by omega) (by omega)
theorem within_is (s l : List Int) (hl : l.length ≤ 1000) (hs : s.length ≤ 1000) (h : ∀ x ∈ s, x ∈ l) (k : Nat) (hk : 2100 < k) : laws_within.f k s l = some true := by
  unfold laws_within.f
  exact within_l0 s l hl hs h s.length k 0 (by omega) (by omega)

end Go.Proofs.Ytceeocgpcagkjaa.PA
