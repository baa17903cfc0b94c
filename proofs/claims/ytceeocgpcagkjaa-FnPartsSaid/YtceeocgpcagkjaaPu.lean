/- Trees of parents and parts: what the printed functions come to (plain lemmas). -/
import Derived.Test.YtceeocgpcagkjaaPc
import Derived.Test.YtceeocgpcagkjaaPAx3
import Derived.Test.YtceeocgpcagkjaaPAx4
import Derived.Test.YtceeocgpcagkjaaPAx5
namespace Go.Proofs.Ytceeocgpcagkjaa.PA
open Go.RowKit Go.Proofs.YtceeocgpcagkjaaW.PrintWords Go.Proofs.YtceeocgpcagkjaaW.PrintLast Go.Proofs.YtceeocgpcagkjaaW.PrintMore

theorem in_val (a lo hi : Int) : spec_l1In.f a lo hi = some (decide (lo ≤ a ∧ a ≤ hi)) := by
  unfold spec_l1In.f
  by_cases h : lo ≤ a
  · rw [if_pos (by omega)]; congr 1; exact decide_eq_decide.2 ⟨fun x => ⟨h, x⟩, fun x => x.2⟩
  · rw [if_neg (by omega), decide_eq_false (fun x => h x.1)]
theorem within_eq : impl_within.f = spec_l1In.f := rfl
theorem rd_at (l : List Int) (i : Nat) : rd l (i : Int) = l.getD i 0 := by simp [rd]
theorem rd_toNat (l : List Int) (i : Int) : rd l i = l.getD i.toNat 0 := rfl
theorem goodParents_l0 (k : Nat) : spec_GoodParents.l0 k = impl_parentsOK.l0 k := by
  induction k with
  | zero => funext a b c d; simp [spec_GoodParents.l0, impl_parentsOK.l0]
  | succ k ih => funext a b c d; simp only [spec_GoodParents.l0, impl_parentsOK.l0, ih, within_eq]
theorem goodParents_f (l : List Int) (k : Nat) (hk : l.length < k) (hm : l.length ≤ 9223372036854775807) : spec_GoodParents.f k l = some (parB l) := by
  rw [← parentsOK_f l k hk hm]
  unfold spec_GoodParents.f impl_parentsOK.f
  rw [goodParents_l0]
theorem par_at {l : List Int} (h : parB l = true) (x : Int) (h0 : 0 ≤ x) (h1 : x < l.length) : 0 ≤ rd l x ∧ rd l x ≤ x := by
  have := ((parB_iff l).1 h).2 x.toNat (by omega)
  rw [rd_toNat]; omega
theorem par_len {l : List Int} (h : parB l = true) : l.length ≤ 200 := ((parB_iff l).1 h).1

/-- The root of a number, and the steps to it. -/
def rt (l : List Int) : Nat → Int → Int × Int
  | 0, x => (x, 0)
  | f + 1, x => if rd l x = x then (x, 0) else ((rt l f (rd l x)).1, (rt l f (rd l x)).2 + 1)
theorem rt_same {l : List Int} (h : parB l = true) (d : Nat) : ∀ (x : Int) (f g : Nat), x.toNat ≤ d → d < f → d < g → 0 ≤ x → x < l.length → rt l f x = rt l g x := by
  induction d with
  | zero =>
    intro x f g hx hf hg h0 h1
    obtain ⟨f, rfl⟩ : ∃ q, f = q + 1 := ⟨f - 1, by omega⟩
    obtain ⟨g, rfl⟩ : ∃ q, g = q + 1 := ⟨g - 1, by omega⟩
    have := par_at h x h0 h1
    simp only [rt]
    rw [if_pos (by omega), if_pos (by omega)]
  | succ d ih =>
    intro x f g hx hf hg h0 h1
    obtain ⟨f, rfl⟩ : ∃ q, f = q + 1 := ⟨f - 1, by omega⟩
    obtain ⟨g, rfl⟩ : ∃ q, g = q + 1 := ⟨g - 1, by omega⟩
    have := par_at h x h0 h1
    simp only [rt]
    by_cases e : rd l x = x
    · rw [if_pos e, if_pos e]
    · rw [if_neg e, if_neg e, ih (rd l x) f g (by omega) (by omega) (by omega) (by omega) (by omega)]
def root (l : List Int) (x : Int) : Int := (rt l (x.toNat + 1) x).1
def steps (l : List Int) (x : Int) : Int := (rt l (x.toNat + 1) x).2
theorem rt_eq {l : List Int} (h : parB l = true) (x : Int) (f : Nat) (hf : x.toNat < f) (h0 : 0 ≤ x) (h1 : x < l.length) : rt l f x = (root l x, steps l x) :=
  rt_same h x.toNat x f (x.toNat + 1) (Nat.le_refl _) hf (by omega) h0 h1
theorem root_step {l : List Int} (h : parB l = true) (x : Int) (h0 : 0 ≤ x) (h1 : x < l.length) (hn : rd l x ≠ x) : root l x = root l (rd l x) ∧ steps l x = steps l (rd l x) + 1 := by
  have := par_at h x h0 h1
  have e := rt_eq h (rd l x) x.toNat (by omega) (by omega) (by omega)
  unfold root steps
  simp only [rt]
  rw [if_neg hn, e]
  exact ⟨rfl, rfl⟩
theorem root_stay {l : List Int} (x : Int) (hn : rd l x = x) : root l x = x ∧ steps l x = 0 := by
  unfold root steps
  simp only [rt]
  rw [if_pos hn]
  exact ⟨rfl, rfl⟩
theorem root_is {l : List Int} (h : parB l = true) (d : Nat) : ∀ x : Int, x.toNat ≤ d → 0 ≤ x → x < l.length → rd l (root l x) = root l x ∧ 0 ≤ root l x ∧ root l x ≤ x ∧ 0 ≤ steps l x ∧ steps l x ≤ x := by
  induction d with
  | zero =>
    intro x hx h0 h1
    have := par_at h x h0 h1
    obtain ⟨a, b⟩ := root_stay x (show rd l x = x by omega)
    rw [a, b]
    omega
  | succ d ih =>
    intro x hx h0 h1
    have := par_at h x h0 h1
    by_cases e : rd l x = x
    · obtain ⟨a, b⟩ := root_stay x e
      rw [a, b]
      omega
    · obtain ⟨a, b⟩ := root_step h x h0 h1 e
      have := ih (rd l x) (by omega) (by omega) (by omega)
      rw [a, b]
      omega
theorem root_at {l : List Int} (h : parB l = true) (x : Int) (h0 : 0 ≤ x) (h1 : x < l.length) : rd l (root l x) = root l x ∧ 0 ≤ root l x ∧ root l x ≤ x ∧ 0 ≤ steps l x ∧ steps l x ≤ x := root_is h x.toNat x (Nat.le_refl _) h0 h1
theorem root_l0 (k : Nat) : impl_root.l0 k = spec_l5Root.l0 k := by
  induction k with
  | zero => funext a b c; simp [spec_l5Root.l0, impl_root.l0]
  | succ k ih => funext a b c; simp only [spec_l5Root.l0, impl_root.l0, ih]
theorem l5Root_l0 {l : List Int} (h : parB l = true) (d : Nat) : ∀ (k : Nat) (x n : Int), x.toNat ≤ d → d < k → 0 ≤ x → x < l.length → 0 ≤ n → n + x ≤ 1000000 → spec_l5Root.l0 k l x n = some (root l x, n + steps l x) := by
  have hl := par_len h
  induction d with
  | zero =>
    intro k x n hx hk h0 h1 hn hn2
    obtain ⟨k, rfl⟩ : ∃ q, k = q + 1 := ⟨k - 1, by omega⟩
    have := par_at h x h0 h1
    obtain ⟨a, b⟩ := root_stay x (show rd l x = x by omega)
    simp only [spec_l5Root.l0]
    rw [if_pos h0, if_pos h1, if_pos (by omega), a, b, Int.add_zero]
  | succ d ih =>
    intro k x n hx hk h0 h1 hn hn2
    obtain ⟨k, rfl⟩ : ∃ q, k = q + 1 := ⟨k - 1, by omega⟩
    have := par_at h x h0 h1
    simp only [spec_l5Root.l0]
    rw [if_pos h0, if_pos h1]
    by_cases e : rd l x = x
    · obtain ⟨a, b⟩ := root_stay x e
      rw [if_pos e, a, b, Int.add_zero]
    · obtain ⟨a, b⟩ := root_step h x h0 h1 e
      have hw : wrap64 (n + 1) = n + 1 := by unfold wrap64; omega
      rw [if_neg e, hw]
      rw [ih k (rd l x) (n + 1) (by omega) (by omega) (by omega) (by omega) (by omega) (by omega), a, b]
      congr 2
      omega
theorem l5Root_f {l : List Int} (h : parB l = true) (k : Nat) (hk : 200 < k) (x : Int) (h0 : 0 ≤ x) (h1 : x < l.length) : spec_l5Root.f k l x = some (root l x, steps l x) := by
  have hl := par_len h
  unfold spec_l5Root.f
  rw [l5Root_l0 h x.toNat k x 0 (Nat.le_refl _) (by omega) h0 h1 (by omega) (by omega), Int.zero_add]
theorem root_f {l : List Int} (h : parB l = true) (k : Nat) (hk : 200 < k) (x : Int) (h0 : 0 ≤ x) (h1 : x < l.length) : impl_root.f k l x = some (root l x, steps l x) := by
  rw [← l5Root_f h k hk x h0 h1]
  unfold spec_l5Root.f impl_root.f
  rw [root_l0]

/-- Each number's root. -/
def flat (l : List Int) : List Int := (List.range l.length).map fun k : Nat => root l (k : Int)
theorem flat_len (l : List Int) : (flat l).length = l.length := by simp [flat]
theorem flat_get (l : List Int) (k : Nat) (hk : k < l.length) : (flat l).getD k 0 = root l (k : Int) := by
  rw [List.getD_eq_getElem?_getD, List.getElem?_eq_getElem (by rw [flat_len]; exact hk)]
  simp [flat]
theorem flat_rd (l : List Int) (x : Int) (h0 : 0 ≤ x) (h1 : x < l.length) : rd (flat l) x = root l x := by
  rw [rd_toNat, flat_get l x.toNat (by omega), Int.toNat_of_nonneg h0]
theorem take_flat (l : List Int) (i : Nat) (hi : i < l.length) : (flat l).take (i + 1) = (flat l).take i ++ [root l (i : Int)] := by
  have : i < (flat l).length := by rw [flat_len]; exact hi
  rw [List.take_succ_eq_append_getElem this]
  congr 2
  simp [flat]
theorem implFlat_l0 {l : List Int} (h : parB l = true) (d : Nat) : ∀ (k i : Nat), i + d = l.length → d < k → 300 ≤ k - d → impl_FlatOf.l0 k l ((flat l).take i ++ List.replicate (l.length - i) 0) (l.length : Int) (i : Int) = some (flat l, true) := by
  have hl := par_len h
  induction d with
  | zero =>
    intro k i hd hk hk2
    obtain ⟨k, rfl⟩ : ∃ q, k = q + 1 := ⟨k - 1, by omega⟩
    simp only [impl_FlatOf.l0]
    rw [if_neg (by omega)]
    have : i = l.length := by omega
    subst this
    rw [Nat.sub_self, List.replicate_zero, List.append_nil, List.take_of_length_le (by rw [flat_len]; omega)]
  | succ d ih =>
    intro k i hd hk hk2
    obtain ⟨k, rfl⟩ : ∃ q, k = q + 1 := ⟨k - 1, by omega⟩
    have hw : wrap64 ((i : Int) + 1) = ((i + 1 : Nat) : Int) := by unfold wrap64; omega
    simp only [impl_FlatOf.l0]
    rw [if_pos (by omega), root_f h k (by omega) i (by omega) (by omega), Option.bind_some]
    simp only
    have hlen : ((flat l).take i).length = i := by rw [List.length_take, flat_len]; omega
    rw [if_pos (by omega), if_pos (by rw [List.length_append, hlen, List.length_replicate]; omega), hw]
    have hs : ((flat l).take i ++ List.replicate (l.length - i) 0).set (i : Int).toNat (root l (i : Int)) = (flat l).take (i + 1) ++ List.replicate (l.length - (i + 1)) 0 := by
      rw [take_flat l i (by omega)]
      rw [show l.length - i = (l.length - (i + 1)) + 1 from by omega, List.replicate_succ]
      rw [List.set_append_right _ _ (by rw [hlen]; omega), hlen]
      rw [show (i : Int).toNat - i = 0 from by omega, List.set_cons_zero, List.append_assoc]
      rfl
    rw [hs]
    exact ih k (i + 1) (by omega) (by omega) (by omega)
theorem implFlat_f (l : List Int) (k : Nat) (hk : 1000 ≤ k) (hk2 : l.length < k) (hm : l.length ≤ 9223372036854775807) : impl_FlatOf.f k l = if parB l = true then some (flat l, true) else some ([], false) := by
  unfold impl_FlatOf.f
  rw [parentsOK_f l k hk2 hm, Option.bind_some]
  by_cases h : parB l = true
  · have hl := par_len h
    rw [if_pos h, if_pos h, if_pos (by omega), if_pos (by omega)]
    have := implFlat_l0 h l.length k 0 (by omega) (by omega) (by omega)
    rw [List.take_zero, List.nil_append, Nat.sub_zero] at this
    rw [Int.toNat_natCast]
    exact this
  · rw [if_neg h, if_neg h]
theorem specFlat_l0 {l : List Int} (h : parB l = true) (d : Nat) : ∀ (k i : Nat), i + d = l.length → d < k → 300 ≤ k - d → spec_FlatOf.l0 k l ((flat l).take i) (l.length : Int) (i : Int) = some (flat l, true) := by
  have hl := par_len h
  induction d with
  | zero =>
    intro k i hd hk hk2
    obtain ⟨k, rfl⟩ : ∃ q, k = q + 1 := ⟨k - 1, by omega⟩
    simp only [spec_FlatOf.l0]
    rw [if_neg (by omega)]
    have : i = l.length := by omega
    subst this
    rw [List.take_of_length_le (by rw [flat_len]; omega)]
  | succ d ih =>
    intro k i hd hk hk2
    obtain ⟨k, rfl⟩ : ∃ q, k = q + 1 := ⟨k - 1, by omega⟩
    have hw : wrap64 ((i : Int) + 1) = ((i + 1 : Nat) : Int) := by unfold wrap64; omega
    have hlen : ((flat l).take i).length = i := by rw [List.length_take, flat_len]; omega
    simp only [spec_FlatOf.l0]
    rw [if_pos (by omega), l5Root_f h k (by omega) i (by omega) (by omega), Option.bind_some, if_pos (by omega), hw]
    simp only
    rw [← take_flat l i (by omega)]
    exact ih k (i + 1) (by omega) (by omega) (by omega)
theorem specFlat_f (l : List Int) (k : Nat) (hk : 1000 ≤ k) (hk2 : l.length < k) (hm : l.length ≤ 9223372036854775807) : spec_FlatOf.f k l = if parB l = true then some (flat l, true) else some ([], false) := by
  unfold spec_FlatOf.f
  rw [goodParents_f l k hk2 hm, Option.bind_some]
  by_cases h : parB l = true
  · rw [if_pos h, if_pos h]
    have := specFlat_l0 h l.length k 0 (by omega) (by omega) (by have := par_len h; omega)
    rwa [List.take_zero] at this
  · rw [if_neg h, if_neg h]

/-- Two trees are made one. -/
def union (l : List Int) (a b : Int) : List Int := l.set (mx (root l a) (root l b)).toNat (mn (root l a) (root l b))
def inL (l : List Int) (a : Int) : Bool := decide (0 ≤ a ∧ a ≤ (l.length : Int) - 1)
theorem inL_iff (l : List Int) (a : Int) : inL l a = true ↔ 0 ≤ a ∧ a < l.length := by simp [inL]; omega
theorem len_wrap (l : List Int) (hm : l.length ≤ 9223372036854775807) : wrap64 ((l.length : Int) - 1) = (l.length : Int) - 1 := by unfold wrap64; omega
theorem clone_f (l : List Int) (hl : l.length < 17592186044416) : slices_Clone_int_int.f l = some l := by
  simp only [slices_Clone_int_int.f, Option.bind_some, List.length_nil, Nat.zero_add, List.nil_append]
  rw [if_pos hl]
theorem own_f (l : List Int) (hl : l.length < 17592186044416) : spec_l1Own.f l = some l := by
  simp only [spec_l1Own.f, Option.bind_some, List.length_nil, Nat.zero_add, List.nil_append]
  rw [if_pos hl]
theorem most_f (a b : Int) : spec_l1Most.f a b = some (mx a b) := by
  unfold spec_l1Most.f mx
  by_cases h : a > b
  · rw [if_pos h, if_neg (by omega)]
  · by_cases e : a < b
    · rw [if_neg h, if_pos e]
    · rw [if_neg h, if_neg e]; congr 1; omega
theorem least_f (a b : Int) : spec_l1Least.f a b = some (mn a b) := by
  unfold spec_l1Least.f mn
  by_cases h : a < b
  · rw [if_pos h, if_neg (by omega)]
  · by_cases e : b < a
    · rw [if_neg h, if_pos e]
    · rw [if_neg h, if_neg e]; congr 1; omega
theorem mx_mn (a b : Int) : (mx a b = a ∧ mn a b = b ∧ b ≤ a) ∨ (mx a b = b ∧ mn a b = a ∧ a ≤ b) := by
  unfold mx mn
  by_cases h : a < b
  · rw [if_pos h, if_neg (by omega)]; omega
  · rw [if_neg h]
    by_cases e : b < a
    · rw [if_pos e]; omega
    · rw [if_neg e]; omega
theorem implUnion_f (l : List Int) (a b : Int) (k : Nat) (hk : 1000 ≤ k) (hk2 : l.length < k) (hm : l.length ≤ 9223372036854775807) :
    impl_UnionRoots.f (k + 1) l a b = if parB l = true ∧ inL l a = true ∧ inL l b = true then some (union l a b, true) else some ([], false) := by
  unfold impl_UnionRoots.f
  rw [parentsOK_f l (k + 1) (by omega) hm, Option.bind_some, within_eq, in_val, in_val, len_wrap l hm]
  by_cases h : parB l = true
  · have hl := par_len h
    rw [if_pos h, Option.bind_some]
    change (if inL l a = true then (some (inL l b)).bind _ else _) = _
    by_cases ha : inL l a = true
    · rw [if_pos ha, Option.bind_some]
      simp only [impl_UnionRoots.j0]
      by_cases hb : inL l b = true
      · rw [hb, if_neg (by decide), if_pos ⟨h, ha, rfl⟩]
        have ha' := (inL_iff l a).1 ha
        have hb' := (inL_iff l b).1 hb
        have ra := root_at h a ha'.1 ha'.2
        have rb := root_at h b hb'.1 hb'.2
        rw [root_f h k (by omega) a ha'.1 ha'.2, root_f h k (by omega) b hb'.1 hb'.2, clone_f l (by omega)]
        simp only [Option.bind_some]
        have hx := mx_mn (root l a) (root l b)
        rw [if_pos (by omega), if_pos (by omega)]
        rfl
      · rw [Bool.eq_false_iff.2 hb, if_pos (by decide), if_neg (fun x => by cases x.2.2)]
    · rw [if_neg ha, if_neg (fun x => ha x.2.1)]
      simp only [impl_UnionRoots.j0]
      rw [if_pos trivial]
  · rw [if_neg h, if_neg (fun x => h x.1)]
    simp only [impl_UnionRoots.j0]
    rw [if_pos trivial]
theorem specUnion_f (l : List Int) (a b : Int) (k : Nat) (hk : 1000 ≤ k) (hk2 : l.length < k) (hm : l.length ≤ 9223372036854775807) :
    spec_UnionRoots.f (k + 1) l a b = if parB l = true ∧ inL l a = true ∧ inL l b = true then some (union l a b, true) else some ([], false) := by
  unfold spec_UnionRoots.f
  rw [goodParents_f l (k + 1) (by omega) hm, Option.bind_some, in_val, in_val, len_wrap l hm]
  by_cases h : parB l = true
  · have hl := par_len h
    rw [if_pos h, Option.bind_some]
    change (if inL l a = true then (some (inL l b)).bind _ else _) = _
    by_cases ha : inL l a = true
    · rw [if_pos ha, Option.bind_some]
      simp only [spec_UnionRoots.j0]
      by_cases hb : inL l b = true
      · rw [hb, if_neg (by decide), if_pos ⟨h, ha, rfl⟩]
        have ha' := (inL_iff l a).1 ha
        have hb' := (inL_iff l b).1 hb
        have ra := root_at h a ha'.1 ha'.2
        have rb := root_at h b hb'.1 hb'.2
        rw [l5Root_f h k (by omega) a ha'.1 ha'.2, l5Root_f h k (by omega) b hb'.1 hb'.2, own_f l (by omega)]
        simp only [Option.bind_some, most_f, least_f]
        have hx := mx_mn (root l a) (root l b)
        rw [if_pos (by omega), if_pos (by omega)]
        rfl
      · rw [Bool.eq_false_iff.2 hb, if_pos (by decide), if_neg (fun x => by cases x.2.2)]
    · rw [if_neg ha, if_neg (fun x => ha x.2.1)]
      simp only [spec_UnionRoots.j0]
      rw [if_pos trivial]
  · rw [if_neg h, if_neg (fun x => h x.1)]
    simp only [spec_UnionRoots.j0]
    rw [if_pos trivial]

/-- A part is named otherwise. -/
def named (l : List Int) (t g : Int) : List Int := l.map fun p => if p = g then t else p
theorem named_len (l : List Int) (t g : Int) : (named l t g).length = l.length := by simp [named]
theorem named_rd (l : List Int) (t g x : Int) (h0 : 0 ≤ x) (h1 : x < l.length) : rd (named l t g) x = if rd l x = g then t else rd l x := by
  have hl : x.toNat < l.length := by omega
  rw [rd_toNat, rd_toNat, List.getD_eq_getElem?_getD, List.getD_eq_getElem?_getD, List.getElem?_eq_getElem (by rw [named_len]; exact hl), List.getElem?_eq_getElem hl]
  simp [named]
theorem take_succ' (l : List Int) (i : Nat) (hi : i < l.length) : l.take (i + 1) = l.take i ++ [rd l (i : Int)] := by
  rw [List.take_succ_eq_append_getElem hi, rd_at, List.getD_eq_getElem?_getD, List.getElem?_eq_getElem hi]; rfl
theorem drop_succ' (l : List Int) (i : Nat) (hi : i < l.length) : l.drop i = rd l (i : Int) :: l.drop (i + 1) := by
  rw [List.drop_eq_getElem_cons hi, rd_at, List.getD_eq_getElem?_getD, List.getElem?_eq_getElem hi]; rfl
theorem joinIn_l0 (l : List Int) (t g : Int) (hl : l.length ≤ 200) (d : Nat) : ∀ (k i : Nat), i + d = l.length → d < k → impl_joinIn.l0 k (named (l.take i) t g ++ l.drop i) t g (l.length : Int) (i : Int) = some ((t != g), named l t g) := by
  induction d with
  | zero =>
    intro k i hd hk
    obtain ⟨k, rfl⟩ : ∃ q, k = q + 1 := ⟨k - 1, by omega⟩
    simp only [impl_joinIn.l0]
    rw [if_neg (by omega)]
    have : i = l.length := by omega
    subst this
    rw [List.take_length, List.drop_length, List.append_nil]
  | succ d ih =>
    intro k i hd hk
    obtain ⟨k, rfl⟩ : ∃ q, k = q + 1 := ⟨k - 1, by omega⟩
    have hi : i < l.length := by omega
    have hw : wrap64 ((i : Int) + 1) = ((i + 1 : Nat) : Int) := by unfold wrap64; omega
    have hlen : (named (l.take i) t g).length = i := by rw [named_len, List.length_take]; omega
    have hget : rd (named (l.take i) t g ++ l.drop i) (i : Int) = rd l (i : Int) := by
      rw [rd_at, List.getD_eq_getElem?_getD, List.getElem?_append_right (by omega), hlen, Nat.sub_self, drop_succ' l i hi]
      rfl
    simp only [impl_joinIn.l0]
    rw [if_pos (by omega), if_pos (by omega), if_pos (by rw [List.length_append, hlen, List.length_drop]; omega), hget, hw]
    have hstep : ∀ v, v = (if rd l (i : Int) = g then t else rd l (i : Int)) → named (l.take i) t g ++ v :: l.drop (i + 1) = named (l.take (i + 1)) t g ++ l.drop (i + 1) := by
      intro v hv
      rw [take_succ' l i hi]
      simp only [named, List.map_append, List.map_cons, List.map_nil, List.append_assoc, List.singleton_append]
      rw [hv]
    by_cases e : rd l (i : Int) = g
    · rw [if_pos e]
      have : (named (l.take i) t g ++ l.drop i).set (i : Int).toNat t = named (l.take (i + 1)) t g ++ l.drop (i + 1) := by
        rw [drop_succ' l i hi, List.set_append_right _ _ (by rw [hlen]; omega), hlen, show (i : Int).toNat - i = 0 from by omega, List.set_cons_zero]
        exact hstep t (by rw [if_pos e])
      rw [this]
      exact ih k (i + 1) (by omega) (by omega)
    · rw [if_neg e]
      have : named (l.take i) t g ++ l.drop i = named (l.take (i + 1)) t g ++ l.drop (i + 1) := by
        rw [drop_succ' l i hi]
        exact hstep _ (by rw [if_neg e])
      rw [this]
      exact ih k (i + 1) (by omega) (by omega)
def join (l : List Int) (a b : Int) : List Int := named l (mn (rd l a) (rd l b)) (mx (rd l a) (rd l b))
theorem joinIn_f (l : List Int) (a b : Int) (hl : l.length ≤ 200) (k : Nat) (hk : 200 < k) (ha : inL l a = true) (hb : inL l b = true) : ∃ q, impl_joinIn.f k l a b = some (q, join l a b) := by
  have ha' := (inL_iff l a).1 ha
  have hb' := (inL_iff l b).1 hb
  unfold impl_joinIn.f
  rw [if_pos ha'.1, if_pos ha'.2, if_pos hb'.1, if_pos hb'.2]
  have := joinIn_l0 l (mn (rd l a) (rd l b)) (mx (rd l a) (rd l b)) hl l.length k 0 (by omega) (by omega)
  rw [List.take_zero, List.drop_zero] at this
  exact ⟨_, this⟩
theorem goodParts_ev (l : List Int) (d : Nat) (hm : l.length ≤ 200) : ∀ (k : Nat) (i : Int), 0 ≤ i → (l.length : Int) - i ≤ d → d < k → ∃ r, impl_GoodParts.l0 k l l (l.length : Int) i = some r := by
  induction d with
  | zero =>
    intro k i h0 hd hk
    obtain ⟨k, rfl⟩ : ∃ q, k = q + 1 := ⟨k - 1, by omega⟩
    simp only [impl_GoodParts.l0]
    rw [if_neg (by omega)]
    exact ⟨_, rfl⟩
  | succ d ih =>
    intro k i h0 hd hk
    obtain ⟨k, rfl⟩ : ∃ q, k = q + 1 := ⟨k - 1, by omega⟩
    simp only [impl_GoodParts.l0]
    by_cases hlt : i < l.length
    · have hw : wrap64 (i + 1) = i + 1 := by unfold wrap64; omega
      rw [if_pos hlt, if_pos h0, if_pos hlt, in_val, Option.bind_some, hw]
      by_cases h : 0 ≤ rd l i ∧ rd l i ≤ i
      · rw [decide_eq_true h, if_pos rfl, if_pos h.1, if_pos (by omega)]
        by_cases e : rd l (rd l i) = rd l i
        · rw [if_pos e]; exact ih k (i + 1) (by omega) (by omega) (by omega)
        · rw [if_neg e]; exact ⟨_, rfl⟩
      · rw [decide_eq_false h, if_neg (by decide)]
        exact ⟨_, rfl⟩
    · rw [if_neg hlt]
      exact ⟨_, rfl⟩
theorem goodParts_is (l : List Int) (k : Nat) (hk : 300 < k) : impl_GoodParts.f k l = some (partB l) := by
  have : ∃ r, impl_GoodParts.f k l = some r := by
    unfold impl_GoodParts.f
    by_cases h : (l.length : Int) > 200
    · rw [if_pos h]; exact ⟨_, rfl⟩
    · rw [if_neg h]
      exact goodParts_ev l l.length (by omega) k 0 (by omega) (by omega) (by omega)
  obtain ⟨r, hr⟩ := this
  rw [hr, goodParts_f l k r hr]
theorem part_par {l : List Int} (h : partB l = true) : parB l = true := by
  unfold partB at h
  exact (Bool.and_eq_true _ _ ▸ h).1
theorem joinParts_is (l : List Int) (a b : Int) (k : Nat) (hk : 400 < k) (hm : l.length ≤ 9223372036854775807) : impl_JoinParts.f (k + 1) l a b = if partB l = true ∧ inL l a = true ∧ inL l b = true then some (join l a b, true) else some ([], false) := by
  unfold impl_JoinParts.f
  rw [goodParts_is l (k + 1) (by omega), Option.bind_some, within_eq, in_val, in_val, len_wrap l hm]
  by_cases h : partB l = true
  · have hl := par_len (part_par h)
    rw [if_pos h, Option.bind_some]
    change (if inL l a = true then (some (inL l b)).bind _ else _) = _
    by_cases ha : inL l a = true
    · rw [if_pos ha, Option.bind_some]
      simp only [impl_JoinParts.j0]
      by_cases hb : inL l b = true
      · obtain ⟨q, hq⟩ := joinIn_f l a b hl k (by omega) ha hb
        rw [hb, if_neg (by decide), if_pos ⟨h, ha, rfl⟩, clone_f l (by omega)]
        simp only [Option.bind_some, hq]
      · rw [Bool.eq_false_iff.2 hb, if_pos (by decide), if_neg (fun x => by cases x.2.2)]
    · rw [if_neg ha, if_neg (fun x => ha x.2.1)]
      simp only [impl_JoinParts.j0]
      rw [if_pos trivial]
  · rw [if_neg h, if_neg (fun x => h x.1)]
    simp only [impl_JoinParts.j0]
    rw [if_pos trivial]
theorem findRoot_is (l : List Int) (a : Int) (k : Nat) (hk : 400 < k) (hk2 : l.length < k) (hm : l.length ≤ 9223372036854775807) : impl_FindRoot.f k l a = if parB l = true ∧ inL l a = true then some (root l a, steps l a, true) else some (0, 0, false) := by
  unfold impl_FindRoot.f
  rw [parentsOK_f l k hk2 hm, Option.bind_some, within_eq, in_val, len_wrap l hm]
  by_cases h : parB l = true
  · rw [if_pos h, Option.bind_some]
    change (if inL l a = true then _ else _) = _
    by_cases ha : inL l a = true
    · have ha' := (inL_iff l a).1 ha
      rw [if_pos ha, if_pos ⟨h, ha⟩, root_f h k (by omega) a ha'.1 ha'.2]
      rfl
    · rw [if_neg ha, if_neg (fun x => ha x.2)]
  · rw [if_neg h, if_neg (fun x => h x.1)]
theorem specFindRoot_is (l : List Int) (a : Int) (k : Nat) (hk : 400 < k) (hk2 : l.length < k) (hm : l.length ≤ 9223372036854775807) : spec_FindRoot.f k l a = if parB l = true ∧ inL l a = true then some (root l a, steps l a, true) else some (0, 0, false) := by
  unfold spec_FindRoot.f
  rw [goodParents_f l k hk2 hm, Option.bind_some, in_val, len_wrap l hm]
  by_cases h : parB l = true
  · rw [if_pos h, Option.bind_some]
    change (if inL l a = true then _ else _) = _
    by_cases ha : inL l a = true
    · have ha' := (inL_iff l a).1 ha
      rw [if_pos ha, if_pos ⟨h, ha⟩, l5Root_f h k (by omega) a ha'.1 ha'.2]
      rfl
    · rw [if_neg ha, if_neg (fun x => ha x.2)]
  · rw [if_neg h, if_neg (fun x => h x.1)]
theorem sameInts_l0 (l : List Int) (hm : l.length ≤ 9223372036854775807) (d : Nat) : ∀ (k : Nat) (i : Int), 0 ≤ i → (l.length : Int) - i ≤ d → d < k → laws_sameInts.l0 k l l (l.length : Int) i = some true := by
  induction d with
  | zero =>
    intro k i h0 hd hk
    obtain ⟨k, rfl⟩ : ∃ q, k = q + 1 := ⟨k - 1, by omega⟩
    simp only [laws_sameInts.l0]
    rw [if_neg (by omega)]
  | succ d ih =>
    intro k i h0 hd hk
    obtain ⟨k, rfl⟩ : ∃ q, k = q + 1 := ⟨k - 1, by omega⟩
    simp only [laws_sameInts.l0]
    by_cases hlt : i < l.length
    · have hw : wrap64 (i + 1) = i + 1 := by unfold wrap64; omega
      rw [if_pos hlt, if_pos h0, if_pos hlt, if_pos hlt, if_pos trivial, hw]
      exact ih k (i + 1) (by omega) (by omega) (by omega)
    · rw [if_neg hlt]
theorem sameInts_is (l : List Int) (k : Nat) (hk : l.length < k) (hm : l.length ≤ 9223372036854775807) : laws_sameInts.f k l l = some true := by
  unfold laws_sameInts.f
  rw [if_pos rfl]
  exact sameInts_l0 l hm l.length k 0 (by omega) (by omega) (by omega)

/-! ### the union, and what it means for the roots -/
theorem set_rd (l : List Int) (i v x : Int) (h0 : 0 ≤ i) (h1 : i < l.length) (hx : 0 ≤ x) (hx1 : x < l.length) : rd (l.set i.toNat v) x = if x = i then v else rd l x := by
  rw [rd_toNat, rd_toNat, List.getD_eq_getElem?_getD, List.getD_eq_getElem?_getD, List.getElem?_set]
  by_cases e : x = i
  · subst e
    rw [if_pos rfl, if_pos (by omega), if_pos rfl]; rfl
  · rw [if_neg (by omega), if_neg e]
theorem union_len {l : List Int} {a b : Int} (_ : parB l = true) (_ : inL l a = true) (_ : inL l b = true) : (union l a b).length = l.length := by simp [union]
theorem flat_part {l : List Int} {a b : Int} (h : parB l = true) (_ : inL l a = true) (_ : inL l b = true) : partB (flat l) = true := by
  rw [partB_iff, flat_len]
  refine ⟨par_len h, fun k hk => ?_⟩
  have r := root_at h k (by omega) (by omega)
  rw [flat_get l k hk, flat_rd l (root l k) r.2.1 (by omega), (root_stay (root l k) r.1).1]
  omega
section
variable {l : List Int} {a b : Int} (h : parB l = true) (ha : inL l a = true) (hb : inL l b = true)
include h ha hb
theorem union_facts : ∃ hi lo : Int, mx (root l a) (root l b) = hi ∧ mn (root l a) (root l b) = lo ∧ 0 ≤ lo ∧ lo ≤ hi ∧ hi < l.length ∧ rd l hi = hi ∧ rd l lo = lo ∧ ((root l a = hi ∧ root l b = lo) ∨ (root l a = lo ∧ root l b = hi)) := by
  have ha' := (inL_iff l a).1 ha
  have hb' := (inL_iff l b).1 hb
  have ra := root_at h a ha'.1 ha'.2
  have rb := root_at h b hb'.1 hb'.2
  rcases mx_mn (root l a) (root l b) with ⟨e1, e2, e3⟩ | ⟨e1, e2, e3⟩
  · exact ⟨root l a, root l b, e1, e2, rb.2.1, e3, by omega, ra.1, rb.1, .inl ⟨rfl, rfl⟩⟩
  · exact ⟨root l b, root l a, e1, e2, ra.2.1, e3, by omega, rb.1, ra.1, .inr ⟨rfl, rfl⟩⟩
theorem union_par : parB (union l a b) = true := by
  obtain ⟨hi, lo, e1, e2, p1, p2, p3, r1, r2, _⟩ := union_facts h ha hb
  rw [parB_iff]
  refine ⟨by rw [union_len h ha hb]; exact par_len h, fun k hk => ?_⟩
  rw [union_len h ha hb] at hk
  have e : (union l a b).getD k 0 = rd (union l a b) (k : Int) := (rd_at _ _).symm
  rw [e, union, e1, e2, set_rd l hi lo k (by omega) p3 (by omega) (by omega)]
  have := par_at h k (by omega) (by omega)
  by_cases q : (k : Int) = hi
  · rw [if_pos q]; omega
  · rw [if_neg q]; omega
theorem union_root (d : Nat) : ∀ x : Int, x.toNat ≤ d → 0 ≤ x → x < l.length → root (union l a b) x = if root l x = mx (root l a) (root l b) then mn (root l a) (root l b) else root l x := by
  obtain ⟨hi, lo, e1, e2, p1, p2, p3, r1, r2, _⟩ := union_facts h ha hb
  have hu := union_par h ha hb
  have hlen := union_len h ha hb
  have hrd : ∀ x : Int, 0 ≤ x → x < l.length → rd (union l a b) x = if x = hi then lo else rd l x := fun x h0 h1 => by
    rw [union, e1, e2]; exact set_rd l hi lo x (by omega) p3 h0 h1
  rw [e1, e2]
  have base : ∀ x : Int, 0 ≤ x → x < l.length → rd l x = x → (x = hi → lo = hi) → root (union l a b) x = if root l x = hi then lo else root l x := by
    intro x h0 h1 hx hxh
    rw [(root_stay x hx).1]
    have : rd (union l a b) x = x := by
      rw [hrd x h0 h1]
      by_cases q : x = hi
      · rw [if_pos q]; rw [q]; exact hxh q
      · rw [if_neg q]; exact hx
    rw [(root_stay x this).1]
    by_cases q : x = hi
    · rw [if_pos q, q]; exact (hxh q).symm
    · rw [if_neg q]
  induction d with
  | zero =>
    intro x hx h0 h1
    have hz : x = 0 := by omega
    have := par_at h x h0 h1
    exact base x h0 h1 (by omega) (fun q => by omega)
  | succ d ih =>
    intro x hx h0 h1
    have hp := par_at h x h0 h1
    by_cases q : x = hi
    · by_cases q2 : lo = hi
      · exact base x h0 h1 (by rw [q]; exact r1) (fun _ => q2)
      · have hn : rd (union l a b) x ≠ x := by rw [hrd x h0 h1, if_pos q, q]; exact q2
        rw [(root_step hu x h0 (by rw [hlen]; exact h1) hn).1, hrd x h0 h1, if_pos q, ih lo (by omega) p1 (by omega), (root_stay lo r2).1, if_neg q2, q, (root_stay hi r1).1, if_pos rfl]
    · by_cases hs : rd l x = x
      · exact base x h0 h1 hs (fun e => absurd e q)
      · have hn : rd (union l a b) x ≠ x := by rw [hrd x h0 h1, if_neg q]; exact hs
        rw [(root_step hu x h0 (by rw [hlen]; exact h1) hn).1, hrd x h0 h1, if_neg q, ih (rd l x) (by omega) (by omega) (by omega), (root_step h x h0 h1 hs).1]
theorem flat_union : flat (union l a b) = join (flat l) a b := by
  have ha' := (inL_iff l a).1 ha
  have hb' := (inL_iff l b).1 hb
  unfold join
  rw [flat_rd l a ha'.1 ha'.2, flat_rd l b hb'.1 hb'.2]
  unfold flat named
  rw [union_len h ha hb, List.map_map]
  apply List.map_congr_left
  intro k hk
  rw [List.mem_range] at hk
  rw [union_root h ha hb k k (by omega) (by omega) (by omega)]
  rfl
theorem same_root : root (union l a b) a = root (union l a b) b := by
  have ha' := (inL_iff l a).1 ha
  have hb' := (inL_iff l b).1 hb
  rw [union_root h ha hb a.toNat a (by omega) ha'.1 ha'.2, union_root h ha hb b.toNat b (by omega) hb'.1 hb'.2]
  obtain ⟨hi, lo, e1, e2, _, _, _, _, _, hc⟩ := union_facts h ha hb
  rw [e1, e2]
  rcases hc with ⟨c1, c2⟩ | ⟨c1, c2⟩
  · rw [c1, c2, if_pos rfl]
    by_cases q : lo = hi
    · rw [if_pos q]
    · rw [if_neg q]
  · rw [c1, c2, if_pos rfl]
    by_cases q : lo = hi
    · rw [if_pos q]
    · rw [if_neg q]
end
end Go.Proofs.Ytceeocgpcagkjaa.PA
