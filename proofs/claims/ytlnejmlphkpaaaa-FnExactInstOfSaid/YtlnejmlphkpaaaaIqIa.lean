/- The graph seat: terms as trees, in plain words: the text of a tree, the trees of a text, and the reference's walk over positions. -/
import Derived.Test.YtlnejmlphkpaaaaIqIt
import Derived.Test.YtlnejmlphkpaaaaIqGb
namespace Go.Proofs.Ytlnejmlphkpaaaa.PA
open Go.RowKit Go.Proofs.YtlnejmlphkpaaaaW.PrintWords Go.Proofs.YtlnejmlphkpaaaaW.PrintLast Go.Proofs.YtlnejmlphkpaaaaW.PrintMore
set_option linter.unusedVariables false
inductive Tm where
 | node (op n : Int) (kids : List Tm)
mutual
def Tm.post : Tm → List S125
 | .node op n ks => postL ks ++ [⟨op, n⟩]
def postL : List Tm → List S125
 | [] => []
 | t :: r => t.post ++ postL r
end
mutual
def Tm.wf : Tm → Prop
 | .node op n ks => numI op n = true ∧ (ks.length : Int) = arI op ∧ wfL ks
def wfL : List Tm → Prop
 | [] => True
 | t :: r => t.wf ∧ wfL r
end
theorem postL_app : ∀ a b : List Tm, postL (a ++ b) = postL a ++ postL b
 | [], b => by simp [postL]
 | t :: r, b => by simp only [List.cons_append, postL, postL_app r b, List.append_assoc]
theorem wfL_app : ∀ a b : List Tm, wfL (a ++ b) ↔ wfL a ∧ wfL b
 | [], b => by simp [wfL]
 | t :: r, b => by simp only [List.cons_append, wfL, wfL_app r b, and_assoc]
theorem wfL_mem : ∀ l : List Tm, wfL l ↔ ∀ t ∈ l, t.wf
 | [] => by simp [wfL]
 | t :: r => by simp only [wfL, wfL_mem r, List.forall_mem_cons]
theorem post_pos (t : Tm) : 0 < t.post.length := by
 cases t with
 | node op n ks => rw [Tm.post]; simp
def stepT (pile : List Tm) (x : S125) : Option (List Tm) :=
 if numI x.f0 x.f1 = true ∧ arI x.f0 ≤ (pile.length : Int) then some (pile.take (pile.length - (arI x.f0).toNat) ++ [.node x.f0 x.f1 (pile.drop (pile.length - (arI x.f0).toNat))]) else none
def runT : List Tm → List S125 → Option (List Tm)
 | p, [] => some p
 | p, x :: r => (stepT p x).bind fun q => runT q r
theorem arI_pos (op : Int) : 0 ≤ arI op ∧ arI op ≤ 3 := by
 unfold arI
 split
 ·omega
 ·split
  ·omega
  ·split <;> omega
theorem stepT_post {p q : List Tm} {x : S125} (h : stepT p x = some q) : postL q = postL p ++ [x] ∧ (wfL p → wfL q) ∧ (q.length : Int) = (p.length : Int) - arI x.f0 + 1 := by
 unfold stepT at h
 split at h
 ·rename_i hc
  have ha := arI_pos x.f0
  obtain rfl := Option.some.inj h
  refine ⟨?_, fun hw => ?_, ?_⟩
  ·rw [postL_app]
   simp only [postL, Tm.post, List.append_nil]
   rw [← List.append_assoc, ← postL_app, List.take_append_drop]
  ·rw [← List.take_append_drop (p.length - (arI x.f0).toNat) p, wfL_app] at hw
   rw [wfL_app]
   refine ⟨hw.1, ⟨hc.1, ?_, hw.2⟩, trivial⟩
   rw [List.length_drop]
   omega
  ·rw [List.length_append, List.length_take, List.length_singleton]
   omega
 ·cases h
theorem runT_post : ∀ (r : List S125) (p q : List Tm), runT p r = some q → postL q = postL p ++ r ∧ (wfL p → wfL q)
 | [], p, q, h => by
  obtain rfl := Option.some.inj h
  exact ⟨by simp, fun h => h⟩
 | x :: r, p, q, h => by
  simp only [runT, Option.bind_eq_some_iff] at h
  obtain ⟨p2, h1, h2⟩ := h
  have s := stepT_post h1
  have ih := runT_post r p2 q h2
  exact ⟨by rw [ih.1, s.1, List.append_assoc]; rfl, fun hw => ih.2 (s.2.1 hw)⟩
theorem runT_app : ∀ (a b : List S125) (p : List Tm), runT p (a ++ b) = (runT p a).bind fun q => runT q b
 | [], b, p => rfl
 | x :: r, b, p => by
  simp only [List.cons_append, runT]
  cases stepT p x with
  | none => rfl
  | some q => exact runT_app r b q
def treeT (t : List S125) : Option Tm := if 1 ≤ t.length ∧ t.length ≤ 40 then (match runT [] t with | some [T] => some T | _ => none) else none
theorem treeT_some {t : List S125} {T : Tm} (h : treeT t = some T) : t = T.post ∧ T.wf ∧ 1 ≤ t.length ∧ t.length ≤ 40 := by
 unfold treeT at h
 split at h
 ·rename_i hl
  cases hr : runT [] t with
  | none => rw [hr] at h; cases h
  | some q =>
   rw [hr] at h
   match q, h with
   | [T'], h =>
    obtain rfl := Option.some.inj h
    have := runT_post t [] [T'] hr
    have h1 := this.1
    have h2 := this.2 trivial
    simp only [postL, List.append_nil, List.nil_append] at h1
    exact ⟨h1.symm, h2.1, hl⟩
 ·cases h
theorem arE_num (op n : Int) : (0 ≤ arE op ∧ ¬ (op = 2 ∧ (n < 0 ∨ n ≥ 4)) ∧ ¬ (arE op > 0 ∧ n ≠ 0)) ↔ numI op n = true := by
 unfold numI arE within
 by_cases h1 : op = 1
 ·subst h1; simp
 ·by_cases h2 : op = 2
  ·subst h2; simp; omega
  ·simp only [h1, h2, if_false, or_self, false_and, not_false_eq_true, true_and]
   by_cases h3 : op = 3
   ·subst h3; simp
   ·by_cases h4 : op = 11
    ·subst h4; simp
    ·simp only [h3, h4, if_false]
     by_cases h5 : 4 ≤ op ∧ op ≤ 10
     ·rw [if_pos (by simp; omega)]
      simp; omega
     ·rw [if_neg (by simp; omega)]
      simp; omega
theorem arE_arI {op n : Int} (h : numI op n = true) : arE op = arI op := by
 have h' := (arE_num op n).2 h
 unfold arE arI at *
 by_cases h1 : op = 1 ∨ op = 2
 ·simp only [h1, if_true]
 ·simp only [h1, if_false] at *
  by_cases h3 : op = 3
  ·simp only [h3, if_true]
  ·simp only [h3, if_false] at *
   by_cases h4 : op = 11
   ·simp only [h4, if_true]
   ·simp only [h4, if_false] at *
    split
    ·rfl
    ·rename_i h5
     rw [if_neg h5] at h'
     omega
theorem ask_ite {α : Type} (f0 f1 a x : Int) (g s : α) : (if a < 0 then s else (if x < a then s else (if f0 = 2 then (if f1 < 0 then s else (if f1 ≥ 4 then s else (if a > 0 then (if f1 = 0 then g else s) else g))) else (if a > 0 then (if f1 = 0 then g else s) else g)))) = if (0 ≤ a ∧ a ≤ x) ∧ ¬ (f0 = 2 ∧ (f1 < 0 ∨ f1 ≥ 4)) ∧ ¬ (a > 0 ∧ f1 ≠ 0) then g else s := by
 repeat' split
 all_goals first | rfl | (exfalso; omega)
theorem ask_iff (f0 f1 x : Int) : ((0 ≤ arE f0 ∧ arE f0 ≤ x) ∧ ¬ (f0 = 2 ∧ (f1 < 0 ∨ f1 ≥ 4)) ∧ ¬ (arE f0 > 0 ∧ f1 ≠ 0)) ↔ (numI f0 f1 = true ∧ arI f0 ≤ x) := by
 have h := arE_num f0 f1
 constructor
 ·rintro ⟨⟨h1, h2⟩, h3, h4⟩
  have h5 := h.1 ⟨h1, h3, h4⟩
  exact ⟨h5, by rw [← arE_arI h5]; exact h2⟩
 ·rintro ⟨h1, h2⟩
  have h3 := h.2 h1
  rw [← arE_arI h1] at h2
  exact ⟨⟨h3.1, h2⟩, h3.2⟩
theorem arE_ev (op : Int) : Ev (fun k => spec_l1Arity.f k op) (arE op) := Ev.step (f := fun _ => some (arE op)) (fun k => arE_j k op) (Ev.now _)
def oneB : Option (List Tm) → Bool
 | some [_] => true
 | _ => false
theorem goodTerm_l0 (t : List S125) (ht : t.length ≤ 40) : ∀ (d i : Nat) (p : List Tm), t.length - i = d → i ≤ t.length → p.length ≤ i → Ev (fun k => spec_GoodTerm.l0 k (p.length : Int) t (t.length : Int) (i : Int)) (oneB (runT p (t.drop i)))
 | 0, i, p, hd, hi, hp => by
  obtain rfl : i = t.length := by omega
  rw [List.drop_length]
  have e : ((p.length : Int) == 1) = oneB (runT p []) := by
   match p with
   | [] => rfl
   | [_] => rfl
   | _ :: _ :: r => simp [runT, oneB]; omega
  rw [← e]
  refine Ev.step (f := fun _ => some ((p.length : Int) == 1)) (fun k => ?_) (Ev.now _)
  simp only [spec_GoodTerm.l0]
  rw [if_neg (by omega)]
 | d + 1, i, p, hd, hi, hp => by
  have h : i < t.length := by omega
  have e : t.drop i = t[i] :: t.drop (i + 1) := List.drop_eq_getElem_cons h
  have er : rd_T125 t (i : Int) = t[i] := by simp [rd_T125, List.getD_eq_getElem?_getD, List.getElem?_eq_getElem h]
  rw [e, runT]
  have key : Ev (fun k => if (0 ≤ arE t[i].f0 ∧ arE t[i].f0 ≤ (p.length : Int)) ∧ ¬ (t[i].f0 = 2 ∧ (t[i].f1 < 0 ∨ t[i].f1 ≥ 4)) ∧ ¬ (arE t[i].f0 > 0 ∧ t[i].f1 ≠ 0) then spec_GoodTerm.l0 k (wrap64 ((p.length : Int) + wrap64 (1 - arE t[i].f0))) t (t.length : Int) (wrap64 ((i : Int) + 1)) else some false) (oneB ((stepT p t[i]).bind fun q => runT q (t.drop (i + 1)))) := by
   by_cases hc : numI t[i].f0 t[i].f1 = true ∧ arI t[i].f0 ≤ (p.length : Int)
   ·obtain ⟨q, hq⟩ : ∃ q, stepT p t[i] = some q := ⟨_, by rw [stepT, if_pos hc]⟩
    have hs := stepT_post hq
    have ha := arI_pos t[i].f0
    have ih := goodTerm_l0 t ht d (i + 1) q (by omega) (by omega) (by have := hs.2.2; omega)
    rw [hq, Option.bind_some]
    refine Ev.congr (fun k => ?_) ih
    rw [if_pos ((ask_iff _ _ _).2 hc), arE_arI hc.1, wnext i t.length h (by omega)]
    rw [show wrap64 ((p.length : Int) + wrap64 (1 - arI t[i].f0)) = (q.length : Int) by have := hs.2.2; unfold wrap64; omega]
   ·rw [stepT, if_neg hc]
    exact Ev.congr (fun k => if_neg (fun h => hc ((ask_iff _ _ _).1 h))) (Ev.now _)
  refine Ev.step (f := fun k => (spec_l1Arity.f k t[i].f0).bind fun a => if (0 ≤ a ∧ a ≤ (p.length : Int)) ∧ ¬ (t[i].f0 = 2 ∧ (t[i].f1 < 0 ∨ t[i].f1 ≥ 4)) ∧ ¬ (a > 0 ∧ t[i].f1 ≠ 0) then spec_GoodTerm.l0 k (wrap64 ((p.length : Int) + wrap64 (1 - a))) t (t.length : Int) (wrap64 ((i : Int) + 1)) else some false) (fun k => ?_) (Ev.bind (arE_ev _) key)
  simp only [spec_GoodTerm.l0]
  rw [if_pos (by omega), if_pos (by omega), if_pos (by omega), er]
  congr 1
  funext a
  exact ask_ite _ _ _ _ _ _
theorem goodTerm_f (t : List S125) : Ev (fun k => spec_GoodTerm.f k t) (treeT t).isSome := by
 by_cases hl : 1 ≤ t.length ∧ t.length ≤ 40
 ·have h := goodTerm_l0 t hl.2 t.length 0 [] (Nat.sub_zero _) (Nat.zero_le _) (Nat.le_refl _)
  rw [List.drop_zero] at h
  have e : (treeT t).isSome = oneB (runT [] t) := by
   rw [treeT, if_pos hl]
   cases runT [] t with
   | none => rfl
   | some q =>
    match q with
    | [] => rfl
    | [_] => rfl
    | _ :: _ :: _ => rfl
  rw [e]
  refine Ev.congr (fun k => ?_) h
  unfold spec_GoodTerm.f
  rw [l1In_f, within, decide_eq_true (by omega), decide_eq_true (by omega)]
  rfl
 ·rw [treeT, if_neg hl]
  refine Ev.congr (fun k => ?_) (Ev.now _)
  unfold spec_GoodTerm.f
  have hw : within (t.length : Int) 1 40 = false := by
   unfold within
   by_cases h1 : 1 ≤ t.length
   ·rw [decide_eq_false (show ¬ (t.length : Int) ≤ 40 by omega), Bool.and_false]
   ·rw [decide_eq_false (show ¬ (1 : Int) ≤ (t.length : Int) by omega), Bool.false_and]
  rw [l1In_f, hw]
  rfl
theorem rd125_at (u v : List S125) (x : S125) : rd_T125 (u ++ x :: v) (u.length : Int) = x := by
 simp [rd_T125, List.getD_eq_getElem?_getD]
def rootsAt : Nat → List Tm → List Int
 | _, [] => []
 | o, T :: r => (((o + T.post.length : Nat) : Int) - 1) :: rootsAt (o + T.post.length) r
theorem post_take (ks : List Tm) (j : Nat) (h : j < ks.length) : (postL (ks.take (j + 1))).length = (postL (ks.take j)).length + ks[j].post.length := by
 rw [List.take_succ_eq_append_getElem h, postL_app, List.length_append]
 simp [postL]
theorem split_kid (u w : List S125) (ks : List Tm) (j : Nat) (h : j < ks.length) : u ++ postL ks ++ w = (u ++ postL (ks.take j)) ++ ks[j].post ++ (postL (ks.drop (j + 1)) ++ w) := by
 have e : ks = ks.take j ++ ks[j] :: ks.drop (j + 1) := by rw [← List.drop_eq_getElem_cons h, List.take_append_drop]
 conv => lhs; rw [e]
 rw [postL_app]
 simp only [postL, List.append_assoc]
theorem from_kids (t u w : List S125) (ks : List Tm) (ht : t = u ++ postL ks ++ w) (hl : t.length ≤ 40) (hk3 : ks.length ≤ 40) (hf : ∀ T ∈ ks, ∀ u' v', t = u' ++ T.post ++ v' → Ev (fun k => spec_l2From.f k t ((u'.length + T.post.length : Nat) - 1 : Int)) (u'.length : Int)) :
  ∀ j, j ≤ ks.length → Ev (fun k => spec_l2From.l0 k t ((u.length + (postL (ks.take j)).length : Nat) : Int) (j : Int)) (u.length : Int)
 | 0, hj => by
  refine Ev.step (f := fun _ => some (u.length : Int)) (fun k => ?_) (Ev.now _)
  simp only [spec_l2From.l0]
  rw [if_neg (by omega)]
  simp [postL]
 | j + 1, hj => by
  have h : j < ks.length := by omega
  have e := split_kid u w ks j h
  have h1 := hf ks[j] (List.getElem_mem h) _ _ (ht.trans e)
  have h2 := from_kids t u w ks ht hl hk3 hf j (by omega)
  have hp := post_take ks j h
  have hlen : t.length = u.length + (postL (ks.take j)).length + ks[j].post.length + (postL (ks.drop (j + 1)) ++ w).length := by rw [ht, e]; simp only [List.length_append]
  rw [List.length_append] at h1
  refine Ev.step (f := fun k => (spec_l2From.f k t ((u.length + (postL (ks.take j)).length + ks[j].post.length : Nat) - 1 : Int)).bind fun r => spec_l2From.l0 k t r (j : Int)) (fun k => ?_) (Ev.bind h1 h2)
  simp only [spec_l2From.l0]
  rw [if_pos (by omega), hp]
  rw [show wrap64 (((u.length + ((postL (ks.take j)).length + ks[j].post.length) : Nat) : Int) - 1) = ((u.length + (postL (ks.take j)).length + ks[j].post.length : Nat) : Int) - 1 by unfold wrap64; omega, show wrap64 (((j + 1 : Nat) : Int) - 1) = (j : Int) by unfold wrap64; omega]
theorem kid_le (ks : List Tm) (T : Tm) (h : T ∈ ks) : T.post.length ≤ (postL ks).length := by
 obtain ⟨j, hj, rfl⟩ := List.getElem_of_mem h
 have e := split_kid [] [] ks j hj
 simp only [List.nil_append, List.append_nil] at e
 rw [e]
 simp only [List.length_append]
 omega
theorem from_ev (t : List S125) (hl : t.length ≤ 40) : ∀ (d : Nat) (T : Tm), T.post.length ≤ d → T.wf → ∀ u v, t = u ++ T.post ++ v → Ev (fun k => spec_l2From.f k t ((u.length + T.post.length : Nat) - 1 : Int)) (u.length : Int)
 | 0, T, hd, hw, u, v, ht => by have := post_pos T; omega
 | d + 1, .node op n ks, hd, hw, u, v, ht => by
  rw [Tm.post] at ht hd ⊢
  rw [Tm.wf] at hw
  simp only [List.length_append, List.length_singleton] at hd ⊢
  have ht2 : t = u ++ postL ks ++ (⟨op, n⟩ :: v) := by rw [ht]; simp only [List.append_assoc, List.singleton_append]
  have hlen : t.length = u.length + (postL ks).length + (v.length + 1) := by rw [ht2]; simp only [List.length_append, List.length_cons]
  have hk := from_kids t u (⟨op, n⟩ :: v) ks ht2 hl (by have := arI_pos op; have := hw.2.1; omega) (fun T hT u' v' e => from_ev t hl d T (by have := kid_le ks T hT; omega) ((wfL_mem ks).1 hw.2.2 T hT) u' v' e) ks.length (Nat.le_refl _)
  rw [List.take_length] at hk
  have hr : rd_T125 t ((u.length + (postL ks).length : Nat) : Int) = ⟨op, n⟩ := by
   rw [ht2, ← List.length_append]
   exact rd125_at (u ++ postL ks) v ⟨op, n⟩
  have ha : arE op = (ks.length : Int) := (arE_arI hw.1).trans hw.2.1.symm
  refine Ev.step (f := fun k => (spec_l1Arity.f k op).bind fun a => spec_l2From.l0 k t ((u.length + (postL ks).length : Nat) : Int) a) (fun k => ?_) (Ev.bind (arE_ev op) (by rw [ha]; exact hk))
  have e1 : (((u.length + ((postL ks).length + 1) : Nat) : Int) - 1) = ((u.length + (postL ks).length : Nat) : Int) := by omega
  rw [e1]
  simp only [spec_l2From.f]
  rw [if_pos (by omega), if_pos (by omega), hr]
theorem rootsAt_drop (o : Nat) (ks : List Tm) (j : Nat) (h : j < ks.length) : rootsAt o (ks.drop j) = (((o + ks[j].post.length : Nat) : Int) - 1) :: rootsAt (o + ks[j].post.length) (ks.drop (j + 1)) := by
 rw [List.drop_eq_getElem_cons h, rootsAt]
theorem rootsAt_len : ∀ (ks : List Tm) (o : Nat), (rootsAt o ks).length = ks.length
 | [], _ => rfl
 | T :: r, o => by rw [rootsAt, List.length_cons, List.length_cons, rootsAt_len r]
theorem parts_kids (t u w : List S125) (ks : List Tm) (ht : t = u ++ postL ks ++ w) (hl : t.length ≤ 40) (hw : wfL ks) (hk : ks.length ≤ 40) :
  ∀ j, j ≤ ks.length → Ev (fun k => spec_l2Parts.l0 k t (rootsAt (u.length + (postL (ks.take j)).length) (ks.drop j)) (((u.length + (postL (ks.take j)).length : Nat) : Int) - 1) (j : Int)) (rootsAt u.length ks)
 | 0, hj => by
  refine Ev.step (f := fun _ => some (rootsAt u.length ks)) (fun k => ?_) (Ev.now _)
  simp only [spec_l2Parts.l0]
  rw [if_neg (by omega)]
  simp [postL]
 | j + 1, hj => by
  have h : j < ks.length := by omega
  have e := split_kid u w ks j h
  have h1 := from_ev t hl _ ks[j] (Nat.le_refl _) ((wfL_mem ks).1 hw _ (List.getElem_mem h)) _ _ (ht.trans e)
  have h2 := parts_kids t u w ks ht hl hw hk j (by omega)
  have hp := post_take ks j h
  have hlen : t.length = u.length + (postL (ks.take j)).length + ks[j].post.length + (postL (ks.drop (j + 1)) ++ w).length := by rw [ht, e]; simp only [List.length_append]
  rw [List.length_append] at h1
  have hx : (((u.length + (postL (ks.take (j + 1))).length : Nat) : Int) - 1) = ((u.length + (postL (ks.take j)).length + ks[j].post.length : Nat) : Int) - 1 := by rw [hp]; omega
  rw [rootsAt_drop _ _ _ h] at h2
  have hy : u.length + (postL (ks.take (j + 1))).length = u.length + (postL (ks.take j)).length + ks[j].post.length := by rw [hp]; omega
  refine Ev.step (f := fun k => (spec_l2From.f k t (((u.length + (postL (ks.take j)).length + ks[j].post.length : Nat) : Int) - 1)).bind fun r => spec_l2Parts.l0 k t ((((u.length + (postL (ks.take j)).length + ks[j].post.length : Nat) : Int) - 1) :: rootsAt (u.length + (postL (ks.take j)).length + ks[j].post.length) (ks.drop (j + 1))) (wrap64 (r - 1)) (j : Int)) (fun k => ?_) (Ev.bind h1 (Ev.congr (fun k => ?_) h2))
  ·simp only [spec_l2Parts.l0]
   rw [if_pos (by omega), Option.bind_some, if_pos (by rw [rootsAt_len, List.length_drop, List.length_singleton]; omega), hx, hy, show wrap64 (((j + 1 : Nat) : Int) - 1) = (j : Int) by unfold wrap64; omega]
   rfl
  ·rw [show wrap64 (((u.length + (postL (ks.take j)).length : Nat) : Int) - 1) = ((u.length + (postL (ks.take j)).length : Nat) : Int) - 1 by unfold wrap64; omega]
theorem parts_ev (t u v : List S125) (op n : Int) (ks : List Tm) (ht : t = u ++ (Tm.node op n ks).post ++ v) (hl : t.length ≤ 40) (hw : (Tm.node op n ks).wf) : Ev (fun k => spec_l2Parts.f k t ((u.length + (postL ks).length : Nat) : Int)) (rootsAt u.length ks) := by
 rw [Tm.post] at ht
 rw [Tm.wf] at hw
 have ht2 : t = u ++ postL ks ++ (⟨op, n⟩ :: v) := by rw [ht]; simp only [List.append_assoc, List.singleton_append]
 have hlen : t.length = u.length + (postL ks).length + (v.length + 1) := by rw [ht2]; simp only [List.length_append, List.length_cons]
 have hr : rd_T125 t ((u.length + (postL ks).length : Nat) : Int) = ⟨op, n⟩ := by
  rw [ht2, ← List.length_append]
  exact rd125_at (u ++ postL ks) v ⟨op, n⟩
 have ha : arE op = (ks.length : Int) := (arE_arI hw.1).trans hw.2.1.symm
 have hk3 : ks.length ≤ 40 := by have := arI_pos op; omega
 have hk := parts_kids t u (⟨op, n⟩ :: v) ks ht2 hl hw.2.2 hk3 ks.length (Nat.le_refl _)
 rw [List.take_length, List.drop_length, rootsAt] at hk
 refine Ev.congr (f := fun k => (spec_l1Arity.f k op).bind fun a => spec_l2Parts.l0 k t [] (((u.length + (postL ks).length : Nat) : Int) - 1) a) (fun k => ?_) (Ev.bind (arE_ev op) (by rw [ha]; exact hk))
 unfold spec_l2Parts.f
 rw [if_pos (by omega), if_pos (by omega), hr, show wrap64 (((u.length + (postL ks).length : Nat) : Int) - 1) = ((u.length + (postL ks).length : Nat) : Int) - 1 by unfold wrap64; omega]
end Go.Proofs.Ytlnejmlphkpaaaa.PA
