/- The graph seat: the reference's questions of a pattern and a bind, in plain words. -/
import Derived.Test.YtlnejmlphkpaaaaIqJb
import Derived.Test.YtlnejmlphkpaaaaIqIk
namespace Go.Proofs.Ytlnejmlphkpaaaa.PA
open Go.RowKit Go.Proofs.YtlnejmlphkpaaaaW.PrintWords Go.Proofs.YtlnejmlphkpaaaaW.PrintLast Go.Proofs.YtlnejmlphkpaaaaW.PrintMore
set_option linter.unusedVariables false
set_option linter.unusedSimpArgs false
def patB (t : List S125) : Bool := (treeT t).isSome && decide (t.length ≤ 7)
theorem pat_calls {A : Option Addr} {c : Nat} {t : List S125} (w : World) (h : Kd.C k125 w A t.length t) (l : t.length ≤ c) :
  Calls Try.prog 110 #[.slice A t.length c] w fun e w' => e = .returned (.bool (patB t)) ∧ Below w.heap.size w w' := by
 have he : Ev (fun k => spec_GoodPattern.f k t) (patB t) := by
  refine Ev.congr (f := fun k => (spec_GoodTerm.f k t).bind fun a => if a = true then some (decide ((t.length : Int) ≤ 7)) else some false) (fun k => by rfl) (Ev.bind (goodTerm_f t) ?_)
  unfold patB
  cases (treeT t).isSome with
  | true =>
   simp only [if_true, Bool.true_and]
   rw [show decide ((t.length : Int) ≤ 7) = decide (t.length ≤ 7) by congr 1; exact propext ⟨fun h => by omega, fun h => by omega⟩]
   exact Ev.now _
  | false =>
   rw [if_neg (by simp), Bool.false_and]
   exact Ev.now _
 obtain ⟨k, hk⟩ := Ev.rounds he
 exact spec_GoodPattern.calls k A c t _ w h l hk
theorem l7Class_f {nodes : List S36} {parts : List Int} (hl : parts.length = nodes.length) (hm : nodes.length ≤ 1000) (x : Int) : spec_l7Class.f nodes parts x = some (clsB (nodes, parts) x) := by
 unfold spec_l7Class.f clsB
 rw [l1In_f, Option.bind_some, show wrap64 ((nodes.length : Int) - 1) = (nodes.length : Int) - 1 by unfold wrap64; omega]
 by_cases h : within x 0 ((nodes.length : Int) - 1) = true
 ·have h' := h
  simp only [within, Bool.and_eq_true, decide_eq_true_eq] at h'
  rw [if_pos h, if_pos (by omega), if_pos (by omega), h, Bool.true_and]
 ·rw [if_neg h, Bool.not_eq_true] at *
  rw [h, Bool.false_and]
theorem bind_l0 {nodes : List S36} {parts : List Int} (hl : parts.length = nodes.length) (hm : nodes.length ≤ 1000) (b : List Int) (hb : b.length ≤ 1000) : ∀ (d i : Nat), b.length - i = d → i ≤ b.length → Ev (fun k => spec_l7Bind.l0 k b (b.length : Int) (i : Int) nodes parts) ((b.drop i).all (askB (nodes, parts)))
 | 0, i, hd, hi => by
  obtain rfl : i = b.length := by omega
  refine Ev.step (f := fun _ => some true) (fun k => ?_) (by rw [List.drop_length]; exact Ev.now _)
  simp only [spec_l7Bind.l0]
  rw [if_neg (by omega)]
 | d + 1, i, hd, hi => by
  have h : i < b.length := by omega
  have ih := bind_l0 hl hm b hb d (i + 1) (by omega) (by omega)
  rw [List.drop_eq_getElem_cons h, List.all_cons]
  have er : rd b (i : Int) = b[i] := rd_at b i h
  by_cases h1 : b[i] = -1
  ·have e : askB (nodes, parts) b[i] = true := by rw [h1]; rfl
   rw [e, Bool.true_and]
   refine Ev.step (fun k => ?_) ih
   simp only [spec_l7Bind.l0]
   rw [if_pos (by omega), if_pos (by omega), if_pos (by omega), er, if_pos h1, wnext i b.length h (by omega)]
  ·have e : askB (nodes, parts) b[i] = clsB (nodes, parts) b[i] := by
    unfold askB
    rw [beq_eq_false_iff_ne.2 h1, Bool.false_or]
   rw [e]
   cases hc : clsB (nodes, parts) b[i] with
   | true =>
    rw [Bool.true_and]
    refine Ev.step (fun k => ?_) ih
    simp only [spec_l7Bind.l0]
    rw [if_pos (by omega), if_pos (by omega), if_pos (by omega), er, if_neg h1, l7Class_f hl hm, hc, Option.bind_some, if_pos rfl, wnext i b.length h (by omega)]
   | false =>
    rw [Bool.false_and]
    refine Ev.step (f := fun _ => some false) (fun k => ?_) (Ev.now _)
    simp only [spec_l7Bind.l0]
    rw [if_pos (by omega), if_pos (by omega), if_pos (by omega), er, if_neg h1, l7Class_f hl hm, hc, Option.bind_some, if_neg (by simp)]
theorem bind_calls {A0 A1 A : Option Addr} {c0 c1 c : Nat} {nodes : List S36} {parts : List Int} {b : List Int} (w : World) (hg : goodG nodes parts = true) (h0 : Kd.C k36 w A0 nodes.length nodes) (l0 : nodes.length ≤ c0) (h1 : Kd.C (Kd.int .i64) w A1 parts.length parts) (l1 : parts.length ≤ c1) (h : Kd.C (Kd.int .i64) w A b.length b) (l : b.length ≤ c) :
  Calls Try.prog 111 #[.agg #[.slice A0 nodes.length c0, .slice A1 parts.length c1], .slice A b.length c] w fun e w' => e = .returned (.bool (bindB (nodes, parts) b)) ∧ Below w.heap.size w w' := by
 have hgr := goodG_iff.1 hg
 have hm := hgr.most
 have he : Ev (fun k => spec_l7Bind.f k nodes parts b) (bindB (nodes, parts) b) := by
  unfold bindB
  by_cases h4 : b.length = 4
  ·rw [decide_eq_true h4, Bool.true_and]
   have := bind_l0 (nodes := nodes) (parts := parts) hgr.len (by omega) b (by omega) _ 0 rfl (Nat.zero_le _)
   rw [List.drop_zero] at this
   refine Ev.congr (fun k => ?_) this
   unfold spec_l7Bind.f
   rw [if_pos (by omega)]
   rfl
  ·rw [decide_eq_false h4, Bool.false_and]
   refine Ev.congr (fun k => ?_) (Ev.now _)
   unfold spec_l7Bind.f
   rw [if_neg (by omega)]
 obtain ⟨k, hk⟩ := Ev.rounds he
 exact spec_l7Bind.calls k A0 c0 nodes A1 c1 parts A c b _ w h0 l0 h1 l1 h l hk
theorem put_in (l : List Int) (x : Int) (i : Nat) : ∀ y, y ∈ ([] ++ l.take i ++ [x]) ++ l.drop i ↔ y ∈ l ∨ y = x := fun y => by
 rw [List.nil_append]
 conv => rhs; rw [← List.take_append_drop i l]
 simp only [List.mem_append, List.mem_singleton]
 constructor
 ·rintro ((h | h) | h)
  ·exact .inl (.inl h)
  ·exact .inr h
  ·exact .inl (.inr h)
 ·rintro ((h | h) | h)
  ·exact .inl (.inl h)
  ·exact .inr h
  ·exact .inl (.inr h)
theorem put_l0 (l : List Int) (x : Int) (hl : l.length ≤ 1000) : ∀ (d i : Nat), l.length - i = d → i ≤ l.length →
  ∃ r, Ev (fun k => spec_l1Put.l0 k l x (i : Int)) r ∧ (∀ y, y ∈ r ↔ y ∈ l ∨ y = x) ∧ r.length ≤ l.length + 1
 | 0, i, hd, hi => by
  refine ⟨([] ++ l.take i ++ [x]) ++ l.drop i, Ev.step (f := fun _ => some (([] ++ l.take i ++ [x]) ++ l.drop i)) (fun k => ?_) (Ev.now _), put_in l x i, by simp; omega⟩
  simp only [spec_l1Put.l0, Option.bind_some, Int.toNat_natCast]
  rw [if_neg (by omega), if_pos (by omega), if_pos (by omega), if_pos (by simp; omega), if_pos (by simp; omega), if_pos (by simp; omega)]
 | d + 1, i, hd, hi => by
  have h : i < l.length := by omega
  by_cases h1 : l[i] < x
  ·obtain ⟨r, e, h2, h3⟩ := put_l0 l x hl d (i + 1) (by omega) (by omega)
   refine ⟨r, Ev.step (fun k => ?_) e, h2, h3⟩
   simp only [spec_l1Put.l0]
   rw [if_pos (by omega), if_pos (by omega), rd_at l i h, if_pos h1, wnext i l.length h (by omega)]
  ·by_cases h2 : l[i] = x
   ·refine ⟨l, Ev.step (f := fun _ => some l) (fun k => ?_) (Ev.now _), fun y => ⟨fun hy => .inl hy, fun hy => ?_⟩, by omega⟩
    ·simp only [spec_l1Put.l0]
     rw [if_pos (by omega), if_pos (by omega), rd_at l i h, if_neg h1, if_pos h2]
    ·rcases hy with hy | rfl
     ·exact hy
     ·rw [← h2]; exact List.getElem_mem h
   ·refine ⟨([] ++ l.take i ++ [x]) ++ l.drop i, Ev.step (f := fun _ => some (([] ++ l.take i ++ [x]) ++ l.drop i)) (fun k => ?_) (Ev.now _), put_in l x i, by simp; omega⟩
    simp only [spec_l1Put.l0, Option.bind_some, Int.toNat_natCast]
    rw [if_pos (by omega), if_pos (by omega), rd_at l i h, if_neg h1, if_neg h2, if_pos (by omega), if_pos (by simp; omega), if_pos (by simp; omega), if_pos (by simp; omega)]
def VarsOf (t : List S125) (r : List Int) : Prop := (∀ y, y ∈ r ↔ ∃ x ∈ t, x.f0 = 2 ∧ x.f1 = y) ∧ r.length ≤ 1000
theorem vars_l0 (t : List S125) (ht : t.length ≤ 40) : ∀ (d i : Nat) (acc : List Int), t.length - i = d → i ≤ t.length → acc.length ≤ i →
  ∃ r, Ev (fun k => spec_l2Vars.l0 k acc t (t.length : Int) (i : Int)) r ∧ (∀ y, y ∈ r ↔ y ∈ acc ∨ ∃ x ∈ t.drop i, x.f0 = 2 ∧ x.f1 = y) ∧ r.length ≤ t.length
 | 0, i, acc, hd, hi, ha => ⟨acc, Ev.step (f := fun _ => some acc) (fun k => by simp only [spec_l2Vars.l0]; rw [if_neg (by omega)]) (Ev.now _), fun y => by rw [List.drop_of_length_le (by omega)]; simp, by omega⟩
 | d + 1, i, acc, hd, hi, ha => by
  have h : i < t.length := by omega
  have er : rd_T125 t (i : Int) = t[i] := by simp [rd_T125, List.getD_eq_getElem?_getD, List.getElem?_eq_getElem h]
  by_cases h2 : t[i].f0 = 2
  ·obtain ⟨r1, e1, m1, l1⟩ := put_l0 acc t[i].f1 (by omega) acc.length 0 rfl (Nat.zero_le _)
   obtain ⟨r2, e2, m2, l2⟩ := vars_l0 t ht d (i + 1) r1 (by omega) (by omega) (by omega)
   refine ⟨r2, Ev.step (f := fun k => (spec_l1Put.f k acc t[i].f1).bind fun q => spec_l2Vars.l0 k q t (t.length : Int) ((i + 1 : Nat) : Int)) (fun k => ?_) (Ev.bind e1 e2), fun y => ?_, l2⟩
   ·simp only [spec_l2Vars.l0]
    rw [if_pos (by omega), if_pos (by omega), if_pos (by omega), er, if_pos h2, wnext i t.length h (by omega)]
   ·rw [m2 y, m1 y, List.drop_eq_getElem_cons h]
    simp only [List.mem_cons]
    constructor
    ·rintro ((h | h) | ⟨x, hx, hh⟩)
     ·exact .inl h
     ·exact .inr ⟨t[i], .inl rfl, h2, h.symm⟩
     ·exact .inr ⟨x, .inr hx, hh⟩
    ·rintro (h | ⟨x, hx | hx, hh⟩)
     ·exact .inl (.inl h)
     ·rw [hx] at hh
      exact .inl (.inr hh.2.symm)
     ·exact .inr ⟨x, hx, hh⟩
  ·obtain ⟨r2, e2, m2, l2⟩ := vars_l0 t ht d (i + 1) acc (by omega) (by omega) (by omega)
   refine ⟨r2, Ev.step (fun k => ?_) e2, fun y => ?_, l2⟩
   ·simp only [spec_l2Vars.l0]
    rw [if_pos (by omega), if_pos (by omega), if_pos (by omega), er, if_neg h2, wnext i t.length h (by omega)]
   ·rw [m2 y, List.drop_eq_getElem_cons h]
    simp only [List.mem_cons]
    constructor
    ·rintro (h | ⟨x, hx, hh⟩)
     ·exact .inl h
     ·exact .inr ⟨x, .inr hx, hh⟩
    ·rintro (h | ⟨x, hx | hx, hh⟩)
     ·exact .inl h
     ·rw [hx] at hh
      exact absurd hh.1 h2
     ·exact .inr ⟨x, hx, hh⟩
theorem vars_calls {A : Option Addr} {c : Nat} {t : List S125} (ht : t.length ≤ 40) : ∃ r, VarsOf t r ∧ ∀ w, Kd.C k125 w A t.length t → t.length ≤ c →
  Calls Try.prog 112 #[.slice A t.length c] w fun e w' => ∃ v0 : Value, e = .returned v0 ∧ Kd.R (Kd.int .i64) 3 w' w.heap.size (fun _ => True) v0 r ∧ Below w.heap.size w w' := by
 obtain ⟨r, he, hm, hl⟩ := vars_l0 t ht t.length 0 [] (Nat.sub_zero _) (Nat.zero_le _) (Nat.le_refl _)
 obtain ⟨k, hk⟩ := Ev.rounds he
 refine ⟨r, ⟨fun y => ?_, by omega⟩, fun w h l => spec_l2Vars.calls k A c t r w h l hk⟩
 rw [hm y, List.drop_zero]
 simp
theorem sure_vars {t : List S125} {r : List Int} (h : VarsOf t r) (b : List Int) : sureB b t = r.all fun v => decide (0 ≤ rd b v) := by
 rw [Bool.eq_iff_iff]
 simp only [sureB, List.all_eq_true, Bool.or_eq_true, Bool.not_eq_true', beq_eq_false_iff_ne, ne_eq, decide_eq_true_eq]
 constructor
 ·intro hh v hv
  obtain ⟨x, hx, h2, rfl⟩ := (h.1 v).1 hv
  exact (hh x hx).resolve_left (fun h => h h2)
 ·intro hh x hx
  by_cases h2 : x.f0 = 2
  ·exact .inr (hh x.f1 ((h.1 _).2 ⟨x, hx, h2, rfl⟩))
  ·exact .inl h2
theorem vars_lt {t : List S125} {r : List Int} {T : Tm} (hT : treeT t = some T) (h : VarsOf t r) : ∀ v ∈ r, 0 ≤ v ∧ v < 4 := fun v hv => by
 obtain ⟨x, hx, h2, rfl⟩ := (h.1 v).1 hv
 rw [(treeT_some hT).1] at hx
 exact wf_var (treeT_some hT).2.1 hx h2
end Go.Proofs.Ytlnejmlphkpaaaa.PA
