/- Parts of the walk. -/
import Derived.ChangeSlices
import Derived.ChangeArms
import Derived.DataElems
import Derived.Test.YtlnejmlphkpaaaaIqPAx0
import Derived.Test.YtlnejmlphkpaaaaIqGw
import Derived.Test.YtlnejmlphkpaaaaIqIu
section
/- What reads as data is of its kind: for rows whose arguments are structs and slices of structs. -/
namespace Go.Proofs.Ytlnejmlphkpaaaa.PA
open Go.RowKit Go.ChangeShapes Go.WideShapes Go.Proofs.YtlnejmlphkpaaaaW.PrintWords
set_option linter.unusedVariables false
structure Opens {α : Type} (P : Program) (d : Kd α) (good : α → Prop) (t : TypeId) : Prop where
 get : ∀ {H : Type} (enc : TypeId × Value → H) (w : World) (base : Nat) (spare : Nat → Bool) (held : Bool) (fuel : Nat) (cs : List Value) (x : DataW H × List MemPlace),
  DataW.trod enc P w base spare held fuel t cs = some x → ∃ a, d.K w a cs ∧ good a
theorem opens_int {P : Program} {k : IntKind} {t : TypeId} (ht : P.underlying t = some (.int k)) : Opens P (Kd.int k) (fun n => (Lit.int k n).wf = true) t := by
 refine ⟨fun {H} enc w base spare held fuel cs x h => ?_⟩
 obtain ⟨m, rfl, rfl, hw⟩ := DataW.trod_int ht h
 exact ⟨m, rfl, hw⟩
theorem opens_slice {α : Type} {P : Program} {d : Kd α} {good : α → Prop} {t e : TypeId} (ht : P.underlying t = some (.slice e)) (hc : P.cellsOf e = d.sz) (ho : Opens P d good e) :
  Opens P (Kd.slice e d) (fun xs => xs.length ≤ 9223372036854775807 ∧ ∀ x ∈ xs, good x) t := by
 refine ⟨fun {H} enc w base spare held fuel cs x h => ?_⟩
 rcases DataW.trod_slice ht h with ⟨rfl, rfl⟩ | ⟨a, len, cap, elems, rest, n, _, rfl, rfl, hb, hl, hm, hlen, hel, _, _⟩
 ·exact ⟨[], ⟨none, 0, rfl, Nat.le_refl _, Kd.C_nil d w⟩, by simp, fun x hx => absurd hx (by simp)⟩
 ·have each : ∀ i, i < len → ∃ p, ∃ c, c.length = d.sz ∧ d.K w p c ∧ good p ∧ ∀ j u, c[j]? = some u → w.cell? (a.add (i * d.sz + j)) = some u := by
   intro i hi
   have h1 := hel i hi
   rw [List.getElem?_eq_getElem (by omega), hc, Option.bind_eq_some_iff] at h1
   obtain ⟨c, hcs, hy⟩ := h1
   obtain ⟨p, hK, hg⟩ := ho.get enc w base spare held n c _ hy
   refine ⟨p, c, d.K_len hK, hK, hg, fun j u hu => ?_⟩
   have hj : j < d.sz := by have := (List.getElem?_eq_some_iff.1 hu).1; rw [d.K_len hK] at this; exact this
   have := (World.cells?_some hcs).2.2 j hj
   rw [hu, Addr.add_add] at this
   exact this
  refine ⟨List.ofFn fun i : Fin len => Classical.choose (each i i.2), ⟨some a, cap, by simp, by simpa using hl, ?_⟩, by simp; unfold maxLen at hm; omega, fun x hx => ?_⟩
  ·refine ⟨by simp, by simp; unfold maxLen at hm; omega, fun _ => ⟨a, rfl, fun j p hj => ?_⟩⟩
   obtain ⟨hj1, hj2⟩ := List.getElem?_eq_some_iff.1 hj
   simp only [List.getElem_ofFn] at hj2
   simp only [List.length_ofFn] at hj1
   have hs := Classical.choose_spec (each j hj1)
   rw [hj2] at hs
   obtain ⟨c, h1, h2, _, h4⟩ := hs
   exact ⟨c, h1, h2, h4⟩
  ·obtain ⟨j, hj, rfl⟩ := List.getElem_of_mem hx
   simp only [List.getElem_ofFn]
   obtain ⟨c, _, _, h3, _⟩ := Classical.choose_spec (each j (by simpa using hj))
   exact h3
structure OpensFs {α : Type} (P : Program) (d : Kd α) (good : α → Prop) (fs : List Field) (off : Nat) : Prop where
 get : ∀ {H : Type} (enc : TypeId × Value → H) (w : World) (base : Nat) (spare : Nat → Bool) (held : Bool) (fuel : Nat) (cs : List Value),
  (∀ f ∈ fs, ∃ y, DataW.trod enc P w base spare held fuel f.type ((cs.drop f.offset).take (P.cellsOf f.type)) = some y) → ∃ a, d.K w a ((cs.drop off).take d.sz) ∧ good a
theorem opensFs_one {α : Type} {P : Program} {d : Kd α} {good : α → Prop} {f : Field} {off : Nat} (h : Opens P d good f.type) (hf : f.offset = off) (hc : P.cellsOf f.type = d.sz) : OpensFs P d good [f] off := by
 refine ⟨fun {H} enc w base spare held fuel cs hy => ?_⟩
 obtain ⟨y, e⟩ := hy f (by simp)
 rw [hf, hc] at e
 exact h.get enc w base spare held fuel _ y e
theorem opensFs_cons {α β : Type} {P : Program} {d : Kd α} {d' : Kd β} {good : α → Prop} {good' : β → Prop} {f : Field} {fs : List Field} {off : Nat} (h : Opens P d good f.type) (hf : f.offset = off) (hc : P.cellsOf f.type = d.sz) (ht : OpensFs P d' good' fs (off + d.sz)) :
  OpensFs P (Kd.pair d d') (fun x => good x.1 ∧ good' x.2) (f :: fs) off := by
 refine ⟨fun {H} enc w base spare held fuel cs hy => ?_⟩
 obtain ⟨y, e⟩ := hy f (by simp)
 rw [hf, hc] at e
 obtain ⟨a, hK, hg⟩ := h.get enc w base spare held fuel _ y e
 obtain ⟨b, hK', hg'⟩ := ht.get enc w base spare held fuel cs (fun f' hf' => hy f' (by simp [hf']))
 refine ⟨(a, b), ⟨_, _, ?_, hK, hK'⟩, hg, hg'⟩
 show (cs.drop off).take (d.sz + d'.sz) = _
 rw [List.take_add, List.drop_drop]
theorem opens_struct {α β : Type} {P : Program} {d : Kd α} {good : α → Prop} {t : TypeId} {fs : Array Field} (ht : P.underlying t = some (.struct fs)) (hc : P.cellsOf t = d.sz) (h : OpensFs P d good fs.toList 0) (f : β → α) (hs : ∀ a, ∃ b, f b = a) :
  Opens P (Kd.iso d f) (fun b => good (f b)) t := by
 refine ⟨fun {H} enc w base spare held fuel cs x hx => ?_⟩
 obtain ⟨xs, n, _, rfl, hl, hlen, hf⟩ := DataW.trod_struct ht hx
 obtain ⟨a, hK, hg⟩ := h.get enc w base spare held n cs (fun f' hf' => by
  obtain ⟨j, hj, rfl⟩ := List.getElem_of_mem hf'
  have := hf j fs.toList[j] (by simp)
  have hj2 : j < xs.length := by rw [hlen]; simpa using hj
  exact ⟨xs[j], by rw [this, List.getElem?_eq_getElem hj2]⟩)
 obtain ⟨b, rfl⟩ := hs a
 have e : (cs.drop 0).take d.sz = cs := by rw [List.drop_zero, List.take_of_length_le (by omega)]
 rw [e] at hK
 exact ⟨b, hK, hg⟩
end Go.Proofs.Ytlnejmlphkpaaaa.PA
end
section
/- The graph seat: an argument of the type EGraph reads as nodes and parts, one of the type ENode as a node. -/
namespace Go.Proofs.Ytlnejmlphkpaaaa.PA
open Go.RowKit Go.ChangeShapes Go.WideShapes Go.Proofs.YtlnejmlphkpaaaaW.PrintWords
set_option linter.unusedVariables false
theorem Opens.imp {α : Type} {P : Program} {d : Kd α} {g g' : α → Prop} {t : TypeId} (h : Opens P d g t) (hg : ∀ a, g a → g' a) : Opens P d g' t := by
 refine ⟨fun {H} enc w base spare held fuel cs x hx => ?_⟩
 obtain ⟨a, h1, h2⟩ := h.get enc w base spare held fuel cs x hx
 exact ⟨a, h1, hg a h2⟩
theorem oI3 : Opens Try.prog (Kd.int .i64) (fun n => (Lit.int .i64 n).wf = true) 3 := opens_int Try.underlying3
theorem oI2 : Opens Try.prog (Kd.int .i64) (fun n => (Lit.int .i64 n).wf = true) 2 := opens_int Try.underlying2
theorem oL23 : Opens Try.prog (Kd.slice 3 (Kd.int .i64)) (fun l => l.length ≤ Max) 23 := (opens_slice Try.underlying23 (by kernel_rfl) oI3).imp (fun _ h => h.1)
theorem o27 : Opens Try.prog k27 FitN 27 :=
 (opens_struct Try.underlying27 (by kernel_rfl) (opensFs_cons oI3 rfl (by kernel_rfl) (opensFs_cons oI2 rfl (by kernel_rfl) (opensFs_one oL23 rfl (by kernel_rfl)))) (fun x : S27 => (x.f0, x.f1, x.f2)) (fun a => ⟨⟨a.1, a.2.1, a.2.2⟩, rfl⟩)).imp (fun _ h => h.2.2)
theorem o22 : Opens Try.prog (Kd.slice 27 k27) (fun l => l.length ≤ Max ∧ ∀ x ∈ l, FitN x) 22 := opens_slice Try.underlying22 (by kernel_rfl) o27
theorem o25 : Opens Try.prog (Kd.iso (Kd.pair (Kd.slice 27 k27) (Kd.slice 3 (Kd.int .i64))) (fun x : List S27 × List Int => x)) (fun x => FitG x.1 x.2) 25 :=
 (opens_struct Try.underlying25 (by kernel_rfl) (opensFs_cons o22 rfl (by kernel_rfl) (opensFs_one oL23 rfl (by kernel_rfl))) (fun x : List S27 × List Int => x) (fun a => ⟨a, rfl⟩)).imp (fun _ h => ⟨h.1, h.2⟩)
set_option maxRecDepth 100000 in
theorem open_graph {H : Type} {enc : TypeId × Value → H} {w : World} {base : Nat} {spare : Nat → Bool} {held : Bool} {v : Value} {d : DataW H} {ps : List MemPlace} {W : World} {b : Nat} {r : Reach}
  (hv : Value.okWide Try.prog W r b 25 v) (h : DataW.Trod enc Try.prog w base spare held 25 v d ps) : ∃ A c A' c', ∃ nodes : List S27, ∃ parts : List Int, v = .agg #[.slice A nodes.length c, .slice A' parts.length c'] ∧ nodes.length ≤ c ∧ Kd.C k27 w A nodes.length nodes ∧ parts.length ≤ c' ∧ Kd.C (Kd.int .i64) w A' parts.length parts ∧ FitG nodes parts := by
 obtain ⟨fuel, hf⟩ := h
 obtain ⟨⟨nodes, parts⟩, ⟨c0, c1, e, ⟨A, c, h0, hl, hC⟩, A', c', h1, hl', hC'⟩, hg⟩ := o25.get enc w base spare held fuel _ _ hf
 obtain ⟨cs, rfl, _⟩ : ∃ cs, v = .agg cs ∧ cs.size = Try.prog.cellsOf 25 := by
  simp only [Value.okWide, Try.underlying25] at hv
  obtain ⟨cs, h1, h2, _⟩ := hv
  exact ⟨cs, h1, h2⟩
 refine ⟨A, c, A', c', nodes, parts, ?_, hl, hC, hl', hC', hg⟩
 have e2 : cs.toList = [.slice A nodes.length c, .slice A' parts.length c'] := by
  have e3 : (Value.agg cs).cells = cs := rfl
  rw [e3] at e
  rw [e, h0, h1]; rfl
 have : cs = #[.slice A nodes.length c, .slice A' parts.length c'] := by
  apply Array.ext'
  simpa using e2
 rw [this]
end Go.Proofs.Ytlnejmlphkpaaaa.PA
end
section
/- The graph seat: an argument of the type []Node reads as a term. -/
namespace Go.Proofs.Ytlnejmlphkpaaaa.PA
open Go.RowKit Go.ChangeShapes Go.WideShapes Go.Proofs.YtlnejmlphkpaaaaW.PrintWords
set_option linter.unusedVariables false
theorem o127 : Opens Try.prog k127 (fun _ => True) 127 :=
 (opens_struct Try.underlying127 (by kernel_rfl) (opensFs_cons oI3 rfl (by kernel_rfl) (opensFs_one oI2 rfl (by kernel_rfl))) (fun x : S127 => (x.f0, x.f1)) (fun a => ⟨⟨a.1, a.2⟩, rfl⟩)).imp (fun _ _ => trivial)
theorem o70 : Opens Try.prog (Kd.slice 127 k127) (fun l => l.length ≤ Max) 70 := (opens_slice Try.underlying70 (by kernel_rfl) o127).imp (fun _ h => h.1)
set_option maxRecDepth 100000 in
theorem open_term {H : Type} {enc : TypeId × Value → H} {w : World} {base : Nat} {spare : Nat → Bool} {held : Bool} {v : Value} {d : DataW H} {ps : List MemPlace} {W : World} {b : Nat} {r : Reach}
  (hv : Value.okWide Try.prog W r b 70 v) (h : DataW.Trod enc Try.prog w base spare held 70 v d ps) : ∃ A c, ∃ t : List S127, v = .slice A t.length c ∧ t.length ≤ c ∧ Kd.C k127 w A t.length t ∧ t.length ≤ Max := by
 obtain ⟨fuel, hf⟩ := h
 obtain ⟨t, ⟨A, c, e, hl, hC⟩, hg⟩ := o70.get enc w base spare held fuel _ _ hf
 refine ⟨A, c, t, ?_, hl, hC, hg⟩
 have hn : ∀ cs, v ≠ .agg cs := by
  rintro cs rfl
  simp only [Value.okWide, Try.underlying70, Cell.okWide, Cell.ok] at hv
 have e1 : v.cells = #[v] := by
  cases v with
  | agg cs => exact absurd rfl (hn cs)
  | _ => rfl
 rw [e1] at e
 simpa using e
end Go.Proofs.Ytlnejmlphkpaaaa.PA
end
section
/- The graph seat: an argument of the type []int reads as a list of whole numbers. -/
namespace Go.Proofs.Ytlnejmlphkpaaaa.PA
open Go.RowKit Go.ChangeShapes Go.WideShapes Go.Proofs.YtlnejmlphkpaaaaW.PrintWords
set_option linter.unusedVariables false
theorem o23 : Opens Try.prog (Kd.slice 3 (Kd.int .i64)) (fun l => l.length ≤ Max) 23 := (opens_slice Try.underlying23 (by kernel_rfl) oI3).imp (fun _ h => h.1)
set_option maxRecDepth 100000 in
theorem open_ints {H : Type} {enc : TypeId × Value → H} {w : World} {base : Nat} {spare : Nat → Bool} {held : Bool} {v : Value} {d : DataW H} {ps : List MemPlace} {W : World} {b : Nat} {r : Reach}
  (hv : Value.okWide Try.prog W r b 23 v) (h : DataW.Trod enc Try.prog w base spare held 23 v d ps) : ∃ A c, ∃ t : List Int, v = .slice A t.length c ∧ t.length ≤ c ∧ Kd.C (Kd.int .i64) w A t.length t ∧ t.length ≤ Max := by
 obtain ⟨fuel, hf⟩ := h
 obtain ⟨t, ⟨A, c, e, hl, hC⟩, hg⟩ := o23.get enc w base spare held fuel _ _ hf
 refine ⟨A, c, t, ?_, hl, hC, hg⟩
 have hn : ∀ cs, v ≠ .agg cs := by
  rintro cs rfl
  simp only [Value.okWide, Try.underlying23, Cell.okWide, Cell.ok] at hv
 have e1 : v.cells = #[v] := by
  cases v with
  | agg cs => exact absurd rfl (hn cs)
  | _ => rfl
 rw [e1] at e
 simpa using e
end Go.Proofs.Ytlnejmlphkpaaaa.PA
end
