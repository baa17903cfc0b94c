/- What reads as data is of its kind: for rows whose arguments are structs and slices of structs. -/
import Derived.ChangeSlices
import Derived.ChangeArms
import Derived.DataElems
import Derived.Test.YtghlbhijkhkgkaaAbPAx0
namespace Go.Proofs.Ytghlbhijkhkgkaa.PA
open Go.RowKit Go.ChangeShapes Go.WideShapes Go.Proofs.YtghlbhijkhkgkaaW.PrintWords
set_option linter.unusedVariables false
/-- Whatever reads as data of type t is of kind d, and fine. -/
structure Opens {α : Type} (P : Program) (d : Kd α) (good : α → Prop) (t : TypeId) : Prop where
  get : ∀ {H : Type} (enc : TypeId × Value → H) (w : World) (base : Nat) (spare : Nat → Bool) (held : Bool) (fuel : Nat) (cs : List Value) (x : DataW H × List MemPlace),
    DataW.trod enc P w base spare held fuel t cs = some x → ∃ a, d.K w a cs ∧ good a
theorem opens_int {P : Program} {k : IntKind} {t : TypeId} (ht : P.underlying t = some (.int k)) : Opens P (Kd.int k) (fun n => (Lit.int k n).wf = true) t := by
  refine ⟨fun {H} enc w base spare held fuel cs x h => ?_⟩
  obtain ⟨m, rfl, rfl, hw⟩ := DataW.trod_int ht h
  exact ⟨m, rfl, hw⟩
theorem opens_slice {α : Type} {P : Program} {d : Kd α} {good : α → Prop} {t e : TypeId} (ht : P.underlying t = some (.slice e)) (hc : P.cellsOf e = d.sz) (ho : Opens P d good e) :
    Opens P (Kd.slice e d) (fun xs => xs.length ≤ 9223372036854775807 ∧ ∀ x ∈ xs, good x) t := by
  refine ⟨fun {H} enc w base spare held fuel cs x h => ?_⟩
  rcases DataW.trod_slice ht h with ⟨rfl, rfl⟩ | ⟨a, len, cap, elems, rest, n, _, rfl, rfl, hb, hl, hm, hlen, hel, _, _⟩
  · exact ⟨[], ⟨none, 0, rfl, Nat.le_refl _, Kd.C_nil d w⟩, by simp, fun x hx => absurd hx (by simp)⟩
  · have each : ∀ i, i < len → ∃ p, ∃ c, c.length = d.sz ∧ d.K w p c ∧ good p ∧ ∀ j u, c[j]? = some u → w.cell? (a.add (i * d.sz + j)) = some u := by
      intro i hi
      have h1 := hel i hi
      rw [List.getElem?_eq_getElem (by omega), hc, Option.bind_eq_some_iff] at h1
      obtain ⟨c, hcs, hy⟩ := h1
      obtain ⟨p, hK, hg⟩ := ho.get enc w base spare held n c _ hy
      refine ⟨p, c, d.K_len hK, hK, hg, fun j u hu => ?_⟩
      have hj : j < d.sz := by have := (List.getElem?_eq_some_iff.1 hu).1; rw [d.K_len hK] at this; exact this
      have := (World.cells?_some hcs).2.2 j hj
      rw [hu, Addr.add_add] at this
      exact this
    refine ⟨List.ofFn fun i : Fin len => Classical.choose (each i i.2), ⟨some a, cap, by simp, by simpa using hl, ?_⟩, by simp; unfold maxLen at hm; omega, fun x hx => ?_⟩
    · refine ⟨by simp, by simp; unfold maxLen at hm; omega, fun _ => ⟨a, rfl, fun j p hj => ?_⟩⟩
      obtain ⟨hj1, hj2⟩ := List.getElem?_eq_some_iff.1 hj
      simp only [List.getElem_ofFn] at hj2
      simp only [List.length_ofFn] at hj1
      have hs := Classical.choose_spec (each j hj1)
      rw [hj2] at hs
      obtain ⟨c, h1, h2, _, h4⟩ := hs
      exact ⟨c, h1, h2, h4⟩
    · obtain ⟨j, hj, rfl⟩ := List.getElem_of_mem hx
      simp only [List.getElem_ofFn]
      obtain ⟨c, _, _, h3, _⟩ := Classical.choose_spec (each j (by simpa using hj))
      exact h3
/-- The same for fields in line, from an offset on. -/
structure OpensFs {α : Type} (P : Program) (d : Kd α) (good : α → Prop) (fs : List Field) (off : Nat) : Prop where
  get : ∀ {H : Type} (enc : TypeId × Value → H) (w : World) (base : Nat) (spare : Nat → Bool) (held : Bool) (fuel : Nat) (cs : List Value),
    (∀ f ∈ fs, ∃ y, DataW.trod enc P w base spare held fuel f.type ((cs.drop f.offset).take (P.cellsOf f.type)) = some y) → ∃ a, d.K w a ((cs.drop off).take d.sz) ∧ good a
theorem opensFs_one {α : Type} {P : Program} {d : Kd α} {good : α → Prop} {f : Field} {off : Nat} (h : Opens P d good f.type) (hf : f.offset = off) (hc : P.cellsOf f.type = d.sz) : OpensFs P d good [f] off := by
  refine ⟨fun {H} enc w base spare held fuel cs hy => ?_⟩
  obtain ⟨y, e⟩ := hy f (by simp)
  rw [hf, hc] at e
  exact h.get enc w base spare held fuel _ y e
theorem opensFs_cons {α β : Type} {P : Program} {d : Kd α} {d' : Kd β} {good : α → Prop} {good' : β → Prop} {f : Field} {fs : List Field} {off : Nat} (h : Opens P d good f.type) (hf : f.offset = off) (hc : P.cellsOf f.type = d.sz) (ht : OpensFs P d' good' fs (off + d.sz)) :
    OpensFs P (Kd.pair d d') (fun x => good x.1 ∧ good' x.2) (f :: fs) off := by
  refine ⟨fun {H} enc w base spare held fuel cs hy => ?_⟩
  obtain ⟨y, e⟩ := hy f (by simp)
  rw [hf, hc] at e
  obtain ⟨a, hK, hg⟩ := h.get enc w base spare held fuel _ y e
  obtain ⟨b, hK', hg'⟩ := ht.get enc w base spare held fuel cs (fun f' hf' => hy f' (by simp [hf']))
  refine ⟨(a, b), ⟨_, _, ?_, hK, hK'⟩, hg, hg'⟩
  show (cs.drop off).take (d.sz + d'.sz) = _
  rw [List.take_add, List.drop_drop]
theorem opens_struct {α β : Type} {P : Program} {d : Kd α} {good : α → Prop} {t : TypeId} {fs : Array Field} (ht : P.underlying t = some (.struct fs)) (hc : P.cellsOf t = d.sz) (h : OpensFs P d good fs.toList 0) (f : β → α) (hs : ∀ a, ∃ b, f b = a) :
    Opens P (Kd.iso d f) (fun b => good (f b)) t := by
  refine ⟨fun {H} enc w base spare held fuel cs x hx => ?_⟩
  obtain ⟨xs, n, _, rfl, hl, hlen, hf⟩ := DataW.trod_struct ht hx
  obtain ⟨a, hK, hg⟩ := h.get enc w base spare held n cs (fun f' hf' => by
    obtain ⟨j, hj, rfl⟩ := List.getElem_of_mem hf'
    have := hf j fs.toList[j] (by simp)
    have hj2 : j < xs.length := by rw [hlen]; simpa using hj
    exact ⟨xs[j], by rw [this, List.getElem?_eq_getElem hj2]⟩)
  obtain ⟨b, rfl⟩ := hs a
  have e : (cs.drop 0).take d.sz = cs := by rw [List.drop_zero, List.take_of_length_le (by omega)]
  rw [e] at hK
  exact ⟨b, hK, hg⟩
end Go.Proofs.Ytghlbhijkhkgkaa.PA
