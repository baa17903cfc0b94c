/- The flow seat: an argument of the type Func reads as a list of blocks. -/
import Derived.Test.YtghlbhijkhkgkaaAbVo
import Derived.Test.YtghlbhijkhkgkaaAbVp
namespace Go.Proofs.Ytghlbhijkhkgkaa.PA
open Go.RowKit Go.ChangeShapes Go.WideShapes Go.Proofs.YtghlbhijkhkgkaaW.PrintWords
set_option linter.unusedVariables false
theorem Opens.imp {α : Type} {P : Program} {d : Kd α} {g g' : α → Prop} {t : TypeId} (h : Opens P d g t) (hg : ∀ a, g a → g' a) : Opens P d g' t := by
  refine ⟨fun {H} enc w base spare held fuel cs x hx => ?_⟩
  obtain ⟨a, h1, h2⟩ := h.get enc w base spare held fuel cs x hx
  exact ⟨a, h1, hg a h2⟩
theorem oI3 : Opens Try.prog (Kd.int .i64) (fun n => (Lit.int .i64 n).wf = true) 3 := opens_int Try.underlying3
theorem oI2 : Opens Try.prog (Kd.int .i64) (fun n => (Lit.int .i64 n).wf = true) 2 := opens_int Try.underlying2
theorem oL34 : Opens Try.prog (Kd.slice 3 (Kd.int .i64)) (fun l => l.length ≤ Max) 34 := (opens_slice Try.underlying34 (by kernel_rfl) oI3).imp (fun _ h => h.1)
theorem o142 : Opens Try.prog k142 FitI 142 :=
  (opens_struct Try.underlying142 (by kernel_rfl) (opensFs_cons oI3 rfl (by kernel_rfl) (opensFs_cons oI2 rfl (by kernel_rfl) (opensFs_one oL34 rfl (by kernel_rfl)))) (fun x : S142 => (x.f0, x.f1, x.f2)) (fun a => ⟨⟨a.1, a.2.1, a.2.2⟩, rfl⟩)).imp (fun _ h => h.2.2)
theorem o144 : Opens Try.prog k144 FitJ 144 :=
  (opens_struct Try.underlying144 (by kernel_rfl) (opensFs_cons oI3 rfl (by kernel_rfl) (opensFs_one oL34 rfl (by kernel_rfl))) (fun x : S144 => (x.f0, x.f1)) (fun a => ⟨⟨a.1, a.2⟩, rfl⟩)).imp (fun _ h => h.2)
theorem o92 : Opens Try.prog (Kd.slice 142 k142) (fun l => l.length ≤ Max ∧ ∀ x ∈ l, FitI x) 92 := opens_slice Try.underlying92 (by kernel_rfl) o142
theorem o93 : Opens Try.prog (Kd.slice 144 k144) (fun l => l.length ≤ Max ∧ ∀ x ∈ l, FitJ x) 93 := opens_slice Try.underlying93 (by kernel_rfl) o144
theorem o95 : Opens Try.prog k95 FitB 95 :=
  (opens_struct Try.underlying95 (by kernel_rfl) (opensFs_cons oI3 rfl (by kernel_rfl) (opensFs_cons o92 rfl (by kernel_rfl) (opensFs_cons oI3 rfl (by kernel_rfl) (opensFs_cons oI3 rfl (by kernel_rfl) (opensFs_one o93 rfl (by kernel_rfl))))))
    (fun x : S95 => (x.f0, x.f1, x.f2, x.f3, x.f4)) (fun a => ⟨⟨a.1, a.2.1, a.2.2.1, a.2.2.2.1, a.2.2.2.2⟩, rfl⟩)).imp (fun _ h => ⟨h.2.1, h.2.2.2.2⟩)
theorem o22 : Opens Try.prog (Kd.slice 95 k95) (fun l => l.length ≤ Max ∧ ∀ x ∈ l, FitB x) 22 := opens_slice Try.underlying22 (by kernel_rfl) o95
theorem o24 : Opens Try.prog (Kd.iso (Kd.pair (Kd.int .i64) (Kd.slice 95 k95)) (fun x : Int × List S95 => x)) (fun x => Fit x.2) 24 :=
  (opens_struct Try.underlying24 (by kernel_rfl) (opensFs_cons oI3 rfl (by kernel_rfl) (opensFs_one o22 rfl (by kernel_rfl))) (fun x : Int × List S95 => x) (fun a => ⟨a, rfl⟩)).imp (fun _ h => h.2)
set_option maxRecDepth 100000 in
theorem open_func {H : Type} {enc : TypeId × Value → H} {w : World} {base : Nat} {spare : Nat → Bool} {held : Bool} {v : Value} {d : DataW H} {ps : List MemPlace} {W : World} {b : Nat} {r : Reach}
    (hv : Value.okWide Try.prog W r b 24 v) (h : DataW.Trod enc Try.prog w base spare held 24 v d ps) : ∃ p A c, ∃ bs : List S95, v = .agg #[.int .i64 p, .slice A bs.length c] ∧ bs.length ≤ c ∧ Kd.C k95 w A bs.length bs ∧ Fit bs := by
  obtain ⟨fuel, hf⟩ := h
  obtain ⟨⟨p, bs⟩, ⟨c0, c1, e, h0, A, c, h1, hl, hC⟩, hg⟩ := o24.get enc w base spare held fuel _ _ hf
  obtain ⟨cs, rfl, _⟩ : ∃ cs, v = .agg cs ∧ cs.size = Try.prog.cellsOf 24 := by
    simp only [Value.okWide, Try.underlying24] at hv
    obtain ⟨cs, h1, h2, _⟩ := hv
    exact ⟨cs, h1, h2⟩
  refine ⟨p, A, c, bs, ?_, hl, hC, hg⟩
  have e2 : cs.toList = [.int .i64 p, .slice A bs.length c] := by
    have e3 : (Value.agg cs).cells = cs := rfl
    rw [e3] at e
    rw [e, h0, h1]; rfl
  have : cs = #[.int .i64 p, .slice A bs.length c] := by
    apply Array.ext'
    simpa using e2
  rw [this]
end Go.Proofs.Ytghlbhijkhkgkaa.PA
