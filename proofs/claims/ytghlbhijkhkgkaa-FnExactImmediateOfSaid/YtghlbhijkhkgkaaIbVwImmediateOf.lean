/- Parts of the walk. -/
import Derived.Test.YtghlbhijkhkgkaaIbMa
import Derived.Test.YtghlbhijkhkgkaaIbPAz1
import Derived.Test.YtghlbhijkhkgkaaIbSb
import Derived.ChangeSlices
import Derived.ChangeArms
import Derived.DataElems
import Derived.Test.YtghlbhijkhkgkaaIbPAx0
import Derived.Test.YtghlbhijkhkgkaaIbVp
section
/- The flow seat: the walk of laws.FnExactImmediateOf. -/
namespace Go.Proofs.Ytghlbhijkhkgkaa.PA
open Go.RowKit Go.Proofs.YtghlbhijkhkgkaaW.PrintWords Go.Proofs.YtghlbhijkhkgkaaW.PrintLast Go.Proofs.YtghlbhijkhkgkaaW.PrintMore
set_option linter.unusedVariables false
theorem toFunc_calls (p : Int) (bs : List S95) (hs : Small bs) {A : Option Addr} {c : Nat} (W : World) (hr : Kd.C k95 W A bs.length bs) (hc : bs.length ≤ c) :
    Calls Try.prog 18 #[.agg #[.int .i64 p, .slice A bs.length c]] W fun e w' => ∃ A1 c1, e = .returned (.agg #[.int .i64 p, .slice A1 (bs.map cB).length c1]) ∧ (bs.map cB).length ≤ c1 ∧ Kd.R k87 87 w' W.heap.size (fun _ => True) (.slice A1 (bs.map cB).length c1) (bs.map cB) ∧ Below W.heap.size W w' := by
  obtain ⟨k, hk⟩ := Ev.rounds (toFunc_any p bs hs)
  refine (laws_toFunc.calls k p A c bs p (bs.map cB) W hr hc hk).mono fun e w' h => ?_
  obtain ⟨v1, rfl, hR, hb⟩ := h
  obtain ⟨A1, c1, rfl, hl, _⟩ := Kd.R_reads hR
  exact ⟨A1, c1, rfl, hl, hR, hb⟩
set_option maxHeartbeats 2000000 in
set_option maxRecDepth 100000 in
theorem law_ImmediateOf (p : Int) (bs : List S95) (v : Int) {A : Option Addr} {c : Nat} (w : World) (hr : Kd.C k95 w A bs.length bs) (hc : bs.length ≤ c) (hf : Fit bs) :
    Calls Try.prog 10 #[.agg #[.int .i64 p, .slice A bs.length c], .int .i64 v] w fun e w' => e = .returned (.bool true) ∧ Below w.heap.size w w' := by
  have HB := Aside0.mk (Below.refl w.heap.size w)
  obtain ⟨r, hev, hsm⟩ := szFunc_any p bs hf
  obtain ⟨kz, hkz⟩ := Ev.rounds hev
  have T16 := Aside0.mk (fun W (hW : Below w.heap.size w W) => laws_szFunc.calls kz p A c bs 1048576 r W (Kd.C_below hr hW) hc hkz)
  by_cases h0 : r < 0
  · have c0 : decide (r < 0) = true := decide_eq_true h0
    clear hr hc hf hev hsm hkz h0
    go_enter Try.func10, Try.ntmps10
    go_wp2_with (go_at_call 16; refine (T16.out _ (by repeat (first | exact HB.out | apply below_alloc))).mono ?_; rintro e w1 ⟨rfl, hb⟩; have HB1 := Aside0.mk (below_step (below_alloc (Below.refl w.heap.size w) _) hb); clear hb T16)
    go_ret
    exact ⟨rfl, HB1.out⟩
  · have hs : Small bs := by rcases hsm with h | h; exact absurd h h0; exact h.2
    have c0 : decide (r < 0) = false := decide_eq_false h0
    obtain ⟨hL1, hL2⟩ := small_ok hs
    have T18 := fun W (hW : Below w.heap.size w W) => toFunc_calls p bs hs W (Kd.C_below hr hW) hc
    obtain ⟨L, hL⟩ : ∃ L, L = bs.map cB := ⟨_, rfl⟩
    rw [← hL] at T18 hL1 hL2
    have HT18 := Aside0.mk T18
    obtain ⟨a1, ha1⟩ : ∃ x, x = (ansImmediateOf p L v).1 := ⟨_, rfl⟩
    obtain ⟨a2, ha2⟩ : ∃ x, x = (ansImmediateOf p L v).2 := ⟨_, rfl⟩
    have T17 := Aside0.mk (fun W A1 c1 (h1 : Kd.C k87 W A1 L.length L) (h2 : L.length ≤ c1) => (by have := specImmediateOf_any (A := A1) (c := c1) p L v W h1 h2; rw [← ha1, ← ha2] at this; exact this : Calls Try.prog 40 #[.agg #[.int .i64 p, .slice A1 L.length c1], .int .i64 v] W fun e w' => e = .returned (.tuple #[.int .i64 a1, .bool a2]) ∧ Below W.heap.size W w'))
    have T19 := Aside0.mk (fun W A1 c1 (h1 : Kd.C k87 W A1 L.length L) (h2 : L.length ≤ c1) => (by have := implImmediateOf_any (A := A1) (c := c1) p L v W h1 h2; rw [← ha1, ← ha2] at this; exact this : Calls Try.prog 41 #[.agg #[.int .i64 p, .slice A1 L.length c1], .int .i64 v] W fun e w' => e = .returned (.tuple #[.int .i64 a1, .bool a2]) ∧ Below W.heap.size W w'))
    obtain ⟨ke, hke⟩ := Ev.rounds (eqFunc_any p L hL1 hL2)
    have T20 := Aside0.mk (fun W A1 c1 A2 c2 (h1 : Kd.C k87 W A1 L.length L) (h2 : L.length ≤ c1) (h3 : Kd.C k87 W A2 L.length L) (h4 : L.length ≤ c2) => laws_eqFunc.calls ke p A1 c1 L p A2 c2 L true W h1 h2 h3 h4 hke)
    have e1 : (a1 != a1) = false := by simp
    have e2 : (a2 != a2) = false := by simp
    clear hr hc hf hev hsm hkz h0 hs hL1 hL2 T18 hL ha1 ha2 hke
    go_enter Try.func10, Try.ntmps10
    go_wp2_with (first | (go_at_call 16; refine (T16.out _ (by repeat (first | exact HB.out | apply below_alloc))).mono ?_; rintro e w1 ⟨rfl, hb⟩; obtain ⟨hc1, hf1⟩ := bcell hb; simp only [asz] at hc1 hf1; have HB1 := Aside0.mk (below_step (below_alloc (Below.refl w.heap.size w) _) hb); have k0 : w1.cell? ⟨w.heap.size, 0, none⟩ = some (.int .i64 p) := (by rw [hc1 _ _ (by omega)]; simp); have k1 : w1.cell? ⟨w.heap.size, 1, none⟩ = some (.slice A bs.length c) := (by rw [hc1 _ _ (by omega)]; simp); clear hb T16 hc1 hf1))
    refine (HT18.out _ HB1.out).mono ?_
    rintro e w2 ⟨A1, d1, rfl, hl1, hR1, hb⟩
    have k0' := pw_cell_below hb k0
    have k1' := pw_cell_below hb k1
    have HB2 := Aside0.mk (below_step HB1.out hb)
    have HR1 := Aside0.mk (Kd.R_reads' hR1).2.2
    have HL1 := Aside0.mk hl1
    clear hb hR1 hl1 k0 k1 HB1
    go_wp2_with fail
    refine (T17.out _ _ _ HR1.out HL1.out).mono ?_
    rintro e w3 ⟨rfl, hb⟩
    have k0 := pw_cell_below hb k0'
    have k1 := pw_cell_below hb k1'
    have HB3 := Aside0.mk (below_step HB2.out hb)
    clear hb k0' k1' HB2 HR1 HL1
    go_wp2_with fail
    refine (HT18.out _ HB3.out).mono ?_
    rintro e w4 ⟨A2, d2, rfl, hl2, hR2, hb⟩
    have k0' := pw_cell_below hb k0
    have k1' := pw_cell_below hb k1
    have HB4 := Aside0.mk (below_step HB3.out hb)
    have HR2 := Aside0.mk (Kd.R_reads' hR2).2.2
    have HL2 := Aside0.mk hl2
    have hlt := World.block_lt_of_cell? w4 _ k0'
    clear hb hR2 hl2 k0 k1 HB3
    go_wp2_with fail
    refine (T19.out _ _ _ (Kd.C_below HR2.out (below_alloc (Below.refl _ _) _)) HL2.out).mono ?_
    rintro e w5 ⟨rfl, hb⟩
    have k0 := pw_cell_below ((below_alloc (Below.refl w4.heap.size w4) _).trans (hb.mono (by simp))) k0'
    have k1 := pw_cell_below ((below_alloc (Below.refl w4.heap.size w4) _).trans (hb.mono (by simp))) k1'
    have m0 : w5.cell? ⟨w4.heap.size, 0, none⟩ = some (.int .i64 p) := pw_cell_below hb (by simp)
    have m1 : w5.cell? ⟨w4.heap.size, 1, none⟩ = some (.slice A2 L.length d2) := pw_cell_below hb (by simp)
    have HB5 := Aside0.mk (below_step (below_alloc HB4.out _) hb)
    have HR5 := Aside0.mk (Kd.C_below HR2.out ((below_alloc (Below.refl w4.heap.size w4) _).trans (hb.mono (by simp))))
    clear hb k0' k1' HB4 HR2 hlt
    go_wp2_with fail
    go_region_held3 (fun w' => w'.cell? ⟨w.heap.size, 0, none⟩ = some (.int .i64 p) ∧ w'.cell? ⟨w.heap.size, 1, none⟩ = some (.slice A bs.length c) ∧ w'.cell? ⟨w4.heap.size, 0, none⟩ = some (.int .i64 p) ∧ w'.cell? ⟨w4.heap.size, 1, none⟩ = some (.slice A2 L.length d2))
      (first
        | go_keep
        | (go_split_ands
           refine ⟨?_, ?_, ?_, ?_⟩ <;> (exact pw_cell_below hbr (by assumption))))
      (first | (go_at_call 18; refine (HT18.out _ (below_drew1 HB5.out)).mono ?_; rintro e w6 ⟨A3, d3, rfl, hl3, hR3, hbr⟩; have HB6 := Aside0.mk (below_step (below_drew1 HB5.out) hbr); have HR6 := Aside0.mk (Kd.C_below HR5.out (below_step (below_drew1 (Below.refl _ _)) hbr)); have HR7 := Aside0.mk (Kd.R_reads' hR3).2.2; have HL3 := Aside0.mk hl3) | (go_at_call 20; refine (T20.out _ _ _ _ _ HR6.out HL2.out HR7.out HL3.out).mono ?_; rintro e w7 ⟨rfl, hbr⟩; have HB7 := Aside0.mk (below_step HB6.out hbr)))
    go_wp2
    go_ret
    exact ⟨rfl, HB7.out⟩
end Go.Proofs.Ytghlbhijkhkgkaa.PA
end
section
/- What reads as data is of its kind: for rows whose arguments are structs and slices of structs. -/
namespace Go.Proofs.Ytghlbhijkhkgkaa.PA
open Go.RowKit Go.ChangeShapes Go.WideShapes Go.Proofs.YtghlbhijkhkgkaaW.PrintWords
set_option linter.unusedVariables false
/-- Whatever reads as data of type t is of kind d, and fine. -/
structure Opens {α : Type} (P : Program) (d : Kd α) (good : α → Prop) (t : TypeId) : Prop where
  get : ∀ {H : Type} (enc : TypeId × Value → H) (w : World) (base : Nat) (spare : Nat → Bool) (held : Bool) (fuel : Nat) (cs : List Value) (x : DataW H × List MemPlace),
    DataW.trod enc P w base spare held fuel t cs = some x → ∃ a, d.K w a cs ∧ good a
theorem opens_int {P : Program} {k : IntKind} {t : TypeId} (ht : P.underlying t = some (.int k)) : Opens P (Kd.int k) (fun n => (Lit.int k n).wf = true) t := by
  refine ⟨fun {H} enc w base spare held fuel cs x h => ?_⟩
  obtain ⟨m, rfl, rfl, hw⟩ := DataW.trod_int ht h
  exact ⟨m, rfl, hw⟩
theorem opens_slice {α : Type} {P : Program} {d : Kd α} {good : α → Prop} {t e : TypeId} (ht : P.underlying t = some (.slice e)) (hc : P.cellsOf e = d.sz) (ho : Opens P d good e) :
    Opens P (Kd.slice e d) (fun xs => xs.length ≤ 9223372036854775807 ∧ ∀ x ∈ xs, good x) t := by
  refine ⟨fun {H} enc w base spare held fuel cs x h => ?_⟩
  rcases DataW.trod_slice ht h with ⟨rfl, rfl⟩ | ⟨a, len, cap, elems, rest, n, _, rfl, rfl, hb, hl, hm, hlen, hel, _, _⟩
  · exact ⟨[], ⟨none, 0, rfl, Nat.le_refl _, Kd.C_nil d w⟩, by simp, fun x hx => absurd hx (by simp)⟩
  · have each : ∀ i, i < len → ∃ p, ∃ c, c.length = d.sz ∧ d.K w p c ∧ good p ∧ ∀ j u, c[j]? = some u → w.cell? (a.add (i * d.sz + j)) = some u := by
      intro i hi
      have h1 := hel i hi
      rw [List.getElem?_eq_getElem (by omega), hc, Option.bind_eq_some_iff] at h1
      obtain ⟨c, hcs, hy⟩ := h1
      obtain ⟨p, hK, hg⟩ := ho.get enc w base spare held n c _ hy
      refine ⟨p, c, d.K_len hK, hK, hg, fun j u hu => ?_⟩
      have hj : j < d.sz := by have := (List.getElem?_eq_some_iff.1 hu).1; rw [d.K_len hK] at this; exact this
      have := (World.cells?_some hcs).2.2 j hj
      rw [hu, Addr.add_add] at this
      exact this
    refine ⟨List.ofFn fun i : Fin len => Classical.choose (each i i.2), ⟨some a, cap, by simp, by simpa using hl, ?_⟩, by simp; unfold maxLen at hm; omega, fun x hx => ?_⟩
    · refine ⟨by simp, by simp; unfold maxLen at hm; omega, fun _ => ⟨a, rfl, fun j p hj => ?_⟩⟩
      obtain ⟨hj1, hj2⟩ := List.getElem?_eq_some_iff.1 hj
      simp only [List.getElem_ofFn] at hj2
      simp only [List.length_ofFn] at hj1
      have hs := Classical.choose_spec (each j hj1)
      rw [hj2] at hs
      obtain ⟨c, h1, h2, _, h4⟩ := hs
      exact ⟨c, h1, h2, h4⟩
    · obtain ⟨j, hj, rfl⟩ := List.getElem_of_mem hx
      simp only [List.getElem_ofFn]
      obtain ⟨c, _, _, h3, _⟩ := Classical.choose_spec (each j (by simpa using hj))
      exact h3
/-- The same for fields in line, from an offset on. -/
structure OpensFs {α : Type} (P : Program) (d : Kd α) (good : α → Prop) (fs : List Field) (off : Nat) : Prop where
  get : ∀ {H : Type} (enc : TypeId × Value → H) (w : World) (base : Nat) (spare : Nat → Bool) (held : Bool) (fuel : Nat) (cs : List Value),
    (∀ f ∈ fs, ∃ y, DataW.trod enc P w base spare held fuel f.type ((cs.drop f.offset).take (P.cellsOf f.type)) = some y) → ∃ a, d.K w a ((cs.drop off).take d.sz) ∧ good a
theorem opensFs_one {α : Type} {P : Program} {d : Kd α} {good : α → Prop} {f : Field} {off : Nat} (h : Opens P d good f.type) (hf : f.offset = off) (hc : P.cellsOf f.type = d.sz) : OpensFs P d good [f] off := by
  refine ⟨fun {H} enc w base spare held fuel cs hy => ?_⟩
  obtain ⟨y, e⟩ := hy f (by simp)
  rw [hf, hc] at e
  exact h.get enc w base spare held fuel _ y e
theorem opensFs_cons {α β : Type} {P : Program} {d : Kd α} {d' : Kd β} {good : α → Prop} {good' : β → Prop} {f : Field} {fs : List Field} {off : Nat} (h : Opens P d good f.type) (hf : f.offset = off) (hc : P.cellsOf f.type = d.sz) (ht : OpensFs P d' good' fs (off + d.sz)) :
    OpensFs P (Kd.pair d d') (fun x => good x.1 ∧ good' x.2) (f :: fs) off := by
  refine ⟨fun {H} enc w base spare held fuel cs hy => ?_⟩
  obtain ⟨y, e⟩ := hy f (by simp)
  rw [hf, hc] at e
  obtain ⟨a, hK, hg⟩ := h.get enc w base spare held fuel _ y e
  obtain ⟨b, hK', hg'⟩ := ht.get enc w base spare held fuel cs (fun f' hf' => hy f' (by simp [hf']))
  refine ⟨(a, b), ⟨_, _, ?_, hK, hK'⟩, hg, hg'⟩
  show (cs.drop off).take (d.sz + d'.sz) = _
  rw [List.take_add, List.drop_drop]
theorem opens_struct {α β : Type} {P : Program} {d : Kd α} {good : α → Prop} {t : TypeId} {fs : Array Field} (ht : P.underlying t = some (.struct fs)) (hc : P.cellsOf t = d.sz) (h : OpensFs P d good fs.toList 0) (f : β → α) (hs : ∀ a, ∃ b, f b = a) :
    Opens P (Kd.iso d f) (fun b => good (f b)) t := by
  refine ⟨fun {H} enc w base spare held fuel cs x hx => ?_⟩
  obtain ⟨xs, n, _, rfl, hl, hlen, hf⟩ := DataW.trod_struct ht hx
  obtain ⟨a, hK, hg⟩ := h.get enc w base spare held n cs (fun f' hf' => by
    obtain ⟨j, hj, rfl⟩ := List.getElem_of_mem hf'
    have := hf j fs.toList[j] (by simp)
    have hj2 : j < xs.length := by rw [hlen]; simpa using hj
    exact ⟨xs[j], by rw [this, List.getElem?_eq_getElem hj2]⟩)
  obtain ⟨b, rfl⟩ := hs a
  have e : (cs.drop 0).take d.sz = cs := by rw [List.drop_zero, List.take_of_length_le (by omega)]
  rw [e] at hK
  exact ⟨b, hK, hg⟩
end Go.Proofs.Ytghlbhijkhkgkaa.PA
end
section
/- The flow seat: an argument of the type Func reads as a list of blocks. -/
namespace Go.Proofs.Ytghlbhijkhkgkaa.PA
open Go.RowKit Go.ChangeShapes Go.WideShapes Go.Proofs.YtghlbhijkhkgkaaW.PrintWords
set_option linter.unusedVariables false
theorem Opens.imp {α : Type} {P : Program} {d : Kd α} {g g' : α → Prop} {t : TypeId} (h : Opens P d g t) (hg : ∀ a, g a → g' a) : Opens P d g' t := by
  refine ⟨fun {H} enc w base spare held fuel cs x hx => ?_⟩
  obtain ⟨a, h1, h2⟩ := h.get enc w base spare held fuel cs x hx
  exact ⟨a, h1, hg a h2⟩
theorem oI3 : Opens Try.prog (Kd.int .i64) (fun n => (Lit.int .i64 n).wf = true) 3 := opens_int Try.underlying3
theorem oI2 : Opens Try.prog (Kd.int .i64) (fun n => (Lit.int .i64 n).wf = true) 2 := opens_int Try.underlying2
theorem oL34 : Opens Try.prog (Kd.slice 3 (Kd.int .i64)) (fun l => l.length ≤ Max) 34 := (opens_slice Try.underlying34 (by kernel_rfl) oI3).imp (fun _ h => h.1)
theorem o142 : Opens Try.prog k142 FitI 142 :=
  (opens_struct Try.underlying142 (by kernel_rfl) (opensFs_cons oI3 rfl (by kernel_rfl) (opensFs_cons oI2 rfl (by kernel_rfl) (opensFs_one oL34 rfl (by kernel_rfl)))) (fun x : S142 => (x.f0, x.f1, x.f2)) (fun a => ⟨⟨a.1, a.2.1, a.2.2⟩, rfl⟩)).imp (fun _ h => h.2.2)
theorem o144 : Opens Try.prog k144 FitJ 144 :=
  (opens_struct Try.underlying144 (by kernel_rfl) (opensFs_cons oI3 rfl (by kernel_rfl) (opensFs_one oL34 rfl (by kernel_rfl))) (fun x : S144 => (x.f0, x.f1)) (fun a => ⟨⟨a.1, a.2⟩, rfl⟩)).imp (fun _ h => h.2)
theorem o92 : Opens Try.prog (Kd.slice 142 k142) (fun l => l.length ≤ Max ∧ ∀ x ∈ l, FitI x) 92 := opens_slice Try.underlying92 (by kernel_rfl) o142
theorem o93 : Opens Try.prog (Kd.slice 144 k144) (fun l => l.length ≤ Max ∧ ∀ x ∈ l, FitJ x) 93 := opens_slice Try.underlying93 (by kernel_rfl) o144
theorem o95 : Opens Try.prog k95 FitB 95 :=
  (opens_struct Try.underlying95 (by kernel_rfl) (opensFs_cons oI3 rfl (by kernel_rfl) (opensFs_cons o92 rfl (by kernel_rfl) (opensFs_cons oI3 rfl (by kernel_rfl) (opensFs_cons oI3 rfl (by kernel_rfl) (opensFs_one o93 rfl (by kernel_rfl))))))
    (fun x : S95 => (x.f0, x.f1, x.f2, x.f3, x.f4)) (fun a => ⟨⟨a.1, a.2.1, a.2.2.1, a.2.2.2.1, a.2.2.2.2⟩, rfl⟩)).imp (fun _ h => ⟨h.2.1, h.2.2.2.2⟩)
theorem o22 : Opens Try.prog (Kd.slice 95 k95) (fun l => l.length ≤ Max ∧ ∀ x ∈ l, FitB x) 22 := opens_slice Try.underlying22 (by kernel_rfl) o95
theorem o24 : Opens Try.prog (Kd.iso (Kd.pair (Kd.int .i64) (Kd.slice 95 k95)) (fun x : Int × List S95 => x)) (fun x => Fit x.2) 24 :=
  (opens_struct Try.underlying24 (by kernel_rfl) (opensFs_cons oI3 rfl (by kernel_rfl) (opensFs_one o22 rfl (by kernel_rfl))) (fun x : Int × List S95 => x) (fun a => ⟨a, rfl⟩)).imp (fun _ h => h.2)
set_option maxRecDepth 100000 in
theorem open_func {H : Type} {enc : TypeId × Value → H} {w : World} {base : Nat} {spare : Nat → Bool} {held : Bool} {v : Value} {d : DataW H} {ps : List MemPlace} {W : World} {b : Nat} {r : Reach}
    (hv : Value.okWide Try.prog W r b 24 v) (h : DataW.Trod enc Try.prog w base spare held 24 v d ps) : ∃ p A c, ∃ bs : List S95, v = .agg #[.int .i64 p, .slice A bs.length c] ∧ bs.length ≤ c ∧ Kd.C k95 w A bs.length bs ∧ Fit bs := by
  obtain ⟨fuel, hf⟩ := h
  obtain ⟨⟨p, bs⟩, ⟨c0, c1, e, h0, A, c, h1, hl, hC⟩, hg⟩ := o24.get enc w base spare held fuel _ _ hf
  obtain ⟨cs, rfl, _⟩ : ∃ cs, v = .agg cs ∧ cs.size = Try.prog.cellsOf 24 := by
    simp only [Value.okWide, Try.underlying24] at hv
    obtain ⟨cs, h1, h2, _⟩ := hv
    exact ⟨cs, h1, h2⟩
  refine ⟨p, A, c, bs, ?_, hl, hC, hg⟩
  have e2 : cs.toList = [.int .i64 p, .slice A bs.length c] := by
    have e3 : (Value.agg cs).cells = cs := rfl
    rw [e3] at e
    rw [e, h0, h1]; rfl
  have : cs = #[.int .i64 p, .slice A bs.length c] := by
    apply Array.ext'
    simpa using e2
  rw [this]
end Go.Proofs.Ytghlbhijkhkgkaa.PA
end
