/- The graph seat: IndexFunc, ContainsFunc over ints, GoodParts, enodeOK, Clone by hand. -/
import Derived.Test.YtlnejmlphkpaaaaIqGb
import Derived.StillTailTactics
namespace Go.Proofs.Ytlnejmlphkpaaaa.PA
open Go.RowKit Go.Proofs.YtlnejmlphkpaaaaW.PrintWords Go.Proofs.YtlnejmlphkpaaaaW.PrintLast Go.Proofs.YtlnejmlphkpaaaaW.PrintMore
set_option linter.unusedVariables false
set_option linter.unusedSimpArgs false
def fIdx {α : Type} (p : α → Bool) (xs : List α) : Int := match xs.findIdx? p with | some i => (i : Int) | none => -1
theorem fIdx_hit {α : Type} (p : α → Bool) (xs : List α) (d : α) (x : Int) (h0 : 0 ≤ x) (h1 : x < xs.length) (hp : p (xs.getD x.toNat d) = true) (ha : ∀ j, j < x.toNat → p (xs.getD j d) = false) : fIdx p xs = x := by
 have hl : x.toNat < xs.length := by omega
 have : xs.findIdx? p = some x.toNat := by
  rw [List.findIdx?_eq_some_iff_getElem]
  refine ⟨hl, by rw [List.getD_eq_getElem?_getD, List.getElem?_eq_getElem hl] at hp; exact hp, fun j hj => ?_⟩
  have := ha j hj
  rw [List.getD_eq_getElem?_getD, List.getElem?_eq_getElem (by omega)] at this
  simpa using this
 simp only [fIdx, this]
 omega
theorem fIdx_miss {α : Type} (p : α → Bool) (xs : List α) (d : α) (ha : ∀ j, j < xs.length → p (xs.getD j d) = false) : fIdx p xs = -1 := by
 have : xs.findIdx? p = none := by
  rw [List.findIdx?_eq_none_iff]
  intro x hx
  obtain ⟨j, hj, rfl⟩ := List.getElem_of_mem hx
  have := ha j hj
  rwa [List.getD_eq_getElem?_getD, List.getElem?_eq_getElem hj] at this
 simp only [fIdx, this]
theorem fIdx_any {α : Type} (p : α → Bool) (xs : List α) : decide (0 ≤ fIdx p xs) = xs.any p := by
 rw [fIdx, ← List.findIdx?_isSome]
 cases xs.findIdx? p with
 | none => rfl
 | some i => simp

theorem mem_at {α : Type} (xs : List α) (d : α) (x : Int) (h0 : 0 ≤ x) (h1 : x < xs.length) : xs.getD x.toNat d ∈ xs := by
 have hl : x.toNat < xs.length := by omega
 rw [List.getD_eq_getElem?_getD, List.getElem?_eq_getElem hl]
 exact List.getElem_mem hl
theorem enters_fn {P : Program} {f : FuncId} {fn : Func} (hf : P.funcs[f]? = some fn) (hname : (fn.name == "runtime.NumGoroutine") = false) (hb : fn.body.isSome = true) : ∀ args w, (callFunc f args).run P w = .ok (.enter f args) w := fun args w => enters_ hf hname hb args w
def PredInt (P : Program) (g : Nat) (lb : Array Value) (xs : List Int) (p : Int → Bool) (w : World) : Prop :=
 ∀ x ∈ xs, Calls P g (#[.int .i64 x] ++ lb) w fun e w' => e = .returned (.bool (p x)) ∧ w = w'
set_option maxHeartbeats 1000000 in
theorem sl_IndexFunc_int (A : Option Addr) (c : Nat) (xs : List Int) (g : Nat) (lb : Array Value) (p : Int → Bool) (w : World) (hr : Kd.C (Kd.int .i64) w A xs.length xs)
  (eg : ∀ args w, (callFunc g args).run Try.prog w = .ok (.enter g args) w) (hp : PredInt Try.prog g lb xs p w) :
  Calls Try.prog 138 #[.slice A xs.length c, .func (.func g) #[] lb] w fun e w' => e = .returned (.int .i64 (fIdx p xs)) ∧ w = w' := by
 have HR := Aside0.mk hr
 have HP := Aside0.mk hp
 clear hr hp
 have hmax := Kd.C_max HR.out
 go_enter Try.func138, Try.ntmps138
 go_wp2
 go_loopg [5, 8] xs.length (fun gg _ s8 wr => ∃ x : Int, s8 = .int .i64 x ∧ Aside0 (0 ≤ x ∧ x ≤ xs.length ∧ xs.length - x.toNat ≤ gg ∧ ∀ j, j < x.toNat → p (xs.getD j 0) = false) ∧ w = wr)
 case atStart => exact ⟨0, rfl, ⟨by omega, by omega, by simp, fun j hj => absurd hj (by simp)⟩, rfl⟩
 case round =>
  obtain ⟨x, rfl, HA, rfl⟩ := hrel
  by_cases hlt : x < xs.length
  ·have c0 : decide (x < (xs.length : Int)) = true := decide_eq_true hlt
   obtain ⟨ad, e, hx⟩ := Kd.at_int HR.out x HA.out.1 hlt
   cases e
   have p0 := eq_true HA.out.1
   have q0 := eq_true hlt
   have hcall := HP.out (rd xs x) (mem_at xs 0 x HA.out.1 hlt)
   have HL := Aside0.mk hlt
   clear hlt
   cases hq : p (rd xs x) with
   | true =>
    rw [hq] at hcall
    have HQ := Aside0.mk hq
    clear hq
    go_wp2_with (go_at_fn g; refine hcall.mono ?_; rintro e w' ⟨rfl, rfl⟩)
    go_ret
    exact ⟨by rw [fIdx_hit p xs 0 x HA.out.1 HL.out HQ.out HA.out.2.2.2]; rfl, rfl⟩
   | false =>
    rw [hq] at hcall
    have HQ := Aside0.mk hq
    clear hq
    go_wp2_with (go_at_fn g; refine hcall.mono ?_; rintro e w' ⟨rfl, rfl⟩)
    go_roundg (xs.length - (x + 1).toNat)
    case measure => have := HA.out; have := HL.out; omega
    case rel =>
     have hw : wrap64 (x + 1) = x + 1 := by have := HL.out; have := HA.out.1; unfold wrap64; omega
     refine ⟨wrap64 (x + 1), by first | rfl | (rw [hw]; rfl) | (rw [hw]), ⟨by rw [hw]; have := HA.out.1; omega, by rw [hw]; have := HL.out; omega, by rw [hw]; omega, fun j hj => ?_⟩, rfl⟩
     rw [hw] at hj
     by_cases e : j = x.toNat
     ·subst e; exact HQ.out
     ·exact HA.out.2.2.2 j (by have := HA.out.1; omega)
  ·have c0 : decide (x < (xs.length : Int)) = false := decide_eq_false hlt
   have HL := Aside0.mk hlt
   clear hlt
   go_wp2
   go_ret
   exact ⟨by rw [fIdx_miss p xs 0 (fun j hj => HA.out.2.2.2 j (by have := HL.out; omega))]; rfl, rfl⟩
set_option maxHeartbeats 1000000 in
theorem sl_ContainsFunc_int (A : Option Addr) (c : Nat) (xs : List Int) (g : Nat) (lb : Array Value) (p : Int → Bool) (w : World) (hr : Kd.C (Kd.int .i64) w A xs.length xs)
  (eg : ∀ args w, (callFunc g args).run Try.prog w = .ok (.enter g args) w) (hp : PredInt Try.prog g lb xs p w) :
  Calls Try.prog 92 #[.slice A xs.length c, .func (.func g) #[] lb] w fun e w' => e = .returned (.bool (xs.any p)) ∧ w = w' := by
 have hcall := Aside0.mk (sl_IndexFunc_int A c xs g lb p w hr eg hp)
 have HE := Aside0.mk (fIdx_any p xs)
 clear hr hp eg
 go_enter Try.func92, Try.ntmps92
 go_wp2_with (go_at_call 138; refine (hcall.out).mono ?_; rintro e w' ⟨rfl, rfl⟩)
 go_ret
 exact ⟨by rw [← HE.out]; rfl, rfl⟩
theorem gp_closure (A : Option Addr) (c : Nat) (xs : List Int) (g : Nat) (x : Int) (W : World) (hg : W.heap[g]? = some (.cells #[.slice A xs.length c] 23 (0, 0))) (hr : Kd.C (Kd.int .i64) W A xs.length xs) (h0 : 0 ≤ x) (h1 : x < xs.length) :
  Calls Try.prog 134 #[.int .i64 x, .pointer (some ⟨g, 0, none⟩)] W fun e W' => e = .returned (.bool (rd xs x != x)) ∧ W = W' := by
 have hcell : W.cell? ⟨g, 0, none⟩ = some (.slice A xs.length c) := (blk_cell hg 0).trans rfl
 obtain ⟨ad, e, hx⟩ := Kd.at_int hr x h0 h1
 cases e
 clear hg hr
 have p0 := eq_true h0
 have q0 := eq_true h1
 clear h0 h1
 go_enter Try.func134, Try.ntmps134
 go_wp2
 go_ret
 exact ⟨rfl, rfl⟩
set_option maxHeartbeats 2000000 in
theorem parts_calls {A : Option Addr} {c : Nat} {l : List Int} (w : World) (hr : Kd.C (Kd.int .i64) w A l.length l) (hc : l.length ≤ c) (hl : l.length ≤ 1000) :
  Calls Try.prog 76 #[.slice A l.length c] w fun e w' => e = .returned (.bool (partsB l)) ∧ Below w.heap.size w w' := by
 have HP := Aside0.mk (show ∀ W, Kd.C (Kd.int .i64) W A l.length l → Calls Try.prog 133 #[.slice A l.length c] W fun e w' => e = .returned (.bool (parB l)) ∧ Drawn0 W w' from fun W hW => by
  obtain ⟨k, hk⟩ := Ev.rounds (parents_f l hl)
  exact impl_parentsOK.calls k A c l _ W hW hc hk)
 have HR := Aside0.mk hr
 have HQ := Aside0.mk (show partsB l = (parB l && !(l.any fun p => rd l p != p)) by
  rw [parts_same]
  congr 1
  rw [List.not_any_eq_all_not]
  refine List.all_congr rfl (fun p => ?_)
  cases h : rd l p == p <;> simp [bne, h])
 have HF := Aside0.mk (show parB l = true → ∀ x ∈ l, 0 ≤ x ∧ x < l.length from fun h x hx => by
  obtain ⟨j, hj, rfl⟩ := List.getElem_of_mem hx
  unfold parB at h
  rw [Bool.and_eq_true, allFrom_iff] at h
  have := h.1 j hj
  rw [rd_at l j hj] at this
  unfold within at this
  simp only [Bool.and_eq_true, decide_eq_true_eq] at this
  omega)
 have heg := enters_fn (P := Try.prog) Try.func134 (by kernel_rfl) rfl
 clear hr hc hl
 generalize partsB l = r at *
 generalize hb : parB l = b at *
 have HB0 := Aside0.mk hb
 clear hb
 cases b with
 | false =>
  go_enter Try.func76, Try.ntmps76
  go_wp2_with (go_at_call 133; refine (HP.out _ (Kd.C_alloc HR.out _)).mono ?_; rintro e w' ⟨rfl, ⟨nq, rfl⟩⟩)
  go_ret
  exact ⟨by rw [HQ.out]; rfl, pw_below_drewN (below_alloc (Below.refl _ _) _) _⟩
 | true =>
  generalize ha : (l.any fun p => rd l p != p) = a at *
  have HA0 := Aside0.mk ha
  clear ha
  go_enter Try.func76, Try.ntmps76
  go_wp2_with (first | (go_at_call 133; refine (HP.out _ (Kd.C_alloc HR.out _)).mono ?_; rintro e w' ⟨rfl, ⟨nq, rfl⟩⟩) | (go_at_call 92; refine (sl_ContainsFunc_int A c l 134 #[.pointer (some ⟨w.heap.size, 0, none⟩)] (fun x => rd l x != x) _ (Kd.C_drewN (Kd.C_alloc HR.out _) _) heg ?hp).mono ?_; (case hp => exact fun x hx => gp_closure A c l w.heap.size x _ (blk_drewN (blk_new w _) _) (Kd.C_drewN (Kd.C_alloc HR.out _) _) (HF.out (by trivial) x hx).1 (HF.out (by trivial) x hx).2); rw [HA0.out]; rintro e w' ⟨rfl, rfl⟩))
  go_ret
  exact ⟨by rw [HQ.out]; rfl, pw_below_drewN (below_alloc (Below.refl _ _) _) _⟩
end Go.Proofs.Ytlnejmlphkpaaaa.PA
