/- The flow seat: slices.IndexFunc and slices.ContainsFunc by hand, over ints, instructions, jumps and blocks. -/
import Derived.Test.YtghlbhijkhkgkaaAb2Mf
namespace Go.Proofs.Ytghlbhijkhkgkaa.PA
open Go.RowKit Go.Proofs.YtghlbhijkhkgkaaW.PrintWords Go.Proofs.YtghlbhijkhkgkaaW.PrintLast Go.Proofs.YtghlbhijkhkgkaaW.PrintMore
set_option linter.unusedVariables false
/-- Where a predicate holds first; -1 where it holds nowhere. -/
def fIdx {α : Type} (p : α → Bool) (xs : List α) : Int := match xs.findIdx? p with | some i => (i : Int) | none => -1
theorem fIdx_hit {α : Type} (p : α → Bool) (xs : List α) (d : α) (x : Int) (h0 : 0 ≤ x) (h1 : x < xs.length) (hp : p (xs.getD x.toNat d) = true) (ha : ∀ j, j < x.toNat → p (xs.getD j d) = false) : fIdx p xs = x := by
  have hl : x.toNat < xs.length := by omega
  have : xs.findIdx? p = some x.toNat := by
    rw [List.findIdx?_eq_some_iff_getElem]
    refine ⟨hl, by rw [List.getD_eq_getElem?_getD, List.getElem?_eq_getElem hl] at hp; exact hp, fun j hj => ?_⟩
    have := ha j hj
    rw [List.getD_eq_getElem?_getD, List.getElem?_eq_getElem (by omega)] at this
    simpa using this
  simp only [fIdx, this]
  omega
theorem fIdx_miss {α : Type} (p : α → Bool) (xs : List α) (d : α) (ha : ∀ j, j < xs.length → p (xs.getD j d) = false) : fIdx p xs = -1 := by
  have : xs.findIdx? p = none := by
    rw [List.findIdx?_eq_none_iff]
    intro x hx
    obtain ⟨j, hj, rfl⟩ := List.getElem_of_mem hx
    have := ha j hj
    rwa [List.getD_eq_getElem?_getD, List.getElem?_eq_getElem hj] at this
  simp only [fIdx, this]
theorem fIdx_any {α : Type} (p : α → Bool) (xs : List α) : decide (0 ≤ fIdx p xs) = xs.any p := by
  rw [fIdx, ← List.findIdx?_isSome]
  cases xs.findIdx? p with
  | none => rfl
  | some i => simp
theorem mem_at {α : Type} (xs : List α) (d : α) (x : Int) (h0 : 0 ≤ x) (h1 : x < xs.length) : xs.getD x.toNat d ∈ xs := by
  have hl : x.toNat < xs.length := by omega
  rw [List.getD_eq_getElem?_getD, List.getElem?_eq_getElem hl]
  exact List.getElem_mem hl
/-- A call of a function value whose function has a body enters it. -/
theorem enters_fn {P : Program} {f : FuncId} {fn : Func} (hf : P.funcs[f]? = some fn) (hname : (fn.name == "runtime.NumGoroutine") = false) (hb : fn.body.isSome = true) : ∀ args w, (callFunc f args).run P w = .ok (.enter f args) w := fun args w => enters_ hf hname hb args w
/-- What is asked of a predicate on elements. -/
def Predint (g : Nat) (lb : Array Value) (xs : List Int) (p : Int → Bool) (w : World) : Prop :=
  ∀ W, Below w.heap.size w W → ∀ x ∈ xs, Calls Try.prog g (#[.int .i64 x] ++ lb) W fun e W' => e = .returned (.bool (p x)) ∧ Below W.heap.size W W'
set_option maxHeartbeats 1000000 in
theorem sl_IndexFunc_int (A : Option Addr) (c : Nat) (xs : List Int) (g : Nat) (lb : Array Value) (p : Int → Bool) (w : World) (hr : Kd.C (Kd.int .i64) w A xs.length xs)
    (eg : ∀ args w, (callFunc g args).run Try.prog w = .ok (.enter g args) w) (hp : Predint g lb xs p w) :
    Calls Try.prog 129 #[.slice A xs.length c, .func (.func g) #[] lb] w fun e w' => e = .returned (.int .i64 (fIdx p xs)) ∧ Below w.heap.size w w' := by
  have HR := Aside0.mk hr
  have HP := Aside0.mk hp
  clear hr hp
  have hmax := Kd.C_max HR.out
  go_enter Try.func129, Try.ntmps129
  go_wp2
  go_loopg [5, 8] xs.length (fun gg _ s8 wr => ∃ x : Int, s8 = .int .i64 x ∧ Aside0 (0 ≤ x ∧ x ≤ xs.length ∧ xs.length - x.toNat ≤ gg ∧ ∀ j, j < x.toNat → p (xs.getD j 0) = false) ∧ Aside0 (Below w.heap.size w wr))
  case atStart => exact ⟨0, rfl, ⟨by omega, by omega, by simp, fun j hj => absurd hj (by simp)⟩, ⟨Below.refl _ _⟩⟩
  case round =>
    obtain ⟨x, rfl, HA, HB⟩ := hrel
    by_cases hlt : x < xs.length
    · have c0 : decide (x < (xs.length : Int)) = true := decide_eq_true hlt
      obtain ⟨ad, e, hx⟩ := Kd.at_int (Kd.C_below HR.out HB.out) x HA.out.1 hlt
      cases e
      have p0 := eq_true HA.out.1
      have q0 := eq_true hlt
      have hcall := HP.out wr HB.out (rd xs x) (mem_at xs 0 x HA.out.1 hlt)
      have HL := Aside0.mk hlt
      clear hlt
      cases hq : p (rd xs x) with
      | true =>
        rw [hq] at hcall
        have HQ := Aside0.mk hq
        clear hq
        go_wp2_with (go_at_fn g; refine hcall.mono ?_; rintro e w' ⟨rfl, hb'⟩; have HB' := Aside0.mk (below_step HB.out hb'); clear hb' HB)
        go_ret
        exact ⟨by rw [fIdx_hit p xs 0 x HA.out.1 HL.out HQ.out HA.out.2.2.2]; rfl, HB'.out⟩
      | false =>
        rw [hq] at hcall
        have HQ := Aside0.mk hq
        clear hq
        go_wp2_with (go_at_fn g; refine hcall.mono ?_; rintro e w' ⟨rfl, hb'⟩; have HB' := Aside0.mk (below_step HB.out hb'); clear hb' HB)
        go_roundg (xs.length - (x + 1).toNat)
        case measure => have := HA.out; have := HL.out; omega
        case rel =>
          have hw : wrap64 (x + 1) = x + 1 := by have := HL.out; have := HA.out.1; unfold wrap64; omega
          refine ⟨wrap64 (x + 1), by first | rfl | (rw [hw]; rfl) | (rw [hw]), ⟨by rw [hw]; have := HA.out.1; omega, by rw [hw]; have := HL.out; omega, by rw [hw]; omega, fun j hj => ?_⟩, HB'⟩
          rw [hw] at hj
          by_cases e : j = x.toNat
          · subst e; exact HQ.out
          · exact HA.out.2.2.2 j (by have := HA.out.1; omega)
    · have c0 : decide (x < (xs.length : Int)) = false := decide_eq_false hlt
      have HL := Aside0.mk hlt
      clear hlt
      go_wp2
      go_ret
      exact ⟨by rw [fIdx_miss p xs 0 (fun j hj => HA.out.2.2.2 j (by have := HL.out; omega))]; rfl, HB.out⟩
set_option maxHeartbeats 1000000 in
theorem sl_ContainsFunc_int (A : Option Addr) (c : Nat) (xs : List Int) (g : Nat) (lb : Array Value) (p : Int → Bool) (w : World) (hr : Kd.C (Kd.int .i64) w A xs.length xs)
    (eg : ∀ args w, (callFunc g args).run Try.prog w = .ok (.enter g args) w) (hp : Predint g lb xs p w) :
    Calls Try.prog 98 #[.slice A xs.length c, .func (.func g) #[] lb] w fun e w' => e = .returned (.bool (xs.any p)) ∧ Below w.heap.size w w' := by
  have hcall := Aside0.mk (sl_IndexFunc_int A c xs g lb p w hr eg hp)
  have HE := Aside0.mk (fIdx_any p xs)
  clear hr hp eg
  go_enter Try.func98, Try.ntmps98
  go_wp2_with (go_at_call 129; refine (hcall.out).mono ?_; rintro e w' ⟨rfl, hb'⟩; have HB' := Aside0.mk hb'; clear hb' hcall)
  go_ret
  exact ⟨by rw [← HE.out]; rfl, HB'.out⟩
/-- What is asked of a predicate on elements. -/
def Predinst (g : Nat) (lb : Array Value) (xs : List S89) (p : S89 → Bool) (w : World) : Prop :=
  ∀ W, Below w.heap.size w W → ∀ x ∈ xs, ∀ A2 c2, x.f2.length ≤ c2 → Kd.C (Kd.int .i64) W A2 x.f2.length x.f2 → Calls Try.prog g (#[.agg #[.int .i64 x.f0, .int .i64 x.f1, .slice A2 x.f2.length c2]] ++ lb) W fun e W' => e = .returned (.bool (p x)) ∧ Below W.heap.size W W'
set_option maxHeartbeats 1000000 in
theorem sl_IndexFunc_inst (A : Option Addr) (c : Nat) (xs : List S89) (g : Nat) (lb : Array Value) (p : S89 → Bool) (w : World) (hr : Kd.C k89 w A xs.length xs)
    (eg : ∀ args w, (callFunc g args).run Try.prog w = .ok (.enter g args) w) (hp : Predinst g lb xs p w) :
    Calls Try.prog 149 #[.slice A xs.length c, .func (.func g) #[] lb] w fun e w' => e = .returned (.int .i64 (fIdx p xs)) ∧ Below w.heap.size w w' := by
  have HR := Aside0.mk hr
  have HP := Aside0.mk hp
  clear hr hp
  have hmax := Kd.C_max HR.out
  go_enter Try.func149, Try.ntmps149
  go_wp2
  go_loopg [5, 8] xs.length (fun gg _ s8 wr => ∃ x : Int, s8 = .int .i64 x ∧ Aside0 (0 ≤ x ∧ x ≤ xs.length ∧ xs.length - x.toNat ≤ gg ∧ ∀ j, j < x.toNat → p (xs.getD j z89) = false) ∧ Aside0 (Below w.heap.size w wr))
  case atStart => exact ⟨0, rfl, ⟨by omega, by omega, by simp, fun j hj => absurd hj (by simp)⟩, ⟨Below.refl _ _⟩⟩
  case round =>
    obtain ⟨x, rfl, HA, HB⟩ := hrel
    by_cases hlt : x < xs.length
    · have c0 : decide (x < (xs.length : Int)) = true := decide_eq_true hlt
      obtain ⟨ad, A2, c2, e, hx0, hx1, hx2, hl2, hi2⟩ := at_T89 (Kd.C_below HR.out HB.out) x HA.out.1 hlt
      cases e
      have p0 := eq_true HA.out.1
      have q0 := eq_true hlt
      have hcall := HP.out wr HB.out (rd_T89 xs x) (mem_at xs z89 x HA.out.1 hlt) A2 c2 hl2 hi2
      have HI2 := Aside0.mk (And.intro hl2 hi2)
      clear hl2 hi2
      have HL := Aside0.mk hlt
      clear hlt
      cases hq : p (rd_T89 xs x) with
      | true =>
        rw [hq] at hcall
        have HQ := Aside0.mk hq
        clear hq
        go_wp2_with (go_at_fn g; refine hcall.mono ?_; rintro e w' ⟨rfl, hb'⟩; have HB' := Aside0.mk (below_step HB.out hb'); clear hb' HB)
        go_ret
        exact ⟨by rw [fIdx_hit p xs z89 x HA.out.1 HL.out HQ.out HA.out.2.2.2]; rfl, HB'.out⟩
      | false =>
        rw [hq] at hcall
        have HQ := Aside0.mk hq
        clear hq
        go_wp2_with (go_at_fn g; refine hcall.mono ?_; rintro e w' ⟨rfl, hb'⟩; have HB' := Aside0.mk (below_step HB.out hb'); clear hb' HB)
        go_roundg (xs.length - (x + 1).toNat)
        case measure => have := HA.out; have := HL.out; omega
        case rel =>
          have hw : wrap64 (x + 1) = x + 1 := by have := HL.out; have := HA.out.1; unfold wrap64; omega
          refine ⟨wrap64 (x + 1), by first | rfl | (rw [hw]; rfl) | (rw [hw]), ⟨by rw [hw]; have := HA.out.1; omega, by rw [hw]; have := HL.out; omega, by rw [hw]; omega, fun j hj => ?_⟩, HB'⟩
          rw [hw] at hj
          by_cases e : j = x.toNat
          · subst e; exact HQ.out
          · exact HA.out.2.2.2 j (by have := HA.out.1; omega)
    · have c0 : decide (x < (xs.length : Int)) = false := decide_eq_false hlt
      have HL := Aside0.mk hlt
      clear hlt
      go_wp2
      go_ret
      exact ⟨by rw [fIdx_miss p xs z89 (fun j hj => HA.out.2.2.2 j (by have := HL.out; omega))]; rfl, HB.out⟩
set_option maxHeartbeats 1000000 in
theorem sl_ContainsFunc_inst (A : Option Addr) (c : Nat) (xs : List S89) (g : Nat) (lb : Array Value) (p : S89 → Bool) (w : World) (hr : Kd.C k89 w A xs.length xs)
    (eg : ∀ args w, (callFunc g args).run Try.prog w = .ok (.enter g args) w) (hp : Predinst g lb xs p w) :
    Calls Try.prog 123 #[.slice A xs.length c, .func (.func g) #[] lb] w fun e w' => e = .returned (.bool (xs.any p)) ∧ Below w.heap.size w w' := by
  have hcall := Aside0.mk (sl_IndexFunc_inst A c xs g lb p w hr eg hp)
  have HE := Aside0.mk (fIdx_any p xs)
  clear hr hp eg
  go_enter Try.func123, Try.ntmps123
  go_wp2_with (go_at_call 149; refine (hcall.out).mono ?_; rintro e w' ⟨rfl, hb'⟩; have HB' := Aside0.mk hb'; clear hb' hcall)
  go_ret
  exact ⟨by rw [← HE.out]; rfl, HB'.out⟩
/-- What is asked of a predicate on elements. -/
def Predjump (g : Nat) (lb : Array Value) (xs : List S109) (p : S109 → Bool) (w : World) : Prop :=
  ∀ W, Below w.heap.size w W → ∀ x ∈ xs, ∀ A1 c1, x.f1.length ≤ c1 → Kd.C (Kd.int .i64) W A1 x.f1.length x.f1 → Calls Try.prog g (#[.agg #[.int .i64 x.f0, .slice A1 x.f1.length c1]] ++ lb) W fun e W' => e = .returned (.bool (p x)) ∧ Below W.heap.size W W'
set_option maxHeartbeats 1000000 in
theorem sl_IndexFunc_jump (A : Option Addr) (c : Nat) (xs : List S109) (g : Nat) (lb : Array Value) (p : S109 → Bool) (w : World) (hr : Kd.C k109 w A xs.length xs)
    (eg : ∀ args w, (callFunc g args).run Try.prog w = .ok (.enter g args) w) (hp : Predjump g lb xs p w) :
    Calls Try.prog 151 #[.slice A xs.length c, .func (.func g) #[] lb] w fun e w' => e = .returned (.int .i64 (fIdx p xs)) ∧ Below w.heap.size w w' := by
  have HR := Aside0.mk hr
  have HP := Aside0.mk hp
  clear hr hp
  have hmax := Kd.C_max HR.out
  go_enter Try.func151, Try.ntmps151
  go_wp2
  go_loopg [5, 8] xs.length (fun gg _ s8 wr => ∃ x : Int, s8 = .int .i64 x ∧ Aside0 (0 ≤ x ∧ x ≤ xs.length ∧ xs.length - x.toNat ≤ gg ∧ ∀ j, j < x.toNat → p (xs.getD j z109) = false) ∧ Aside0 (Below w.heap.size w wr))
  case atStart => exact ⟨0, rfl, ⟨by omega, by omega, by simp, fun j hj => absurd hj (by simp)⟩, ⟨Below.refl _ _⟩⟩
  case round =>
    obtain ⟨x, rfl, HA, HB⟩ := hrel
    by_cases hlt : x < xs.length
    · have c0 : decide (x < (xs.length : Int)) = true := decide_eq_true hlt
      obtain ⟨ad, A1, c1, e, hx0, hx1, hl1, hi1⟩ := at_T109 (Kd.C_below HR.out HB.out) x HA.out.1 hlt
      cases e
      have p0 := eq_true HA.out.1
      have q0 := eq_true hlt
      have hcall := HP.out wr HB.out (rd_T109 xs x) (mem_at xs z109 x HA.out.1 hlt) A1 c1 hl1 hi1
      have HI1 := Aside0.mk (And.intro hl1 hi1)
      clear hl1 hi1
      have HL := Aside0.mk hlt
      clear hlt
      cases hq : p (rd_T109 xs x) with
      | true =>
        rw [hq] at hcall
        have HQ := Aside0.mk hq
        clear hq
        go_wp2_with (go_at_fn g; refine hcall.mono ?_; rintro e w' ⟨rfl, hb'⟩; have HB' := Aside0.mk (below_step HB.out hb'); clear hb' HB)
        go_ret
        exact ⟨by rw [fIdx_hit p xs z109 x HA.out.1 HL.out HQ.out HA.out.2.2.2]; rfl, HB'.out⟩
      | false =>
        rw [hq] at hcall
        have HQ := Aside0.mk hq
        clear hq
        go_wp2_with (go_at_fn g; refine hcall.mono ?_; rintro e w' ⟨rfl, hb'⟩; have HB' := Aside0.mk (below_step HB.out hb'); clear hb' HB)
        go_roundg (xs.length - (x + 1).toNat)
        case measure => have := HA.out; have := HL.out; omega
        case rel =>
          have hw : wrap64 (x + 1) = x + 1 := by have := HL.out; have := HA.out.1; unfold wrap64; omega
          refine ⟨wrap64 (x + 1), by first | rfl | (rw [hw]; rfl) | (rw [hw]), ⟨by rw [hw]; have := HA.out.1; omega, by rw [hw]; have := HL.out; omega, by rw [hw]; omega, fun j hj => ?_⟩, HB'⟩
          rw [hw] at hj
          by_cases e : j = x.toNat
          · subst e; exact HQ.out
          · exact HA.out.2.2.2 j (by have := HA.out.1; omega)
    · have c0 : decide (x < (xs.length : Int)) = false := decide_eq_false hlt
      have HL := Aside0.mk hlt
      clear hlt
      go_wp2
      go_ret
      exact ⟨by rw [fIdx_miss p xs z109 (fun j hj => HA.out.2.2.2 j (by have := HL.out; omega))]; rfl, HB.out⟩
set_option maxHeartbeats 1000000 in
theorem sl_ContainsFunc_jump (A : Option Addr) (c : Nat) (xs : List S109) (g : Nat) (lb : Array Value) (p : S109 → Bool) (w : World) (hr : Kd.C k109 w A xs.length xs)
    (eg : ∀ args w, (callFunc g args).run Try.prog w = .ok (.enter g args) w) (hp : Predjump g lb xs p w) :
    Calls Try.prog 126 #[.slice A xs.length c, .func (.func g) #[] lb] w fun e w' => e = .returned (.bool (xs.any p)) ∧ Below w.heap.size w w' := by
  have hcall := Aside0.mk (sl_IndexFunc_jump A c xs g lb p w hr eg hp)
  have HE := Aside0.mk (fIdx_any p xs)
  clear hr hp eg
  go_enter Try.func126, Try.ntmps126
  go_wp2_with (go_at_call 151; refine (hcall.out).mono ?_; rintro e w' ⟨rfl, hb'⟩; have HB' := Aside0.mk hb'; clear hb' hcall)
  go_ret
  exact ⟨by rw [← HE.out]; rfl, HB'.out⟩
/-- What is asked of a predicate on elements. -/
def Predblock (g : Nat) (lb : Array Value) (xs : List S87) (p : S87 → Bool) (w : World) : Prop :=
  ∀ W, Below w.heap.size w W → ∀ x ∈ xs, ∀ A1 c1 A4 c4, x.f1.length ≤ c1 → Kd.C k89 W A1 x.f1.length x.f1 → x.f4.length ≤ c4 → Kd.C k109 W A4 x.f4.length x.f4 → Calls Try.prog g (#[.agg #[.int .i64 x.f0, .slice A1 x.f1.length c1, .int .i64 x.f2, .int .i64 x.f3, .slice A4 x.f4.length c4]] ++ lb) W fun e W' => e = .returned (.bool (p x)) ∧ Below W.heap.size W W'
set_option maxHeartbeats 1000000 in
theorem sl_IndexFunc_block (A : Option Addr) (c : Nat) (xs : List S87) (g : Nat) (lb : Array Value) (p : S87 → Bool) (w : World) (hr : Kd.C k87 w A xs.length xs)
    (eg : ∀ args w, (callFunc g args).run Try.prog w = .ok (.enter g args) w) (hp : Predblock g lb xs p w) :
    Calls Try.prog 122 #[.slice A xs.length c, .func (.func g) #[] lb] w fun e w' => e = .returned (.int .i64 (fIdx p xs)) ∧ Below w.heap.size w w' := by
  have HR := Aside0.mk hr
  have HP := Aside0.mk hp
  clear hr hp
  have hmax := Kd.C_max HR.out
  go_enter Try.func122, Try.ntmps122
  go_wp2
  go_loopg [5, 8] xs.length (fun gg _ s8 wr => ∃ x : Int, s8 = .int .i64 x ∧ Aside0 (0 ≤ x ∧ x ≤ xs.length ∧ xs.length - x.toNat ≤ gg ∧ ∀ j, j < x.toNat → p (xs.getD j z87) = false) ∧ Aside0 (Below w.heap.size w wr))
  case atStart => exact ⟨0, rfl, ⟨by omega, by omega, by simp, fun j hj => absurd hj (by simp)⟩, ⟨Below.refl _ _⟩⟩
  case round =>
    obtain ⟨x, rfl, HA, HB⟩ := hrel
    by_cases hlt : x < xs.length
    · have c0 : decide (x < (xs.length : Int)) = true := decide_eq_true hlt
      obtain ⟨ad, A1, c1, A4, c4, e, hx0, hx1, hx2, hx3, hx4, hl1, hi1, hl4, hi4⟩ := at_T87 (Kd.C_below HR.out HB.out) x HA.out.1 hlt
      cases e
      have p0 := eq_true HA.out.1
      have q0 := eq_true hlt
      have hcall := HP.out wr HB.out (rd_T87 xs x) (mem_at xs z87 x HA.out.1 hlt) A1 c1 A4 c4 hl1 hi1 hl4 hi4
      have HI1 := Aside0.mk (And.intro hl1 (And.intro hi1 (And.intro hl4 hi4)))
      clear hl1 hi1 hl4 hi4
      have HL := Aside0.mk hlt
      clear hlt
      cases hq : p (rd_T87 xs x) with
      | true =>
        rw [hq] at hcall
        have HQ := Aside0.mk hq
        clear hq
        go_wp2_with (go_at_fn g; refine hcall.mono ?_; rintro e w' ⟨rfl, hb'⟩; have HB' := Aside0.mk (below_step HB.out hb'); clear hb' HB)
        go_ret
        exact ⟨by rw [fIdx_hit p xs z87 x HA.out.1 HL.out HQ.out HA.out.2.2.2]; rfl, HB'.out⟩
      | false =>
        rw [hq] at hcall
        have HQ := Aside0.mk hq
        clear hq
        go_wp2_with (go_at_fn g; refine hcall.mono ?_; rintro e w' ⟨rfl, hb'⟩; have HB' := Aside0.mk (below_step HB.out hb'); clear hb' HB)
        go_roundg (xs.length - (x + 1).toNat)
        case measure => have := HA.out; have := HL.out; omega
        case rel =>
          have hw : wrap64 (x + 1) = x + 1 := by have := HL.out; have := HA.out.1; unfold wrap64; omega
          refine ⟨wrap64 (x + 1), by first | rfl | (rw [hw]; rfl) | (rw [hw]), ⟨by rw [hw]; have := HA.out.1; omega, by rw [hw]; have := HL.out; omega, by rw [hw]; omega, fun j hj => ?_⟩, HB'⟩
          rw [hw] at hj
          by_cases e : j = x.toNat
          · subst e; exact HQ.out
          · exact HA.out.2.2.2 j (by have := HA.out.1; omega)
    · have c0 : decide (x < (xs.length : Int)) = false := decide_eq_false hlt
      have HL := Aside0.mk hlt
      clear hlt
      go_wp2
      go_ret
      exact ⟨by rw [fIdx_miss p xs z87 (fun j hj => HA.out.2.2.2 j (by have := HL.out; omega))]; rfl, HB.out⟩
set_option maxHeartbeats 1000000 in
theorem sl_ContainsFunc_block (A : Option Addr) (c : Nat) (xs : List S87) (g : Nat) (lb : Array Value) (p : S87 → Bool) (w : World) (hr : Kd.C k87 w A xs.length xs)
    (eg : ∀ args w, (callFunc g args).run Try.prog w = .ok (.enter g args) w) (hp : Predblock g lb xs p w) :
    Calls Try.prog 95 #[.slice A xs.length c, .func (.func g) #[] lb] w fun e w' => e = .returned (.bool (xs.any p)) ∧ Below w.heap.size w w' := by
  have hcall := Aside0.mk (sl_IndexFunc_block A c xs g lb p w hr eg hp)
  have HE := Aside0.mk (fIdx_any p xs)
  clear hr hp eg
  go_enter Try.func95, Try.ntmps95
  go_wp2_with (go_at_call 122; refine (hcall.out).mono ?_; rintro e w' ⟨rfl, hb'⟩; have HB' := Aside0.mk hb'; clear hb' hcall)
  go_ret
  exact ⟨by rw [← HE.out]; rfl, HB'.out⟩
end Go.Proofs.Ytghlbhijkhkgkaa.PA
