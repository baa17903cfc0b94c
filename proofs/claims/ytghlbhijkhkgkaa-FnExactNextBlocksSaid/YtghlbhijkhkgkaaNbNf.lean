/- The flow seat: slices.Sort and slices.Compact of at most two numbers. -/
import Derived.Test.YtghlbhijkhkgkaaNbMa
import Derived.Test.YtghlbhijkhkgkaaNbPAz6
import Derived.Lib.SliceRun
namespace Go.Proofs.Ytghlbhijkhkgkaa.PA
open Go.RowKit Go.Proofs.YtghlbhijkhkgkaaW.PrintWords Go.Proofs.YtghlbhijkhkgkaaW.PrintLast Go.Proofs.YtghlbhijkhkgkaaW.PrintMore
set_option linter.unusedVariables false
/-- At most two numbers, put in order. -/
def sort2 : List Int → List Int
  | [x, y] => if y < x then [y, x] else [x, y]
  | l => l
/-- At most two numbers in order, each once. -/
def comp2 : List Int → List Int
  | [x, y] => if x = y then [x] else [x, y]
  | l => l
theorem two_cases : ∀ (l : List Int), l.length ≤ 2 → l = [] ∨ (∃ x, l = [x]) ∨ ∃ x y, l = [x, y]
  | [], _ => .inl rfl
  | [x], _ => .inr (.inl ⟨x, rfl⟩)
  | [x, y], _ => .inr (.inr ⟨x, y, rfl⟩)
  | _ :: _ :: _ :: _, h => by simp at h
theorem less_f (x y : Int) : cmp_Less_int.f x y = some (decide (x < y)) := by
  unfold cmp_Less_int.f cmp_isNaN_int.f
  by_cases h : x < y <;> simp [h]
theorem ins_f (l : List Int) (hl : l.length ≤ 2) : Ev (fun k => slices_insertionSortOrdered_int.f k l 0 (l.length : Int)) (sort2 l) := by
  refine ⟨5, fun k hk => ?_⟩
  obtain ⟨k, rfl⟩ : ∃ j, k = j + 5 := ⟨k - 5, by omega⟩
  have w1 : wrap64 1 = 1 := by unfold wrap64; omega
  have w2 : wrap64 2 = 2 := by unfold wrap64; omega
  have w3 : wrap64 0 = 0 := by unfold wrap64; omega
  rcases two_cases l hl with rfl | ⟨x, rfl⟩ | ⟨x, y, rfl⟩
  · simp [slices_insertionSortOrdered_int.f, slices_insertionSortOrdered_int.l0, w1, sort2]
  · simp [slices_insertionSortOrdered_int.f, slices_insertionSortOrdered_int.l0, w1, sort2]
  · by_cases h : y < x
    · simp [slices_insertionSortOrdered_int.f, slices_insertionSortOrdered_int.l0, slices_insertionSortOrdered_int.l1, w1, w2, w3, sort2, less_f, rd, h]
    · simp [slices_insertionSortOrdered_int.f, slices_insertionSortOrdered_int.l0, slices_insertionSortOrdered_int.l1, w1, w2, w3, sort2, less_f, rd, h]
set_option maxRecDepth 100000 in
theorem len64_any (w : World) (n : Int) (hn : n = 0 ∨ n = 1 ∨ n = 2) : Calls Try.prog 142 #[.int .u64 n] w fun e w' => e = .returned (.int .i64 n) ∧ w' = w := by
  rcases hn with rfl | rfl | rfl
  · go_enter Try.func142, Try.ntmps142
    go_wp2
    go_ret
    exact ⟨congrArg Ending.returned (congrArg (Value.int IntKind.i64) (by show wrap64 (wrap64 ((0 : Nat) : Int)) = 0; unfold wrap64; omega)), rfl⟩
  · go_enter Try.func142, Try.ntmps142
    go_wp2
    go_ret
    exact ⟨congrArg Ending.returned (congrArg (Value.int IntKind.i64) (by show wrap64 (wrap64 ((1 : Nat) : Int)) = 1; unfold wrap64; omega)), rfl⟩
  · go_enter Try.func142, Try.ntmps142
    go_wp2
    go_ret
    exact ⟨congrArg Ending.returned (congrArg (Value.int IntKind.i64) (by show wrap64 (wrap64 ((2 : Nat) : Int)) = 2; unfold wrap64; omega)), rfl⟩
set_option maxRecDepth 100000 in
theorem len_any (w : World) (n : Int) (hn : n = 0 ∨ n = 1 ∨ n = 2) : Calls Try.prog 107 #[.int .u64 n] w fun e w' => e = .returned (.int .i64 n) ∧ w' = w := by
  have hcall := len64_any w n hn
  clear hn
  go_enter Try.func107, Try.ntmps107
  go_wp2_with (go_at_call 142; refine hcall.mono ?_; rintro e w' ⟨rfl, rfl⟩)
  go_ret
  exact ⟨rfl, rfl⟩
set_option maxHeartbeats 2000000 in
set_option maxRecDepth 100000 in
theorem pdq_any {w0 w : World} {P : Nat → Prop} {A : Option Addr} {c : Nat} (l : List Int) (hl : l.length ≤ 2) (q : Int) (hB : Below w0.heap.size w0 w) (ho : (Kd.int .i64).R 3 w w0.heap.size P (.slice A l.length c) l) :
    Calls Try.prog 106 #[.slice A l.length c, .int .i64 0, .int .i64 (l.length : Int), .int .i64 q] w fun e w' => e = .returned (.tuple #[]) ∧ (Kd.int .i64).R 3 w' w0.heap.size (fun k => P k ∨ w.heap.size ≤ k) (.slice A l.length c) (sort2 l) ∧ Below w0.heap.size w0 w' := by
  obtain ⟨k, hk⟩ := Ev.rounds (ins_f l hl)
  have T := Aside0.mk (slices_insertionSortOrdered_int.calls k P _ l 0 (l.length : Int) _ w0 w hB ho hk)
  obtain ⟨n, hn⟩ : ∃ n, n = l.length := ⟨_, rfl⟩
  rw [← hn] at T hl ⊢
  have c1 : decide (wrap64 (n : Int) ≤ 12) = true := decide_eq_true (by unfold wrap64; omega)
  clear hB ho hk hn hl
  go_enter Try.func106, Try.ntmps106
  go_wp2
  go_loopg [1, 2, 3] 1 (fun gg s1 s2 s3 wr => s1 = .int .i64 0 ∧ s2 = .int .i64 (n : Int) ∧ s3 = .int .i64 q ∧ Aside0 (wr = w))
  case atStart => exact ⟨rfl, rfl, rfl, ⟨rfl⟩⟩
  case round =>
    obtain ⟨rfl, rfl, rfl, hw_⟩ := hrel
    obtain rfl := hw_.out
    go_wp2_with (go_at_call 132; refine (T.out).mono ?_; rintro e w2 ⟨rfl, hR, hb, _⟩; have HR := Aside0.mk hR; have HB := Aside0.mk hb; clear hR hb)
    exact bodyPost_ret (results_none rfl _ _ _) rfl ⟨rfl, HR.out, HB.out⟩
set_option maxHeartbeats 1000000 in
set_option maxRecDepth 100000 in
theorem sort_any {w0 w : World} {P : Nat → Prop} {A : Option Addr} {c : Nat} (l : List Int) (hl : l.length ≤ 2) (hB : Below w0.heap.size w0 w) (ho : (Kd.int .i64).R 3 w w0.heap.size P (.slice A l.length c) l) :
    Calls Try.prog 65 #[.slice A l.length c] w fun e w' => e = .returned (.tuple #[]) ∧ (Kd.int .i64).R 3 w' w0.heap.size (fun k => P k ∨ w.heap.size ≤ k) (.slice A l.length c) (sort2 l) ∧ Below w0.heap.size w0 w' := by
  have T := Aside0.mk (fun q => pdq_any (c := c) l hl q hB ho)
  have T2 := Aside0.mk (len_any w (l.length : Int) (by omega))
  have hw : IntKind.u64.wrap (l.length : Int) = (l.length : Int) := by
    rcases two_cases l hl with rfl | ⟨x, rfl⟩ | ⟨x, y, rfl⟩ <;> rfl
  clear hB ho hl
  go_enter Try.func65, Try.ntmps65
  go_wp2_with (first | (go_at_call 107; refine (T2.out).mono ?_; rintro e w2 ⟨rfl, rfl⟩) | (go_at_call 106; refine (T.out _).mono ?_; rintro e w2 ⟨rfl, hR, hb⟩; have HR := Aside0.mk hR; have HB := Aside0.mk hb; clear hR hb))
  go_end0
  exact ⟨rfl, HR.out, HB.out⟩
set_option maxHeartbeats 2000000 in
set_option maxRecDepth 100000 in
theorem compact_any {w : World} {base : Nat} {P : Nat → Prop} {A : Option Addr} {c : Nat} (l : List Int) (hl : l.length ≤ 2) (hb : base ≤ w.heap.size) (ho : (Kd.int .i64).R 3 w base P (.slice A l.length c) l) :
    Calls Try.prog 66 #[.slice A l.length c] w fun e w' => ∃ v, e = .returned v ∧ (Kd.int .i64).R 3 w' base P v (comp2 l) ∧ Below base w w' := by
  have HB := Aside0.mk (Below.refl w.heap.size w)
  rcases two_cases l hl with rfl | ⟨x, rfl⟩ | ⟨x, y, rfl⟩
  · have HO := Aside0.mk ho
    clear ho hl
    go_enter Try.func66, Try.ntmps66
    go_wp2
    go_ret
    exact ⟨_, rfl, HO.out, Below.refl _ _⟩
  · have HO := Aside0.mk ho
    clear ho hl
    go_enter Try.func66, Try.ntmps66
    go_wp2
    go_ret
    exact ⟨_, rfl, HO.out, Below.refl _ _⟩
  · obtain ⟨g, cs, rfl, hP, hg, hcs, _⟩ := row_blk ho (by simp)
    have z0 : w.cell? ⟨g, 0, none⟩ = some (.int .i64 x) := by obtain ⟨ad, e, hz⟩ := Kd.at_int (Kd.R_reads' ho).2.2 0 (by omega) (by simp); cases e; exact hz
    have z1 : w.cell? ⟨g, 1, none⟩ = some (.int .i64 y) := by obtain ⟨ad, e, hz⟩ := Kd.at_int (Kd.R_reads' ho).2.2 1 (by omega) (by simp); cases e; exact hz
    have hf := blk_frozen hg 1
    have hc2 := (Kd.R_reads' ho).2.1
    obtain ⟨c, rfl⟩ : ∃ c', c = c' + 2 := ⟨c - 2, by have : 2 ≤ c := hc2; omega⟩
    have HO := Aside0.mk ho
    by_cases h : y = x
    · have c1 : (y == x) = true := beq_iff_eq.mpr h
      have HH := Aside0.mk h
      have HW := Aside0.mk hb
      obtain ⟨W, hW⟩ : ∃ W, W = w := ⟨_, rfl⟩
      rw [← hW] at HB HO HW ⊢
      have HE := Aside0.mk hW
      clear ho hl h hcs hP hg hb hW
      go_enter Try.func66, Try.ntmps66
      go_wp2
      go_loopg [3] 1 (fun gg s3 wr => s3 = .int .i64 1 ∧ Aside0 (wr = W))
      case atStart => exact ⟨rfl, ⟨rfl⟩⟩
      case round =>
        obtain ⟨rfl, hw_⟩ := hrel
        obtain rfl := hw_.out
        rw [← HE.out] at z0 z1 hf
        go_wp2_with fail
        go_quiet (fail)
        go_wp2
        go_loopg [5, 3] 1 (fun gg s5 s3 wi => s5 = .int .i64 1 ∧ s3 = .int .i64 1 ∧ Aside0 (wi = wr.drewN nq))
        case atStart => exact ⟨rfl, rfl, ⟨rfl⟩⟩
        case round =>
          obtain ⟨rfl, rfl, hw2⟩ := hrel
          obtain rfl := hw2.out
          have HO2 := Aside0.mk (Kd.R_drewN HO.out nq)
          have z1' : (wr.drewN nq).cell? ⟨g, 1, none⟩ = some (.int .i64 y) := z1
          have hcl : ∀ ty, (Builtin.clear_ #[34] ty #[.slice (some ⟨g, 1, none⟩) 1 (c + 1)]).run Try.prog (wr.drewN nq) = .ok (.tuple #[]) ((wr.drewN nq).setCells g 1 (List.replicate 1 (.int .i64 0))) := fun ty =>
            Lib.run_clear_slice (wr.drewN nq) 34 3 ty (.int .i64 0) Try.underlying34 (fun _ => rfl) rfl rfl g 1 1 (c + 1) (by omega) (fun j hj => by obtain rfl : j = 0 := (by omega); show ((wr.drewN nq).cell? ⟨g, 1, none⟩).isSome = true; rw [z1']; rfl) (fun j hj => by obtain rfl : j = 0 := (by omega); exact hf)
          go_wp2
          go_ret
          have h1 := Kd.R_seg (seg := [.int .i64 0]) (j := 0) (x' := 0) (okp := fun _ => False) HO2.out 1 (by omega) (by show (1 : Int) < ([x, y] : List Int).length; simp) (c := [.int .i64 y]) rfl (fun j u hu => by
            cases j with
            | succ j => simp at hu
            | zero => simp only [List.getElem?_cons_zero, Option.some.injEq] at hu; subst hu; exact z1') (by show 0 + 1 ≤ 1; omega) rfl (fun _ h => h.elim)
          have h2 := Kd.R_take (m := 1) h1.1 (by simp)
          refine ⟨_, rfl, ?_, ?_⟩
          · have e : comp2 [x, y] = [x] := by rw [comp2, if_pos HH.out.symm]
            rw [e]
            exact h2
          · exact ((pw_below_drewN (Below.refl wr.heap.size wr) nq).mono HW.out).setCell (p := ⟨g, 1, none⟩) (Kd.R_base HO2.out g rfl) _
    · have c1 : (y == x) = false := beq_eq_false_iff_ne.mpr h
      have HH := Aside0.mk h
      have HW := Aside0.mk hb
      obtain ⟨W, hW⟩ : ∃ W, W = w := ⟨_, rfl⟩
      rw [← hW] at HB HO HW z0 z1 ⊢
      clear ho hl h hcs hP hg hb hW hf
      go_enter Try.func66, Try.ntmps66
      go_wp2
      go_loopg [3] 2 (fun gg s3 wr => ∃ i m : Nat, s3 = .int .i64 (i : Int) ∧ Aside0 (1 ≤ i ∧ i ≤ 2 ∧ 2 - i + 1 ≤ gg) ∧ Aside0 (wr = W.drewN m))
      case atStart => exact ⟨1, 0, rfl, ⟨by omega, by omega, by omega⟩, ⟨rfl⟩⟩
      case round =>
        obtain ⟨i, m, rfl, HA, hw_⟩ := hrel
        obtain rfl := hw_.out
        by_cases hi : i = 1
        · subst hi
          have y0 : (W.drewN m).cell? ⟨g, 0, none⟩ = some (.int .i64 x) := z0
          have y1 : (W.drewN m).cell? ⟨g, 1, none⟩ = some (.int .i64 y) := z1
          go_wp2_with fail
          go_quiet (fail)
          go_wp2
          go_roundg 1
          case measure => have := HA.out; omega
          case rel => exact ⟨2, m + nq, rfl, ⟨by omega, by omega, by omega⟩, ⟨rfl⟩⟩
        · have e : i = 2 := by have := HA.out; omega
          subst e
          go_wp2
          go_ret
          refine ⟨_, rfl, ?_, ?_⟩
          · have e : comp2 [x, y] = [x, y] := by rw [comp2, if_neg (fun e => HH.out e.symm)]
            rw [e]
            exact Kd.R_drewN HO.out m
          · exact (pw_below_drewN (Below.refl _ _) m).mono HW.out
end Go.Proofs.Ytghlbhijkhkgkaa.PA
