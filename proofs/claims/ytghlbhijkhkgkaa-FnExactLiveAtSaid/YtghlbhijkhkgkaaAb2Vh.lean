/- Parts of the walk. -/
import Derived.Test.YtghlbhijkhkgkaaAb2Vg
import Derived.Deep.RegionHeld3
import Derived.Deep.AppendLies
section
/- The flow seat: numbered: what the proof needs of numbers, rows and worlds. -/
namespace Go.Proofs.Ytghlbhijkhkgkaa.PA
open Go.RowKit Go.Proofs.YtghlbhijkhkgkaaW.PrintWords Go.Proofs.YtghlbhijkhkgkaaW.PrintLast Go.Proofs.YtghlbhijkhkgkaaW.PrintMore
set_option linter.unusedVariables false
theorem info3p : ∃ i, Try.prog.info? 3 = some i ∧ i.zero = some (.int .i64 0) ∧ i.size = 1 ∧ i.bytes = 8 := by
  obtain ⟨i, h1, h2⟩ := Option.map_eq_some_iff.1 info3
  simp only [Prod.mk.injEq] at h2
  exact ⟨i, h1, h2⟩
/-- append(v, ys...) at a row of ints of the call's own, as one step of a region. -/
theorem step_appN {ops : Array Oper} {o : Oper} {a : Act} {W : World} {K : Act → World → Prop} {Q : Exit → Act → World → Prop} {E : Prop} {base : Nat} (hgd : o.guard = none) (s x : Operand)
    (ho : o.op = .call { callee := .builtin .append, args := #[s, x], argTypes := #[34, 34] }) {v : Value} {xs ys : List Int} {ok : Nat → Prop} (hs : a.eval s = v) (HO : Kd.R (Kd.int .i64) 3 W base ok v xs)
    {ad : Addr} {n c : Nat} (hx : a.eval x = .slice (some ad) n c) (hn : n = ys.length) (hy : ∀ j, j < ys.length → W.cell? (ad.add j) = some (.int .i64 (ys.getD j 0))) (hl : xs.length + ys.length ≤ 1000) (hbase : base ≤ W.heap.size)
    (hok : ∀ k, W.heap.size ≤ k → ok k)
    (h : ∀ v1 w1, Kd.R (Kd.int .i64) 3 w1 base ok v1 (xs ++ ys) → W.grownBy w1 v.ownBlock → (v1.ownBlock = v.ownBlock ∨ ∃ b, v1.ownBlock = some b ∧ W.heap.size ≤ b) → K (a.put o.dst v1) w1) :
    if Region.wanted o (yielded ops a.tmps) = true then Oper.wp Try.prog o a W K Q else E := by
  subst hn
  obtain ⟨i, hi, hz, hsz, hby⟩ := info3p
  have hw : Region.wanted o (yielded ops a.tmps) = true := by simp [Region.wanted, hgd]
  rw [if_pos hw]
  have hown := Kd.own_of_R HO
  obtain ⟨v', w', hr, h2, h3, h4, h5⟩ := run_append_own_at (P := Try.prog) W base 34 o.type 3 i (.int .i64 0) 1 8 Try.underlying34 hi hz hsz hby rfl (by decide) v xs.length (encs (Value.int .i64) xs) hown ad ys.length c (encs (Value.int .i64) ys) (by simp [encs])
    (fun j u hu => by
      simp only [encs, List.getElem?_map, Option.map_eq_some_iff] at hu
      obtain ⟨y, hy1, rfl⟩ := hu
      have hj := (List.getElem?_eq_some_iff.1 hy1).1
      rw [hy j hj, List.getD_eq_getElem?_getD, hy1]; rfl)
    (by intro u hu; simp only [encs, List.mem_map] at hu; obtain ⟨y, _, rfl⟩ := hu; rfl) (by unfold maxLen; omega) (by omega) hbase
  unfold Oper.wp execOp
  simp only [ho, resolve, invoke, builtin, Sem.run_bind, Sem.run_pure, Result.andThen_ok, List.map_toArray, List.map_cons, List.map_nil, hs, hx, hr]
  refine h v' w' (Kd.R_of_own (by simpa [encs] using h2) (fun k hk => ?_)) h3 ?_
  · rcases h5 with h5 | h5
    · exact HO.1 k (h5 ▸ hk)
    · rw [h5] at hk
      exact hok k (by have := Option.some.inj hk; omega)
  · exact h5.imp id (fun e => ⟨_, e, Nat.le_refl _⟩)
/-- A view under way. -/
structure NI (B : Nat) (w : World) (g : Nat) (p : Int) (A : Option Addr) (n c : Nat) (v2 v3 : Value) (fs bl : List Int) (tot : Int) : Prop where
  hg : w.heap[g]? = some (.cells #[.int .i64 p, .slice A n c, v2, v3, .int .i64 tot] 56 (0, 0))
  hB : B ≤ g
  r2 : Kd.R (Kd.int .i64) 3 w B (fun k => True ∧ some k ≠ v3.ownBlock) v2 fs
  r3 : Kd.R (Kd.int .i64) 3 w B (fun k => True ∧ some k ≠ v2.ownBlock) v3 bl
section
variable {B : Nat} {w W w1 : World} {g : Nat} {p : Int} {A : Option Addr} {n c : Nat} {v2 v3 v1 : Value} {fs bl xs : List Int} {tot : Int}
theorem NI.below (h : NI B w g p A n c v2 v3 fs bl tot) (hb : Below w.heap.size w w1) : NI B w1 g p A n c v2 v3 fs bl tot :=
  ⟨blk_below h.hg hb, h.hB, Kd.R_below h.r2 hb, Kd.R_below h.r3 hb⟩
theorem NI.put2 (h : NI B W g p A n c v2 v3 fs bl tot) (hr : Kd.R (Kd.int .i64) 3 w1 B (fun k => True ∧ some k ≠ v3.ownBlock) v1 xs) (hg : W.grownBy w1 v2.ownBlock) (hat : v1.ownBlock = v2.ownBlock ∨ ∃ b, v1.ownBlock = some b ∧ W.heap.size ≤ b) :
    NI B (w1.setCell ⟨g, 2, none⟩ v1) g p A n c v1 v3 xs bl tot := by
  have h1 := blk_grown h.hg hg (Kd.R_ne h.r2 h.hg (by decide))
  have h3 := Kd.R_after h.r3 hg hat
  exact ⟨by simpa using blk_set h1 2 v1, h.hB, Kd.R_set hr h1 (by decide) 2 v1, Kd.R_set h3 h1 (by decide) 2 v1⟩
theorem NI.put3 (h : NI B W g p A n c v2 v3 fs bl tot) (hr : Kd.R (Kd.int .i64) 3 w1 B (fun k => True ∧ some k ≠ v2.ownBlock) v1 xs) (hg : W.grownBy w1 v3.ownBlock) (hat : v1.ownBlock = v3.ownBlock ∨ ∃ b, v1.ownBlock = some b ∧ W.heap.size ≤ b) :
    NI B (w1.setCell ⟨g, 3, none⟩ v1) g p A n c v2 v1 fs xs tot := by
  have h1 := blk_grown h.hg hg (Kd.R_ne h.r3 h.hg (by decide))
  have h3 := Kd.R_after h.r2 hg hat
  exact ⟨by simpa using blk_set h1 3 v1, h.hB, Kd.R_set h3 h1 (by decide) 3 v1, Kd.R_set hr h1 (by decide) 3 v1⟩
theorem NI.put4 (h : NI B w g p A n c v2 v3 fs bl tot) (t : Int) : NI B (w.setCell ⟨g, 4, none⟩ (.int .i64 t)) g p A n c v2 v3 fs bl t :=
  ⟨by simpa using blk_set h.hg 4 (.int .i64 t), h.hB, Kd.R_set h.r2 h.hg (by decide) 4 _, Kd.R_set h.r3 h.hg (by decide) 4 _⟩
theorem NI.cell (h : NI B w g p A n c v2 v3 fs bl tot) (j : Nat) : w.cell? ⟨g, j, none⟩ = (#[.int .i64 p, .slice A n c, v2, v3, .int .i64 tot] : Array Value)[j]? := blk_cell h.hg j
end
end Go.Proofs.Ytghlbhijkhkgkaa.PA
end
section
/- The flow seat: numbered by hand. -/
namespace Go.Proofs.Ytghlbhijkhkgkaa.PA
open Go.RowKit Go.Proofs.YtghlbhijkhkgkaaW.PrintWords Go.Proofs.YtghlbhijkhkgkaaW.PrintLast Go.Proofs.YtghlbhijkhkgkaaW.PrintMore
set_option linter.unusedVariables false
theorem repeat_int (x n : Int) (h : Nat) (w : World) (h0 : 0 ≤ n) (h1 : n ≤ 200) (hx : w.cell? ⟨h, 0, none⟩ = some (.int .i64 x)) :
    Calls Try.prog 121 #[.slice (some ⟨h, 0, none⟩) 1 1, .int .i64 n] w fun e w' => ∃ g cap, e = .returned (.slice (some ⟨g, 0, none⟩) n.toNat cap) ∧ Kd.R (Kd.int .i64) 3 w' w.heap.size (fun _ => True) (.slice (some ⟨g, 0, none⟩) n.toNat cap) (List.replicate n.toNat x) ∧ Below w.heap.size w w' := by
  obtain ⟨N, rfl⟩ := Int.eq_ofNat_of_zero_le h0
  exact repeat_any x N h w (by omega) hx
set_option maxHeartbeats 1000000 in
set_option maxRecDepth 100000 in
theorem numbered_no {A : Option Addr} {c : Nat} (p : Int) (bs : List S87) (w : World) (hr : Kd.C k87 w A bs.length bs) (hh : headB p bs = false) :
    Calls Try.prog 94 #[.agg #[.int .i64 p, .slice A bs.length c]] w fun e w' => e = .returned (.tuple #[.pointer none, .bool false]) ∧ Below w.heap.size w w' := by
  have hmb := Kd.C_max hr
  have HR := Aside0.mk hr
  clear hr
  have HB := Aside0.mk (Below.refl w.heap.size w)
  rcases Bool.eq_false_or_eq_true (within p 0 4) with q1 | q1
  · rcases Bool.eq_false_or_eq_true (within (bs.length : Int) 1 8) with q2 | q2
    · have HL := Aside0.mk (show 0 < bs.length by simp [within] at q2; omega)
      obtain ⟨ad, B1, d1, B4, d4, e, hx0, hy1, hy2, hy3, hy4, hy5, hy6, hy7, hy8⟩ := at_T87 HR.out 0 (by omega) (by have := HL.out; omega)
      cases e
      replace hx0 : w.cell? ad = some (.int .i64 (rd_T87 bs 0).f0) := by simpa [Addr.add] using hx0
      clear hy1 hy2 hy3 hy4 hy5 hy6 hy7 hy8
      have hltA := World.block_lt_of_cell? w _ hx0
      have q0 := eq_true (show (0 : Int) < (bs.length : Int) by have := HL.out; omega)
      have hpos := eq_true HL.out
      have q3 : ((rd_T87 bs 0).f0 != 0) = true := by
        have : ((rd_T87 bs 0).f0 == 0) = false := by rw [headB, q1, q2] at hh; simpa using hh
        rw [bne, this]; rfl
      clear hh
      go_enter Try.func94, Try.ntmps94
      go_wp2_with (go_at_call 100; refine (within_any _ _ _ _).mono ?_; rintro e w' ⟨rfl, rfl⟩)
      go_ret2
      exact ⟨rfl, by repeat (first | exact HB.out | apply below_alloc)⟩
    · clear hh
      go_enter Try.func94, Try.ntmps94
      go_wp2_with (go_at_call 100; refine (within_any _ _ _ _).mono ?_; rintro e w' ⟨rfl, rfl⟩)
      go_ret2
      exact ⟨rfl, by repeat (first | exact HB.out | apply below_alloc)⟩
  · clear hh
    go_enter Try.func94, Try.ntmps94
    go_wp2_with (go_at_call 100; refine (within_any _ _ _ _).mono ?_; rintro e w' ⟨rfl, rfl⟩)
    go_ret2
    exact ⟨rfl, by repeat (first | exact HB.out | apply below_alloc)⟩
end Go.Proofs.Ytghlbhijkhkgkaa.PA
end
