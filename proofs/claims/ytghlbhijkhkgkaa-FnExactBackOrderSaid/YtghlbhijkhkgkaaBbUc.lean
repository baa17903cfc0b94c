/- The flow seat: BackOrder's closure by hand. -/
import Derived.Test.YtghlbhijkhkgkaaBbPAz5
namespace Go.Proofs.Ytghlbhijkhkgkaa.PA
open Go.RowKit Go.Proofs.YtghlbhijkhkgkaaW.PrintWords Go.Proofs.YtghlbhijkhkgkaaW.PrintLast Go.Proofs.YtghlbhijkhkgkaaW.PrintMore
set_option linter.unusedVariables false
theorem RW.kept {W W1 : World} {g B H : Nat} {rows : List (List Int)} (h : RW W g B H rows) (hs : W.heap.size ≤ W1.heap.size) (hk : ∀ k, B ≤ k → k < H → W1.heap[k]? = W.heap[k]?) : RW W1 g B H rows := by
  obtain ⟨h2, h3, h4, arr, h6, h9⟩ := h
  exact ⟨h2, h3, Nat.le_trans h4 hs, arr, by rw [hk g h2 h3]; exact h6, fun j hj => by obtain ⟨u, hu, hR⟩ := h9 j hj; exact ⟨u, hu, Kd.R_step hR (fun k hk1 hk2 => hk k hk1.1 hk1.2)⟩⟩
/-- Where BackOrder's things lie. -/
structure BoAt where
  (g1 g2 g3 g4 gb cb gn capn Bn Hn n B : Nat)
/-- The blocks that the closure leaves as they are. -/
def BoAt.Q (b : BoAt) (k : Nat) : Prop := k = b.g1 ∨ k = b.g2 ∨ k = b.g3 ∨ (b.Bn ≤ k ∧ k < b.Hn)
def BoAt.fv (b : BoAt) : Value := .func (.func 75) #[] #[.pointer (some ⟨b.g1, 0, none⟩), .pointer (some ⟨b.g2, 0, none⟩), .pointer (some ⟨b.g3, 0, none⟩), .pointer (some ⟨b.g4, 0, none⟩)]
/-- No two of them are one. -/
structure BoAt.Ok (b : BoAt) : Prop where
  qb : ¬ b.Q b.gb
  q4 : ¬ b.Q b.g4
  b4 : b.gb ≠ b.g4
  Bb : b.B ≤ b.gb
  B4 : b.B ≤ b.g4
  n8 : b.n ≤ 8
  cap : b.n ≤ b.capn
/-- What the closure finds and leaves. -/
structure BoFix (b : BoAt) (next : List (List Int)) (W : World) : Prop where
  c1 : W.cell? ⟨b.g1, 0, none⟩ = some (.slice (some ⟨b.gb, 0, none⟩) b.n b.cb)
  c2 : W.cell? ⟨b.g2, 0, none⟩ = some (.slice (some ⟨b.gn, 0, none⟩) b.n b.capn)
  c3 : W.cell? ⟨b.g3, 0, none⟩ = some b.fv
  rw : RW W b.gn b.Bn b.Hn next
/-- What is seen, and what is ended. -/
structure BoDyn (b : BoAt) (st : List Int × List Int) (W : World) : Prop where
  row : Kd.bool.R 4 W b.B (fun k => k = b.gb) (.slice (some ⟨b.gb, 0, none⟩) b.n b.cb) (rowF b.n (fun _ y => decide (y ∈ st.1)) 0)
  ord : ∃ A c, W.heap[b.g4]? = some (.cells #[.slice A st.2.length c] 34 (0, 0)) ∧ (Kd.int .i64).R 3 W b.B (fun k => ¬ b.Q k ∧ k ≠ b.gb ∧ k ≠ b.g4) (.slice A st.2.length c) st.2.reverse
section
variable {b : BoAt} {next : List (List Int)} {W W1 : World} {s o : List Int} {a : Int}
theorem BoFix.kept (h : BoFix b next W) (hk : Kept W W1 (fun k => ¬ b.Q k)) : BoFix b next W1 := by
  have q : ∀ k, b.Q k → ¬ ¬ b.Q k := fun k h h2 => h2 h
  refine ⟨cell_kept h.c1 hk (q _ (.inl rfl)), cell_kept h.c2 hk (q _ (.inr (.inl rfl))), cell_kept h.c3 hk (q _ (.inr (.inr (.inl rfl)))), h.rw.kept hk.1 fun k h1 h2 => hk.2 k (by have := h.rw.hW; omega) (q _ (.inr (.inr (.inr ⟨h1, h2⟩))))⟩
theorem bo_row (n an : Nat) (s : List Int) (h : an < n) : (rowF n (fun _ y => decide (y ∈ s)) 0).set an true = rowF n (fun _ y => decide (y ∈ s ++ [(an : Int)])) 0 := by
  refine List.ext_getElem (by simp [rowF]) fun j h5 h6 => ?_
  rw [List.getElem_set]
  by_cases e : an = j
  · subst e; rw [if_pos rfl]; simp [rowF]
  · rw [if_neg e]
    have : ¬ (j : Int) = (an : Int) := by omega
    simp [rowF, this]
end
set_option maxHeartbeats 4000000 in
set_option maxRecDepth 100000 in
theorem visit_any (next : List (List Int)) (W0 : World) (g1 g2 g3 g4 gb cb gn capn Bn Hn n B : Nat) (hB0 : W0.heap.size = B) (hb : (BoAt.mk g1 g2 g3 g4 gb cb gn capn Bn Hn n B).Ok) (hok : RowsOk next) (hn : next.length = n) :
    ∀ (d : Nat) (a : Int) (st : List Int × List Int) (W : World), (0 ≤ a ∧ a < (n : Int)) → a ∉ st.1 → DfsOk n st → unseen n st.1 ≤ d → BoFix (BoAt.mk g1 g2 g3 g4 gb cb gn capn Bn Hn n B) next W → BoDyn (BoAt.mk g1 g2 g3 g4 gb cb gn capn Bn Hn n B) st W → Below W0.heap.size W0 W →
    Calls Try.prog 75 #[.int .i64 a, .pointer (some ⟨g1, 0, none⟩), .pointer (some ⟨g2, 0, none⟩), .pointer (some ⟨g3, 0, none⟩), .pointer (some ⟨g4, 0, none⟩)] W fun e W' => e = .returned (.tuple #[]) ∧ BoDyn (BoAt.mk g1 g2 g3 g4 gb cb gn capn Bn Hn n B) (dfs next d a st) W' ∧ Kept W W' (fun k => ¬ (BoAt.mk g1 g2 g3 g4 gb cb gn capn Bn Hn n B).Q k) ∧ Below W0.heap.size W0 W' := by
  obtain ⟨P, hP⟩ : ∃ P, P = BoAt.mk g1 g2 g3 g4 gb cb gn capn Bn Hn n B := ⟨_, rfl⟩
  rw [← hP] at hb ⊢
  have eg : ∀ args W, (callFunc 75 args).run Try.prog W = .ok (.enter 75 args) W := enters_fn Try.func75 (by kernel_rfl) (by kernel_rfl)
  intro d
  induction d with
  | zero => intro a st W ha hns hd hu; have := unseen_snoc ha hns; omega
  | succ d ih =>
    intro a st W ha hns hd hu hf hdyn hB
    obtain ⟨s, o⟩ := st
    obtain ⟨an, rfl⟩ := Int.eq_ofNat_of_zero_le ha.1
    have han : an < n := by omega
    have HST := hd.snoc ha hns
    have hs1 := HST.1
    have hs2 := HST.2.1
    have hs3 := HST.2.2
    obtain ⟨A4, c4, z4, hO⟩ := hdyn.ord
    have hrow := hdyn.row
    have z1 := hf.c1
    have z2 := hf.c2
    subst hP
    dsimp only at hrow z1 z2 z4 hO hu
    have i0 := Kd.R_celln false hrow (an : Int) (by omega) (by omega)
    simp only [Int.toNat_natCast] at i0
    obtain ⟨i1, i2⟩ := i0
    have i3 : gb < W.heap.size := Kd.R_lt hrow gb rfl
    have hput := Kd.R_put (xs := rowF n (fun _ y => decide (y ∈ s)) 0) (cap := cb) (by rw [rowF_len]; exact hrow) (an : Int) true
    rw [rowF_len] at hput
    simp only [Int.toNat_natCast] at hput
    rw [bo_row n an s han] at hput
    obtain ⟨L, hL⟩ : ∃ L, L = rd_L1 next (an : Int) := ⟨_, rfl⟩
    have hgL : next.getD an [] = L := by rw [hL]; rfl
    obtain ⟨A14, c14, z14, hR14⟩ := hf.rw.at_row (j := an) (by rw [hn]; exact han)
    rw [hgL] at z14 hR14
    dsimp only at z14 hR14
    have HLB := Aside0.mk (show ∀ t ∈ L, 0 ≤ t ∧ t < (n : Int) from fun t ht => by rw [hL] at ht; have := (hok.2 (an : Int) (by omega) (by omega)).2 t ht; omega)
    have hm := Kd.C_max (Kd.R_reads' hR14).2.2
    have HR14 := Aside0.mk hR14
    have HEL := Aside0.mk hL
    have hq := hb.qb
    have hq4 := hb.q4
    have hgn : Bn ≤ gn ∧ gn < Hn := ⟨hf.rw.hB, hf.rw.hH⟩
    have m1 : g1 ≠ gb := fun e => hq (.inl e.symm)
    have m2 : g2 ≠ gb := fun e => hq (.inr (.inl e.symm))
    have m3 : gn ≠ gb := fun e => hq (.inr (.inr (.inr (by show Bn ≤ gb ∧ gb < Hn; rw [← e]; exact hgn))))
    have m1' := m1.symm
    have m2' := m2.symm
    have m3' := m3.symm
    have p0 : (0 ≤ (an : Int)) = True := eq_true (by omega)
    have p1 : ((an : Int) < (n : Int)) = True := eq_true (by omega)
    have HF := Aside0.mk hf
    have HB := Aside0.mk hb
    have HBW := Aside0.mk hB
    have HPUT := Aside0.mk hput
    have HO := Aside0.mk hO
    have Z4 := Aside0.mk z4
    have HD := Aside0.mk hd
    have HX := Aside0.mk (And.intro hs1 (And.intro hs2 hs3))
    have HU := Aside0.mk hu
    have HNS := Aside0.mk hns
    have IH := Aside0.mk ih
    have HOK := Aside0.mk hok
    have HHN := Aside0.mk hn
    have HAN := Aside0.mk han
    have HB0 := Aside0.mk hB0
    clear hf hb hB hput hO z4 hd hs1 hs2 hs3 HST hu hns ih hok hdyn hrow hq hq4 hgn hn hL hgL hR14
    go_enter Try.func75, Try.ntmps75
    go_wp2
    obtain ⟨W1, hW1⟩ : ∃ z, z = W.setCell ⟨gb, an, none⟩ (.bool true) := ⟨_, rfl⟩
    have hp := HPUT.out
    rw [← hW1] at hp ⊢
    have hl4 : g4 < W.heap.size := (Array.getElem?_eq_some_iff.1 Z4.out).1
    have HDy := Aside0.mk (show BoDyn (BoAt.mk g1 g2 g3 g4 gb cb gn capn Bn Hn n B) (s ++ [(an : Int)], o) W1 from ⟨Kd.R_mono hp.1 (fun k hk => by first | exact hk | (injection hk)), A4, c4, by rw [hp.2.block g4 hl4 (fun e => by injection e with e; exact HB.out.b4 e.symm)]; exact Z4.out, Kd.R_grown HO.out hp.2 (fun k hk e => by injection e with e; exact hk.2.1 e)⟩)
    have HK1 := Aside0.mk (show Kept W W1 (fun k => ¬ (BoAt.mk g1 g2 g3 g4 gb cb gn capn Bn Hn n B).Q k) from Kept.of_grown hp.2 (Kept.refl W _) (fun k hk => .inl (by injection hk with hk; subst hk; exact HB.out.qb)))
    have HB1 := Aside0.mk (show Below W0.heap.size W0 W1 from by rw [hW1]; exact HBW.out.setCell (p := ⟨gb, an, none⟩) (Nat.le_trans (Nat.le_of_eq HB0.out) HB.out.Bb) _)
    have HS0 := Aside0.mk (show (s ++ [(an : Int)], o) = (L.take 0).foldl (fun st t => if t ∈ st.1 then st else dfs next d t st) (s ++ [(an : Int)], o) by simp)
    have HD0 := Aside0.mk (show DfsOk n (s ++ [(an : Int)], o) ∧ unseen n (s ++ [(an : Int)]) ≤ d from ⟨⟨HX.out.1, by have := HX.out.2.1; show o.length ≤ (s ++ [(an : Int)]).length; omega⟩, by have := HX.out.2.2; have := HU.out; omega⟩)
    clear hp hl4 hW1 z1 z2 z14 i1 i2 i3
    go_loopg [16] L.length (fun gg s16 wr => ∃ (j : Nat) (st : List Int × List Int), s16 = .int .i64 (j : Int) ∧ Aside0 (j ≤ L.length ∧ L.length - j ≤ gg) ∧ Aside0 (st = (L.take j).foldl (fun st t => if t ∈ st.1 then st else dfs next d t st) (s ++ [(an : Int)], o)) ∧ Aside0 (DfsOk n st ∧ unseen n st.1 ≤ d) ∧ Aside0 (BoDyn (BoAt.mk g1 g2 g3 g4 gb cb gn capn Bn Hn n B) st wr) ∧ Aside0 (Kept W wr (fun k => ¬ (BoAt.mk g1 g2 g3 g4 gb cb gn capn Bn Hn n B).Q k)) ∧ Aside0 (Below W0.heap.size W0 wr))
    case atStart => exact ⟨0, _, rfl, ⟨by omega, by omega⟩, HS0, HD0, HDy, HK1, HB1⟩
    case round =>
      clear HS0 HD0 HDy HK1 HB1
      obtain ⟨j, st, rfl, HA, HS, HDO, HDy, HK, HBw⟩ := hrel
      obtain ⟨wi, rfl⟩ : ∃ wi : World, wi = wr := ⟨_, rfl⟩
      have HFi := Aside0.mk (HF.out.kept HK.out)
      have hRL := Kd.R_kept HR14.out HK.out (fun k hk h => h (.inr (.inr (.inr hk))))
      by_cases hlt : j < L.length
      · obtain ⟨ad, e, hz⟩ := Kd.at_int (Kd.R_reads' hRL).2.2 (j : Int) (by omega) (by omega)
        cases e
        simp only [Int.toNat_natCast] at hz
        rw [rd_at L j hlt] at hz
        have hbd := HLB.out _ (List.getElem_mem hlt)
        obtain ⟨t, ht⟩ : ∃ t, t = L[j] := ⟨_, rfl⟩
        have HTK := Aside0.mk (show (L.take (j + 1)).foldl (fun st t => if t ∈ st.1 then st else dfs next d t st) (s ++ [(an : Int)], o) = if t ∈ st.1 then st else dfs next d t st by rw [List.take_succ_eq_append_getElem hlt, List.foldl_append, ← HS.out, ← ht]; rfl)
        rw [← ht] at hz hbd
        obtain ⟨tn, rfl⟩ := Int.eq_ofNat_of_zero_le hbd.1
        have HBD := Aside0.mk hbd
        have x1 := Kd.R_celln false HDy.out.row (tn : Int) (by omega) (by dsimp only; omega)
        simp only [Int.toNat_natCast] at x1
        rw [show rdOf false (rowF n (fun _ y => decide (y ∈ st.1)) 0) (tn : Int) = decide ((tn : Int) ∈ st.1) by simp [rdOf, rowF, List.getD_eq_getElem?_getD, show tn < n by omega]] at x1
        replace x1 := x1.1
        have z1 := HFi.out.c1
        have z3 := HFi.out.c3
        dsimp only [BoAt.fv] at z1 z3 x1
        have HL := Aside0.mk hlt
        have p2 : (0 ≤ (j : Int)) = True := eq_true (by omega)
        have p3 : ((j : Int) < (L.length : Int)) = True := eq_true (by omega)
        have p4 : (0 ≤ (tn : Int)) = True := eq_true (by omega)
        have p5 : ((tn : Int) < (n : Int)) = True := eq_true (by omega)
        clear ht hbd hRL
        by_cases q : (tn : Int) ∈ st.1
        · have HQ := Aside0.mk q
          rw [decide_eq_true q] at x1
          clear q
          go_wp2
          go_roundg (L.length - (j + 1))
          case measure => have := HA.out; have := HL.out; omega
          case rel => exact ⟨j + 1, st, by go_num, ⟨by have := HL.out; omega, by omega⟩, ⟨by rw [HTK.out, if_pos HQ.out]⟩, HDO, HDy, HK, HBw⟩
        · have HQ := Aside0.mk q
          rw [decide_eq_false q] at x1
          have T := Aside0.mk (IH.out (tn : Int) st wi HBD.out q HDO.out.1 HDO.out.2 HFi.out HDy.out HBw.out)
          have HG := Aside0.mk (dfs_ok HOK.out d (tn : Int) st (by rw [HHN.out]; exact HBD.out) q (by rw [HHN.out]; exact HDO.out.1) (by rw [HHN.out]; exact HDO.out.2))
          clear q
          go_wp2_with (go_at_fn 75; refine (T.out).mono ?_; rintro e w7 ⟨rfl, h7, h8, h9⟩; have HDy7 := Aside0.mk h7; have HK7 := Aside0.mk h8; have HB7 := Aside0.mk h9; clear h7 h8 h9 T)
          go_roundg (L.length - (j + 1))
          case measure => have := HA.out; have := HL.out; omega
          case rel => exact ⟨j + 1, _, by go_num, ⟨by have := HL.out; omega, by omega⟩, ⟨by rw [HTK.out, if_neg HQ.out]⟩, ⟨by have := HG.out.1; rwa [HHN.out] at this, by have := HG.out.2.1; rw [HHN.out] at this; have := HDO.out.2; omega⟩, HDy7, ⟨HK.out.then_ HK7.out (fun k hk => .inl hk)⟩, HB7⟩
      · have e : j = L.length := by have := HA.out; omega
        have p3 : ((j : Int) < (L.length : Int)) = False := eq_false (by omega)
        have HSE := Aside0.mk (show dfs next (d + 1) (an : Int) (s, o) = (st.1, (an : Int) :: st.2) by have := HS.out; rw [e, List.take_length, HEL.out] at this; simp only [dfs]; rw [← this])
        obtain ⟨A5, c5, z5, hO5⟩ := HDy.out.ord
        dsimp only at z5 hO5
        obtain ⟨R, hR⟩ : ∃ R, R = st.2.reverse := ⟨_, rfl⟩
        have hRl : st.2.length = R.length := by rw [hR]; simp
        rw [← hR, hRl] at hO5
        rw [hRl] at z5
        have y4 : wi.cell? ⟨g4, 0, none⟩ = some (.slice A5 R.length c5) := by rw [blk_cell z5 0]; rfl
        have f4 := blk_frozen z5 0
        have hl4 : g4 < wi.heap.size := (Array.getElem?_eq_some_iff.1 z5).1
        have HRL := Aside0.mk (show R.length ≤ 8 by have h1 := HDO.out.1.order; have h2 := HDO.out.1.size; have h3 := HB.out.n8; dsimp only at h3; omega)
        have HBS := Aside0.mk (show B ≤ wi.heap.size by have := HB.out.B4; dsimp only at this; omega)
        have HNEW := Aside0.mk (show ∀ k, wi.heap.size ≤ k → ¬ (BoAt.mk g1 g2 g3 g4 gb cb gn capn Bn Hn n B).Q k ∧ k ≠ gb ∧ k ≠ g4 from fun k hk => by
          have l1 := World.block_lt_of_cell? wi _ HFi.out.c1
          have l2 := World.block_lt_of_cell? wi _ HFi.out.c2
          have l3 := World.block_lt_of_cell? wi _ HFi.out.c3
          have l4 := HFi.out.rw.hW
          have l5 : gb < wi.heap.size := Kd.R_lt HDy.out.row gb rfl
          dsimp only at l1 l2 l3 l4
          refine ⟨fun h => ?_, by omega, by omega⟩
          rcases h with h | h | h | h <;> dsimp only at h <;> omega)
        have HO5 := Aside0.mk hO5
        have Z5 := Aside0.mk z5
        have HER := Aside0.mk hR
        have HRE := Aside0.mk hRl
        clear hO5 z5 hR hRl e
        go_wp2_with ((with_reducible refine gate_dst (N := 32) rfl ?_); refine Kd.R_append (Kd.int .i64) (w0 := W0) B rfl (.tmp 29) (.tmp 31) 34 3 (.int .i64 0) 8 rfl Try.underlying34 info3 rfl (by decide) (by omega) (.slice A5 R.length c5) R (an : Int) [.int .i64 (an : Int)] (fun k => (¬ (BoAt.mk g1 g2 g3 g4 gb cb gn capn Bn Hn n B).Q k ∧ k ≠ gb ∧ k ≠ g4) ∨ wi.heap.size ≤ k) (fun _ => False) rfl rfl rfl (fun _ hk => hk.elim) (fun k hk => .inr hk) (Kd.R_mono HO5.out (fun _ h => .inl h)) (by rw [← HB0.out]; exact HBw.out) HBS.out (by have := HRL.out; omega) ?_; intro v32 w8 ho hb hgr hat; rw [← HB0.out] at hb; obtain ⟨A32, c32, e32⟩ := Kd.R_slice ho; rw [List.length_append, List.length_singleton] at e32; subst e32; have hg8 := blk_grown Z5.out hgr (Kd.R_ne HO5.out Z5.out (by decide)); have y8 : w8.cell? ⟨g4, 0, none⟩ = some (.slice A5 R.length c5) := (by rw [blk_cell hg8 0]; rfl); have f8 := blk_frozen hg8 0; have HO8 := Aside0.mk ho; have HB8 := Aside0.mk hb; have HGR := Aside0.mk hgr; have HG8 := Aside0.mk hg8; clear ho hb hgr hat hg8 y4 f4)
        go_end0
        refine ⟨rfl, ?_, ?_, HB8.out.setCell (p := ⟨g4, 0, none⟩) (Nat.le_trans (Nat.le_of_eq HB0.out) HB.out.B4) _⟩
        · rw [HSE.out]
          refine ⟨Kd.R_set (Kd.R_grown HDy.out.row HGR.out (fun k hk e => (HO5.out.1 k e.symm).2.1 hk)) HG8.out (by decide) 0 _, A32, c32, ?_, ?_⟩
          · have := blk_put HG8.out 0 (.slice A32 (R.length + 1) c32) rfl
            show _ = some (Obj.cells #[.slice A32 (((an : Int) :: st.2).length) c32] 34 (0, 0))
            rw [List.length_cons, HRE.out]
            exact this
          · show (Kd.int .i64).R 3 _ B _ (.slice A32 (((an : Int) :: st.2).length) c32) ((an : Int) :: st.2).reverse
            rw [List.length_cons, HRE.out, List.reverse_cons, ← HER.out]
            exact Kd.R_set (Kd.R_mono HO8.out (fun k hk => hk.elim id (HNEW.out k))) HG8.out (by decide) 0 _
        · exact (Kept.of_grown HGR.out HK.out (fun k hk => .inl (HO5.out.1 k hk).1)).setCell (.inl HB.out.q4) _
end Go.Proofs.Ytghlbhijkhkgkaa.PA
