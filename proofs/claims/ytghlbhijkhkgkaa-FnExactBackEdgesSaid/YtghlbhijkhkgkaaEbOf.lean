/- The flow seat: rows of rows: marked, found again, compared. -/
import Derived.Test.YtghlbhijkhkgkaaEbMf
import Derived.Test.YtghlbhijkhkgkaaEbPAz10
namespace Go.Proofs.Ytghlbhijkhkgkaa.PA
open Go.RowKit Go.Proofs.YtghlbhijkhkgkaaW.PrintWords Go.Proofs.YtghlbhijkhkgkaaW.PrintLast Go.Proofs.YtghlbhijkhkgkaaW.PrintMore
set_option linter.unusedVariables false
/-- The marks q, q + 1, .. -/
def marksQ (q : Int) (n : Nat) : List Int := (List.range n).map fun (j : Nat) => q + (j : Int)
theorem marksQ_len (q : Int) (n : Nat) : (marksQ q n).length = n := by simp [marksQ]
theorem markq_l0 (q : Int) (hq : 0 ≤ q ∧ q ≤ 1000000) (l : List Int) (hl : l.length ≤ 1000) : ∀ (d i : Nat), l.length - i = d → i ≤ l.length → Ev (fun k => laws_markIntS.l0 k (marksQ q i ++ l.drop i) (q + (i : Int)) (i : Int)) (q + (l.length : Int), marksQ q l.length)
  | 0, i, hd, hi => by
    obtain rfl : i = l.length := by omega
    refine Ev.step (f := fun _ => some (q + (l.length : Int), marksQ q l.length)) (fun k => ?_) (Ev.now _)
    simp only [laws_markIntS.l0]
    rw [List.drop_of_length_le (Nat.le_refl _), List.append_nil, marksQ_len, if_neg (by omega)]
  | d + 1, i, hd, hi => by
    have h : i < l.length := by omega
    refine Ev.step (fun k => ?_) (markq_l0 q hq l hl d (i + 1) (by omega) (by omega))
    simp only [laws_markIntS.l0]
    have e : (marksQ q i ++ l.drop i).set i (q + (i : Int)) = marksQ q (i + 1) ++ l.drop (i + 1) := by
      rw [List.set_append_right _ _ (by rw [marksQ_len]; exact Nat.le_refl _), marksQ_len, Nat.sub_self, List.drop_eq_getElem_cons h, List.set_cons_zero, marksQ, marksQ, List.range_succ, List.map_append, List.append_assoc]
      rfl
    have e2 : wrap64 (q + (i : Int) + 1) = q + ((i + 1 : Nat) : Int) := by unfold wrap64; omega
    rw [if_pos (by rw [List.length_append, marksQ_len, List.length_drop]; omega), if_pos (by omega), Int.toNat_natCast, e, e2, wnext i l.length h (by unfold Max; omega)]
theorem markq_f (q : Int) (hq : 0 ≤ q ∧ q ≤ 1000000) (l : List Int) (hl : l.length ≤ 1000) : Ev (fun k => laws_markIntS.f k l q) (q + (l.length : Int), marksQ q l.length) := by
  have := markq_l0 q hq l hl _ 0 rfl (Nat.zero_le _)
  rw [show q + ((0 : Nat) : Int) = q by omega] at this
  exact Ev.congr (fun k => rfl) this
theorem heldq_l0 (q : Int) (hq : 0 ≤ q ∧ q ≤ 1000000) (n : Nat) (hn : n ≤ 1000) : ∀ (d i : Nat), n - i = d → i ≤ n → Ev (fun k => laws_heldIntS.l0 k (marksQ q n) (q + (i : Int)) (i : Int)) (q + (n : Int))
  | 0, i, hd, hi => by
    obtain rfl : i = n := by omega
    exact Ev.step (f := fun _ => some (q + (i : Int))) (fun k => by simp only [laws_heldIntS.l0]; rw [marksQ_len, if_neg (by omega)]) (Ev.now _)
  | d + 1, i, hd, hi => by
    have h : i < n := by omega
    have hr : rd (marksQ q n) (i : Int) = q + (i : Int) := by simp [rd, marksQ, List.getD_eq_getElem?_getD, h]
    have e2 : wrap64 (q + (i : Int) + 1) = q + ((i + 1 : Nat) : Int) := by unfold wrap64; omega
    refine Ev.step (fun k => ?_) (heldq_l0 q hq n hn d (i + 1) (by omega) (by omega))
    simp only [laws_heldIntS.l0]
    rw [marksQ_len, if_pos (by omega), if_pos (by omega), if_pos hr, e2, wnext i n h (by unfold Max; omega)]
theorem heldq_f (q : Int) (hq : 0 ≤ q ∧ q ≤ 1000000) (n : Nat) (hn : n ≤ 1000) : Ev (fun k => laws_heldIntS.f k (marksQ q n) q) (q + (n : Int)) := by
  have := heldq_l0 q hq n hn _ 0 rfl (Nat.zero_le _)
  rw [show q + ((0 : Nat) : Int) = q by omega] at this
  exact Ev.congr (fun k => rfl) this
/-- How many numbers there are. -/
def sumL (rows : List (List Int)) : Nat := (rows.map List.length).sum
/-- The rows marked from q on. -/
def markRows : Int → List (List Int) → List (List Int)
  | _, [] => []
  | q, r :: rs => marksQ q r.length :: markRows (q + (r.length : Int)) rs
theorem markRows_len : ∀ (q : Int) (rows : List (List Int)), (markRows q rows).length = rows.length
  | _, [] => rfl
  | q, r :: rs => by rw [markRows, List.length_cons, List.length_cons, markRows_len _ rs]
theorem markRows_snoc : ∀ (q : Int) (l : List (List Int)) (r : List Int), markRows q (l ++ [r]) = markRows q l ++ [marksQ (q + (sumL l : Int)) r.length]
  | q, [], r => by simp [markRows, sumL]
  | q, a :: l, r => by
    rw [List.cons_append, markRows, markRows, markRows_snoc _ l r, List.cons_append]
    simp only [sumL, List.map_cons, List.sum_cons]
    rw [show q + (a.length : Int) + (((l.map List.length).sum : Nat) : Int) = q + ((a.length + (l.map List.length).sum : Nat) : Int) by omega]
theorem sumL_snoc (l : List (List Int)) (r : List Int) : sumL (l ++ [r]) = sumL l + r.length := by simp [sumL]
theorem sumL_bound : ∀ (l : List (List Int)), (∀ r ∈ l, r.length ≤ 100) → sumL l ≤ 100 * l.length
  | [], _ => Nat.le_refl _
  | a :: l, h => by
    have h1 := h a List.mem_cons_self
    have h2 := sumL_bound l fun r hr => h r (List.mem_cons_of_mem _ hr)
    simp only [sumL, List.map_cons, List.sum_cons, List.length_cons] at h2 ⊢
    omega
/-- Rows that are small. -/
def SmallRows (rows : List (List Int)) : Prop := rows.length ≤ 100 ∧ ∀ r ∈ rows, r.length ≤ 100
theorem SmallRows.sum {rows : List (List Int)} (h : SmallRows rows) (i : Nat) : sumL (rows.take i) ≤ 10000 := by
  have := sumL_bound (rows.take i) fun r hr => h.2 r (List.mem_of_mem_take hr)
  rw [List.length_take] at this
  have := h.1
  omega
section
variable {rows : List (List Int)} {i : Nat}
theorem mark_step (hi : i < rows.length) : (markRows 1 (rows.take i) ++ rows.drop i).getD i [] = rows[i] ∧ (markRows 1 (rows.take i) ++ rows.drop i).set i (marksQ (1 + (sumL (rows.take i) : Int)) (rows[i]).length) = markRows 1 (rows.take (i + 1)) ++ rows.drop (i + 1) := by
  have hl : (markRows 1 (rows.take i)).length = i := by rw [markRows_len, List.length_take]; omega
  constructor
  · rw [List.getD_eq_getElem?_getD, List.getElem?_append_right (by omega), hl, Nat.sub_self, List.getElem?_drop, Nat.add_zero, List.getElem?_eq_getElem hi]
    rfl
  · rw [List.set_append_right _ _ (by omega), hl, Nat.sub_self, List.drop_eq_getElem_cons hi, List.set_cons_zero, List.take_succ_eq_append_getElem hi, markRows_snoc, List.append_assoc]
    rfl
end
set_option maxHeartbeats 2000000 in
set_option maxRecDepth 100000 in
theorem markSS_any {w0 w : World} {P : Nat → Prop} {v : Value} (rows : List (List Int)) (hs : SmallRows rows) (hB : Below w0.heap.size w0 w) (ho : Kd.S kR 34 w w0.heap.size P v rows) :
    Calls Try.prog 38 #[v, .int .i64 1] w fun e w' => e = .returned (.int .i64 (1 + (sumL rows : Int))) ∧ Kd.S kR 34 w' w0.heap.size P v (markRows 1 rows) ∧ Below w0.heap.size w0 w' ∧ Kept w w' (fun k => P k) := by
  obtain ⟨A, c, rfl⟩ := Kd.S_slice ho
  obtain ⟨n, hn⟩ : ∃ n, n = rows.length := ⟨_, rfl⟩
  rw [← hn] at ho ⊢
  have hm : n ≤ 100 := by rw [hn]; exact hs.1
  have HS := Aside0.mk (show Kd.S kR 34 w w0.heap.size P (.slice A n c) (markRows 1 (rows.take 0) ++ rows.drop 0) from ho)
  have HSM := Aside0.mk hs
  have HN := Aside0.mk hn
  have HB := Aside0.mk hB
  have HK := Aside0.mk (Kept.refl w (fun k => P k))
  clear hs hB ho hn
  go_enter Try.func38, Try.ntmps38
  go_wp2
  go_loopg [1, 5] n (fun gg s1 s5 wr => ∃ i : Nat, s5 = .int .i64 (i : Int) ∧ s1 = .int .i64 (1 + (sumL (rows.take i) : Int)) ∧ Aside0 (i ≤ n ∧ n - i ≤ gg) ∧ Aside0 (Kd.S kR 34 wr w0.heap.size P (.slice A n c) (markRows 1 (rows.take i) ++ rows.drop i)) ∧ Aside0 (Below w0.heap.size w0 wr) ∧ Aside0 (Kept w wr (fun k => P k)))
  case atStart => exact ⟨0, rfl, rfl, ⟨by omega, by omega⟩, HS, HB, HK⟩
  case round =>
    clear HS HB HK
    obtain ⟨i, rfl, rfl, HA, HS, HB, HK⟩ := hrel
    obtain ⟨wo, rfl⟩ : ∃ wo : World, wo = wr := ⟨_, rfl⟩
    by_cases hlt : i < n
    · have hil : i < rows.length := by have := HN.out; omega
      obtain ⟨hget, hset⟩ := mark_step hil
      have hrl : rows[i].length ≤ 100 := HSM.out.2 _ (List.getElem_mem hil)
      have hsum := HSM.out.sum i
      have hsn : sumL (rows.take (i + 1)) = sumL (rows.take i) + rows[i].length := by rw [List.take_succ_eq_append_getElem hil, sumL_snoc]
      obtain ⟨r, hr⟩ : ∃ r, r = rows[i] := ⟨_, rfl⟩
      rw [← hr] at hget hset hrl hsn
      have hlen : (markRows 1 (rows.take i) ++ rows.drop i).length = n := by rw [List.length_append, markRows_len, List.length_take, List.length_drop]; have := HN.out; omega
      obtain ⟨g, cg, eg, hgb, hgl, cells, hgc⟩ := Kd.S_form HS.out (by omega)
      rw [hlen] at eg
      cases eg
      obtain ⟨oki, v6, z6, f6, hR6, hok6, hH6⟩ := rows_lend HS.out hlt
      rw [hget] at hR6
      obtain ⟨km, hkm⟩ := Ev.rounds (markq_f (1 + (sumL (rows.take i) : Int)) (by omega) r (by omega))
      have T27 := Aside0.mk (laws_markIntS.calls km oki v6 r (1 + (sumL (rows.take i) : Int)) _ _ w0 wo HB.out hR6 hkm)
      have HR6 := Aside0.mk hR6
      have HOK6 := Aside0.mk hok6
      have HH6 := Aside0.mk hH6
      have HSET := Aside0.mk hset
      have HSN := Aside0.mk hsn
      have HL := Aside0.mk hlt
      have p0 : (0 ≤ (i : Int)) = True := eq_true (by omega)
      have p1 : ((i : Int) < (n : Int)) = True := eq_true (by omega)
      obtain ⟨A6, c6, rfl⟩ := Kd.R_slice hR6
      clear hget hset hrl hsum hsn hr hlen hgb hgl hgc hR6 hok6 hH6 f6 hkm
      go_wp2_with (go_at_call 27; refine (T27.out).mono ?_; rintro e w7 ⟨rfl, hR, hb, hk⟩; have HR7 := Aside0.mk hR; have HB7 := Aside0.mk hb; have HK7 := Aside0.mk hk; clear hR hb hk T27 z6)
      have hS := Kd.H_back (x' := marksQ (1 + (sumL (rows.take i) : Int)) r.length) (Kd.H_step HH6.out (fun k hk hn hlt => HK7.out.2 k hlt hn)) ⟨_, rfl, Kd.R_mono (Kd.R_tight rfl HR7.out) (fun k hk => HR6.out.1 k hk.symm)⟩ (fun _ h => h)
      rw [Int.toNat_natCast, HSET.out] at hS
      have HS7 := Aside0.mk hS
      clear hS
      go_roundg (n - (i + 1))
      case measure => have := HA.out; have := HL.out; omega
      case rel => exact ⟨i + 1, by go_num, by first | (rw [HSN.out]; exact congrArg (Value.int IntKind.i64) (by omega)) | (rw [HSN.out]; simp; omega), ⟨by have := HL.out; omega, by omega⟩, HS7, HB7, ⟨HK.out.then_ HK7.out (fun k hk => .inl (HOK6.out k hk).1)⟩⟩
    · have e : i = n := by have := HA.out; omega
      have hE : rows.take i = rows ∧ rows.drop i = [] := by have := HN.out; exact ⟨List.take_of_length_le (by omega), List.drop_of_length_le (by omega)⟩
      have HE := Aside0.mk hE
      have p1 : ((i : Int) < (n : Int)) = False := eq_false (by omega)
      clear e hE
      go_wp2
      go_ret
      have h := HS.out
      rw [HE.out.1, HE.out.2, List.append_nil] at h
      exact ⟨by rw [HE.out.1]; rfl, h, HB.out, HK.out⟩
end Go.Proofs.Ytghlbhijkhkgkaa.PA
