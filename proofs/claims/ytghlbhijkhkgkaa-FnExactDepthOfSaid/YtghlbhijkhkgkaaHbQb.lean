/- The flow seat: impl.loop by hand. -/
import Derived.Test.YtghlbhijkhkgkaaHbQa
import Derived.Test.YtghlbhijkhkgkaaHbOb
import Derived.Test.YtghlbhijkhkgkaaHbVb
namespace Go.Proofs.Ytghlbhijkhkgkaa.PA
open Go.RowKit Go.Proofs.YtghlbhijkhkgkaaW.PrintWords Go.Proofs.YtghlbhijkhkgkaaW.PrintLast Go.Proofs.YtghlbhijkhkgkaaW.PrintMore
set_option linter.unusedVariables false
theorem loop_closure (x : Int) (gt : Nat) {A : Option Addr} {n c : Nat} (l : List Bool) (W : World) (hc : W.cell? ⟨gt, 0, none⟩ = some (.slice A n c)) (hr : Kd.bool.C W A n l) (hx : 0 ≤ x ∧ x < (n : Int)) :
    Calls Try.prog 116 #[.int .i64 x, .pointer (some ⟨gt, 0, none⟩)] W fun e W' => e = .returned (.bool (rdOf false l x)) ∧ Below W.heap.size W W' := by
  obtain ⟨ad, e, hz⟩ := Kd.at_bool hr x hx.1 hx.2
  cases e
  have p0 : (0 ≤ x) = True := eq_true hx.1
  have p1 : (x < (n : Int)) = True := eq_true hx.2
  have hm := Kd.C_max hr
  clear hr hx
  go_enter Try.func116, Try.ntmps116
  go_wp2
  go_ret
  exact ⟨rfl, Below.refl _ _⟩
/-- The starts among the first i edges. -/
def startsAt (E : List (List Int)) (head : Int) (i : Nat) : List Int := ((E.take i).filter fun e => decide (rd e 1 = head)).map fun e => rd e 0
theorem startsAt_succ (E : List (List Int)) (head : Int) (i : Nat) (hi : i < E.length) : startsAt E head (i + 1) = if rd E[i] 1 = head then startsAt E head i ++ [rd E[i] 0] else startsAt E head i := by
  unfold startsAt
  rw [List.take_succ_eq_append_getElem hi, List.filter_append, List.map_append]
  by_cases h : rd E[i] 1 = head
  · rw [if_pos h]; simp [h]
  · rw [if_neg h]; simp [h]
theorem starts_of (next : List (List Int)) (head : Int) : startsAt (backsL next next.length) head (backsL next next.length).length = startsL next head := by
  have h : ∀ n, n ≤ next.length → ((backsL next n).filter fun e => decide (rd e 1 = head)).map (fun e => rd e 0) = numsL n fun b => decide (head ∈ backRow next b) := by
    intro n
    induction n with
    | zero => intro _; simp [backsL, numsL]
    | succ n ih =>
      intro hn
      rw [backsL_succ, List.filter_append, List.map_append, ih (by omega), numsL_succ]
      have hs : Rises (backRow next (n : Int)) := List.Pairwise.filter _ (rises_numsL _ _)
      have e1 : ∀ l : List Int, Rises l → ((l.map fun t => [(n : Int), t]).filter fun e => decide (rd e 1 = head)).map (fun e => rd e 0) = if head ∈ l then [(n : Int)] else [] := by
        intro l
        induction l with
        | nil => intro _; simp
        | cons a l ih2 =>
          intro hl
          obtain ⟨h1, h2⟩ := List.pairwise_cons.1 hl
          have := ih2 h2
          by_cases ha : a = head
          · subst ha
            have hn : a ∉ l := fun h => by have := h1 a h; omega
            rw [if_neg hn] at this
            rw [List.map_cons, List.filter_cons_of_pos (by simp [rd]), List.map_cons, this, if_pos List.mem_cons_self]
            rfl
          · rw [List.map_cons, List.filter_cons_of_neg (by simpa [rd] using ha), this]
            have : head ∈ a :: l ↔ head ∈ l := by rw [List.mem_cons]; exact ⟨fun h => h.resolve_left (fun h => ha h.symm), .inr⟩
            simp only [this]
      rw [e1 _ hs]
      by_cases q : head ∈ backRow next (n : Int)
      · rw [if_pos q, if_pos (by simpa using q)]
      · rw [if_neg q, if_neg (by simpa using q), List.append_nil]
  have := h next.length (Nat.le_refl _)
  unfold startsAt
  rw [List.take_length]
  exact this
theorem pair_at (next : List (List Int)) (i : Nat) (hi : i < (backsL next next.length).length) : ∃ b t : Int, (backsL next next.length)[i] = [b, t] ∧ 0 ≤ b ∧ b < (next.length : Int) := by
  have h := List.getElem_mem hi
  simp only [backsL, List.mem_flatMap, List.mem_map, List.mem_range] at h
  obtain ⟨b, hb, t, _, e⟩ := h
  exact ⟨b, t, e.symm, by omega, by omega⟩
/-- The row of bools when i of the blocks that are reached are asked. -/
noncomputable def insF (next : List (List Int)) (head : Int) (i : Nat) (_ y : Int) : Bool := decide (y = head) || (decide (y ∈ (reached next).take i) && (startsL next head).any fun s => decide (s ∈ fromL next y head))
theorem row_set {n d : Nat} {f f' : Int → Int → Bool} {v : Bool} (hd : d < n) (h1 : f' 0 (d : Int) = v) (h2 : ∀ d' : Nat, d' ≠ d → f' 0 (d' : Int) = f 0 (d' : Int)) : (rowF n f 0).set d v = rowF n f' 0 := by
  refine List.ext_getElem (by simp [rowF]) fun j h5 h6 => ?_
  rw [List.getElem_set]
  by_cases e2 : d = j
  · subst e2; rw [if_pos rfl]; simp [rowF, h1]
  · rw [if_neg e2]; simp [rowF, h2 j (Ne.symm e2)]
theorem ins_start (next : List (List Int)) (n head : Nat) (hh : head < n) : (List.replicate n false).set head true = rowF n (insF next (head : Int) 0) 0 := by
  have h0 : List.replicate n false = rowF n (fun _ _ => false) 0 := List.ext_getElem (by simp [rowF]) fun j h3 h4 => by simp [rowF]
  rw [h0]
  refine row_set hh (by simp [insF]) fun d' hd => ?_
  simp [insF]
  omega
theorem ins_step {next : List (List Int)} {n i xn : Nat} {head : Int} {v : Bool} (hx : xn < n) (htk : (reached next).take (i + 1) = (reached next).take i ++ [(xn : Int)]) (hv : (decide ((xn : Int) = head) || (startsL next head).any fun s => decide (s ∈ fromL next (xn : Int) head)) = v) : (rowF n (insF next head i) 0).set xn v = rowF n (insF next head (i + 1)) 0 := by
  refine row_set hx ?_ fun d' hd => ?_
  · rw [← hv]
    simp only [insF, htk, List.mem_append, List.mem_singleton, or_true, decide_true, Bool.true_and]
  · have : ((d' : Int) ∈ (reached next).take i ++ [(xn : Int)]) ↔ (d' : Int) ∈ (reached next).take i := by
      rw [List.mem_append, List.mem_singleton]
      exact ⟨fun h => h.resolve_right (by omega), .inl⟩
    simp only [insF, htk, this]
theorem ins_end (next : List (List Int)) (head : Int) (hne : startsL next head ≠ []) : numsL (rowF next.length (insF next head (reached next).length) 0).length (rdOf false (rowF next.length (insF next head (reached next).length) 0)) = loopL next head := by
  rw [rowF_len, loopL, if_neg hne]
  refine rises_ext _ _ (rises_numsL _ _) (rises_numsL _ _) fun y => ?_
  rw [mem_numsL, mem_numsL]
  refine and_congr_right fun h => ?_
  obtain ⟨k, rfl⟩ := Int.eq_ofNat_of_zero_le h.1
  have : k < next.length := by omega
  simp [rdOf, rowF, List.getD_eq_getElem?_getD, this, insF, inLoop, List.take_length]
theorem any_reach (next : List (List Int)) (x head : Int) (l : List Int) (hl : ∀ s ∈ l, 0 ≤ s) : (l.any fun s => rdOf false (reachL next x head) s) = l.any fun s => decide (s ∈ fromL next x head) := by
  induction l with
  | nil => rfl
  | cons a l ih => rw [List.any_cons, List.any_cons, ih (fun s hs => hl s (List.mem_cons_of_mem _ hs)), reachL_rd _ _ _ _ (hl a List.mem_cons_self)]
set_option maxHeartbeats 8000000 in
set_option maxRecDepth 100000 in
theorem loop_any {A0 : Option Addr} {c0 : Nat} (next : List (List Int)) (w : World) (hok : RowsOk next) (h1 : 0 < next.length) (h8 : next.length ≤ 8) (head : Nat) (hh : head < next.length) (hr0 : Kd.C kR w A0 next.length next) (hc0 : next.length ≤ c0) :
    Calls Try.prog 82 #[.slice A0 next.length c0, .int .i64 (head : Int)] w fun e w' => ((startsL next (head : Int) = [] ∧ e = .returned (.slice none 0 0)) ∨ (startsL next (head : Int) ≠ [] ∧ ∃ v, e = .returned v ∧ (Kd.int .i64).R 3 w' w.heap.size (fun _ => True) v (loopL next (head : Int)))) ∧ Below w.heap.size w w' := by
  have T73 := Aside0.mk (fun W (hW : Below w.heap.size w W) (a but : Int) (ha : 0 ≤ a ∧ a < (next.length : Int)) => (show Calls Try.prog 73 #[.slice A0 next.length c0, .int .i64 a, .int .i64 but] W fun e w' => ∃ v : Value, e = .returned v ∧ Kd.bool.R 4 w' W.heap.size (fun _ => True) v (reachL next a but) ∧ Below W.heap.size W w' from by
    obtain ⟨k, hk⟩ := Ev.rounds (reach_is hok ha but)
    exact impl_reach.calls k A0 c0 next a but _ W (Kd.C_below hr0 hW) hc0 hk))
  have T80 := Aside0.mk (fun W (hW : Below w.heap.size w W) => (show Calls Try.prog 80 #[.slice A0 next.length c0] W fun e w' => ∃ v : Value, e = .returned v ∧ Kd.S kR 34 w' W.heap.size (fun _ => True) v (backsL next next.length) ∧ Below W.heap.size W w' from by
    obtain ⟨k, hk⟩ := Ev.rounds (edges_f next hok h1 h8)
    exact impl_backEdges.calls k A0 c0 next _ W (Kd.C_below hr0 hW) hc0 hk))
  have HB := Aside0.mk (below_alloc (Below.refl w.heap.size w) (.cells #[] 3))
  have hlen : ∀ a but, (reachL next a but).length = next.length := reachL_len next
  have HEL := Aside0.mk (backsL_len h8 next.length)
  obtain ⟨n, hn⟩ : ∃ n, n = next.length := ⟨_, rfl⟩
  rw [← hn] at T73 T80 hlen h1 h8 hh HEL ⊢
  have H1 := Aside0.mk h1
  have H8 := Aside0.mk h8
  have HH := Aside0.mk hh
  have HEN := Aside0.mk hn
  have HLEN := Aside0.mk hlen
  obtain ⟨E, hE⟩ : ∃ E, E = backsL next n := ⟨_, rfl⟩
  rw [← hE] at T80 HEL
  have HE := Aside0.mk hE
  have HPAIR := Aside0.mk (show ∀ (i : Nat) (hi : i < E.length), ∃ b t : Int, E[i] = [b, t] ∧ 0 ≤ b ∧ b < (n : Int) by
    subst hE; rw [hn]; exact pair_at next)
  have HST := Aside0.mk (show startsAt E (head : Int) E.length = startsL next (head : Int) by rw [hE, hn]; exact starts_of next _)
  have HEM := Aside0.mk (show E.length ≤ 64 by have := HEL.out; omega)
  clear h1 hn hr0 hc0 hok hlen hE
  go_enter Try.func82, Try.ntmps82
  go_wp2_with (go_at_call 80; refine (T80.out _ HB.out).mono ?_; rintro e w2 ⟨v15, rfl, hS, hb⟩; obtain ⟨A15, c15, rfl⟩ := Kd.S_slice hS; have HSE := Aside0.mk hS; have HB2 := Aside0.mk hb; clear hS hb T80)
  obtain ⟨N1, hN1⟩ : ∃ N1, N1 = (w.alloc (.cells #[] 3)).heap.size := ⟨_, rfl⟩
  obtain ⟨N2, hN2⟩ : ∃ N2, N2 = w2.heap.size := ⟨_, rfl⟩
  have HER := Aside0.mk (show Kd.R kR 34 w2 w.heap.size (fun k => N1 ≤ k ∧ k < N2) (.slice A15 E.length c15) E from Kd.R_lower (Kd.R_mono (Kd.R_bound (Kd.S_R HSE.out)) (fun k hk => ⟨by rw [hN1]; exact hk.2.1, by rw [hN2]; exact hk.2.2.1⟩)) HB.out.size)
  have HO := Aside0.mk (show (Kd.int .i64).R 3 w2 w.heap.size (fun k => k < N1 ∨ N2 ≤ k) (.slice (some ⟨w.heap.size, 0, none⟩) 0 0) (startsAt E (head : Int) 0) from Kd.R_mono (Kd.R_below (empty_R w w.heap.size (Nat.le_refl _)) HB2.out) (fun k hk => .inl (by rw [hk, hN1]; simp)))
  have HBW := Aside0.mk (below_step HB.out HB2.out)
  have HN2 := Aside0.mk (show N2 ≤ w2.heap.size by rw [hN2]; exact Nat.le_refl _)
  have hem := HEM.out
  clear HSE HB2 HB hN1 hN2
  go_loopg [5, 17] E.length (fun gg s5 s17 wr => ∃ i : Nat, s17 = .int .i64 (i : Int) ∧ Aside0 (i ≤ E.length ∧ E.length - i ≤ gg) ∧ Aside0 ((Kd.int .i64).R 3 wr w.heap.size (fun k => k < N1 ∨ N2 ≤ k) s5 (startsAt E (head : Int) i)) ∧ Aside0 (Kd.R kR 34 wr w.heap.size (fun k => N1 ≤ k ∧ k < N2) (.slice A15 E.length c15) E) ∧ Aside0 (Below w.heap.size w wr) ∧ Aside0 (N2 ≤ wr.heap.size))
  case atStart => exact ⟨0, rfl, ⟨by omega, by omega⟩, HO, HER, HBW, HN2⟩
  case round =>
    clear HO HER HBW HN2
    obtain ⟨i, rfl, HA, HO, HER, HBW, HN2⟩ := hrel
    obtain ⟨wl, rfl⟩ : ∃ wl : World, wl = wr := ⟨_, rfl⟩
    by_cases hlt : i < E.length
    · obtain ⟨b, t, hbt, hb0, hb1⟩ := HPAIR.out i hlt
      obtain ⟨ad, A7, c7, e7, z7, hl7, hC7⟩ := at_L1 (Kd.R_reads' HER.out).2.2 (i : Int) (by omega) (by omega)
      cases e7
      simp only [Int.toNat_natCast] at z7
      have hrow : rd_L1 E (i : Int) = [b, t] := by simp [rd_L1, List.getD_eq_getElem?_getD, List.getElem?_eq_getElem hlt, hbt]
      rw [hrow] at z7 hl7 hC7
      obtain ⟨ad7, e7, y0⟩ := Kd.at_int hC7 0 (by omega) (by simp)
      cases e7
      obtain ⟨ad7', e7, y1⟩ := Kd.at_int hC7 1 (by omega) (by simp)
      cases e7
      have hsu := startsAt_succ E (head : Int) i hlt
      rw [hbt] at hsu
      replace y0 : wl.cell? ad7 = some (.int .i64 b) := y0
      replace y1 : wl.cell? { block := ad7.block, off := ad7.off + 1 } = some (.int .i64 t) := y1
      have HSU := Aside0.mk (show startsAt E (head : Int) (i + 1) = if t = (head : Int) then startsAt E (head : Int) i ++ [b] else startsAt E (head : Int) i from hsu)
      have HSL := Aside0.mk (show (startsAt E (head : Int) i).length ≤ 64 from by
        have h2 := List.length_filter_le (fun e => decide (rd e 1 = (head : Int))) (E.take i)
        simp only [startsAt, List.length_map]
        have h3 : (E.take i).length ≤ E.length := by rw [List.length_take]; omega
        have := HEM.out
        omega)
      obtain ⟨A5, c5, rfl⟩ := Kd.R_slice HO.out
      have HL := Aside0.mk hlt
      have p0 : (0 ≤ (i : Int)) = True := eq_true (by omega)
      have p1 : ((i : Int) < (E.length : Int)) = True := eq_true (by omega)
      clear hrow hC7 hl7 hsu hbt hb0 hb1
      obtain ⟨sx, hsx⟩ : ∃ sx, sx = startsAt E (head : Int) i := ⟨_, rfl⟩
      rw [← hsx] at HO HSL HSU ⊢
      clear hsx
      by_cases q : t = (head : Int)
      · have d0 : (t == (head : Int)) = true := beq_iff_eq.mpr q
        have HQ := Aside0.mk q
        clear q
        go_wp2_with ((with_reducible refine gate_dst (N := 31) rfl ?_); refine Kd.R_append (Kd.int .i64) (w0 := w) w.heap.size rfl (.tmp 26) (.tmp 30) 34 3 (.int .i64 0) 8 rfl Try.underlying34 info3 rfl (by decide) (by omega) (.slice A5 sx.length c5) sx b [.int .i64 b] (fun k => k < N1 ∨ N2 ≤ k) (fun _ => False) rfl rfl rfl (fun _ hk => hk.elim) (fun k hk => .inr (Nat.le_trans HN2.out hk)) HO.out HBW.out HBW.out.size (by have := HSL.out; omega) ?_; intro v31 w3 ho hb hgr hat; have HO3 := Aside0.mk ho; have HB3 := Aside0.mk hb; have HGR := Aside0.mk hgr; clear ho hb hgr hat)
        go_roundg (E.length - (i + 1))
        case measure => have := HA.out; have := HL.out; omega
        case rel => exact ⟨i + 1, by go_num, ⟨by have := HL.out; omega, by omega⟩, ⟨by rw [HSU.out, if_pos HQ.out]; exact HO3.out⟩, ⟨Kd.R_grown HER.out HGR.out (fun k hk e => by have := HO.out.1 k e.symm; omega)⟩, HB3, ⟨Nat.le_trans HN2.out HGR.out.size⟩⟩
      · have d0 : (t == (head : Int)) = false := beq_eq_false_iff_ne.mpr q
        have HQ := Aside0.mk q
        clear q
        go_wp2
        go_roundg (E.length - (i + 1))
        case measure => have := HA.out; have := HL.out; omega
        case rel => exact ⟨i + 1, by go_num, ⟨by have := HL.out; omega, by omega⟩, ⟨by rw [HSU.out, if_neg HQ.out]; exact HO.out⟩, HER, HBW, HN2⟩
    · have e : i = E.length := by have := HA.out; omega
      have p1 : ((i : Int) < (E.length : Int)) = False := eq_false (by omega)
      have hO := HO.out
      rw [e, HST.out] at hO
      have HS := Aside0.mk hO
      obtain ⟨A5, c5, rfl⟩ := Kd.R_slice hO
      clear hO HO e HER
      obtain ⟨st, hst⟩ : ∃ st, st = startsL next (head : Int) := ⟨_, rfl⟩
      rw [← hst] at HS ⊢
      have HSTE := Aside0.mk hst
      clear hst
      by_cases q : st = []
      · subst q
        go_wp2
        go_ret
        exact ⟨.inl ⟨HSTE.out.symm, rfl⟩, HBW.out⟩
      · have hq0 : 0 < st.length := List.length_pos_iff.2 q
        have d1 : ((st.length : Int) == 0) = false := beq_eq_false_iff_ne.mpr (by omega)
        have HQ := Aside0.mk q
        clear q
        go_wp2_with fail
        obtain ⟨all, hall⟩ : ∃ z, z = reachL next 0 (-1) := ⟨_, rfl⟩
        have T73a := Aside0.mk (show ∀ W, Below w.heap.size w W → Calls Try.prog 73 #[.slice A0 n c0, .int .i64 0, .int .i64 (-1)] W fun e w' => ∃ v : Value, e = .returned v ∧ Kd.bool.R 4 w' W.heap.size (fun _ => True) v all ∧ Below W.heap.size W w' from fun W hW => by rw [hall]; exact T73.out W hW 0 (-1) ⟨Int.le_refl _, by have := H1.out; omega⟩)
        have HALL := Aside0.mk hall
        clear hall
        refine start_ (n := 7) (S := fun w' => True) (ds := []) #[false, false, false, false, false, false, false] (by kernel_rfl) rfl rfl trivial (fun hHeld => ?_)
        obtain ⟨w5, hw5⟩ : ∃ w5, w5 = wl.drew := ⟨_, rfl⟩
        rw [← hw5]
        have HB5 := Aside0.mk (show Below wl.heap.size wl w5 from by rw [hw5]; exact below_drew1 (Below.refl _ _))
        clear hw5
        refine pure_ (i := 0) (N := some 36) (v := ?_) (a' := ?_) #[true, false, false, false, false, false, false] rfl rfl (by kernel_rfl) (fun _ _ _ h => h) (Or.inl ⟨by rfl, ?_⟩) ?_ ?_
        rotate_left
        · intro w'
          go_simp
          with_reducible rfl
        rotate_left
        · simp only [Act.put, List.setIfInBounds_toArray, List.set_cons_zero, List.set_cons_succ]
          rfl
        refine pure_ (i := 2) (N := some 38) (v := ?_) (a' := ?_) #[true, false, true, false, false, false, false] rfl rfl (by kernel_rfl) (fun _ _ _ h => h) (Or.inl ⟨by rfl, ?_⟩) ?_ ?_
        rotate_left
        · intro w'
          go_simp
          with_reducible rfl
        rotate_left
        · simp only [Act.put, List.setIfInBounds_toArray, List.set_cons_zero, List.set_cons_succ]
          rfl
        refine pure_ (i := 3) (N := some 39) (v := ?_) (a' := ?_) #[true, false, true, true, false, false, false] rfl rfl (by kernel_rfl) (fun _ _ _ h => h) (Or.inl ⟨by rfl, ?_⟩) ?_ ?_
        rotate_left
        · intro w'
          go_simp
          with_reducible rfl
        rotate_left
        · simp only [Act.put, List.setIfInBounds_toArray, List.set_cons_zero, List.set_cons_succ]
          rfl
        refine join_ (σ := Value × Value) 1 #[true, true, true, true, true, true, false] (fun s_ => [(37, s_.1), (40, s_.2), (8, s_.1)]) (fun s_ w' => Kd.bool.R 4 w' wl.heap.size (fun k => some k ≠ (s_.2 : Value).ownBlock) s_.1 all ∧ Kd.bool.R 4 w' wl.heap.size (fun _ => True) s_.2 (List.replicate n false) ∧ Below wl.heap.size wl w') ?_ ?_
        rotate_left
        · intro hCont
          refine two_ (i := 1) (j := 4) (Ni := some 37) (Nj := some 40) #[true, true, true, true, false, false, false] #[true, false, true, true, true, false, false] rfl rfl rfl rfl (by kernel_rfl) (by decide) (by decide) (fun K hK => ?_) (fun K hK => ?_)
          · skip
            refine goes_ Try.func73 (by kernel_rfl) rfl #[.slice A0 n c0, .int .i64 0, .int .i64 (-1)] (by rfl) rfl rfl (by (try simp only [List.map_toArray, List.map_cons, List.map_nil]); first | done | rfl | (simp only [List.length_drop, List.length_take]; rfl)) ?_
            refine (T73a.out _ (HBW.out.trans (HB5.out.mono HBW.out.size))).mono ?_
            rintro e w6 ⟨v37, rfl, ho, hb⟩
            refine ⟨_, rfl, ?_⟩
            have HO37 := Aside0.mk ho
            have HB6 := Aside0.mk hb
            clear ho hb
            refine hK.out _ _ trivial (fun hHeld => ?_)
            clear hK K
            refine norm_ (a' := ?_) ?_ ?_
            rotate_left
            · show Act.put _ (some 37) _ = _
              simp only [Act.put, List.setIfInBounds_toArray, List.set_cons_zero, List.set_cons_succ]
              rfl
            refine pure_ (i := 5) (N := some 8) (v := ?_) (a' := ?_) #[true, true, true, true, false, true, false] rfl rfl (by kernel_rfl) (fun _ _ _ h => h) (Or.inl ⟨by rfl, ?_⟩) ?_ ?_
            rotate_left
            · intro w'
              go_simp
              with_reducible rfl
            rotate_left
            · simp only [Act.put, List.setIfInBounds_toArray, List.set_cons_zero, List.set_cons_succ]
              rfl
            refine one_ (i := 4) (N := some 40) #[true, true, true, true, true, true, false] rfl rfl (by kernel_rfl) (by decide) (fun K hK => ?_)
            refine Kd.R_make_step Kd.bool _ 4 (by rfl) (N := 40) rfl 69 _ _ rfl (n : Int) rfl rfl Try.underlying69 (.bool false) 1 info4 rfl (by decide) (by omega) false (ok := fun _ => True) (okp := fun _ => True) rfl (fun _ hk => hk) trivial (by omega) (by have := H8.out; simp; omega) (Below.refl _ _) (Nat.le_refl _) ?_
            intro v40 w7 ho hb hg_ hnew_
            rw [Int.toNat_natCast] at ho
            clear hg_ hnew_
            have HF := Aside0.mk (And.intro (Kd.R_lower (Kd.R_mono (Kd.R_elder' HO37.out (Kd.R_base ho) hb) (fun k hk => hk.2)) HB5.out.size) (And.intro (Kd.R_lower ho (below_step HB5.out HB6.out).size) (below_step (below_step HB5.out HB6.out) hb)))
            clear ho hb
            refine hK.out _ _ trivial (fun hHeld => ?_)
            clear hK K
            refine norm_ (a' := ?_) ?_ ?_
            rotate_left
            · show Act.put _ (some 40) _ = _
              simp only [Act.put, List.setIfInBounds_toArray, List.set_cons_zero, List.set_cons_succ]
              rfl
            exact norm_ (by simp only [putAll, Act.put, List.setIfInBounds_toArray, List.set_cons_zero, List.set_cons_succ]) (hCont (v37, v40) _ HF.out)
          · skip
            refine Kd.R_make_step Kd.bool _ 4 (by rfl) (N := 40) rfl 69 _ _ rfl (n : Int) rfl rfl Try.underlying69 (.bool false) 1 info4 rfl (by decide) (by omega) false (ok := fun _ => True) (okp := fun _ => True) rfl (fun _ hk => hk) trivial (by omega) (by have := H8.out; simp; omega) (Below.refl _ _) (Nat.le_refl _) ?_
            intro v40 w6 ho hb hg_ hnew_
            rw [Int.toNat_natCast] at ho
            clear hg_ hnew_
            have HO40 := Aside0.mk ho
            have HB6 := Aside0.mk hb
            clear ho hb
            refine hK.out _ _ trivial (fun hHeld => ?_)
            clear hK K
            refine norm_ (a' := ?_) ?_ ?_
            rotate_left
            · show Act.put _ (some 40) _ = _
              simp only [Act.put, List.setIfInBounds_toArray, List.set_cons_zero, List.set_cons_succ]
              rfl
            refine one_ (i := 1) (N := some 37) #[true, true, true, true, true, false, false] rfl rfl (by kernel_rfl) (by decide) (fun K hK => ?_)
            refine goes_ Try.func73 (by kernel_rfl) rfl #[.slice A0 n c0, .int .i64 0, .int .i64 (-1)] (by rfl) rfl rfl (by (try simp only [List.map_toArray, List.map_cons, List.map_nil]); first | done | rfl | (simp only [List.length_drop, List.length_take]; rfl)) ?_
            refine (T73a.out _ (HBW.out.trans ((below_step HB5.out HB6.out).mono HBW.out.size))).mono ?_
            rintro e w7 ⟨v37, rfl, ho, hb⟩
            refine ⟨_, rfl, ?_⟩
            have HF := Aside0.mk (And.intro (Kd.R_lower (Kd.R_mono (Kd.R_new' ho (Kd.R_lt HO40.out)) (fun k hk => hk.2)) (below_step HB5.out HB6.out).size) (And.intro (Kd.R_lower (Kd.R_below HO40.out hb) HB5.out.size) (below_step (below_step HB5.out HB6.out) hb)))
            clear ho hb
            refine hK.out _ _ trivial (fun hHeld => ?_)
            clear hK K
            refine norm_ (a' := ?_) ?_ ?_
            rotate_left
            · show Act.put _ (some 37) _ = _
              simp only [Act.put, List.setIfInBounds_toArray, List.set_cons_zero, List.set_cons_succ]
              rfl
            refine pure_ (i := 5) (N := some 8) (v := ?_) (a' := ?_) #[true, true, true, true, true, true, false] rfl rfl (by kernel_rfl) (fun _ _ _ h => h) (Or.inl ⟨by rfl, ?_⟩) ?_ ?_
            rotate_left
            · intro w'
              go_simp
              with_reducible rfl
            rotate_left
            · simp only [Act.put, List.setIfInBounds_toArray, List.set_cons_zero, List.set_cons_succ]
              rfl
            exact norm_ (by simp only [putAll, Act.put, List.setIfInBounds_toArray, List.set_cons_zero, List.set_cons_succ]) (hCont (v37, v40) _ HF.out)
        rintro ⟨v37, v40⟩ w9 ⟨h0_, h1_, h2_⟩
        have HA37 := Aside0.mk (show Kd.bool.R 4 w9 wl.heap.size (fun k => some k ≠ (v40 : Value).ownBlock) v37 all from h0_)
        have HI40 := Aside0.mk (show Kd.bool.R 4 w9 wl.heap.size (fun _ => True) v40 (List.replicate n false) from h1_)
        have HB9 := Aside0.mk (show Below wl.heap.size wl w9 from h2_)
        clear h0_ h1_ h2_ HB5
        have hHeld := trivial
        refine norm_ (a' := ?_) ?_ ?_
        rotate_left
        · simp only [putAll, Act.put, List.setIfInBounds_toArray, List.set_cons_zero, List.set_cons_succ]
          rfl
        refine pure_ (i := 6) (N := some 9) (v := ?_) (a' := ?_) #[true, true, true, true, true, true, true] rfl rfl (by kernel_rfl) (fun _ _ _ h => h) (Or.inl ⟨by rfl, ?_⟩) ?_ ?_
        rotate_left
        · intro w'
          go_simp
          with_reducible rfl
        rotate_left
        · simp only [Act.put, List.setIfInBounds_toArray, List.set_cons_zero, List.set_cons_succ]
          rfl
        refine done_ (by kernel_rfl) ?_
        obtain ⟨g9, c9, e9, hb9, hl9, cells9, hc9⟩ := Kd.R_form HI40.out (by rw [List.length_replicate]; exact H1.out)
        rw [List.length_replicate] at e9
        subst e9
        obtain ⟨A37, c37, e37⟩ := Kd.R_slice HA37.out
        rw [HALL.out, HLEN.out] at e37
        subst e37
        have hin := Kd.R_celln false HI40.out (head : Int) (by omega) (by have := HH.out; omega)
        simp only [Int.toNat_natCast] at hin
        obtain ⟨hin1, hin2⟩ := hin
        have hput := Kd.R_put (xs := List.replicate n false) (cap := c9) (by rw [List.length_replicate]; exact HI40.out) (head : Int) true
        rw [List.length_replicate] at hput
        simp only [Int.toNat_natCast] at hput
        rw [ins_start next n head HH.out] at hput
        have HGR9 := Aside0.mk hput.2
        have HIN := Aside0.mk (Kd.R_tight rfl (Kd.R_lower hput.1 HBW.out.size))
        have HG9 := Aside0.mk (show wl.heap.size ≤ g9 from hb9)
        have HA9 := Aside0.mk (Kd.R_lower (Kd.R_grown HA37.out HGR9.out (fun k hk => hk)) HBW.out.size)
        have HB10 := Aside0.mk ((below_step HBW.out HB9.out).setCell (p := ⟨g9, head, none⟩) (Nat.le_trans HBW.out.size hb9) (.bool true))
        have HS9 := Aside0.mk (show (Kd.int .i64).R 3 (w9.setCell ⟨g9, head, none⟩ (.bool true)) w.heap.size (fun k => k ≠ g9) (.slice A5 st.length c5) st from Kd.R_mono (Kd.R_grown (Kd.R_below (Kd.R_bound HS.out) HB9.out) HGR9.out (fun k hk e => by injection e with e; have := hk.2.2.1; omega)) (fun k hk => by have := hk.2.2.1; omega))
        have q0 : (0 ≤ (head : Int)) = True := eq_true (by omega)
        have q1 : ((head : Int) < (n : Int)) = True := eq_true (by have := HH.out; omega)
        have hm9 : n ≤ 9223372036854775807 := by have := H8.out; omega
        have HSR := Aside0.mk (show ∀ s ∈ st, 0 ≤ s ∧ s < (n : Int) from fun s hs => by rw [HSTE.out] at hs; have := (mem_numsL.1 hs).1; have := HEN.out; omega)
        obtain ⟨D, hD⟩ : ∃ D, D = reached next := ⟨_, rfl⟩
        have T72 := Aside0.mk (show Calls Try.prog 72 #[.slice A37 n c37] (w9.setCell ⟨g9, head, none⟩ (.bool true)) fun e w' => ∃ v : Value, e = .returned v ∧ (Kd.int .i64).R 3 w' (w9.setCell ⟨g9, head, none⟩ (.bool true)).heap.size (fun _ => True) v D ∧ Below (w9.setCell ⟨g9, head, none⟩ (.bool true)).heap.size (w9.setCell ⟨g9, head, none⟩ (.bool true)) w' from by
          have hal : all.length = n := by rw [HALL.out, HLEN.out]
          have := listOf_any (w := w9.setCell ⟨g9, head, none⟩ (.bool true)) (A := A37) (c := c37) all (by rw [hal]; have := H8.out; omega) (Kd.R_reads' HA9.out).2.2 (by rw [hal]; exact (Kd.R_reads' HA9.out).2.1)
          rw [HALL.out, listOf_reach, ← HALL.out, hal, show fromL next 0 (-1) = D from hD.symm] at this
          exact this)
        have HED := Aside0.mk hD
        clear hb9 hl9 hc9 hput hD HA37 HI40 HA9 HGR9 HB9 T73a
        go_wp2_with (go_at_call 72; refine (T72.out).mono ?_; rintro e w10 ⟨v45, rfl, hR, hb⟩; obtain ⟨A45, c45, rfl⟩ := Kd.R_slice hR; have HD := Aside0.mk hR; have HB45 := Aside0.mk hb; clear hR hb T72)
        have HDL := Aside0.mk (show D.length ≤ 8 from by have h2 := fromL_len next 0 (-1); have := H8.out; have := HEN.out; rw [HED.out]; show (fromL next 0 (-1)).length ≤ 8; omega)
        have hdm := Kd.C_max (Kd.R_reads' HD.out).2.2
        have HG9W := Aside0.mk (show g9 < (w9.setCell ⟨g9, head, none⟩ (.bool true)).heap.size from Kd.R_lt HIN.out g9 rfl)
        have HIN2 := Aside0.mk (Kd.R_below HIN.out HB45.out)
        have HS2 := Aside0.mk (Kd.R_below HS9.out HB45.out)
        have HD2 := Aside0.mk (show (Kd.int .i64).R 3 w10 w.heap.size (fun k => k ≠ g9) (.slice A45 D.length c45) D from Kd.R_lower (Kd.R_mono (Kd.R_bound HD.out) (fun k hk e => by have := hk.2.1; have := HG9W.out; omega)) HB10.out.size)
        have HB2 := Aside0.mk (below_step HB10.out HB45.out)
        clear HIN HS9 HD HB10 HB45 HG9W hin1 hin2
        go_loopg [47] D.length (fun gg s47 wr => ∃ i : Nat, s47 = .int .i64 (i : Int) ∧ Aside0 (i ≤ D.length ∧ D.length - i ≤ gg) ∧ Aside0 (Kd.bool.R 4 wr w.heap.size (fun k => some k = (Value.slice (some ⟨g9, 0, none⟩) n c9).ownBlock) (.slice (some ⟨g9, 0, none⟩) n c9) (rowF n (insF next (head : Int) i) 0)) ∧ Aside0 ((Kd.int .i64).R 3 wr w.heap.size (fun k => k ≠ g9) (.slice A5 st.length c5) st) ∧ Aside0 ((Kd.int .i64).R 3 wr w.heap.size (fun k => k ≠ g9) (.slice A45 D.length c45) D) ∧ Aside0 (Below w.heap.size w wr))
        case atStart => exact ⟨0, rfl, ⟨by omega, by omega⟩, HIN2, HS2, HD2, HB2⟩
        case round =>
          clear HIN2 HS2 HD2 HB2
          obtain ⟨i, rfl, HA, HIN, HS, HD, HB⟩ := hrel
          obtain ⟨wo, rfl⟩ : ∃ wo : World, wo = wr := ⟨_, rfl⟩
          by_cases hlt : i < D.length
          · obtain ⟨ad, e, hz⟩ := Kd.at_int (Kd.R_reads' HD.out).2.2 (i : Int) (by omega) (by omega)
            cases e
            simp only [Int.toNat_natCast] at hz
            rw [rd_at D i hlt] at hz
            have hmem : D[i] ∈ reached next := by rw [← HED.out]; exact List.getElem_mem hlt
            have hiR : i < (reached next).length := by rw [← HED.out]; exact hlt
            have hxi : (reached next)[i] = D[i] := by simp only [HED.out]
            have hbd := (mem_fromL.1 hmem).2.1
            obtain ⟨x, hx⟩ : ∃ x, x = D[i] := ⟨_, rfl⟩
            rw [← hx] at hz hbd hmem hxi
            obtain ⟨xn, rfl⟩ := Int.eq_ofNat_of_zero_le hbd.1
            have HXN := Aside0.mk (show xn < n by have := hbd.2; have := HEN.out; omega)
            have HTK := Aside0.mk (show (reached next).take (i + 1) = (reached next).take i ++ [(xn : Int)] by rw [List.take_succ_eq_append_getElem hiR, hxi])
            have HNT := Aside0.mk (reached_at hiR hxi).2
            have HL := Aside0.mk hlt
            have hxn := HXN.out
            have hin := Kd.R_celln false HIN.out (xn : Int) (by omega) (by omega)
            simp only [Int.toNat_natCast] at hin
            rw [show rdOf false (rowF n (insF next (head : Int) i) 0) (xn : Int) = decide ((xn : Int) = (head : Int)) by
              have := HNT.out
              simp [rdOf, rowF, List.getD_eq_getElem?_getD, hxn, insF, this]] at hin
            obtain ⟨hin1, hin2⟩ := hin
            have hput := fun v => Kd.R_put (xs := rowF n (insF next (head : Int) i) 0) (cap := c9) (by rw [rowF_len]; exact HIN.out) (xn : Int) v
            have p2 : (0 ≤ (i : Int)) = True := eq_true (by omega)
            have p3 : ((i : Int) < (D.length : Int)) = True := eq_true (by omega)
            have p4 : (0 ≤ (xn : Int)) = True := eq_true (by omega)
            have p5 : ((xn : Int) < (n : Int)) = True := eq_true (by omega)
            have HG9L := Aside0.mk (show g9 < wo.heap.size from Kd.R_lt HIN.out g9 rfl)
            have HG9B := Aside0.mk (show w.heap.size ≤ g9 from Kd.R_base HIN.out g9 rfl)
            have HFIN := Aside0.mk (fun (W : World) (v : Bool) (hW : Below wo.heap.size wo W) (hv : (decide ((xn : Int) = (head : Int)) || (startsL next (head : Int)).any fun s => decide (s ∈ fromL next (xn : Int) (head : Int))) = v) => (show Aside0 (Kd.bool.R 4 (W.setCell ⟨g9, xn, none⟩ (.bool v)) w.heap.size (fun k => some k = (Value.slice (some ⟨g9, 0, none⟩) n c9).ownBlock) (.slice (some ⟨g9, 0, none⟩) n c9) (rowF n (insF next (head : Int) (i + 1)) 0)) ∧ Aside0 ((Kd.int .i64).R 3 (W.setCell ⟨g9, xn, none⟩ (.bool v)) w.heap.size (fun k => k ≠ g9) (.slice A5 st.length c5) st) ∧ Aside0 ((Kd.int .i64).R 3 (W.setCell ⟨g9, xn, none⟩ (.bool v)) w.heap.size (fun k => k ≠ g9) (.slice (some ad) D.length c45) D) ∧ Aside0 (Below w.heap.size w (W.setCell ⟨g9, xn, none⟩ (.bool v))) from by
              have hp := Kd.R_put (xs := rowF n (insF next (head : Int) i) 0) (cap := c9) (by rw [rowF_len]; exact Kd.R_below HIN.out hW) (xn : Int) v
              rw [rowF_len] at hp
              simp only [Int.toNat_natCast] at hp
              rw [ins_step HXN.out HTK.out hv] at hp
              exact ⟨⟨hp.1⟩, ⟨Kd.R_grown (Kd.R_below HS.out hW) hp.2 (fun k hk e => by injection e with e; exact hk e)⟩, ⟨Kd.R_grown (Kd.R_below HD.out hW) hp.2 (fun k hk e => by injection e with e; exact hk e)⟩, ⟨(below_step HB.out hW).setCell (p := ⟨g9, xn, none⟩) HG9B.out _⟩⟩))
            have T8 := Aside0.mk (T73.out wo HB.out (xn : Int) (head : Int) ⟨by omega, by omega⟩)
            clear hbd hx hmem hiR hxi hput
            have hih : decide ((xn : Int) = (head : Int)) = true ∨ decide ((xn : Int) = (head : Int)) = false := by cases decide ((xn : Int) = (head : Int)) <;> simp
            rcases hih with hd | hd
            · have HD0 := Aside0.mk hd
              rw [hd] at hin1
              clear hd
              go_wp2_with (go_at_call 73; refine (T8.out).mono ?_; rintro e w8 ⟨v54, rfl, hR, hb⟩; obtain ⟨A54, c54, e54⟩ := Kd.R_slice hR; rw [HLEN.out] at e54; subst e54; have HB8 := Aside0.mk hb; have i1 := pw_cell_below hb hin1; have i2 : w8.frozen? ⟨g9, xn, none⟩ = false := (Kd.R_celln false (Kd.R_below HIN.out hb) (xn : Int) (by omega) (by omega)).2; have i3 : g9 < w8.heap.size := Nat.lt_of_lt_of_le HG9L.out hb.size; clear hR hb hin1 hin2)
              obtain ⟨f1, f2, f3, f4⟩ := HFIN.out w8 true HB8.out (by rw [HD0.out]; rfl)
              go_roundg (D.length - (i + 1))
              case measure => have := HA.out; have := HL.out; omega
              case rel => exact ⟨i + 1, by go_num, ⟨by have := HL.out; omega, by omega⟩, ⟨Kd.R_alloc f1.out _⟩, ⟨Kd.R_alloc f2.out _⟩, ⟨Kd.R_alloc f3.out _⟩, ⟨below_alloc f4.out _⟩⟩
            · have HD0 := Aside0.mk hd
              rw [hd] at hin1
              clear hd
              go_wp2_with (go_at_call 73; refine (T8.out).mono ?_; rintro e w8 ⟨v54, rfl, hR, hb⟩; obtain ⟨A54, c54, e54⟩ := Kd.R_slice hR; rw [HLEN.out] at e54; subst e54; have HR8 := Aside0.mk hR; have HB8 := Aside0.mk hb; have i1 := pw_cell_below hb hin1; have i2 : w8.frozen? ⟨g9, xn, none⟩ = false := (Kd.R_celln false (Kd.R_below HIN.out hb) (xn : Int) (by omega) (by omega)).2; have i3 : g9 < w8.heap.size := Nat.lt_of_lt_of_le HG9L.out hb.size; clear hR hb hin1 hin2)
              have hba := below_alloc (Below.refl w8.heap.size w8) (.cells #[.slice A54 n c54] 69)
              have HBA := Aside0.mk (below_step HB8.out hba)
              have i6 := pw_cell_below hba i1
              have T98 := sl_ContainsFunc_int A5 c5 st 116 #[.pointer (some ⟨w8.heap.size, 0, none⟩)] (fun s => rdOf false (reachL next (xn : Int) (head : Int)) s) (w8.alloc (.cells #[.slice A54 n c54] 69)) (Kd.C_below (Kd.R_reads' HS.out).2.2 HBA.out) (enters_fn Try.func116 (by kernel_rfl) (by kernel_rfl)) (fun W hW s hs => loop_closure s w8.heap.size (reachL next (xn : Int) (head : Int)) W (show W.cell? ⟨w8.heap.size, 0, none⟩ = some (.slice A54 n c54) from (by rw [hW.cell (by simp)]; simp)) (by have := Kd.C_below (Kd.C_below (Kd.R_reads' HR8.out).2.2 hba) hW; rwa [HLEN.out] at this) (HSR.out s hs))
              refine T98.mono ?_
              rintro e w64 ⟨rfl, hb⟩
              rw [any_reach next (xn : Int) (head : Int) st (fun s hs => (HSR.out s hs).1)]
              have HB64 := Aside0.mk (below_step HBA.out hb)
              have i4 := pw_cell_below hb i6
              have i5 : w64.frozen? ⟨g9, xn, none⟩ = false := (by have := (Kd.R_celln false (Kd.R_below HIN.out HB64.out) (xn : Int) (by omega) (by omega)).2; simpa using this)
              clear hb hba T98 i1 i2 i3 i6
              go_wp2
              have HF := Aside0.mk (HFIN.out w64 (st.any fun s => decide (s ∈ fromL next (xn : Int) (head : Int))) HB64.out (by rw [HD0.out, HSTE.out]; rfl))
              go_roundg (D.length - (i + 1))
              case measure => have := HA.out; have := HL.out; omega
              case rel => exact ⟨i + 1, by go_num, ⟨by have := HL.out; omega, by omega⟩, HF.out⟩
          · have e : i = D.length := by have := HA.out; omega
            have p3 : ((i : Int) < (D.length : Int)) = False := eq_false (by omega)
            have hie := ins_end next (head : Int) (by rw [← HSTE.out]; exact HQ.out)
            have T72 := listOf_any (w := wo) (A := some ⟨g9, 0, none⟩) (c := c9) (rowF n (insF next (head : Int) i) 0) (by rw [rowF_len]; have := H8.out; omega) (by rw [rowF_len]; exact (Kd.R_reads' HIN.out).2.2 |> fun h => by rwa [rowF_len] at h) (by rw [rowF_len]; exact (Kd.R_reads' HIN.out).2.1)
            rw [e, HED.out, HEN.out, hie, rowF_len, ← HEN.out] at T72
            have HT := Aside0.mk T72
            clear T72 hie e
            go_wp2_with (go_at_call 72; refine (HT.out).mono ?_; rintro e w11 ⟨v69, rfl, hR, hb⟩; have HR := Aside0.mk hR; have HB11 := Aside0.mk (below_step HB.out hb); clear hR hb HT)
            go_ret
            exact ⟨.inr ⟨by rw [← HSTE.out]; exact HQ.out, _, rfl, Kd.R_lower HR.out HB.out.size⟩, HB11.out⟩
end Go.Proofs.Ytghlbhijkhkgkaa.PA
