/- The flow seat: spec.l13Loop by hand. -/
import Derived.Test.YtghlbhijkhkgkaaHbQa
namespace Go.Proofs.Ytghlbhijkhkgkaa.PA
open Go.RowKit Go.Proofs.YtghlbhijkhkgkaaW.PrintWords Go.Proofs.YtghlbhijkhkgkaaW.PrintLast Go.Proofs.YtghlbhijkhkgkaaW.PrintMore
set_option linter.unusedVariables false
theorem put_own {w0 w : World} {P : Nat → Prop} {u : Value} (l : List Int) (x : Int) (hl : l.length ≤ 1000) (hs : Rises l) (hB : Below w0.heap.size w0 w) (ho : (Kd.int .i64).R 3 w w0.heap.size P u l) :
    Calls Try.prog 105 #[u, .int .i64 x] w fun e w' => ∃ (v : Value) (r : List Int), e = .returned v ∧ (Kd.int .i64).R 3 w' w0.heap.size (fun k => P k ∨ w.heap.size ≤ k) v r ∧ Below w0.heap.size w0 w' ∧ Kept w w' (fun k => P k) ∧ (∀ y, y ∈ r ↔ y ∈ l ∨ y = x) ∧ Rises r := by
  obtain ⟨r, ev, h1, h2, h3⟩ := put_s l x hl hs
  obtain ⟨k, hk⟩ := Ev.rounds ev
  exact (spec_l1Put.calls k P u l x r w0 w hB ho hk).mono fun e w' h => by obtain ⟨v, h4, h5, h6, h7⟩ := h; exact ⟨v, r, h4, h5, h6, h7, h1, h3⟩
section
variable {next : List (List Int)} {head b x : Int} {E : List (List Int)} {i j : Nat} {o o2 D : List Int} {B : Int → Prop}
theorem inE_skip {t : Int} (htk : E.take (i + 1) = E.take i ++ [[b, t]]) (hne : t ≠ head) (hm : ∀ y, y ∈ o ↔ InE next head (E.take i) y) : ∀ y, y ∈ o ↔ InE next head (E.take (i + 1)) y := fun y => by
  rw [hm y, htk]
  constructor
  · rintro ⟨b', h1, h2⟩
    exact ⟨b', List.mem_append_left _ h1, h2⟩
  · rintro ⟨b', h1, h2⟩
    rcases List.mem_append.1 h1 with h1 | h1
    · exact ⟨b', h1, h2⟩
    · simp only [List.mem_singleton, List.cons.injEq, and_true] at h1
      exact absurd h1.2.symm hne
theorem inE_done (htk : E.take (i + 1) = E.take i ++ [[b, head]]) (hm : ∀ y, y ∈ o ↔ (InE next head (E.take i) y ∨ y = head) ∨ (y ∈ reached next ∧ b ∈ fromL next y head)) : ∀ y, y ∈ o ↔ InE next head (E.take (i + 1)) y := fun y => by
  rw [hm y, htk]
  constructor
  · rintro ((⟨b', h1, h2⟩ | rfl) | h1)
    · exact ⟨b', List.mem_append_left _ h1, h2⟩
    · exact ⟨b, by simp, .inl rfl⟩
    · exact ⟨b, by simp, .inr h1⟩
  · rintro ⟨b', h1, h2⟩
    rcases List.mem_append.1 h1 with h1 | h1
    · exact .inl (.inl ⟨b', h1, h2⟩)
    · simp only [List.mem_singleton, List.cons.injEq, and_true] at h1
      subst h1
      exact h2.elim (fun e => .inl (.inr e)) .inr
theorem mem_more (htk : D.take (j + 1) = D.take j ++ [x]) (q : b ∈ fromL next x head) (hm : ∀ y, y ∈ o ↔ B y ∨ (y ∈ D.take j ∧ b ∈ fromL next y head)) (hm2 : ∀ y, y ∈ o2 ↔ y ∈ o ∨ y = x) : ∀ y, y ∈ o2 ↔ B y ∨ (y ∈ D.take (j + 1) ∧ b ∈ fromL next y head) := fun y => by
  rw [hm2 y, hm y, htk, List.mem_append, List.mem_singleton]
  constructor
  · rintro ((h | h) | rfl)
    · exact .inl h
    · exact .inr ⟨.inl h.1, h.2⟩
    · exact .inr ⟨.inr rfl, q⟩
  · rintro (h | ⟨h | rfl, h2⟩)
    · exact .inl (.inl h)
    · exact .inl (.inr ⟨h, h2⟩)
    · exact .inr rfl
theorem mem_same (htk : D.take (j + 1) = D.take j ++ [x]) (q : b ∉ fromL next x head) (hm : ∀ y, y ∈ o ↔ B y ∨ (y ∈ D.take j ∧ b ∈ fromL next y head)) : ∀ y, y ∈ o ↔ B y ∨ (y ∈ D.take (j + 1) ∧ b ∈ fromL next y head) := fun y => by
  rw [hm y, htk, List.mem_append, List.mem_singleton]
  constructor
  · rintro (h | h)
    · exact .inl h
    · exact .inr ⟨.inl h.1, h.2⟩
  · rintro (h | ⟨h | rfl, h2⟩)
    · exact .inl h
    · exact .inr ⟨h, h2⟩
    · exact absurd h2 q
theorem inE_range (hh : 0 ≤ head ∧ head < (next.length : Int)) {y : Int} (h : InE next head E y) : 0 ≤ y ∧ y < (next.length : Int) := by
  obtain ⟨_, _, h | h⟩ := h
  · rw [h]; exact hh
  · exact (mem_fromL.1 h.1).2.1
theorem len_of (hs : Rises o) (h8 : next.length ≤ 8) (h : ∀ y ∈ o, 0 ≤ y ∧ y < (next.length : Int)) : o.length ≤ 8 := by
  have := rises_len o 0 next.length hs h
  omega
end
theorem row_of {W : World} {base n c i : Nat} {ok : Nat → Prop} {A : Option Addr} {rows : List (List Int)} (h : Kd.R kR 34 W base ok (.slice A n c) rows) (hi : i < n) :
    ∃ g v, A = some ⟨g, 0, none⟩ ∧ W.cell? ⟨g, i, none⟩ = some v ∧ (Kd.int .i64).R 3 W base ok v (rows.getD i []) := by
  have hn := (Kd.R_reads' h).1
  obtain ⟨g, cap, e, _⟩ := Kd.R_form h (by omega)
  simp only [Value.slice.injEq] at e
  obtain ⟨rfl, _, _⟩ := e
  obtain ⟨cs, _, hM, hcc, _⟩ := Kd.R_elem h [] (i : Int) (by omega) (by omega)
  obtain ⟨v, rfl, hR⟩ := hM
  have h1 : W.cell? ⟨g, (i : Int).toNat * 1 + 0, none⟩ = some v := hcc 0 v rfl
  rw [Int.toNat_natCast, Nat.mul_one, Nat.add_zero] at h1
  rw [Int.toNat_natCast] at hR
  exact ⟨g, v, rfl, h1, Kd.R_mono hR (fun k hk => hk.1)⟩
set_option maxHeartbeats 8000000 in
set_option maxRecDepth 100000 in
theorem l13Loop_any {A : Option Addr} {c : Nat} (p : Int) (bs : List S87) (head : Int) (w : World) (hr : Kd.C k87 w A bs.length bs) (hc : bs.length ≤ c) (hg : GoodRows bs) (hh : 0 ≤ head ∧ head < (bs.length : Int)) :
    Calls Try.prog 81 #[.agg #[.int .i64 p, .slice A bs.length c], .int .i64 head] w fun e w' => ∃ v : Value, e = .returned v ∧ (Kd.int .i64).R 3 w' w.heap.size (fun _ => True) v (loopL (nextL bs) head) ∧ Below w.heap.size w w' := by
  obtain ⟨next, hnx⟩ : ∃ z, z = nextL bs := ⟨_, rfl⟩
  have hnl := nextL_len bs
  have T71 := Aside0.mk (fun W (hW : Below w.heap.size w W) (a but : Int) ha => from_any (A := A) (c := c) p bs a but W (Kd.C_below hr hW) hc hg ha)
  have T79 := Aside0.mk (fun W (hW : Below w.heap.size w W) => (show Calls Try.prog 79 #[.agg #[.int .i64 p, .slice A bs.length c]] W fun e w' => ∃ v : Value, e = .returned v ∧ Kd.S kR 34 w' W.heap.size (fun _ => True) v (backsL (nextL bs) bs.length) ∧ Below W.heap.size W w' from by
    obtain ⟨k, hk⟩ := Ev.rounds (backs_f p bs hg)
    exact spec_l13Backs.calls k p A c bs _ W (Kd.C_below hr hW) hc hk))
  have HEL := backsL_len (next := nextL bs) (by rw [hnl]; exact hg.len) bs.length
  rw [← hnx] at hnl T71 T79 HEL ⊢
  have HNL := Aside0.mk hnl
  have H1 := Aside0.mk hg.one
  have H8 := Aside0.mk hg.len
  have HH := Aside0.mk hh
  have HHN := Aside0.mk (show 0 ≤ head ∧ head < (next.length : Int) by rw [hnl]; exact hh)
  have HN8 := Aside0.mk (show next.length ≤ 8 by rw [hnl]; exact hg.len)
  obtain ⟨E, hE⟩ : ∃ E, E = backsL next bs.length := ⟨_, rfl⟩
  rw [← hE] at T79 HEL
  have HEM := Aside0.mk (show E.length ≤ 64 by have := hg.len; omega)
  have HE := Aside0.mk (show E = backsL next next.length by rw [hE, hnl])
  have HPAIR := Aside0.mk (show ∀ (i : Nat) (hi : i < E.length), ∃ b t : Int, E[i] = [b, t] from fun i hi => by
    have := List.getElem_mem hi
    have h2 : E[i] ∈ backsL next bs.length := by rw [← hE]; exact this
    obtain ⟨b, t, _, _, e⟩ := mem_backs.1 h2
    exact ⟨_, _, e⟩)
  obtain ⟨D, hD⟩ : ∃ D, D = reached next := ⟨_, rfl⟩
  have HED := Aside0.mk hD
  have HDL := Aside0.mk (show D.length ≤ 8 from by have h2 := fromL_len next 0 (-1); have := HN8.out; rw [hD]; show (fromL next 0 (-1)).length ≤ 8; omega)
  have hm := Kd.C_max hr
  have HB0 := Aside0.mk (below_alloc (Below.refl w.heap.size w) (.cells #[.int .i64 p, .slice A bs.length c] 30))
  have T71a := Aside0.mk (show ∀ W, Below w.heap.size w W → Calls Try.prog 71 #[.agg #[.int .i64 p, .slice A bs.length c], .int .i64 0, .int .i64 (-1)] W fun e w' => ∃ v : Value, e = .returned v ∧ (Kd.int .i64).R 3 w' W.heap.size (fun _ => True) v D ∧ Below W.heap.size W w' from fun W hW => by rw [hD]; exact T71.out W hW 0 (-1) ⟨Int.le_refl _, by have := H1.out; omega⟩)
  clear hr hc hg hnl hnx hh HEL hE hD
  go_enter Try.func81, Try.ntmps81
  go_wp2_with (first | (go_at_call 71; refine (T71a.out _ HB0.out).mono ?_; rintro e w1 ⟨v12, rfl, hR, hb⟩; obtain ⟨A12, c12, rfl⟩ := Kd.R_slice hR; have HD1 := Aside0.mk hR; have HB1 := Aside0.mk hb; have k0 : w1.cell? ⟨w.heap.size, 0, none⟩ = some (.int .i64 p) := pw_cell_below hb (by simp); have k1 : w1.cell? ⟨w.heap.size, 1, none⟩ = some (.slice A bs.length c) := pw_cell_below hb (by simp); clear hR hb T71a) | (go_at_call 79; refine (T79.out _ (below_step HB0.out HB1.out)).mono ?_; rintro e w2 ⟨v14, rfl, hS, hb⟩; obtain ⟨A14, c14, rfl⟩ := Kd.S_slice hS; have HSE := Aside0.mk hS; have HB2 := Aside0.mk hb; clear hS hb T79))
  obtain ⟨wb, hwb⟩ : ∃ z, z = w.alloc (.cells #[.int .i64 p, .slice A bs.length c] 30) := ⟨_, rfl⟩
  rw [← hwb] at HB0 HB1 HD1
  obtain ⟨N2, hN2⟩ : ∃ N2, N2 = w2.heap.size := ⟨_, rfl⟩
  have HE2 := Aside0.mk (show Kd.R kR 34 w2 wb.heap.size (fun k => k < N2) (.slice A14 E.length c14) E from Kd.R_lower (Kd.R_mono (Kd.R_bound (Kd.S_R HSE.out)) (fun k hk => by rw [hN2]; exact hk.2.2.1)) HB1.out.size)
  have HD2 := Aside0.mk (show (Kd.int .i64).R 3 w2 wb.heap.size (fun k => k < N2) (.slice A12 D.length c12) D from Kd.R_mono (Kd.R_bound (Kd.R_below HD1.out HB2.out)) (fun k hk => by rw [hN2]; exact hk.2.2.1))
  have HBW := Aside0.mk (below_step HB1.out HB2.out)
  have HN2 := Aside0.mk (show N2 ≤ w2.heap.size by rw [hN2]; exact Nat.le_refl _)
  have HLT := Aside0.mk (show w.heap.size < N2 from by rw [hN2]; exact Nat.lt_of_lt_of_le (World.block_lt_of_cell? w1 _ k0) HB2.out.size)
  have k0' := pw_cell_below HB2.out k0
  have k1' := pw_cell_below HB2.out k1
  have HO := Aside0.mk (show (Kd.int .i64).R 3 w2 wb.heap.size (fun k => N2 ≤ k) (.slice none 0 0) ([] : List Int) from Kd.R_nil _ _ _ _ _)
  have HK := Aside0.mk (show w2.cell? ⟨w.heap.size, 0, none⟩ = some (.int .i64 p) ∧ w2.cell? ⟨w.heap.size, 1, none⟩ = some (.slice A bs.length c) from ⟨k0', k1'⟩)
  have HM := Aside0.mk (show Rises ([] : List Int) ∧ ∀ y, y ∈ ([] : List Int) ↔ InE next head (E.take 0) y from ⟨List.Pairwise.nil, fun y => by simp [InE]⟩)
  have hem := HEM.out
  clear HSE HB2 HB1 HD1 hN2 k0 k1 k0' k1' hwb
  go_loopg [5, 16] E.length (fun gg s5 s16 wr => ∃ (i : Nat) (o : List Int), s16 = .int .i64 (i : Int) ∧ Aside0 (i ≤ E.length ∧ E.length - i ≤ gg) ∧ Aside0 (Rises o ∧ ∀ y, y ∈ o ↔ InE next head (E.take i) y) ∧ Aside0 ((Kd.int .i64).R 3 wr wb.heap.size (fun k => N2 ≤ k) s5 o) ∧ Aside0 (Kd.R kR 34 wr wb.heap.size (fun k => k < N2) (.slice A14 E.length c14) E) ∧ Aside0 ((Kd.int .i64).R 3 wr wb.heap.size (fun k => k < N2) (.slice A12 D.length c12) D) ∧ Aside0 (wr.cell? ⟨w.heap.size, 0, none⟩ = some (.int .i64 p) ∧ wr.cell? ⟨w.heap.size, 1, none⟩ = some (.slice A bs.length c)) ∧ Aside0 (Below wb.heap.size wb wr) ∧ Aside0 (N2 ≤ wr.heap.size))
  case atStart => exact ⟨0, [], rfl, ⟨by omega, by omega⟩, HM, HO, HE2, HD2, HK, HBW, HN2⟩
  case round =>
    clear HM HO HE2 HD2 HK HBW HN2
    obtain ⟨i, o, rfl, HA, HM, HO, HE2, HD2, HK, HBW, HN2⟩ := hrel
    obtain ⟨wl, rfl⟩ : ∃ wl : World, wl = wr := ⟨_, rfl⟩
    by_cases hlt : i < E.length
    · obtain ⟨b, t, hbt⟩ := HPAIR.out i hlt
      obtain ⟨gE, v7, eE, z7, hR7⟩ := row_of HE2.out hlt
      cases eE
      rw [show E.getD i [] = [b, t] by rw [List.getD_eq_getElem?_getD, List.getElem?_eq_getElem hlt, hbt]; rfl] at hR7
      obtain ⟨g7, c7, e7, _⟩ := Kd.R_form hR7 (by simp)
      subst e7
      have y0 := (Kd.R_celln 0 hR7 0 (by omega) (by simp)).1
      have y1 := (Kd.R_celln 0 hR7 1 (by omega) (by simp)).1
      replace y1 : wl.cell? ⟨g7, 1, none⟩ = some (.int .i64 t) := y1
      have HR7 := Aside0.mk hR7
      have HTK := Aside0.mk (show E.take (i + 1) = E.take i ++ [[b, t]] by rw [List.take_succ_eq_append_getElem hlt, hbt])
      have HL := Aside0.mk hlt
      have p0 : (0 ≤ (i : Int)) = True := eq_true (by omega)
      have p1 : ((i : Int) < (E.length : Int)) = True := eq_true (by omega)
      clear hbt y0 hR7
      by_cases q : t = head
      · subst q
        have HOL := Aside0.mk (len_of HM.out.1 HN8.out (fun y hy => inE_range HHN.out ((HM.out.2 y).1 hy)))
        have T105 := Aside0.mk (put_own (w0 := wb) o t (by have := HOL.out; omega) HM.out.1 HBW.out HO.out)
        go_wp2_with (go_at_call 105; refine (T105.out).mono ?_; rintro e w27 ⟨v27, r, rfl, hR, hb, hk, hm, hs⟩; have HO7 := Aside0.mk (Kd.R_mono hR (fun k h => h.elim id (fun h => Nat.le_trans HN2.out h))); have HB7 := Aside0.mk hb; have HK7 := Aside0.mk hk; have HM7 := Aside0.mk (And.intro hs (show ∀ y, y ∈ r ↔ (InE next t (E.take i) y ∨ y = t) ∨ (y ∈ D.take 0 ∧ b ∈ fromL next y t) from fun y => by rw [hm y, HM.out.2 y]; simp)); clear hR hb hk hm hs T105 z7 y1)
        have hnS : ∀ k, k < N2 → ¬ (N2 ≤ k) := fun k h => by omega
        have HE7 := Aside0.mk (Kd.R_kept HE2.out HK7.out hnS)
        have HD7 := Aside0.mk (Kd.R_kept HD2.out HK7.out hnS)
        have HR27 := Aside0.mk (Kd.R_kept HR7.out HK7.out hnS)
        have HC7 := Aside0.mk (show w27.cell? ⟨w.heap.size, 0, none⟩ = some (.int .i64 p) ∧ w27.cell? ⟨w.heap.size, 1, none⟩ = some (.slice A bs.length c) from ⟨cell_kept HK.out.1 HK7.out (hnS _ HLT.out), cell_kept HK.out.2 HK7.out (hnS _ HLT.out)⟩)
        have HN7 := Aside0.mk (Nat.le_trans HN2.out HK7.out.1)
        have hdm := Kd.C_max (Kd.R_reads' HD7.out).2.2
        clear HK7 HO HE2 HD2 HK HBW HN2 HR7 hnS
        go_loopg [5, 30] D.length (fun gg s5 s30 wr => ∃ (j : Nat) (o : List Int), s30 = .int .i64 (j : Int) ∧ Aside0 (j ≤ D.length ∧ D.length - j ≤ gg) ∧ Aside0 (Rises o ∧ ∀ y, y ∈ o ↔ (InE next t (E.take i) y ∨ y = t) ∨ (y ∈ D.take j ∧ b ∈ fromL next y t)) ∧ Aside0 ((Kd.int .i64).R 3 wr wb.heap.size (fun k => N2 ≤ k) s5 o) ∧ Aside0 (Kd.R kR 34 wr wb.heap.size (fun k => k < N2) (.slice (some ⟨gE, 0, none⟩) E.length c14) E) ∧ Aside0 ((Kd.int .i64).R 3 wr wb.heap.size (fun k => k < N2) (.slice A12 D.length c12) D) ∧ Aside0 ((Kd.int .i64).R 3 wr wb.heap.size (fun k => k < N2) (.slice (some ⟨g7, 0, none⟩) 2 c7) [b, t]) ∧ Aside0 (wr.cell? ⟨w.heap.size, 0, none⟩ = some (.int .i64 p) ∧ wr.cell? ⟨w.heap.size, 1, none⟩ = some (.slice A bs.length c)) ∧ Aside0 (Below wb.heap.size wb wr) ∧ Aside0 (N2 ≤ wr.heap.size))
        case atStart => exact ⟨0, r, rfl, ⟨by omega, by omega⟩, HM7, HO7, HE7, HD7, HR27, HC7, HB7, HN7⟩
        case round =>
          clear HM7 HO7 HE7 HD7 HR27 HC7 HB7 HN7
          obtain ⟨j, o, rfl, HAj, HMj, HO, HE2, HD2, HR7, HK, HBW, HN2⟩ := hrel
          obtain ⟨wi, rfl⟩ : ∃ wi : World, wi = wr := ⟨_, rfl⟩
          by_cases hltj : j < D.length
          · obtain ⟨ad, e, hz⟩ := Kd.at_int (Kd.R_reads' HD2.out).2.2 (j : Int) (by omega) (by omega)
            cases e
            simp only [Int.toNat_natCast] at hz
            rw [rd_at D j hltj] at hz
            have hmem : D[j] ∈ reached next := by rw [← HED.out]; exact List.getElem_mem hltj
            have hbd := (mem_fromL.1 hmem).2.1
            obtain ⟨x, hx⟩ : ∃ x, x = D[j] := ⟨_, rfl⟩
            have HTJ := Aside0.mk (show D.take (j + 1) = D.take j ++ [x] by rw [List.take_succ_eq_append_getElem hltj, hx])
            rw [← hx] at hz hbd
            have HXB := Aside0.mk (show 0 ≤ x ∧ x < (bs.length : Int) by have := HNL.out; omega)
            have HLJ := Aside0.mk hltj
            have p2 : (0 ≤ (j : Int)) = True := eq_true (by omega)
            have p3 : ((j : Int) < (D.length : Int)) = True := eq_true (by omega)
            have k0 := HK.out.1
            have k1 := HK.out.2
            have y0 := (Kd.R_celln 0 HR7.out 0 (by omega) (by simp)).1
            replace y0 : wi.cell? ⟨g7, 0, none⟩ = some (.int .i64 b) := y0
            have HFL := Aside0.mk (show (fromL next x t).length ≤ 1000 from by have := fromL_len next x t; have := HN8.out; omega)
            have HRNG := Aside0.mk (show o.length ≤ 8 from len_of HMj.out.1 HN8.out (fun y hy => by
              rcases (HMj.out.2 y).1 hy with (h | h) | h
              · exact inE_range HHN.out h
              · rw [h]; exact HHN.out
              · have h2 := List.mem_of_mem_take h.1; rw [HED.out] at h2; exact (mem_fromL.1 h2).2.1))
            clear hmem hbd hx
            by_cases q : b ∈ fromL next x t
            · have HQ := Aside0.mk q
              have HT83 := Aside0.mk (fun (W : World) A8 c8 hr hc => (by have := has_any (w := W) (A := A8) (c := c8) b (fromL next x t) HFL.out hr hc; rw [decide_eq_true q] at this; exact this : Calls Try.prog 83 #[.slice A8 (fromL next x t).length c8, .int .i64 b] W fun e w' => e = .returned (.bool true) ∧ Below W.heap.size W w'))
              clear q
              go_wp2_with fail
              go_region_held3 (fun w' => w'.cell? ⟨w.heap.size, 0, none⟩ = some (.int .i64 p) ∧ w'.cell? ⟨w.heap.size, 1, none⟩ = some (.slice A bs.length c) ∧ w'.cell? ⟨g7, 0, none⟩ = some (.int .i64 b))
                (first
                  | go_keep
                  | (go_split_ands
                     refine ⟨?_, ?_, ?_⟩ <;> (exact pw_cell_below hbr (by assumption))))
                (first | (go_at_call 71; refine (T71.out _ (HB0.out.trans ((below_drew1 HBW.out).mono HB0.out.size)) x t HXB.out).mono ?_; rintro e w37 ⟨v37, rfl, hR, hbr⟩; obtain ⟨A37, c37, rfl⟩ := Kd.R_slice hR; have HR37 := Aside0.mk hR; have HB37 := Aside0.mk (below_step (below_drew1 (Below.refl wi.heap.size wi)) hbr); clear hR) | (go_at_call 83; refine (HT83.out _ _ _ (Kd.R_reads' HR37.out).2.2 (Kd.R_reads' HR37.out).2.1).mono ?_; rintro e w41 ⟨rfl, hbr⟩; have HB41 := Aside0.mk (below_step HB37.out hbr)))
              have HO4 := Aside0.mk (Kd.R_below HO.out HB41.out)
              have HE4 := Aside0.mk (Kd.R_below HE2.out HB41.out)
              have HD4 := Aside0.mk (Kd.R_below HD2.out HB41.out)
              have HR4 := Aside0.mk (Kd.R_below HR7.out HB41.out)
              have HK4 := Aside0.mk (show w41.cell? ⟨w.heap.size, 0, none⟩ = some (.int .i64 p) ∧ w41.cell? ⟨w.heap.size, 1, none⟩ = some (.slice A bs.length c) from ⟨pw_cell_below HB41.out HK.out.1, pw_cell_below HB41.out HK.out.2⟩)
              have HB4 := Aside0.mk (below_step HBW.out HB41.out)
              have HN4 := Aside0.mk (Nat.le_trans HN2.out HB41.out.size)
              clear HO HE2 HD2 HR7 HK HBW HN2
              go_wp2_with (go_at_call 105; refine (put_own (w0 := wb) o x (by have := HRNG.out; omega) HMj.out.1 HB4.out HO4.out).mono ?_; rintro e w44 ⟨v44, r, rfl, hR, hb, hk, hm, hs⟩; have HO5 := Aside0.mk (Kd.R_mono hR (fun k h => h.elim id (fun h => Nat.le_trans HN4.out h))); have HB5 := Aside0.mk hb; have HK5 := Aside0.mk hk; have HM5 := Aside0.mk (And.intro hs (mem_more HTJ.out HQ.out HMj.out.2 hm)); clear hR hb hk hm hs)
              have hnS : ∀ k, k < N2 → ¬ (N2 ≤ k) := fun k h => by omega
              have HX5 := Aside0.mk (And.intro (Kd.R_kept HE4.out HK5.out hnS) (And.intro (Kd.R_kept HD4.out HK5.out hnS) (And.intro (Kd.R_kept HR4.out HK5.out hnS) (And.intro (cell_kept HK4.out.1 HK5.out (hnS _ HLT.out)) (cell_kept HK4.out.2 HK5.out (hnS _ HLT.out))))))
              clear hnS
              go_roundg (D.length - (j + 1))
              case measure => have := HAj.out; have := HLJ.out; omega
              case rel => exact ⟨j + 1, r, by go_num, ⟨by have := HLJ.out; omega, by omega⟩, HM5, HO5, ⟨HX5.out.1⟩, ⟨HX5.out.2.1⟩, ⟨HX5.out.2.2.1⟩, ⟨HX5.out.2.2.2⟩, HB5, ⟨Nat.le_trans HN4.out HK5.out.1⟩⟩
            · have HQ := Aside0.mk q
              have HT83 := Aside0.mk (fun (W : World) A8 c8 hr hc => (by have := has_any (w := W) (A := A8) (c := c8) b (fromL next x t) HFL.out hr hc; rw [decide_eq_false q] at this; exact this : Calls Try.prog 83 #[.slice A8 (fromL next x t).length c8, .int .i64 b] W fun e w' => e = .returned (.bool false) ∧ Below W.heap.size W w'))
              clear q
              go_wp2_with fail
              go_region_held3 (fun w' => w'.cell? ⟨w.heap.size, 0, none⟩ = some (.int .i64 p) ∧ w'.cell? ⟨w.heap.size, 1, none⟩ = some (.slice A bs.length c) ∧ w'.cell? ⟨g7, 0, none⟩ = some (.int .i64 b))
                (first
                  | go_keep
                  | (go_split_ands
                     refine ⟨?_, ?_, ?_⟩ <;> (exact pw_cell_below hbr (by assumption))))
                (first | (go_at_call 71; refine (T71.out _ (HB0.out.trans ((below_drew1 HBW.out).mono HB0.out.size)) x t HXB.out).mono ?_; rintro e w37 ⟨v37, rfl, hR, hbr⟩; obtain ⟨A37, c37, rfl⟩ := Kd.R_slice hR; have HR37 := Aside0.mk hR; have HB37 := Aside0.mk (below_step (below_drew1 (Below.refl wi.heap.size wi)) hbr); clear hR) | (go_at_call 83; refine (HT83.out _ _ _ (Kd.R_reads' HR37.out).2.2 (Kd.R_reads' HR37.out).2.1).mono ?_; rintro e w41 ⟨rfl, hbr⟩; have HB41 := Aside0.mk (below_step HB37.out hbr)))
              have HO4 := Aside0.mk (Kd.R_below HO.out HB41.out)
              have HE4 := Aside0.mk (Kd.R_below HE2.out HB41.out)
              have HD4 := Aside0.mk (Kd.R_below HD2.out HB41.out)
              have HR4 := Aside0.mk (Kd.R_below HR7.out HB41.out)
              have HK4 := Aside0.mk (show w41.cell? ⟨w.heap.size, 0, none⟩ = some (.int .i64 p) ∧ w41.cell? ⟨w.heap.size, 1, none⟩ = some (.slice A bs.length c) from ⟨pw_cell_below HB41.out HK.out.1, pw_cell_below HB41.out HK.out.2⟩)
              have HB4 := Aside0.mk (below_step HBW.out HB41.out)
              have HN4 := Aside0.mk (Nat.le_trans HN2.out HB41.out.size)
              clear HO HE2 HD2 HR7 HK HBW HN2
              try go_wp2
              go_roundg (D.length - (j + 1))
              case measure => have := HAj.out; have := HLJ.out; omega
              case rel => exact ⟨j + 1, o, by go_num, ⟨by have := HLJ.out; omega, by omega⟩, ⟨HMj.out.1, mem_same HTJ.out HQ.out HMj.out.2⟩, HO4, HE4, HD4, HR4, HK4, HB4, HN4⟩
          · have e : j = D.length := by have := HAj.out; omega
            have p3 : ((j : Int) < (D.length : Int)) = False := eq_false (by omega)
            have HME := Aside0.mk (show Rises o ∧ ∀ y, y ∈ o ↔ InE next t (E.take (i + 1)) y from ⟨HMj.out.1, inE_done HTK.out (fun y => by have := HMj.out.2 y; rw [e, List.take_length, HED.out] at this; exact this)⟩)
            clear e
            go_wp2
            go_roundg (E.length - (i + 1))
            case measure => have := HA.out; have := HL.out; omega
            case rel => exact ⟨i + 1, o, by go_num, ⟨by have := HL.out; omega, by omega⟩, HME, HO, HE2, HD2, HK, HBW, HN2⟩
      · have d0 : (t != head) = true := bne_iff_ne.mpr q
        have HQ := Aside0.mk q
        clear q
        go_wp2
        go_roundg (E.length - (i + 1))
        case measure => have := HA.out; have := HL.out; omega
        case rel => exact ⟨i + 1, o, by go_num, ⟨by have := HL.out; omega, by omega⟩, ⟨HM.out.1, inE_skip HTK.out HQ.out HM.out.2⟩, HO, HE2, HD2, HK, HBW, HN2⟩
    · have e : i = E.length := by have := HA.out; omega
      have p1 : ((i : Int) < (E.length : Int)) = False := eq_false (by omega)
      have hfin : o = loopL next head := rises_ext _ _ HM.out.1 (rises_loopL _ _) fun y => by rw [HM.out.2 y, mem_loopL HHN.out, e, List.take_length, ← HE.out]
      have HF := Aside0.mk hfin
      clear e hfin
      go_wp2
      go_ret
      exact ⟨_, rfl, by rw [← HF.out]; exact Kd.R_mono (Kd.R_lower HO.out HB0.out.size) (fun _ _ => trivial), HB0.out.trans (HBW.out.mono HB0.out.size)⟩
/-- l13Loop as a function of its arguments; none where it is not spoken of. -/
noncomputable def spec_l13Loop.f (k : Nat) (a0_0 : Int) (l0_1 : List S87) (a1 : Int) : Option (List Int) := @ite _ (GoodRows l0_1 ∧ 0 ≤ a1 ∧ a1 < (l0_1.length : Int)) (Classical.propDecidable _) (some (loopL (nextL l0_1) a1)) none
theorem spec_l13Loop.calls (k : Nat) (a0_0 : Int) (A0_1 : Option Addr) (c0_1 : Nat) (l0_1 : List (S87)) (a1 : Int) (r : List Int) (w : World) (hr0_1 : Kd.C k87 w A0_1 l0_1.length l0_1) (hc0_1 : l0_1.length ≤ c0_1) (h : spec_l13Loop.f k a0_0 l0_1 a1 = some r) :
    Calls Try.prog 81 #[.agg #[.int .i64 a0_0, .slice A0_1 l0_1.length c0_1], .int .i64 a1] w fun e w' => ∃ v0_ : Value, e = .returned (v0_) ∧ Kd.R (Kd.int .i64) 3 w' w.heap.size (fun _ => True) v0_ r ∧ Below w.heap.size w w' := by
  unfold spec_l13Loop.f at h
  split at h
  · rename_i hg
    obtain rfl := Option.some.inj h
    exact l13Loop_any a0_0 l0_1 a1 w hr0_1 hc0_1 hg.1 hg.2
  · cases h
theorem spec_l13Loop.is {bs : List S87} (hg : GoodRows bs) (k : Nat) (p head : Int) (hh : 0 ≤ head ∧ head < (bs.length : Int)) : spec_l13Loop.f k p bs head = some (loopL (nextL bs) head) := if_pos ⟨hg, hh⟩
end Go.Proofs.Ytghlbhijkhkgkaa.PA
