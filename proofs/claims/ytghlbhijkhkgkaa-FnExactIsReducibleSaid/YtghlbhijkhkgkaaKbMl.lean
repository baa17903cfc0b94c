/- The flow seat: spec.l13From by hand. -/
import Derived.Test.YtghlbhijkhkgkaaKbMi
import Derived.Test.YtghlbhijkhkgkaaKbMj
namespace Go.Proofs.Ytghlbhijkhkgkaa.PA
open Go.RowKit Go.Proofs.YtghlbhijkhkgkaaW.PrintWords Go.Proofs.YtghlbhijkhkgkaaW.PrintLast Go.Proofs.YtghlbhijkhkgkaaW.PrintMore
set_option linter.unusedVariables false
theorem one_R (W : World) (base : Nat) (hb : base ≤ W.heap.size) (x : Int) : (Kd.int .i64).R 3 (W.alloc (.cells #[.int .i64 x] 3)) base (fun _ => True) (.slice (some ⟨W.heap.size, 0, none⟩) 1 1) [x] :=
  Kd.R_of_own ⟨by simp [encs], .inr ⟨W.heap.size, 1, #[.int .i64 x], rfl, hb, by simpa using heap_alloc_new W (.cells #[.int .i64 x] 3), Nat.le_refl 1, by decide, by first | rfl | simp, by first | rfl | simp [encs]⟩⟩ (fun k hk => trivial)
/-- The walk of l13From under way. -/
structure FI (next : List (List Int)) (a but : Int) (out : List Int) : Prop where
  rises : Rises out
  at_a : a ∈ out
  way : ∀ y ∈ out, (0 ≤ y ∧ y < (next.length : Int)) ∧ Way next but a y
/-- The blocks of l go nowhere but into out. -/
def Shut (next : List (List Int)) (but : Int) (l out : List Int) : Prop := ∀ y ∈ l, ∀ c ∈ rd_L1 next y, c ≠ but → c ∈ out
section
variable {next : List (List Int)} {a but : Int} {out : List Int}
theorem FI.len (h : FI next a but out) : out.length ≤ next.length := by
  have := rises_len out 0 next.length h.rises fun y hy => (h.way y hy).1
  omega
theorem FI.done (h : FI next a but out) (hn : RowsOk next) (ha : 0 ≤ a ∧ a < (next.length : Int)) (hne : a ≠ but) (hs : Shut next but out out) : out = fromL next a but := by
  refine rises_ext _ _ h.rises (rises_fromL _ _ _) fun y => ?_
  rw [mem_fromL' hn ha]
  refine ⟨fun hy => ⟨hne, (h.way y hy).2⟩, fun hy => ?_⟩
  induction hy.2 with
  | here => exact h.at_a
  | on h1 h2 h3 ih => exact hs _ (ih ⟨hne, h1⟩) _ h2 h3
theorem FI.put {r : List Int} {b c : Int} (h : FI next a but out) (hn : RowsOk next) (hb : (0 ≤ b ∧ b < (next.length : Int)) ∧ Way next but a b) (hc : c ∈ rd_L1 next b) (hne : c ≠ but) (hm : ∀ y, y ∈ r ↔ y ∈ out ∨ y = c) (hr : Rises r) : FI next a but r := by
  refine ⟨hr, (hm a).2 (.inl h.at_a), fun y hy => ?_⟩
  rcases (hm y).1 hy with hy | rfl
  · exact h.way y hy
  · exact ⟨(hn.2 b hb.1.1 hb.1.2).2 _ hc, .on hb.2 hc hne⟩
theorem Shut.more {l r : List Int} (h : Shut next but l out) (hm : ∀ y ∈ out, y ∈ r) : Shut next but l r := fun y hy c hc hne => hm c (h y hy c hc hne)
theorem Shut.snoc {l : List Int} {b : Int} (h : Shut next but l out) (hb : ∀ c ∈ rd_L1 next b, c ≠ but → c ∈ out) : Shut next but (l ++ [b]) out := fun y hy c hc hne => by
  rcases List.mem_append.1 hy with hy | hy
  · exact h y hy c hc hne
  · rw [List.mem_singleton] at hy; subst hy; exact hb c hc hne
end
theorem has_any {w : World} {A : Option Addr} {c : Nat} (v : Int) (l : List Int) (hl : l.length ≤ 1000) (hr : (Kd.int .i64).C w A l.length l) (hc : l.length ≤ c) :
    Calls Try.prog 83 #[.slice A l.length c, .int .i64 v] w fun e w' => e = .returned (.bool (decide (v ∈ l))) ∧ Below w.heap.size w w' := by
  have h0 := has_l0 v l hl _ 0 rfl
  rw [List.drop_zero] at h0
  obtain ⟨k, hk⟩ := Ev.rounds (Ev.congr (g := fun k => spec_l1Has.f k l v) (fun k => rfl) h0)
  exact (spec_l1Has.calls k A c l v _ w hr hc hk).mono fun e w' h => ⟨h.1, by obtain ⟨m, rfl⟩ := h.2; exact pw_below_drewN (Below.refl _ _) m⟩
theorem nexts_any {w : World} {A : Option Addr} {c : Nat} (p : Int) (bs : List S87) (i : Nat) (hi : i < bs.length) (hg : GoodRows bs) (hr : Kd.C k87 w A bs.length bs) (hc : bs.length ≤ c) :
    Calls Try.prog 62 #[.agg #[.int .i64 p, .slice A bs.length c], .int .i64 (i : Int)] w fun e w' => ∃ (v : Value) (r : List Int), e = .returned v ∧ (Kd.int .i64).R 3 w' w.heap.size (fun _ => True) v r ∧ Below w.heap.size w w' ∧ (∀ y, y ∈ r ↔ y ∈ rd_L1 (nextL bs) (i : Int)) ∧ r.length ≤ 2 ∧ Rises r := by
  obtain ⟨r, ev, h1, h2, h3⟩ := nexts_fs p bs i hi (hg.two i hi)
  obtain ⟨k, hk⟩ := Ev.rounds ev
  exact (spec_l13Next.calls k p A c bs (i : Int) r w hr hc hk).mono fun e w' h => by obtain ⟨v, h4, h5, h6⟩ := h; exact ⟨v, r, h4, h5, h6, fun y => by rw [h1 y, nextL_rd bs i hi], h2, h3⟩
set_option maxHeartbeats 2000000 in
set_option maxRecDepth 100000 in
theorem from_any {A : Option Addr} {c : Nat} (p : Int) (bs : List S87) (a but : Int) (w : World) (hr : Kd.C k87 w A bs.length bs) (hc : bs.length ≤ c) (hg : GoodRows bs) (ha : 0 ≤ a ∧ a < (bs.length : Int)) :
    Calls Try.prog 71 #[.agg #[.int .i64 p, .slice A bs.length c], .int .i64 a, .int .i64 but] w fun e w' => ∃ v : Value, e = .returned v ∧ (Kd.int .i64).R 3 w' w.heap.size (fun _ => True) v (fromL (nextL bs) a but) ∧ Below w.heap.size w w' := by
  by_cases hab : a = but
  · have c0 : (a == but) = true := beq_iff_eq.mpr hab
    have HAB := Aside0.mk hab
    have HB := Aside0.mk (below_alloc (Below.refl w.heap.size w) (.cells #[.int .i64 p, .slice A bs.length c] 30))
    clear hr hc hg ha hab
    go_enter Try.func71, Try.ntmps71
    go_wp2
    go_ret
    exact ⟨_, rfl, by rw [fromL, if_pos HAB.out]; exact Kd.R_nil _ _ _ _ _, HB.out⟩
  · have c0 : (a == but) = false := beq_eq_false_iff_ne.mpr hab
    obtain ⟨next, hnx⟩ : ∃ z, z = nextL bs := ⟨_, rfl⟩
    have hok := rows_ok hg
    have hnl := nextL_len bs
    have T62 := Aside0.mk (fun W (hW : Below w.heap.size w W) i hi => nexts_any (A := A) (c := c) p bs i hi hg (Kd.C_below hr hW) hc)
    rw [← hnx] at hok hnl T62 ⊢
    have hlen := hg.len
    have HFI := Aside0.mk (show FI next a but [a] from ⟨List.pairwise_singleton _ _, by simp, fun y hy => by rw [List.mem_singleton] at hy; subst hy; exact ⟨by rw [hnl]; exact ha, .here⟩⟩)
    obtain ⟨N, hN⟩ : ∃ N, N = next.length := ⟨_, rfl⟩
    have HOK := Aside0.mk hok
    have HEN := Aside0.mk hN
    have HNB := Aside0.mk (hN.trans hnl)
    have HN8 := Aside0.mk (show N ≤ 8 by omega)
    have HAA := Aside0.mk (show 0 ≤ a ∧ a < (next.length : Int) by rw [hnl]; exact ha)
    have HNE := Aside0.mk hab
    have HB0 := Aside0.mk (below_alloc (Below.refl w.heap.size w) (.cells #[.int .i64 p, .slice A bs.length c] 30))
    clear hr hc hg ha hok hnl hnx hN hlen hab
    go_enter Try.func71, Try.ntmps71
    go_wp2
    obtain ⟨w1, hw1⟩ : ∃ z, z = w.alloc (.cells #[.int .i64 p, .slice A bs.length c] 30) := ⟨_, rfl⟩
    have k0 : w1.cell? ⟨w.heap.size, 0, none⟩ = some (.int .i64 p) := by rw [hw1]; simp
    have k1 : w1.cell? ⟨w.heap.size, 1, none⟩ = some (.slice A bs.length c) := by rw [hw1]; simp
    have hsz : w1.heap.size = w.heap.size + 1 := by rw [hw1]; simp
    rw [← hw1] at HB0 ⊢
    have HO := Aside0.mk (show (Kd.int .i64).R 3 (w1.alloc (.cells #[.int .i64 a] 3)) w1.heap.size (fun _ => True) (.slice (some ⟨w.heap.size + 1, 0, none⟩) 1 1) [a] from by have := one_R w1 w1.heap.size (Nat.le_refl _) a; rwa [show (⟨w1.heap.size, 0, none⟩ : Addr) = ⟨w.heap.size + 1, 0, none⟩ by rw [hsz]] at this)
    have HB := Aside0.mk (below_alloc (Below.refl w1.heap.size w1) (.cells #[.int .i64 a] 3))
    clear hw1 hsz
    go_loopg [7, 8] (2 * N + 2) (fun gg s7 s8 wr => ∃ (out : List Int) (more : Bool), s8 = .bool more ∧ Aside0 (2 * N + 1 - 2 * out.length + (if more then 1 else 0) ≤ gg) ∧ Aside0 (FI next a but out ∧ (more = false → Shut next but out out)) ∧ Aside0 ((Kd.int .i64).R 3 wr w1.heap.size (fun _ => True) s7 out) ∧ Aside0 (Below w1.heap.size w1 wr))
    case atStart => exact ⟨[a], true, rfl, ⟨by simp; omega⟩, ⟨HFI.out, fun h => by cases h⟩, HO, HB⟩
    case round =>
      clear HFI HO HB
      obtain ⟨S, more, rfl, HM, HFI, HO, HB⟩ := hrel
      cases more with
      | false =>
        go_wp2
        go_ret
        exact ⟨_, rfl, by rw [← HFI.out.1.done HOK.out HAA.out HNE.out (HFI.out.2 (by first | rfl | trivial))]; exact Kd.R_mono (Kd.R_lower HO.out HB0.out.size) (fun _ _ => trivial), HB0.out.trans (HB.out.mono HB0.out.size)⟩
      | true =>
        obtain ⟨A7, c7, rfl⟩ := Kd.R_slice HO.out
        obtain ⟨ws, hws⟩ : ∃ z, z = wr := ⟨_, rfl⟩
        rw [← hws] at HO HB ⊢
        have HFS := Aside0.mk HFI.out.1
        have HS0 := Aside0.mk (And.intro HFI.out.1 (show Shut next but (S.take 0) S from fun y hy => by simp at hy))
        have HCS := Aside0.mk (Kd.R_reads' HO.out).2.2
        have HSL := Aside0.mk (show S.length ≤ 8 by have := HFI.out.1.len; have := HEN.out; have := HN8.out; omega)
        clear HFI hws
        have hm := Kd.C_max HCS.out
        go_wp2
        go_loopg [7, 8, 21] S.length (fun gg s7 s8 s21 wr => ∃ (i : Nat) (out : List Int) (more : Bool), s21 = .int .i64 (i : Int) ∧ s8 = .bool more ∧ Aside0 (i ≤ S.length ∧ S.length - i ≤ gg) ∧ Aside0 (FI next a but out ∧ Shut next but (S.take i) out) ∧ Aside0 ((more = false → out = S) ∧ (more = true → S.length < out.length)) ∧ Aside0 ((Kd.int .i64).R 3 wr w1.heap.size (fun _ => True) s7 out) ∧ Aside0 (Below ws.heap.size ws wr))
        case atStart => exact ⟨0, S, false, rfl, rfl, ⟨by omega, by omega⟩, HS0, ⟨fun _ => rfl, fun h => (by cases h)⟩, HO, ⟨Below.refl _ _⟩⟩
        case round =>
          clear HO HS0
          obtain ⟨i, out, more, rfl, rfl, HA, HG, HMO, HO, HBS⟩ := hrel
          obtain ⟨wo, rfl⟩ : ∃ wo : World, wo = wr := ⟨_, rfl⟩
          by_cases hlt : i < S.length
          · obtain ⟨ad, e, hz⟩ := Kd.at_int (Kd.C_below HCS.out HBS.out) (i : Int) (by omega) (by omega)
            cases e
            simp only [Int.toNat_natCast] at hz
            have hbi := HFS.out.way _ (mem_at S 0 (i : Int) (by omega) (by omega))
            obtain ⟨b, hb⟩ : ∃ b, b = rd S (i : Int) := ⟨_, rfl⟩
            have HTK := Aside0.mk (show S.take (i + 1) = S.take i ++ [b] by rw [List.take_succ_eq_append_getElem hlt, hb, rd_at S i hlt])
            have hbi : (0 ≤ b ∧ b < (next.length : Int)) ∧ Way next but a b := by rw [hb]; exact hbi
            rw [← hb] at hz
            have HBI := Aside0.mk hbi
            obtain ⟨bn, rfl⟩ := Int.eq_ofNat_of_zero_le hbi.1.1
            have T := Aside0.mk (fun W (hW : Below w1.heap.size w1 W) => T62.out W (HB0.out.trans (hW.mono HB0.out.size)) bn (by have := HEN.out; have := HNB.out; have := hbi.1.2; omega))
            have x0 := pw_cell_below (below_step HB.out HBS.out) k0
            have x1 := pw_cell_below (below_step HB.out HBS.out) k1
            have HL := Aside0.mk hlt
            have p0 : (0 ≤ (i : Int)) = True := eq_true (by omega)
            have p1 : ((i : Int) < (S.length : Int)) = True := eq_true (by omega)
            clear hbi hb
            go_wp2_with (go_at_call 62; refine (T.out _ (below_step HB.out HBS.out)).mono ?_; rintro e w5 ⟨v27, R, rfl, hR, hbel, hmem, hl2, hrs⟩; obtain ⟨A27, c27, rfl⟩ := Kd.R_slice hR; have HBR := Aside0.mk (below_step HBS.out hbel); have HO2 := Aside0.mk (Kd.R_below HO.out hbel); have HCR := Aside0.mk (Kd.R_reads' hR).2.2; have HME := Aside0.mk hmem; have HL2 := Aside0.mk hl2; clear hR hbel hmem hl2 hrs T x0 x1 hz)
            clear HO
            obtain ⟨wq, hwq⟩ : ∃ z, z = w5 := ⟨_, rfl⟩
            rw [← hwq] at HO2 HCR HBR ⊢
            clear hwq
            have hmr := Kd.C_max HCR.out
            have HG0 := Aside0.mk (show ∀ c ∈ R.take 0, c ≠ but → c ∈ out from fun c hc => by simp at hc)
            go_loopg [7, 8, 29] R.length (fun gg s7 s8 s29 wr => ∃ (j : Nat) (out : List Int) (more : Bool), s29 = .int .i64 (j : Int) ∧ s8 = .bool more ∧ Aside0 (j ≤ R.length ∧ R.length - j ≤ gg) ∧ Aside0 (FI next a but out ∧ Shut next but (S.take i) out) ∧ Aside0 ((more = false → out = S) ∧ (more = true → S.length < out.length)) ∧ Aside0 (∀ c ∈ R.take j, c ≠ but → c ∈ out) ∧ Aside0 ((Kd.int .i64).R 3 wr w1.heap.size (fun _ => True) s7 out) ∧ Aside0 (Below wq.heap.size wq wr))
            case atStart => exact ⟨0, out, more, rfl, rfl, ⟨by omega, by omega⟩, HG, HMO, HG0, HO2, ⟨Below.refl _ _⟩⟩
            case round =>
              clear HG HMO HG0 HO2
              obtain ⟨j, out, more, rfl, rfl, HAj, HG, HMO, HGJ, HO, HBQ⟩ := hrel
              obtain ⟨wi, rfl⟩ : ∃ wi : World, wi = wr := ⟨_, rfl⟩
              by_cases hltj : j < R.length
              · obtain ⟨ad2, e, hz⟩ := Kd.at_int (Kd.C_below HCR.out HBQ.out) (j : Int) (by omega) (by omega)
                cases e
                simp only [Int.toNat_natCast] at hz
                obtain ⟨cc, hcc⟩ : ∃ z, z = rd R (j : Int) := ⟨_, rfl⟩
                have HTJ := Aside0.mk (show R.take (j + 1) = R.take j ++ [cc] by rw [List.take_succ_eq_append_getElem hltj, hcc, rd_at R j hltj])
                have HCM := Aside0.mk ((HME.out cc).1 (by rw [hcc]; exact mem_at R 0 (j : Int) (by omega) (by omega)))
                rw [← hcc] at hz
                have HLJ := Aside0.mk hltj
                obtain ⟨A8, c8, rfl⟩ := Kd.R_slice HO.out
                have HOL := Aside0.mk (show out.length ≤ 8 by have := HG.out.1.len; have := HEN.out; have := HN8.out; omega)
                have p2 : (0 ≤ (j : Int)) = True := eq_true (by omega)
                have p3 : ((j : Int) < (R.length : Int)) = True := eq_true (by omega)
                clear hcc
                by_cases q1 : cc = but
                · have d0 : (cc != but) = false := bne_eq_false_iff_eq.mpr q1
                  have HQ1 := Aside0.mk q1
                  clear q1
                  go_wp2
                  go_roundg (R.length - (j + 1))
                  case measure => have := HAj.out; have := HLJ.out; omega
                  case rel => exact ⟨j + 1, out, more, by go_num, rfl, ⟨by have := HLJ.out; omega, by omega⟩, HG, HMO, ⟨fun x hx hne => by rw [HTJ.out, List.mem_append, List.mem_singleton] at hx; rcases hx with hx | hx; exact HGJ.out x hx hne; rw [hx] at hne; exact absurd HQ1.out hne⟩, HO, HBQ⟩
                · have d0 : (cc != but) = true := bne_iff_ne.mpr q1
                  have HQ1 := Aside0.mk q1
                  have T83 := has_any (w := wi) cc out (by have := HOL.out; omega) (Kd.R_reads' HO.out).2.2 (Kd.R_reads' HO.out).2.1
                  clear q1
                  by_cases q2 : cc ∈ out
                  · rw [decide_eq_true q2] at T83
                    have HT := Aside0.mk T83
                    have HQ2 := Aside0.mk q2
                    clear T83 q2
                    go_wp2_with (go_at_call 83; refine (HT.out).mono ?_; rintro e w6 ⟨rfl, hb⟩; have HB6 := Aside0.mk hb; clear hb)
                    go_roundg (R.length - (j + 1))
                    case measure => have := HAj.out; have := HLJ.out; omega
                    case rel => exact ⟨j + 1, out, more, by go_num, rfl, ⟨by have := HLJ.out; omega, by omega⟩, HG, HMO, ⟨fun x hx hne => by rw [HTJ.out, List.mem_append, List.mem_singleton] at hx; rcases hx with hx | hx; exact HGJ.out x hx hne; rw [hx]; exact HQ2.out⟩, ⟨Kd.R_below HO.out HB6.out⟩, ⟨below_step HBQ.out HB6.out⟩⟩
                  · rw [decide_eq_false q2] at T83
                    have HT := Aside0.mk T83
                    have HQ2 := Aside0.mk q2
                    clear T83 q2
                    go_wp2_with (first | (go_at_call 83; refine (HT.out).mono ?_; rintro e w6 ⟨rfl, hb⟩; have HB6 := Aside0.mk hb; clear hb) | (go_at_call 105; refine (newPut_any out cc (by have := HOL.out; omega) HG.out.1.rises HQ2.out (Kd.R_reads' (Kd.R_below HO.out HB6.out)).2.2 (Kd.R_reads' HO.out).2.1).mono ?_; rintro e w7 ⟨v44, r, rfl, hR, hb, hm, hl, hrs⟩; have HR7 := Aside0.mk hR; have HB7 := Aside0.mk hb; have HM7 := Aside0.mk hm; have HL7 := Aside0.mk hl; have HS7 := Aside0.mk hrs; clear hR hb hm hl hrs))
                    go_roundg (R.length - (j + 1))
                    case measure => have := HAj.out; have := HLJ.out; omega
                    case rel => exact ⟨j + 1, r, true, by go_num, rfl, ⟨by have := HLJ.out; omega, by omega⟩, ⟨HG.out.1.put HOK.out HBI.out HCM.out HQ1.out HM7.out HS7.out, HG.out.2.more fun y hy => (HM7.out y).2 (.inl hy)⟩, ⟨fun h => (by cases h), fun _ => by have := HL7.out; cases more with | false => have := congrArg List.length (HMO.out.1 rfl); omega | true => have := HMO.out.2 rfl; omega⟩, ⟨fun x hx hne => by rw [HTJ.out, List.mem_append, List.mem_singleton] at hx; rcases hx with hx | hx; exact (HM7.out x).2 (.inl (HGJ.out x hx hne)); exact (HM7.out x).2 (.inr hx)⟩, ⟨Kd.R_mono (Kd.R_lower HR7.out (Nat.le_trans (below_step (below_step (below_step HB.out HBR.out) HBQ.out) HB6.out).size (Nat.le_refl _))) (fun _ _ => trivial)⟩, ⟨below_step (below_step HBQ.out HB6.out) HB7.out⟩⟩
              · have e : j = R.length := by have := HAj.out; omega
                have HSH := Aside0.mk (show Shut next but (S.take (i + 1)) out by rw [HTK.out]; exact HG.out.2.snoc fun x hx hne => HGJ.out x (by rw [e, List.take_length]; exact (HME.out x).2 hx) hne)
                have p3 : ((j : Int) < (R.length : Int)) = False := eq_false (by omega)
                clear e
                go_wp2
                go_roundg (S.length - (i + 1))
                case measure => have := HA.out; have := HL.out; omega
                case rel => exact ⟨i + 1, out, more, by go_num, rfl, ⟨by have := HL.out; omega, by omega⟩, ⟨HG.out.1, HSH.out⟩, HMO, HO, ⟨below_step HBR.out HBQ.out⟩⟩
          · have e : i = S.length := by have := HA.out; omega
            have HSH := Aside0.mk (show Shut next but S out by have := HG.out.2; rw [e, List.take_length] at this; exact this)
            have p1 : ((i : Int) < (S.length : Int)) = False := eq_false (by omega)
            clear e
            go_wp2
            go_roundg (2 * N + 1 - 2 * out.length + (if more then 1 else 0))
            case measure =>
              have h1 := HM.out
              have h2 := HMO.out
              have h3 := HG.out.1.len
              have h4 := HEN.out
              cases more with
              | false => rw [h2.1 rfl]; simp at h1 ⊢; omega
              | true => have := h2.2 rfl; simp at h1 ⊢; omega
            case rel => exact ⟨out, more, rfl, ⟨Nat.le_refl _⟩, ⟨HG.out.1, fun h => by have := HSH.out; rw [← HMO.out.1 h] at this; exact this⟩, HO, ⟨below_step HB.out HBS.out⟩⟩
/-- l13From as a function of its arguments; none where it is not spoken of. -/
noncomputable def spec_l13From.f (a0_0 : Int) (l0_1 : List S87) (a1 : Int) (a2 : Int) : Option (List Int) := @ite _ (GoodRows l0_1 ∧ 0 ≤ a1 ∧ a1 < (l0_1.length : Int)) (Classical.propDecidable _) (some (fromL (nextL l0_1) a1 a2)) none
theorem spec_l13From.calls (a0_0 : Int) (A0_1 : Option Addr) (c0_1 : Nat) (l0_1 : List (S87)) (a1 : Int) (a2 : Int) (r : List Int) (w : World) (hr0_1 : Kd.C k87 w A0_1 l0_1.length l0_1) (hc0_1 : l0_1.length ≤ c0_1) (h : spec_l13From.f a0_0 l0_1 a1 a2 = some r) :
    Calls Try.prog 71 #[.agg #[.int .i64 a0_0, .slice A0_1 l0_1.length c0_1], .int .i64 a1, .int .i64 a2] w fun e w' => ∃ v0_ : Value, e = .returned (v0_) ∧ Kd.R (Kd.int .i64) 3 w' w.heap.size (fun _ => True) v0_ r ∧ Below w.heap.size w w' := by
  unfold spec_l13From.f at h
  split at h
  · rename_i hg
    obtain rfl := Option.some.inj h
    exact from_any a0_0 l0_1 a1 a2 w hr0_1 hc0_1 hg.1 hg.2
  · cases h
theorem spec_l13From.is {bs : List S87} (hg : GoodRows bs) (p a but : Int) (ha : 0 ≤ a ∧ a < (bs.length : Int)) : spec_l13From.f p bs a but = some (fromL (nextL bs) a but) := if_pos ⟨hg, ha⟩
end Go.Proofs.Ytghlbhijkhkgkaa.PA
