/- The graph seat: impl.putTree by hand (printed by gen/mkig.py). -/
import Derived.Test.YtlnejmlphkpaaaaIqIf
namespace Go.Proofs.Ytlnejmlphkpaaaa.PA
open Go.RowKit Go.Proofs.YtlnejmlphkpaaaaW.PrintWords Go.Proofs.YtlnejmlphkpaaaaW.PrintLast Go.Proofs.YtlnejmlphkpaaaaW.PrintMore
set_option linter.unusedVariables false
set_option linter.unusedSimpArgs false
theorem neq_nil (w : World) (a : Option Addr) (n c : Nat) : (binOp .neq 23 (.slice a n c) (.slice none 0 0)).run Try.prog w = .ok (.bool (!a.isNone)) w := by
 simp only [binOp]
 simp [Op.equal, Op.maxDepth, Lib.run_equalIn_slice_nil w 9999 23 3 a n c 0 0 Try.underlying23]
def PutT (b : List Int) (T : Tm) (G : Gr) (W0 w : World) (lab : Nat → Nat) (g : Nat) (e : Ending) (w' : World) : Prop :=
 e = .returned (.int .i64 (addI b T G).2) ∧ ∃ lab' : Nat → Nat, GP W0 lab' g (addI b T G).1 w' ∧ (∀ k, k < w.heap.size → lab' k = lab k) ∧ Kept w w' (Chg lab)
structure PutS (b : List Int) (ks : List Tm) (G : Gr) (W0 w : World) (lab : Nat → Nat) (g : Nat) (A7 : Option Addr) (c7 m : Nat) (i : Nat) (Gi : Gr) (cs row : List Int) (labi : Nat → Nat) (W : World) : Prop where
 rest : Rest b ks G i Gi cs
 gw : GW Gi
 bw : BW b Gi (postL ks)
 len : cs.length = i
 cl : ∀ c ∈ cs, 0 ≤ c ∧ c < (Gi.1.length : Int)
 gp : GP W0 labi g Gi W
 old : ∀ k, k < w.heap.size → labi k = lab k
 kept : Kept w W (Chg lab)
 rl : row.length = m
 rt : row.take i = cs
 row : (Kd.int .i64).R 3 W w.heap.size (fun k => labi k = 3) (.slice A7 m c7) row
 new : w.heap.size ≤ W.heap.size
theorem PutS.start {b : List Int} {op n : Int} {ks : List Tm} {G : Gr} {W0 w W : World} {lab : Nat → Nat} {g m c7 : Nat} {A7 : Option Addr} (hgp : GP W0 lab g G w) (hgw : GW G) (hbw : BW b G (Tm.node op n ks).post) (hb : Below w.heap.size w W) (hr : (Kd.int .i64).R 3 W w.heap.size (fun _ => True) (.slice A7 m c7) (List.replicate m 0)) : PutS b ks G W0 w lab g A7 c7 m 0 G [] (List.replicate m 0) (labOn w lab (fun _ => 3)) W where
 rest := Rest.start b ks G
 gw := hgw
 bw := hbw.sub fun x hx => by rw [Tm.post]; exact List.mem_append_left _ hx
 len := rfl
 cl := fun c hc => by cases hc
 gp := hgp.grow hb _
 old := fun k hk => labOn_old hk
 kept := Kept.of_below hb _
 rl := List.length_replicate
 rt := List.take_zero
 row := Kd.R_mono (Kd.R_bound hr) (fun k hk => labOn_new hk.2.1)
 new := hb.size
theorem PutS.put {b : List Int} {ks : List Tm} {G : Gr} {W0 w W W1 : World} {lab : Nat → Nat} {g m c7 gk i : Nat} {Gi G1 : Gr} {cs row : List Int} {labi lab' : Nat → Nat} (h : PutS b ks G W0 w lab g (some ⟨gk, 0, none⟩) c7 m i Gi cs row labi W)
  (hgp : GP W0 lab' g G1 W1) (ho : ∀ k, k < W.heap.size → lab' k = labi k) (hk : Kept W W1 (Chg labi)) (hgk : labi gk = 3 ∧ w.heap.size ≤ gk ∧ gk < W.heap.size) (hW : W0.heap.size ≤ w.heap.size) (c : Int) :
  GP W0 lab' g G1 (W1.setCell ⟨gk, i, none⟩ (.int .i64 c)) ∧ (∀ k, k < w.heap.size → lab' k = lab k) ∧ Kept w (W1.setCell ⟨gk, i, none⟩ (.int .i64 c)) (Chg lab) ∧ (Kd.int .i64).R 3 W1 w.heap.size (fun k => lab' k = 3) (.slice (some ⟨gk, 0, none⟩) m c7) row := by
 have hlg : lab' gk = 3 := (ho gk hgk.2.2).trans hgk.1
 have hz := hk.1
 have hn1 := h.new
 refine ⟨?_, fun k hk => (ho k (Nat.lt_of_lt_of_le hk h.new)).trans (h.old k hk), ?_, ?_⟩
 ·refine hgp.move (hgp.below.setCell (p := ⟨gk, i, none⟩) (by dsimp only; omega) _) (fun k _ => rfl) (fun k hc hlt => Below.heap_setCell W1 ⟨gk, i, none⟩ _ k (fun e => ?_))
  have e2 : k = gk := e
  rw [e2] at hc
  rcases hc with h1 | h1 | h1 <;> omega
 ·exact (h.kept.then_ hk (fun k hc => by
   by_cases hlt : k < w.heap.size
   ·left
    rcases hc with h1 | h1 | h1
    ·exact .inl (by rw [← h.old k hlt]; exact h1)
    ·exact .inr (.inl (by rw [← h.old k hlt]; exact h1))
    ·exact .inr (.inr (by rw [← h.old k hlt]; exact h1))
   ·right; omega)).setCell (p := ⟨gk, i, none⟩) (.inr hgk.2.1) _
 ·exact Kd.R_mono (Kd.R_kept (Kd.R_bound h.row) hk (fun k hk hc => by
   have := hk.1
   rcases hc with h1 | h1 | h1 <;> omega)) (fun k hk => (ho k hk.2.2.1).trans hk.1)
theorem PutS.next {b : List Int} {ks : List Tm} {T : Tm} {G : Gr} {W0 w W W1 : World} {lab : Nat → Nat} {g m c7 gk i : Nat} {Gi : Gr} {cs row : List Int} {labi lab' : Nat → Nat} {c : Int} (h : PutS b ks G W0 w lab g (some ⟨gk, 0, none⟩) c7 m i Gi cs row labi W) (hm : m = ks.length) (hT : ks[i]? = some T) (hsz : SzI b T)
  (hgp : GP W0 lab' g (addI b T Gi).1 W1) (ho : ∀ k, k < W.heap.size → lab' k = labi k) (hk : Kept W W1 (Chg labi)) (hc : c = (addI b T Gi).2) (hn : ¬ c < 0) (hgk : labi gk = 3 ∧ w.heap.size ≤ gk ∧ gk < W.heap.size) (hW : W0.heap.size ≤ w.heap.size) :
  PutS b ks G W0 w lab g (some ⟨gk, 0, none⟩) c7 m (i + 1) (addI b T Gi).1 (cs ++ [c]) (row.set i c) lab' (W1.setCell ⟨gk, i, none⟩ (.int .i64 c)) := by
 have hsub := kid_sub hT
 obtain ⟨hi, rfl⟩ := List.getElem?_eq_some_iff.1 hT
 subst hc
 have s := hsz Gi h.gw (h.bw.sub hsub)
 have hp := h.put hgp ho hk hgk hW (addI b ks[i] Gi).2
 have hput := (Kd.R_putg hp.2.2.2 (i : Int) (addI b ks[i] Gi).2).1
 rw [Int.toNat_natCast] at hput
 have hss : (W1.setCell ⟨gk, i, none⟩ (.int .i64 (addI b ks[i] Gi).2)).heap.size = W1.heap.size := by simp [World.setCell]
 have hz := hk.1
 have hn1 := h.new
 refine ⟨h.rest.next hi hn, s.1, h.bw.grow s.2.1, by rw [List.length_append, h.len]; rfl, fun c hc => ?_, hp.1, hp.2.1, hp.2.2.1, by rw [List.length_set]; exact h.rl, ?_, hput, by rw [hss]; omega⟩
 ·rcases List.mem_append.1 hc with hc | hc
  ·have := h.cl c hc
   have := s.2.1
   omega
  ·rw [List.mem_singleton] at hc
   rw [hc]
   exact ⟨by omega, s.2.2⟩
 ·have hl := h.rl
  have hi2 : i < row.length := by omega
  rw [List.take_succ_eq_append_getElem (by rw [List.length_set]; exact hi2), List.getElem_set_self, List.take_set_of_le (Nat.le_refl _), h.rt]
theorem PutS.stop {b : List Int} {ks : List Tm} {T : Tm} {G : Gr} {W0 w W : World} {lab : Nat → Nat} {g m c7 i : Nat} {A7 : Option Addr} {Gi : Gr} {cs row : List Int} {labi : Nat → Nat} {c : Int} (h : PutS b ks G W0 w lab g A7 c7 m i Gi cs row labi W) (hT : ks[i]? = some T) (hc : c = (addI b T Gi).2) (hn : c < 0) {op n : Int} (hv : ¬ hasV b op = true) : addI b (.node op n ks) G = ((addI b T Gi).1, -1) := by
 obtain ⟨hi, rfl⟩ := List.getElem?_eq_some_iff.1 hT
 subst hc
 rw [addI, if_neg hv, h.rest.stop hi hn]
theorem PutS.done {b : List Int} {ks : List Tm} {G : Gr} {W0 w W : World} {lab : Nat → Nat} {g m c7 : Nat} {A7 : Option Addr} {Gi : Gr} {cs row : List Int} {labi : Nat → Nat} (h : PutS b ks G W0 w lab g A7 c7 m m Gi cs row labi W) (hm : m = ks.length) {op n : Int} (hv : ¬ hasV b op = true) : row = cs ∧ addI b (.node op n ks) G = putI Gi.1 Gi.2 ⟨op, n, kidsC Gi.2 cs⟩ := by
 subst hm
 refine ⟨?_, ?_⟩
 ·have := h.rt
  rw [List.take_of_length_le (by rw [h.rl]; exact Nat.le_refl _)] at this
  exact this
 ·rw [addI, if_neg hv, h.rest.done]
set_option maxHeartbeats 16000000 in
set_option maxRecDepth 100000 in
theorem putTree_any (b : List Int) {Ab : Option Addr} {cb : Nat} (hbn : b = [] → Ab = none) (hbc : b.length ≤ cb) : ∀ (d : Nat) (T : Tm), T.post.length ≤ d → T.wf → ∀ (W0 w : World) (lab : Nat → Nat) (g : Nat) (G : Gr) (p : Option Addr) (okT : Nat → Prop), GP W0 lab g G w → GW G → BW b G T.post → TreeF w okT T p → (∀ k, okT k → ¬ Chg lab k) → Kd.F (Kd.int .i64) w okT Ab b.length b →
  Calls Try.prog 101 #[.pointer (some ⟨g, 0, none⟩), .pointer p, .slice Ab b.length cb] w (PutT b T G W0 w lab g) := by
 intro d
 induction d with
 | zero => intro T hd; have := post_pos T; omega
 | succ d ih =>
  intro T hd hw W0 w lab g G p okT hgp hgw hbw hT hokT hbF
  have HIH := Aside0.mk ih
  clear ih
  cases T with
  | node op n ks =>
  rw [Tm.post, List.length_append, List.length_singleton] at hd
  rw [Tm.wf] at hw
  rw [TreeF] at hT
  obtain ⟨g6, A6, c6, ps, rfl, hok6, hh6, hc6, hF6, hK6⟩ := hT
  have ha := arI_pos op
  have hm3 : ks.length ≤ 3 := by have := hw.2.1; omega
  have HWF := Aside0.mk hw.2.2
  have HD := Aside0.mk hd
  have HGP := Aside0.mk hgp
  have HGW := Aside0.mk hgw
  have HBW := Aside0.mk hbw
  have HOK := Aside0.mk hokT
  have HBF := Aside0.mk hbF
  have H6 := Aside0.mk (And.intro hok6 hh6)
  have HF6 := Aside0.mk hF6
  have HK6 := Aside0.mk hK6
  have HPL := Aside0.mk (ForF_len _ _ hK6)
  obtain ⟨m, hm⟩ : ∃ m, m = ks.length := ⟨_, rfl⟩
  have HM := Aside0.mk hm
  have x0 := blk_cell hh6 0
  have x1 := blk_cell hh6 1
  have x2 := blk_cell hh6 2
  simp only [List.getElem?_toArray, List.getElem?_cons_zero, List.getElem?_cons_succ] at x0 x1 x2
  rw [← hm] at hm3 x2
  have HBC := Aside0.mk hbc
  have HBN := Aside0.mk hbn
  have hneq := neq_nil
  clear hd hw hgp hgw hbw hokT hbF hok6 hh6 hc6 hF6 hK6 ha hbc hm
  by_cases hv : op = 2 ∧ b ≠ []
  ·have HV := Aside0.mk (show hasV b op = true by rw [hasV, Bool.and_eq_true, beq_iff_eq, Bool.not_eq_true', List.isEmpty_eq_false_iff]; exact hv)
   have hb2 := HBW.out hv.2 ⟨op, n⟩ (by rw [Tm.post]; simp) hv.1
   obtain ⟨ad, ea, hbx⟩ := Kd.at_int (Kd.F_now HBF.out) n hb2.1.1 (by exact hb2.1.2)
   subst ea
   have p0 := eq_true hb2.1.1
   have q0 := eq_true hb2.1.2
   have e1 : ((op : Int) == 2) = true := beq_iff_eq.mpr hv.1
   have hq : ∀ W, (binOp .neq 23 (.slice (some ad) b.length cb) (.slice none 0 0)).run Try.prog W = .ok (.bool true) W := fun W => hneq W (some ad) _ cb
   clear hneq hb2 hv hbn
   go_enter Try.func101, Try.ntmps101
   go_wp2
   go_ret
   refine ⟨by rw [addI, if_pos HV.out]; rfl, lab, by rw [addI, if_pos HV.out]; exact HGP.out, fun k _ => rfl, Kept.refl _ _⟩
  ·have HV := Aside0.mk (show ¬ hasV b op = true by rw [hasV, Bool.and_eq_true, beq_iff_eq, Bool.not_eq_true', List.isEmpty_eq_false_iff]; exact hv)
   have HSTEP := Aside0.mk (show ∀ W, Kept w W (Chg lab) → ∀ k, (okT k ∧ k < w.heap.size) → k < w.heap.size → W.heap[k]? = w.heap[k]? from fun W hk k ho _ => hk.2 k ho.2 (HOK.out k ho.1))
   have key : ∀ (o2 : Bool), ((op : Int) == 2) = o2 → (o2 = true → Ab = none) → Calls Try.prog 101 #[.pointer (some ⟨g, 0, none⟩), .pointer (some ⟨g6, 0, none⟩), .slice Ab b.length cb] w (PutT b (.node op n ks) G W0 w lab g) := by
    intro o2 e1 hab
    clear hv
    cases o2 with
    | true =>
     obtain rfl := hab rfl
     have hq : ∀ W, (binOp .neq 23 (.slice none b.length cb) (.slice none 0 0)).run Try.prog W = .ok (.bool false) W := fun W => hneq W none _ cb
     clear hneq hab hbn
     go_enter Try.func101, Try.ntmps101
     go_wp2_with ((with_reducible refine gate_dst (N := 31) rfl ?_); refine Kd.R_make (Kd.int .i64) _ 3 rfl (N := 31) rfl 23 _ _ rfl (m : Int) rfl rfl Try.underlying23 (.int .i64 0) 8 info3 rfl (by decide) (by omega) 0 (ok := fun _ => True) (okp := fun _ => True) rfl (fun _ hk => hk) trivial (by omega) (by simp; omega) (Below.refl _ _) (Nat.le_refl _) ?_; intro v31 w3 ho hb hg_ hnew_; obtain ⟨A7, c7, e7⟩ := Kd.R_slice ho; rw [List.length_replicate, Int.toNat_natCast] at e7; subst e7; rw [Int.toNat_natCast] at ho; have HO := Aside0.mk ho; have HB3 := Aside0.mk hb; clear ho hb hg_ hnew_; replace x2 := (HB3.out.cell (World.block_lt_of_cell? w _ x2)).trans x2)
     have HI := Aside0.mk (PutS.start (ks := ks) (b := b) (op := op) (n := n) HGP.out HGW.out HBW.out HB3.out HO.out)
     clear HO x0 x1 x2
     go_loopg [37] m (fun gg v37 wr => ∃ (i : Nat) (Gi : Gr) (cs row : List Int) (labi : Nat → Nat), v37 = .int .i64 (i : Int) ∧ Aside0 (i ≤ m ∧ m - i ≤ gg) ∧ Aside0 (PutS b ks G W0 w lab g A7 c7 m i Gi cs row labi wr))
     case atStart => exact ⟨0, G, [], _, _, rfl, ⟨Nat.zero_le _, Nat.le_refl _⟩, HI⟩
     case round =>
      clear HI HB3
      obtain ⟨i, Gi, cs, row, labi, rfl, HA, HS⟩ := hrel
      obtain ⟨wo, rfl⟩ : ∃ wo : World, wo = wr := ⟨_, rfl⟩
      by_cases hlt : i < m
      ·have p0 := eq_true (show (0 : Int) ≤ (i : Int) by omega)
       have q0 := eq_true (show (i : Int) < (m : Int) by omega)
       have hi : i < ks.length := by rw [← HM.out]; exact hlt
       have hF := Kd.F_now (Kd.F_step (W1 := wo) (Kd.F_bound HF6.out) (HSTEP.out wo HS.out.kept))
       rw [← HM.out] at hF
       obtain ⟨ad6, ea, hx⟩ := at_ptr hF (i : Int) (by omega) (by omega)
       subst ea
       obtain ⟨kp, hkp⟩ : ∃ kp, kp = ps.getD i none := ⟨_, rfl⟩
       simp only [Int.toNat_natCast, ← hkp] at hx
       have hrow : (Kd.int .i64).R 3 wo w.heap.size (fun k => labi k = 3) (.slice A7 row.length c7) row := by rw [HS.out.rl]; exact HS.out.row
       obtain ⟨gk, c7', e5, gb5, gl5, _⟩ := Kd.R_form hrow (by rw [HS.out.rl]; omega)
       rw [HS.out.rl] at e5
       cases e5
       have HGK := Aside0.mk (show labi gk = 3 ∧ w.heap.size ≤ gk ∧ gk < wo.heap.size from ⟨HS.out.row.1 gk rfl, gb5, gl5⟩)
       obtain ⟨T, hT⟩ : ∃ T, T = ks[i] := ⟨_, rfl⟩
       have HTI := Aside0.mk (show ks[i]? = some T by rw [hT]; exact List.getElem?_eq_getElem hi)
       have hmem : T ∈ ks := by rw [hT]; exact List.getElem_mem hi
       have hpd : T.post.length ≤ d := by have := kid_le ks T hmem; have := HD.out; omega
       have HWT := Aside0.mk (addI_size b d T hpd ((wfL_mem ks).1 HWF.out T hmem))
       have h101 := HIH.out T hpd ((wfL_mem ks).1 HWF.out T hmem) W0 wo labi g Gi kp (fun k => okT k ∧ k < w.heap.size) HS.out.gp HS.out.gw (HS.out.bw.sub (kid_sub HTI.out)) (by rw [hkp, hT]; exact ForF_at (ForF.step (HSTEP.out wo HS.out.kept) _ _ (ForF.imp (fun k hk hl => ⟨hk, hl⟩) _ _ HK6.out)) i hi) (fun k hk hc => HOK.out k hk.1 (by unfold Chg at hc ⊢; rw [← HS.out.old k hk.2]; exact hc)) (Kd.F_step (W1 := wo) (Kd.F_bound HBF.out) (HSTEP.out wo HS.out.kept))
       obtain ⟨c, hc⟩ : ∃ c, c = (addI b T Gi).2 := ⟨_, rfl⟩
       have HC := Aside0.mk hc
       have T101 := Aside0.mk (h101.mono (R' := fun e w' => e = .returned (.int .i64 c) ∧ ∃ lab' : Nat → Nat, GP W0 lab' g (addI b T Gi).1 w' ∧ (∀ k, k < wo.heap.size → lab' k = labi k) ∧ Kept wo w' (Chg labi)) (fun e w' h => ⟨by rw [hc]; exact h.1, h.2⟩))
       have HLT := Aside0.mk hlt
       clear hi hF hkp hrow gb5 gl5 hT hmem hpd h101 hc
       by_cases hn : c < 0
       ·have d0 : (c < 0) = True := eq_true hn
        clear hn
        go_wp2_with (go_at_call 101; refine T101.out.mono ?_; rintro e w5 ⟨rfl, lab', hgp5, hlo5, hk5⟩; have HGP5 := Aside0.mk hgp5; have HLO5 := Aside0.mk hlo5; have HK5 := Aside0.mk hk5; have hr5 := (HS.out.put hgp5 hlo5 hk5 HGK.out HGP.out.below.size c (i := i)).2.2.2; obtain ⟨hy1, hy2⟩ := Kd.R_celln 0 hr5 (i : Int) (by omega) (by have := HLT.out; omega); simp only [Int.toNat_natCast] at hy1 hy2; clear hgp5 hlo5 hk5 hr5 hx T101)
        go_ret
        have hp := HS.out.put HGP5.out HLO5.out HK5.out HGK.out HGP.out.below.size c (i := i)
        have hst := HS.out.stop HTI.out HC.out (of_eq_true d0) (op := op) (n := n) HV.out
        exact ⟨by rw [hst]; rfl, lab', by rw [hst]; exact hp.1, hp.2.1, hp.2.2.1⟩
       ·have d0 : (c < 0) = False := eq_false hn
        have HNN := Aside0.mk hn
        clear hn
        go_wp2_with (go_at_call 101; refine T101.out.mono ?_; rintro e w5 ⟨rfl, lab', hgp5, hlo5, hk5⟩; have HGP5 := Aside0.mk hgp5; have HLO5 := Aside0.mk hlo5; have HK5 := Aside0.mk hk5; have hr5 := (HS.out.put hgp5 hlo5 hk5 HGK.out HGP.out.below.size c (i := i)).2.2.2; obtain ⟨hy1, hy2⟩ := Kd.R_celln 0 hr5 (i : Int) (by omega) (by have := HLT.out; omega); simp only [Int.toNat_natCast] at hy1 hy2; clear hgp5 hlo5 hk5 hr5 hx T101)
        have hnext := HS.out.next HM.out HTI.out HWT.out HGP5.out HLO5.out HK5.out HC.out (by have := HNN.out; omega) HGK.out HGP.out.below.size
        have hA := HA.out
        clear HA HS HLT
        go_roundg (m - (i + 1))
        case measure => omega
        case rel => exact ⟨i + 1, (addI b T Gi).1, cs ++ [c], row.set i c, lab', by push_cast; rfl, ⟨by omega, Nat.le_refl _⟩, ⟨hnext⟩⟩
      ·have cj : decide (i < m) = false := decide_eq_false hlt
       obtain rfl : i = m := by have := HA.out.1; omega
       have hdone := HS.out.done HM.out (op := op) (n := n) HV.out
       obtain rfl := hdone.1
       have HDN := Aside0.mk hdone.2
       have hh := (HSTEP.out wo HS.out.kept g6 ⟨H6.out.1, blk_lt H6.out.2⟩ (blk_lt H6.out.2)).trans H6.out.2
       rw [← HM.out] at hh
       have hcl := HS.out.cl
       have T67 := Aside0.mk (fun W (hW : Below wo.heap.size wo W) => put_gp (HS.out.gp.grow hW (fun _ => 0)) HS.out.gw (A2 := A7) (c2 := c7) op n row (by rw [HS.out.len]; have h := (Kd.R_reads' (Kd.R_below HS.out.row hW)); rw [← HS.out.len] at h ⊢; exact h.2.2) (by rw [HS.out.len]; omega) hcl)
       rw [HS.out.len] at T67
       have x0 := blk_cell hh 0
       have x1 := blk_cell hh 1
       have x2 := blk_cell hh 2
       simp only [List.getElem?_toArray, List.getElem?_cons_zero, List.getElem?_cons_succ] at x0 x1 x2
       obtain ⟨c, hc⟩ : ∃ c, c = (putI Gi.1 Gi.2 ⟨op, n, kidsC Gi.2 row⟩).2 := ⟨_, rfl⟩
       have HC := Aside0.mk hc
       rw [← hc] at T67
       clear hdone hh hcl hlt hc HA
       go_wp2
       refine region_tail 11 (by kernel_rfl) (by kernel_rfl) ?_
       simp only [List.take_succ_cons, List.take_zero, List.drop_succ_cons, List.drop_zero]
       repeat still_step
       refine wpStill_nil ?_
       go_wp2_with (go_at_call 67; refine (T67.out _ (by repeat (first | exact Below.refl _ _ | apply pw_below_drewN | apply below_drew1))).mono ?_; rintro e w5 ⟨rfl, lab', hgp5, hlo5, hnew5, hk5⟩; have HGP5 := Aside0.mk hgp5; have HLO5 := Aside0.mk hlo5; have HK5 := Aside0.mk hk5; clear hgp5 hlo5 hnew5 hk5)
       go_ret
       have hlo : ∀ k, k < wo.heap.size → lab' k = labi k := fun k hk => (HLO5.out k (by simpa using hk)).trans (labOn_old hk)
       refine ⟨by rw [HDN.out, ← HC.out]; rfl, lab', by rw [HDN.out]; exact HGP5.out, fun k hk => (hlo k (Nat.lt_of_lt_of_le hk HS.out.new)).trans (HS.out.old k hk), HS.out.kept.then_ HK5.out (fun k hc => ?_)⟩
       by_cases hlt : k < w.heap.size
       ·left
        have e : labOn wo labi (fun _ => 0) k = lab k := (labOn_old (Nat.lt_of_lt_of_le hlt HS.out.new)).trans (HS.out.old k hlt)
        unfold Chg at hc ⊢
        rw [e] at hc
        exact hc
       ·right; omega
    | false =>
     clear hneq hab hbn
     go_enter Try.func101, Try.ntmps101
     go_wp2_with ((with_reducible refine gate_dst (N := 31) rfl ?_); refine Kd.R_make (Kd.int .i64) _ 3 rfl (N := 31) rfl 23 _ _ rfl (m : Int) rfl rfl Try.underlying23 (.int .i64 0) 8 info3 rfl (by decide) (by omega) 0 (ok := fun _ => True) (okp := fun _ => True) rfl (fun _ hk => hk) trivial (by omega) (by simp; omega) (Below.refl _ _) (Nat.le_refl _) ?_; intro v31 w3 ho hb hg_ hnew_; obtain ⟨A7, c7, e7⟩ := Kd.R_slice ho; rw [List.length_replicate, Int.toNat_natCast] at e7; subst e7; rw [Int.toNat_natCast] at ho; have HO := Aside0.mk ho; have HB3 := Aside0.mk hb; clear ho hb hg_ hnew_; replace x2 := (HB3.out.cell (World.block_lt_of_cell? w _ x2)).trans x2)
     have HI := Aside0.mk (PutS.start (ks := ks) (b := b) (op := op) (n := n) HGP.out HGW.out HBW.out HB3.out HO.out)
     clear HO x0 x1 x2
     go_loopg [37] m (fun gg v37 wr => ∃ (i : Nat) (Gi : Gr) (cs row : List Int) (labi : Nat → Nat), v37 = .int .i64 (i : Int) ∧ Aside0 (i ≤ m ∧ m - i ≤ gg) ∧ Aside0 (PutS b ks G W0 w lab g A7 c7 m i Gi cs row labi wr))
     case atStart => exact ⟨0, G, [], _, _, rfl, ⟨Nat.zero_le _, Nat.le_refl _⟩, HI⟩
     case round =>
      clear HI HB3
      obtain ⟨i, Gi, cs, row, labi, rfl, HA, HS⟩ := hrel
      obtain ⟨wo, rfl⟩ : ∃ wo : World, wo = wr := ⟨_, rfl⟩
      by_cases hlt : i < m
      ·have p0 := eq_true (show (0 : Int) ≤ (i : Int) by omega)
       have q0 := eq_true (show (i : Int) < (m : Int) by omega)
       have hi : i < ks.length := by rw [← HM.out]; exact hlt
       have hF := Kd.F_now (Kd.F_step (W1 := wo) (Kd.F_bound HF6.out) (HSTEP.out wo HS.out.kept))
       rw [← HM.out] at hF
       obtain ⟨ad6, ea, hx⟩ := at_ptr hF (i : Int) (by omega) (by omega)
       subst ea
       obtain ⟨kp, hkp⟩ : ∃ kp, kp = ps.getD i none := ⟨_, rfl⟩
       simp only [Int.toNat_natCast, ← hkp] at hx
       have hrow : (Kd.int .i64).R 3 wo w.heap.size (fun k => labi k = 3) (.slice A7 row.length c7) row := by rw [HS.out.rl]; exact HS.out.row
       obtain ⟨gk, c7', e5, gb5, gl5, _⟩ := Kd.R_form hrow (by rw [HS.out.rl]; omega)
       rw [HS.out.rl] at e5
       cases e5
       have HGK := Aside0.mk (show labi gk = 3 ∧ w.heap.size ≤ gk ∧ gk < wo.heap.size from ⟨HS.out.row.1 gk rfl, gb5, gl5⟩)
       obtain ⟨T, hT⟩ : ∃ T, T = ks[i] := ⟨_, rfl⟩
       have HTI := Aside0.mk (show ks[i]? = some T by rw [hT]; exact List.getElem?_eq_getElem hi)
       have hmem : T ∈ ks := by rw [hT]; exact List.getElem_mem hi
       have hpd : T.post.length ≤ d := by have := kid_le ks T hmem; have := HD.out; omega
       have HWT := Aside0.mk (addI_size b d T hpd ((wfL_mem ks).1 HWF.out T hmem))
       have h101 := HIH.out T hpd ((wfL_mem ks).1 HWF.out T hmem) W0 wo labi g Gi kp (fun k => okT k ∧ k < w.heap.size) HS.out.gp HS.out.gw (HS.out.bw.sub (kid_sub HTI.out)) (by rw [hkp, hT]; exact ForF_at (ForF.step (HSTEP.out wo HS.out.kept) _ _ (ForF.imp (fun k hk hl => ⟨hk, hl⟩) _ _ HK6.out)) i hi) (fun k hk hc => HOK.out k hk.1 (by unfold Chg at hc ⊢; rw [← HS.out.old k hk.2]; exact hc)) (Kd.F_step (W1 := wo) (Kd.F_bound HBF.out) (HSTEP.out wo HS.out.kept))
       obtain ⟨c, hc⟩ : ∃ c, c = (addI b T Gi).2 := ⟨_, rfl⟩
       have HC := Aside0.mk hc
       have T101 := Aside0.mk (h101.mono (R' := fun e w' => e = .returned (.int .i64 c) ∧ ∃ lab' : Nat → Nat, GP W0 lab' g (addI b T Gi).1 w' ∧ (∀ k, k < wo.heap.size → lab' k = labi k) ∧ Kept wo w' (Chg labi)) (fun e w' h => ⟨by rw [hc]; exact h.1, h.2⟩))
       have HLT := Aside0.mk hlt
       clear hi hF hkp hrow gb5 gl5 hT hmem hpd h101 hc
       by_cases hn : c < 0
       ·have d0 : (c < 0) = True := eq_true hn
        clear hn
        go_wp2_with (go_at_call 101; refine T101.out.mono ?_; rintro e w5 ⟨rfl, lab', hgp5, hlo5, hk5⟩; have HGP5 := Aside0.mk hgp5; have HLO5 := Aside0.mk hlo5; have HK5 := Aside0.mk hk5; have hr5 := (HS.out.put hgp5 hlo5 hk5 HGK.out HGP.out.below.size c (i := i)).2.2.2; obtain ⟨hy1, hy2⟩ := Kd.R_celln 0 hr5 (i : Int) (by omega) (by have := HLT.out; omega); simp only [Int.toNat_natCast] at hy1 hy2; clear hgp5 hlo5 hk5 hr5 hx T101)
        go_ret
        have hp := HS.out.put HGP5.out HLO5.out HK5.out HGK.out HGP.out.below.size c (i := i)
        have hst := HS.out.stop HTI.out HC.out (of_eq_true d0) (op := op) (n := n) HV.out
        exact ⟨by rw [hst]; rfl, lab', by rw [hst]; exact hp.1, hp.2.1, hp.2.2.1⟩
       ·have d0 : (c < 0) = False := eq_false hn
        have HNN := Aside0.mk hn
        clear hn
        go_wp2_with (go_at_call 101; refine T101.out.mono ?_; rintro e w5 ⟨rfl, lab', hgp5, hlo5, hk5⟩; have HGP5 := Aside0.mk hgp5; have HLO5 := Aside0.mk hlo5; have HK5 := Aside0.mk hk5; have hr5 := (HS.out.put hgp5 hlo5 hk5 HGK.out HGP.out.below.size c (i := i)).2.2.2; obtain ⟨hy1, hy2⟩ := Kd.R_celln 0 hr5 (i : Int) (by omega) (by have := HLT.out; omega); simp only [Int.toNat_natCast] at hy1 hy2; clear hgp5 hlo5 hk5 hr5 hx T101)
        have hnext := HS.out.next HM.out HTI.out HWT.out HGP5.out HLO5.out HK5.out HC.out (by have := HNN.out; omega) HGK.out HGP.out.below.size
        have hA := HA.out
        clear HA HS HLT
        go_roundg (m - (i + 1))
        case measure => omega
        case rel => exact ⟨i + 1, (addI b T Gi).1, cs ++ [c], row.set i c, lab', by push_cast; rfl, ⟨by omega, Nat.le_refl _⟩, ⟨hnext⟩⟩
      ·have cj : decide (i < m) = false := decide_eq_false hlt
       obtain rfl : i = m := by have := HA.out.1; omega
       have hdone := HS.out.done HM.out (op := op) (n := n) HV.out
       obtain rfl := hdone.1
       have HDN := Aside0.mk hdone.2
       have hh := (HSTEP.out wo HS.out.kept g6 ⟨H6.out.1, blk_lt H6.out.2⟩ (blk_lt H6.out.2)).trans H6.out.2
       rw [← HM.out] at hh
       have hcl := HS.out.cl
       have T67 := Aside0.mk (fun W (hW : Below wo.heap.size wo W) => put_gp (HS.out.gp.grow hW (fun _ => 0)) HS.out.gw (A2 := A7) (c2 := c7) op n row (by rw [HS.out.len]; have h := (Kd.R_reads' (Kd.R_below HS.out.row hW)); rw [← HS.out.len] at h ⊢; exact h.2.2) (by rw [HS.out.len]; omega) hcl)
       rw [HS.out.len] at T67
       have x0 := blk_cell hh 0
       have x1 := blk_cell hh 1
       have x2 := blk_cell hh 2
       simp only [List.getElem?_toArray, List.getElem?_cons_zero, List.getElem?_cons_succ] at x0 x1 x2
       obtain ⟨c, hc⟩ : ∃ c, c = (putI Gi.1 Gi.2 ⟨op, n, kidsC Gi.2 row⟩).2 := ⟨_, rfl⟩
       have HC := Aside0.mk hc
       rw [← hc] at T67
       clear hdone hh hcl hlt hc HA
       go_wp2
       refine region_tail 11 (by kernel_rfl) (by kernel_rfl) ?_
       simp only [List.take_succ_cons, List.take_zero, List.drop_succ_cons, List.drop_zero]
       repeat still_step
       refine wpStill_nil ?_
       go_wp2_with (go_at_call 67; refine (T67.out _ (by repeat (first | exact Below.refl _ _ | apply pw_below_drewN | apply below_drew1))).mono ?_; rintro e w5 ⟨rfl, lab', hgp5, hlo5, hnew5, hk5⟩; have HGP5 := Aside0.mk hgp5; have HLO5 := Aside0.mk hlo5; have HK5 := Aside0.mk hk5; clear hgp5 hlo5 hnew5 hk5)
       go_ret
       have hlo : ∀ k, k < wo.heap.size → lab' k = labi k := fun k hk => (HLO5.out k (by simpa using hk)).trans (labOn_old hk)
       refine ⟨by rw [HDN.out, ← HC.out]; rfl, lab', by rw [HDN.out]; exact HGP5.out, fun k hk => (hlo k (Nat.lt_of_lt_of_le hk HS.out.new)).trans (HS.out.old k hk), HS.out.kept.then_ HK5.out (fun k hc => ?_)⟩
       by_cases hlt : k < w.heap.size
       ·left
        have e : labOn wo labi (fun _ => 0) k = lab k := (labOn_old (Nat.lt_of_lt_of_le hlt HS.out.new)).trans (HS.out.old k hlt)
        unfold Chg at hc ⊢
        rw [e] at hc
        exact hc
       ·right; omega
   exact key _ rfl (fun h => by
    rw [beq_iff_eq] at h
    by_cases hb : b = []
    ·exact HBN.out hb
    ·exact absurd ⟨h, hb⟩ hv)
end Go.Proofs.Ytlnejmlphkpaaaa.PA
