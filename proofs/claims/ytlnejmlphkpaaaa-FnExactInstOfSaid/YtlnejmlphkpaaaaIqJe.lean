/- The graph seat: the variables of a tree, by hand. -/
import Derived.Test.YtlnejmlphkpaaaaIqIk
import Derived.Test.YtlnejmlphkpaaaaIqIe
namespace Go.Proofs.Ytlnejmlphkpaaaa.PA
open Go.RowKit Go.Proofs.YtlnejmlphkpaaaaW.PrintWords Go.Proofs.YtlnejmlphkpaaaaW.PrintLast Go.Proofs.YtlnejmlphkpaaaaW.PrintMore
set_option linter.unusedVariables false
set_option linter.unusedSimpArgs false
theorem info4 : (Try.prog.info? 4).map (fun i => (i.zero, i.size, i.bytes)) = some (some (.bool false), 1, 1) := by kernel_rfl
def varB (l : List S125) (v : Nat) : Bool := l.any fun x => x.f0 == 2 && x.f1 == (v : Int)
def noteB (l : List S125) (bs : List Bool) : List Bool := (List.range 4).map fun v => bs.getD v false || varB l v
theorem noteB_len (l : List S125) (bs : List Bool) : (noteB l bs).length = 4 := by simp [noteB]
theorem noteB_at (l : List S125) (bs : List Bool) (v : Nat) (h : v < 4) : (noteB l bs).getD v false = (bs.getD v false || varB l v) := by
 simp [noteB, List.getD_eq_getElem?_getD, h]
theorem four_ext {a b : List Bool} (ha : a.length = 4) (hb : b.length = 4) (h : ∀ v, v < 4 → a.getD v false = b.getD v false) : a = b := by
 refine List.ext_getElem (by omega) (fun v h1 h2 => ?_)
 have := h v (by omega)
 simpa [List.getD_eq_getElem?_getD, List.getElem?_eq_getElem h1, List.getElem?_eq_getElem h2] using this
theorem noteB_nil {bs : List Bool} (h : bs.length = 4) : noteB [] bs = bs := four_ext (noteB_len _ _) h (fun v hv => by rw [noteB_at _ _ _ hv]; simp [varB])
theorem noteB_app (a b : List S125) (bs : List Bool) : noteB (a ++ b) bs = noteB b (noteB a bs) := four_ext (noteB_len _ _) (noteB_len _ _) (fun v hv => by
 rw [noteB_at _ _ _ hv, noteB_at _ _ _ hv, noteB_at _ _ _ hv, varB, List.any_append, Bool.or_assoc]
 rfl)
theorem noteB_swap (a b : List S125) (bs : List Bool) : noteB (a ++ b) bs = noteB (b ++ a) bs := four_ext (noteB_len _ _) (noteB_len _ _) (fun v hv => by
 rw [noteB_at _ _ _ hv, noteB_at _ _ _ hv, varB, varB, List.any_append, List.any_append, Bool.or_comm (a.any _)])
theorem noteB_off {op n : Int} {bs : List Bool} (h : op ≠ 2) (hb : bs.length = 4) : noteB [⟨op, n⟩] bs = bs := four_ext (noteB_len _ _) hb (fun v hv => by
 rw [noteB_at _ _ _ hv]
 simp [varB, beq_eq_false_iff_ne.2 h])
theorem noteB_on {n : Nat} {bs : List Bool} (hb : bs.length = 4) (hn : n < 4) : noteB [⟨2, (n : Int)⟩] bs = bs.set n true := four_ext (noteB_len _ _) (by rw [List.length_set]; exact hb) (fun v hv => by
 rw [noteB_at _ _ _ hv]
 by_cases h : n = v
 ·subst h
  simp [varB, List.getD_eq_getElem?_getD, hb, hv]
 ·have e : ((n : Int) == (v : Int)) = false := beq_eq_false_iff_ne.2 (by omega)
  simp [varB, List.getD_eq_getElem?_getD, h, e])
theorem noteB_next {ks : List Tm} {i : Nat} (h : i < ks.length) (bs : List Bool) : noteB ks[i].post (noteB (postL (ks.take i)) bs) = noteB (postL (ks.take (i + 1))) bs := by
 rw [← noteB_app, List.take_succ_eq_append_getElem h, postL_app]
 simp only [postL, List.append_nil]
set_option maxHeartbeats 8000000 in
set_option maxRecDepth 100000 in
theorem vars_any (w0 : World) (gi c9 : Nat) (hgi : w0.heap.size ≤ gi) : ∀ (d : Nat) (T : Tm), T.post.length ≤ d → T.wf → ∀ (w : World) (bs : List Bool) (p : Option Addr) (okT : Nat → Prop), bs.length = 4 → Kd.R Kd.bool 4 w w0.heap.size (fun k => k = gi) (.slice (some ⟨gi, 0, none⟩) 4 c9) bs → TreeF w okT T p → (∀ k, okT k → k ≠ gi) → Below w0.heap.size w0 w →
  Calls Try.prog 148 #[.pointer p, .slice (some ⟨gi, 0, none⟩) 4 c9, .bool false] w fun e w' => e = .returned (.tuple #[]) ∧ Kd.R Kd.bool 4 w' w0.heap.size (fun k => k = gi) (.slice (some ⟨gi, 0, none⟩) 4 c9) (noteB T.post bs) ∧ Kept w w' (fun k => k = gi) ∧ Below w0.heap.size w0 w' := by
 intro d
 induction d with
 | zero => intro T hd; have := post_pos T; omega
 | succ d ih =>
  intro T hd hw w bs p okT hbs hR hT hok hBW
  cases T with
  | node op n ks =>
  have HIH := Aside0.mk ih
  have HBW := Aside0.mk hBW
  clear hBW
  rw [Tm.post, List.length_append, List.length_singleton] at hd
  have hwf := hw
  rw [Tm.wf] at hw
  rw [TreeF] at hT
  obtain ⟨g, A, c, ps, rfl, hokg, hh, hkc, hF, hK⟩ := hT
  have x0 := blk_cell hh 0
  have x1 := blk_cell hh 1
  have x2 := blk_cell hh 2
  simp only [List.getElem?_toArray, List.getElem?_cons_zero, List.getElem?_cons_succ] at x0 x1 x2
  obtain ⟨m, hm⟩ : ∃ m, m = ks.length := ⟨_, rfl⟩
  have HM := Aside0.mk hm
  have HWF := Aside0.mk hw.2.2
  have HD := Aside0.mk hd
  have HF := Aside0.mk hF
  have HK := Aside0.mk hK
  have HOK := Aside0.mk hok
  have HBS := Aside0.mk hbs
  have hpost : (Tm.node op n ks).post = postL ks ++ [⟨op, n⟩] := by rw [Tm.post]
  rw [hpost, noteB_swap, noteB_app]
  have hmx := Kd.F_max hF
  rw [← hm] at x2 hmx
  clear ih hm hd hok hF hK hkc hpost
  by_cases h2 : op = 2
  ·have hr := wf_var (T := .node op n ks) hwf (x := ⟨op, n⟩) (by rw [Tm.post]; simp) h2
   obtain ⟨nn, rfl⟩ := Int.eq_ofNat_of_zero_le hr.1
   have hnn : nn < 4 := by have := hr.2; dsimp only at this; omega
   subst h2
   have hm0 : m = 0 := by
    have h := hw.2.1
    rw [show arI 2 = 0 from rfl] at h
    rw [HM.out]
    omega
   have hput := Kd.R_putg (enc := Value.bool) hR (nn : Int) true
   rw [Int.toNat_natCast] at hput
   rw [noteB_on hbs hnn]
   have hks : ks = [] := List.length_eq_zero_iff.1 (by rw [← HM.out]; exact hm0)
   have HRES := Aside0.mk (show noteB (postL ks) (bs.set nn true) = bs.set nn true by rw [hks]; exact noteB_nil (by rw [List.length_set]; exact hbs))
   have HPUT := Aside0.mk hput.1
   subst hm0
   have p0 := eq_true (show (0 : Int) ≤ (nn : Int) by omega)
   have q0 := eq_true (show (nn : Int) < (4 : Int) by omega)
   obtain ⟨y1, y2⟩ := Kd.R_celln (enc := Value.bool) false hR (nn : Int) (by omega) (by omega)
   simp only [Int.toNat_natCast] at y1 y2
   clear hR hw hbs hwf hput hr hnn hks hh hokg
   go_enter Try.func148, Try.ntmps148
   go_wp2
   go_loopg [38] 0 (fun gg v38 wr => v38 = .int .i64 0 ∧ wr = w.setCell ⟨gi, nn, none⟩ (.bool true))
   case atStart => exact ⟨rfl, rfl⟩
   case round =>
    obtain ⟨rfl, rfl⟩ := hrel
    have cj : decide ((0 : Int) < ((0 : Nat) : Int)) = false := rfl
    go_wp2
    go_end0
    exact ⟨rfl, by rw [HRES.out]; exact HPUT.out, (Kept.refl w (fun k => k = gi)).setCell (p := ⟨gi, nn, none⟩) (.inl rfl) _, HBW.out.setCell (p := ⟨gi, nn, none⟩) hgi _⟩
  ·rw [noteB_off h2 hbs]
   have e2 : (op == (2 : Int)) = false := beq_eq_false_iff_ne.2 h2
   have HSTEP := Aside0.mk (show ∀ W, Kept w W (fun k => k = gi) → ∀ k, (okT k ∧ k < w.heap.size) → k < w.heap.size → W.heap[k]? = w.heap[k]? from fun W hk k ho _ => hk.2 k ho.2 (HOK.out k ho.1))
   have HR := Aside0.mk hR
   clear hR hw hbs hwf h2 hokg
   have HH := Aside0.mk hh
   clear hh
   cases e11 : (op == (11 : Int))
   all_goals
    go_enter Try.func148, Try.ntmps148
    go_wp2
    go_loopg [38] m (fun gg v38 wr => ∃ (i : Nat) (bi : List Bool), v38 = .int .i64 (i : Int) ∧ Aside0 (i ≤ m ∧ m - i ≤ gg) ∧ Aside0 (bi = noteB (postL (ks.take i)) bs) ∧ Aside0 (Kd.R Kd.bool 4 wr w0.heap.size (fun k => k = gi) (.slice (some ⟨gi, 0, none⟩) 4 c9) bi) ∧ Aside0 (Kept w wr (fun k => k = gi)) ∧ Aside0 (Below w0.heap.size w0 wr))
    case atStart => exact ⟨0, bs, rfl, ⟨Nat.zero_le _, Nat.le_refl _⟩, ⟨by rw [List.take_zero, postL, noteB_nil HBS.out]⟩, ⟨HR.out⟩, ⟨Kept.refl _ _⟩, HBW⟩
    case round =>
     clear HBW
     obtain ⟨i, bi, rfl, HA, HB, HRi, HKi, HBW⟩ := hrel
     obtain ⟨wo, rfl⟩ : ∃ wo : World, wo = wr := ⟨_, rfl⟩
     by_cases hlt : i < m
     ·have p0 := eq_true (show (0 : Int) ≤ (i : Int) by omega)
      have q0 := eq_true (show (i : Int) < (m : Int) by omega)
      have hi : i < ks.length := by rw [← HM.out]; exact hlt
      have hFo := Kd.F_now (Kd.F_step (W1 := wo) (Kd.F_bound HF.out) (HSTEP.out wo HKi.out))
      rw [← HM.out] at hFo
      obtain ⟨ad6, ea, hx⟩ := at_ptr hFo (i : Int) (by omega) (by omega)
      subst ea
      obtain ⟨kp, hkp⟩ : ∃ kp, kp = ps.getD i none := ⟨_, rfl⟩
      simp only [Int.toNat_natCast, ← hkp] at hx
      have hmem : ks[i] ∈ ks := List.getElem_mem hi
      have hb4 : bi.length = 4 := by rw [HB.out]; exact noteB_len _ _
      have h148 := HIH.out ks[i] (by have := kid_le ks ks[i] hmem; have := HD.out; omega) ((wfL_mem ks).1 HWF.out ks[i] hmem) wo bi kp (fun k => okT k ∧ k < w.heap.size) hb4 HRi.out (by rw [hkp]; exact ForF_at (ForF.step (HSTEP.out wo HKi.out) _ _ (ForF.imp (fun k hk hl => ⟨hk, hl⟩) _ _ HK.out)) i hi) (fun k hk => HOK.out k hk.1) HBW.out
      rw [HB.out, noteB_next hi] at h148
      have T148 := Aside0.mk h148
      have HLT := Aside0.mk hlt
      clear hi hFo hkp hmem hb4 h148 hlt
      go_wp2_with (go_at_call 148; refine T148.out.mono ?_; rintro e w1 ⟨rfl, hr, hk, hbw⟩; have HR1 := Aside0.mk hr; have HK1 := Aside0.mk hk; have HBW1 := Aside0.mk hbw; clear hr hk hbw)
      have hA := HA.out
      have hLT := HLT.out
      clear HA HLT
      go_roundg (m - (i + 1))
      case measure => omega
      case rel => exact ⟨i + 1, _, by rw [show wrap64 ((i : Int) + 1) = ((i + 1 : Nat) : Int) by unfold wrap64; omega], ⟨by omega, Nat.le_refl _⟩, ⟨rfl⟩, ⟨HR1.out⟩, ⟨HKi.out.then_ HK1.out (fun k hk => .inl hk)⟩, HBW1⟩
     ·have cj : decide (i < m) = false := decide_eq_false hlt
      obtain rfl : i = m := by have := HA.out.1; omega
      go_wp2
      go_end0
      refine ⟨rfl, ?_, HKi.out, HBW.out⟩
      have h := HRi.out
      rw [HB.out, HM.out, List.take_length] at h
      exact h
def varsT (T : Tm) : List Int := ((List.range 4).filter (varB T.post)).map fun (v : Nat) => (v : Int)
def varsI (B : List Bool) (i : Nat) : List Int := ((List.range i).filter fun v => B.getD v false).map fun (v : Nat) => (v : Int)
theorem varsI_yes {B : List Bool} {i : Nat} (h : B.getD i false = true) : varsI B (i + 1) = varsI B i ++ [(i : Int)] := by
 unfold varsI
 rw [List.range_succ, List.filter_append, List.map_append, List.filter_cons_of_pos (by exact h)]
 rfl
theorem varsI_no {B : List Bool} {i : Nat} (h : B.getD i false = false) : varsI B (i + 1) = varsI B i := by
 unfold varsI
 rw [List.range_succ, List.filter_append, List.filter_cons_of_neg (by rw [h]; simp)]
 simp
theorem varsI_len (B : List Bool) (i : Nat) : (varsI B i).length ≤ i := by
 unfold varsI
 rw [List.length_map]
 exact Nat.le_trans (List.length_filter_le _ _) (by simp)
theorem varsI_all (T : Tm) : varsI (noteB T.post (List.replicate 4 false)) 4 = varsT T := by
 unfold varsI varsT
 congr 1
set_option maxHeartbeats 8000000 in
set_option maxRecDepth 100000 in
theorem varList_any {T : Tm} (hw : T.wf) (w : World) {p : Option Addr} {okT : Nat → Prop} (hT : TreeF w okT T p) :
  Calls Try.prog 115 #[.pointer p, .bool false] w fun e w' => ∃ v0 : Value, e = .returned v0 ∧ Kd.R (Kd.int .i64) 3 w' w.heap.size (fun _ => True) v0 (varsT T) ∧ Below w.heap.size w w' := by
 have T148 := Aside0.mk (fun (W : World) (gi c9 : Nat) (bs : List Bool) (hb : bs.length = 4) (hR : Kd.R Kd.bool 4 W w.heap.size (fun k => k = gi) (.slice (some ⟨gi, 0, none⟩) 4 c9) bs) (hW : Below w.heap.size w W) (hgi : w.heap.size ≤ gi) => vars_any w gi c9 hgi _ T (Nat.le_refl _) hw W bs p (fun k => okT k ∧ k < w.heap.size) hb hR (TreeF.step (fun k hk _ => hW.block k hk.2) _ _ (TreeF.imp (fun k hk hl => ⟨hk, hl⟩) _ _ hT)) (fun k hk => by have := hk.2; omega) hW)
 have HALL := Aside0.mk (varsI_all T)
 obtain ⟨B, hB⟩ : ∃ B, B = noteB T.post (List.replicate 4 false) := ⟨_, rfl⟩
 have HBL := Aside0.mk (show B.length = 4 by rw [hB]; exact noteB_len _ _)
 rw [← hB] at HALL
 have HB := Aside0.mk hB
 clear hT hw hB
 go_enter Try.func115, Try.ntmps115
 go_wp2_with (first | ((with_reducible refine gate_dst (N := 9) rfl ?_); refine Kd.R_make Kd.bool _ 4 rfl (N := 9) rfl 157 _ _ rfl (4 : Int) rfl rfl Try.underlying157 (.bool false) 1 info4 rfl (by decide) (by omega) false (ok := fun _ => True) (okp := fun _ => True) rfl (fun _ hk => hk) trivial (by omega) (by simp) (Below.refl _ _) (Nat.le_refl _) ?_; intro v9 w1 ho hb hg_ hnew_; obtain ⟨gi, c9, e9, hb9, hl9, _⟩ := Kd.R_form ho (by simp); replace e9 : v9 = .slice (some ⟨gi, 0, none⟩) 4 c9 := e9; subst e9; have HR9 := Aside0.mk (show Kd.R Kd.bool 4 w1 w.heap.size (fun k => k = gi) (.slice (some ⟨gi, 0, none⟩) 4 c9) (List.replicate 4 false) from Kd.R_mono (Kd.R_tight rfl ho) (fun k hk => Option.some.inj hk)); have HB1 := Aside0.mk hb; have HG := Aside0.mk (And.intro hb9 hl9); clear ho hb hg_ hnew_ hb9 hl9) | ((with_reducible refine gate_dst (N := 10) rfl ?_); refine Kd.R_lit (Kd.int .i64) _ 3 ?hg (N := 10) ?hd (xs := ([] : List Int)) (inner := []) (ok := fun _ => True) (okp := fun _ => True) ?hr ?hp (fun _ hk => hk) trivial (Below.refl _ _) (Nat.le_refl _) (by simp) ?_; (case hd => rfl); (case hg => rfl); (case hr => first | (go_simp; done) | (go_simp; rfl)); (case hp => exact (Reps.none _ _)); intro v10 w2 ho4 hb hg_ hnew_; have HO10 := Aside0.mk (show Kd.R (Kd.int .i64) 3 w2 w.heap.size (fun k => k ≠ gi) v10 [] from Kd.R_lower (Kd.R_mono (Kd.R_bound ho4) (fun k hk => by have h1 := hk.2.1; have h2 := HG.out.2; omega)) HB1.out.size); have HR10 := Aside0.mk (Kd.R_below HR9.out hb); have HB2 := Aside0.mk (below_step HB1.out hb); clear ho4 hb hg_ hnew_ HR9 HB1) | (go_at_call 148; refine (T148.out _ gi c9 _ (by simp) HR10.out HB2.out HG.out.1).mono ?_; rintro e w3 ⟨rfl, hr, hk, hb⟩; rw [← HB.out] at hr; have HR3 := Aside0.mk hr; have HB3 := Aside0.mk hb; have HO3 := Aside0.mk (Kd.R_kept HO10.out hk (fun k hk he => hk he)); clear hr hk hb HO10 HR10 HB2 T148))
 go_loopg [6, 17] 4 (fun gg v6 v17 wr => ∃ i : Nat, v17 = .int .i64 (i : Int) ∧ Aside0 (i ≤ 4 ∧ 4 - i ≤ gg) ∧ Aside0 (Kd.R (Kd.int .i64) 3 wr w.heap.size (fun k => k ≠ gi) v6 (varsI B i)) ∧ Aside0 (Kd.R Kd.bool 4 wr w.heap.size (fun k => k = gi) (.slice (some ⟨gi, 0, none⟩) 4 c9) B) ∧ Aside0 (Below w.heap.size w wr))
 case atStart => exact ⟨0, rfl, ⟨by omega, by omega⟩, ⟨HO3.out⟩, HR3, HB3⟩
 case round =>
  clear HO3 HR3 HB3
  obtain ⟨i, rfl, HA, HO, HR, HBW⟩ := hrel
  obtain ⟨wo, rfl⟩ : ∃ wo : World, wo = wr := ⟨_, rfl⟩
  by_cases hlt : i < 4
  ·have p0 := eq_true (show (0 : Int) ≤ (i : Int) by omega)
   have q0 := eq_true (show (i : Int) < (4 : Int) by omega)
   obtain ⟨hx, hx'⟩ := Kd.R_celln (enc := Value.bool) false HR.out (i : Int) (by omega) (by omega)
   clear hx'
   have er : rdOf false B (i : Int) = B.getD i false := by simp [rdOf]
   rw [er] at hx
   simp only [Int.toNat_natCast] at hx
   obtain ⟨A6, c6, e6⟩ := Kd.R_slice HO.out
   subst e6
   have HVL := Aside0.mk (varsI_len B i)
   have HLT := Aside0.mk hlt
   have hmx := Kd.C_max (Kd.R_reads' HO.out).2.2
   have hwr : wrap64 ((i : Int) + 1) = ((i + 1 : Nat) : Int) := by unfold wrap64; omega
   have hWR := Aside0.mk hwr
   clear hlt er hwr
   obtain ⟨nv, hnv⟩ : ∃ n, n = (varsI B i).length := ⟨_, rfl⟩
   have HNV := Aside0.mk hnv
   rw [← hnv] at hmx ⊢
   clear hnv
   cases hb : B.getD i false with
   | true =>
    have HBI := Aside0.mk hb
    rw [hb] at hx
    clear hb
    go_wp2_with ((with_reducible refine gate_dst (N := 26) rfl ?_); refine Kd.R_append (Kd.int .i64) (w0 := w) w.heap.size rfl (.tmp 23) (.tmp 25) 23 3 (.int .i64 0) 8 rfl Try.underlying23 info3 rfl (by decide) (by omega) (.slice A6 nv c6) (varsI B i) (i : Int) [.int .i64 (i : Int)] (fun k => k ≠ gi) (fun _ => False) rfl rfl rfl (fun _ hk => hk.elim) (fun k hk => by have h1 := Kd.R_lt HR.out gi rfl; omega) (by rw [HNV.out]; exact HO.out) HBW.out HBW.out.size (by have := HVL.out; have := HA.out; omega) ?_; intro v26 w5 ho hb hgr hat; have HO5 := Aside0.mk ho; have HB5 := Aside0.mk hb; have HR5 := Aside0.mk (Kd.R_grown HR.out hgr (fun k hk e => (Kd.R_mono HO.out (fun k hk => hk)).1 k (by rw [HNV.out] at e; exact e.symm) hk)); clear ho hb hgr hat)
    have hA := HA.out
    have hLT := HLT.out
    clear HA HLT
    go_roundg (4 - (i + 1))
    case measure => omega
    case rel => exact ⟨i + 1, by rw [hWR.out], ⟨by omega, Nat.le_refl _⟩, ⟨by rw [varsI_yes HBI.out]; exact HO5.out⟩, HR5, HB5⟩
   | false =>
    have HBI := Aside0.mk hb
    rw [hb] at hx
    clear hb
    go_wp2
    have hA := HA.out
    have hLT := HLT.out
    clear HA HLT
    go_roundg (4 - (i + 1))
    case measure => omega
    case rel => exact ⟨i + 1, by rw [hWR.out], ⟨by omega, Nat.le_refl _⟩, ⟨by rw [varsI_no HBI.out, HNV.out]; exact HO.out⟩, HR, HBW⟩
  ·have cj : decide ((i : Int) < (4 : Int)) = false := decide_eq_false (by omega)
   obtain rfl : i = 4 := by have := HA.out.1; omega
   obtain ⟨A6, c6, e6⟩ := Kd.R_slice HO.out
   subst e6
   go_wp2
   go_ret
   refine ⟨_, rfl, ?_, HBW.out⟩
   rw [← HALL.out]
   exact Kd.R_mono HO.out (fun _ _ => trivial)
end Go.Proofs.Ytlnejmlphkpaaaa.PA
