/- The graph seat: a graph behind a pointer that is added to. -/
import Derived.Test.YtlnejmlphkpaaaaIqIe
import Derived.Test.YtlnejmlphkpaaaaIqGt
namespace Go.Proofs.Ytlnejmlphkpaaaa.PA
open Go.RowKit Go.Proofs.YtlnejmlphkpaaaaW.PrintWords Go.Proofs.YtlnejmlphkpaaaaW.PrintLast Go.Proofs.YtlnejmlphkpaaaaW.PrintMore
set_option linter.unusedVariables false
theorem kid_sub {ks : List Tm} {i : Nat} {T : Tm} (hT : ks[i]? = some T) : ∀ x ∈ T.post, x ∈ postL ks := fun x hx => by
 obtain ⟨hi, rfl⟩ := List.getElem?_eq_some_iff.1 hT
 rw [show ks = ks.take i ++ ks[i] :: ks.drop (i + 1) by rw [← List.drop_eq_getElem_cons hi, List.take_append_drop], postL_app]
 exact List.mem_append_right _ (by rw [postL]; exact List.mem_append_left _ hx)
structure GW (G : Gr) : Prop where
 gi : GI G
 most : G.1.length ≤ 120
 part : ∀ y ∈ G.2, y < (G.1.length : Int)
def BW (b : List Int) (G : Gr) (l : List S125) : Prop := b ≠ [] → ∀ x ∈ l, x.f0 = 2 → (0 ≤ x.f1 ∧ x.f1 < (b.length : Int)) ∧ rd b x.f1 < (G.1.length : Int)
theorem BW.sub {b : List Int} {G : Gr} {l m : List S125} (h : BW b G l) (hm : ∀ x ∈ m, x ∈ l) : BW b G m := fun hb x hx => h hb x (hm x hx)
theorem BW.grow {b : List Int} {G G' : Gr} {l : List S125} (h : BW b G l) (hl : G.1.length ≤ G'.1.length) : BW b G' l := fun hb x hx h2 => ⟨(h hb x hx h2).1, by have := (h hb x hx h2).2; omega⟩
theorem BW.of {b : List Int} {G : Gr} {l : List S125} (h : BOk b G l) : BW b G l := fun hb x hx h2 => ⟨(h hb x hx h2).1, (h hb x hx h2).2.1.2⟩
theorem good_GW {G : Gr} (h : GoodGr G.1 G.2) : GW G := ⟨good_GI h, h.most, fun y hy => by
 obtain ⟨k, hk, rfl⟩ := List.getElem_of_mem hy
 have h1 := (h.part k (by rw [← h.len]; exact hk)).1.2
 have h2 := h.len
 rw [rd_at G.2 k hk] at h1
 omega⟩
theorem putI_size {G : Gr} {x : S36} (h : GW G) (hx : x.f2.length ≤ 1000) : GW (putI G.1 G.2 x).1 ∧ G.1.length ≤ (putI G.1 G.2 x).1.1.length ∧ (putI G.1 G.2 x).2 < ((putI G.1 G.2 x).1.1.length : Int) := by
 have hm := h.most
 by_cases hf : 0 ≤ findN G.1 G.2 x
 ·obtain ⟨j, hj, e⟩ := find_mem (parts := G.2) x G.1.length 0 rfl (Nat.zero_le _) hf
  have e3 : findN G.1 G.2 x = rd G.2 (j : Int) := e
  rw [putI_found hf]
  refine ⟨h, Nat.le_refl _, ?_⟩
  dsimp only
  rw [e3, rd_at G.2 j (by rw [h.gi.len]; exact hj)]
  exact h.part _ (List.getElem_mem _)
 ·by_cases h120 : G.1.length = 120
  ·rw [putI_full hf h120]
   exact ⟨h, Nat.le_refl _, by dsimp only; omega⟩
  ·rw [putI_new hf h120]
   refine ⟨⟨⟨?_, fun y hy => ?_⟩, ?_, fun y hy => ?_⟩, by simp, by simp; omega⟩
   ·have := h.gi.len
    simp only [List.length_append, List.length_singleton]
    omega
   ·rcases List.mem_append.1 hy with hy | hy
    ·exact h.gi.kids y hy
    ·rw [List.mem_singleton] at hy
     rw [hy]
     exact hx
   ·simp only [List.length_append, List.length_singleton]
    omega
   ·simp only [List.length_append, List.length_singleton]
    rcases List.mem_append.1 hy with hy | hy
    ·have := h.part y hy
     omega
    ·rw [List.mem_singleton] at hy
     omega
def SzI (b : List Int) (T : Tm) : Prop := ∀ G, GW G → BW b G T.post → GW (addI b T G).1 ∧ G.1.length ≤ (addI b T G).1.1.length ∧ (addI b T G).2 < ((addI b T G).1.1.length : Int)
theorem addIL_size (b : List Int) : ∀ (ks : List Tm), (∀ T ∈ ks, SzI b T) → ∀ G, GW G → BW b G (postL ks) → GW (addIL b ks G).1 ∧ G.1.length ≤ (addIL b ks G).1.1.length ∧ ∀ cs, (addIL b ks G).2 = some cs → cs.length = ks.length ∧ ∀ c ∈ cs, 0 ≤ c ∧ c < ((addIL b ks G).1.1.length : Int)
 | [], _, G, hG, hB => by
  rw [addIL]
  exact ⟨hG, Nat.le_refl _, fun cs e => by cases e; exact ⟨rfl, fun c hc => by cases hc⟩⟩
 | t :: r, h, G, hG, hB => by
  rw [postL] at hB
  have h1 := h t (List.mem_cons_self ..) G hG (hB.sub fun x hx => List.mem_append_left _ hx)
  rw [addIL]
  by_cases q : (addI b t G).2 < 0
  ·rw [if_pos q]
   exact ⟨h1.1, h1.2.1, fun cs e => by cases e⟩
  ·rw [if_neg q]
   have h2 := addIL_size b r (fun T hT => h T (List.mem_cons_of_mem _ hT)) _ h1.1 (BW.grow (hB.sub fun x hx => List.mem_append_right _ hx) h1.2.1)
   refine ⟨h2.1, Nat.le_trans h1.2.1 h2.2.1, fun cs e => ?_⟩
   dsimp only at e
   rw [Option.map_eq_some_iff] at e
   obtain ⟨cs', e1, rfl⟩ := e
   have h3 := h2.2.2 cs' e1
   refine ⟨by rw [List.length_cons, List.length_cons, h3.1], fun c hc => ?_⟩
   rcases List.mem_cons.1 hc with rfl | hc
   ·exact ⟨by omega, by have := h2.2.1; have := h1.2.2; dsimp only; omega⟩
   ·exact h3.2 c hc
theorem addI_size (b : List Int) : ∀ (d : Nat) (T : Tm), T.post.length ≤ d → T.wf → SzI b T
 | 0, T, hd, hw => by have := post_pos T; omega
 | d + 1, .node op n ks, hd, hw => fun G hG hB => by
  rw [Tm.post, List.length_append, List.length_singleton] at hd
  rw [Tm.wf] at hw
  have h := addIL_size b ks (fun T hT => addI_size b d T (by have := kid_le ks T hT; omega) ((wfL_mem ks).1 hw.2.2 T hT)) G hG (hB.sub fun x hx => by rw [Tm.post]; exact List.mem_append_left _ hx)
  have ha := arI_pos op
  rw [addI]
  by_cases hv : hasV b op = true
  ·rw [if_pos hv]
   simp only [hasV, Bool.and_eq_true, beq_iff_eq, Bool.not_eq_true', List.isEmpty_eq_false_iff] at hv
   exact ⟨hG, Nat.le_refl _, (hB hv.2 ⟨op, n⟩ (by rw [Tm.post]; simp) hv.1).2⟩
  ·rw [if_neg hv]
   cases hc : (addIL b ks G).2 with
   | none => exact ⟨h.1, h.2.1, by dsimp only; omega⟩
   | some cs =>
    dsimp only
    have h3 := h.2.2 cs hc
    have hp := putI_size (x := ⟨op, n, kidsC (addIL b ks G).1.2 cs⟩) h.1 (by simp only [kidsC, List.length_map]; omega)
    exact ⟨hp.1, Nat.le_trans h.2.1 hp.2.1, hp.2.2⟩
def Rest (b : List Int) (ks : List Tm) (G : Gr) (i : Nat) (Gi : Gr) (cs : List Int) : Prop := addIL b ks G = ((addIL b (ks.drop i) Gi).1, (addIL b (ks.drop i) Gi).2.map (cs ++ ·))
theorem Rest.start (b : List Int) (ks : List Tm) (G : Gr) : Rest b ks G 0 G [] := by
 unfold Rest
 rw [List.drop_zero]
 cases h : (addIL b ks G).2 with
 | none => rw [Option.map_none, ← h]
 | some cs => rw [Option.map_some, List.nil_append, ← h]
theorem Rest.stop {b : List Int} {ks : List Tm} {G Gi : Gr} {i : Nat} {cs : List Int} (h : Rest b ks G i Gi cs) (hi : i < ks.length) (hn : (addI b ks[i] Gi).2 < 0) : addIL b ks G = ((addI b ks[i] Gi).1, none) := by
 rw [h, List.drop_eq_getElem_cons hi, addIL, if_pos hn]
 rfl
theorem Rest.next {b : List Int} {ks : List Tm} {G Gi : Gr} {i : Nat} {cs : List Int} (h : Rest b ks G i Gi cs) (hi : i < ks.length) (hn : ¬ (addI b ks[i] Gi).2 < 0) : Rest b ks G (i + 1) (addI b ks[i] Gi).1 (cs ++ [(addI b ks[i] Gi).2]) := by
 unfold Rest at h ⊢
 rw [h, List.drop_eq_getElem_cons hi, addIL, if_neg hn]
 dsimp only
 rw [Option.map_map]
 congr 2
 funext l
 simp
theorem Rest.done {b : List Int} {ks : List Tm} {G Gi : Gr} {cs : List Int} (h : Rest b ks G ks.length Gi cs) : addIL b ks G = (Gi, some cs) := by
 unfold Rest at h
 rw [h, List.drop_length, addIL]
 simp
structure GP (W0 : World) (lab : Nat → Nat) (g : Nat) (G : Gr) (W : World) : Prop where
 below : Below W0.heap.size W0 W
 gB : W0.heap.size ≤ g
 gl : lab g = 4
 ex : ∃ v0 v1 : Value, W.heap[g]? = some (.cells #[v0, v1] 32 (0, 0)) ∧ Kd.S k36 36 W W0.heap.size (fun k => lab k = 1) v0 G.1 ∧ (Kd.int .i64).R 3 W W0.heap.size (fun k => lab k = 2) v1 G.2
def Chg (lab : Nat → Nat) (k : Nat) : Prop := lab k = 1 ∨ lab k = 2 ∨ lab k = 4
theorem GP.lt {W0 W : World} {lab : Nat → Nat} {g : Nat} {G : Gr} (h : GP W0 lab g G W) : g < W.heap.size := by
 obtain ⟨v0, v1, e, _⟩ := h.ex
 exact blk_lt e
theorem GP.move {W0 W W' : World} {lab lab' : Nat → Nat} {g : Nat} {G : Gr} (h : GP W0 lab g G W) (hb : Below W0.heap.size W0 W') (hl : ∀ k, k < W.heap.size → lab' k = lab k) (hm : ∀ k, Chg lab k → k < W.heap.size → W'.heap[k]? = W.heap[k]?) : GP W0 lab' g G W' := by
 have hg := h.lt
 obtain ⟨v0, v1, e, hs, hr⟩ := h.ex
 refine ⟨hb, h.gB, (hl g hg).trans h.gl, v0, v1, (hm g (.inr (.inr h.gl)) hg).trans e, ?_, ?_⟩
 ·exact Kd.S_step (Kd.S_mono (Kd.S_bound hs) (fun k hk => by
   show lab' k = 1
   rw [hl k hk.2.2.1]; exact hk.1)) (fun k hk hlt => hm k (.inl (by rw [← hl k hlt]; exact hk)) hlt)
 ·exact Kd.R_step (Kd.R_mono (Kd.R_bound hr) (fun k hk => by
   show lab' k = 2
   rw [hl k hk.2.2.1]; exact hk.1)) (fun k hk hlt => hm k (.inr (.inl (by rw [← hl k hlt]; exact hk))) hlt)
theorem GP.grow {W0 W W' : World} {lab : Nat → Nat} {g : Nat} {G : Gr} (h : GP W0 lab g G W) (hb : Below W.heap.size W W') (f : Nat → Nat) : GP W0 (labOn W lab f) g G W' :=
 h.move (h.below.trans (hb.mono h.below.size)) (fun k hk => labOn_old hk) (fun k _ hk => hb.block k hk)
theorem put_gp {W0 w : World} {lab : Nat → Nat} {g : Nat} {G : Gr} (h : GP W0 lab g G w) (hG : GW G) {A2 : Option Addr} {c2 : Nat} (op n : Int) (cs : List Int) (h2 : Kd.C (Kd.int .i64) w A2 cs.length cs) (hx : cs.length ≤ 1000) (hin : ∀ y ∈ cs, 0 ≤ y ∧ y < (G.1.length : Int)) :
  Calls Try.prog 67 #[.pointer (some ⟨g, 0, none⟩), .agg #[.int .i64 op, .int .i64 n, .slice A2 cs.length c2]] w fun e w' => e = .returned (.int .i64 (putI G.1 G.2 ⟨op, n, kidsC G.2 cs⟩).2) ∧ ∃ lab' : Nat → Nat, GP W0 lab' g (putI G.1 G.2 ⟨op, n, kidsC G.2 cs⟩).1 w' ∧ (∀ k, k < w.heap.size → lab' k = lab k) ∧ (∀ k, w.heap.size ≤ k → lab' k = 1 ∨ lab' k = 2) ∧ Kept w w' (Chg lab) := by
 obtain ⟨v0, v1, e, hs, hr⟩ := h.ex
 have hgl := h.lt
 refine (put_any W0 w lab g v0 v1 G.1 G.2 ⟨op, n, cs⟩ h.below e h.gB hs hr (A2 := A2) (c2 := c2) h2 hx (fun y hy => by rw [hG.gi.len]; exact hin y hy) hG.most hG.gi.len hG.gi.kids).mono ?_
 rintro e w' ⟨v0', v1', rfl, hc, hs', hr', hb, hk⟩
 refine ⟨rfl, fun k => if k < w.heap.size then lab k else if some k = v1'.ownBlock then 2 else 1, ⟨hb, h.gB, ?_, v0', v1', hc, ?_, ?_⟩, fun k hk => if_pos hk, fun k hk => ?_, ?_⟩
 ·show (if g < w.heap.size then lab g else _) = 4
  rw [if_pos hgl]
  exact h.gl
 ·refine Kd.S_mono hs' (fun k hk => ?_)
  show (if k < w.heap.size then lab k else if some k = v1'.ownBlock then 2 else 1) = 1
  rcases hk.2 with h1 | h1
  ·rw [if_pos h1.2]; exact h1.1
  ·rw [if_neg (by omega), if_neg hk.1]
 ·refine Kd.R_mono (Kd.R_tight rfl hr') (fun k hk => ?_)
  show (if k < w.heap.size then lab k else if some k = v1'.ownBlock then 2 else 1) = 2
  rcases hr'.1 k hk.symm with h1 | h1
  ·rw [if_pos h1.2]; exact h1.1
  ·rw [if_neg (by omega), if_pos hk]
 ·show (if k < w.heap.size then lab k else if some k = v1'.ownBlock then 2 else 1) = 1 ∨ (if k < w.heap.size then lab k else if some k = v1'.ownBlock then 2 else 1) = 2
  rw [if_neg (by omega)]
  split
  ·exact .inr rfl
  ·exact .inl rfl
 ·exact ⟨hk.1, fun k hlt hne => hk.2 k hlt (fun h1 => hne (by
   rcases h1 with h1 | h1 | h1
   ·exact .inl h1
   ·exact .inr (.inl h1)
   ·exact .inr (.inr (by rw [h1]; exact h.gl))))⟩
end Go.Proofs.Ytlnejmlphkpaaaa.PA
