/- The graph seat: what the reference keeps while it puts a tree. -/
import Derived.Test.YtlnejmlphkpaaaaIqIf
import Derived.Test.YtlnejmlphkpaaaaIqIt
namespace Go.Proofs.Ytlnejmlphkpaaaa.PA
open Go.RowKit Go.Proofs.YtlnejmlphkpaaaaW.PrintWords Go.Proofs.YtlnejmlphkpaaaaW.PrintLast Go.Proofs.YtlnejmlphkpaaaaW.PrintMore
set_option linter.unusedVariables false
def BX (b : List Int) (G : Gr) (l : List S125) : Prop := b ≠ [] → ∀ x ∈ l, x.f0 = 2 → (0 ≤ x.f1 ∧ x.f1 < (b.length : Int)) ∧ (0 ≤ rd b x.f1 ∧ rd b x.f1 < (G.1.length : Int))
theorem BX.sub {b : List Int} {G : Gr} {l m : List S125} (h : BX b G l) (hm : ∀ x ∈ m, x ∈ l) : BX b G m := fun hb x hx => h hb x (hm x hx)
theorem BX.grow {b : List Int} {G G' : Gr} {l : List S125} (h : BX b G l) (hl : G.1.length ≤ G'.1.length) : BX b G' l := fun hb x hx h2 => ⟨(h hb x hx h2).1, (h hb x hx h2).2.1, by have := (h hb x hx h2).2.2; omega⟩
theorem BX.of {b : List Int} {G : Gr} {l : List S125} (h : BOk b G l) : BX b G l := fun hb x hx h2 => ⟨(h hb x hx h2).1, (h hb x hx h2).2.1⟩
def RestR (b : List Int) (ks : List Tm) (G : Gr) (i : Nat) (Gi : Gr) (cs : List Int) : Prop := addRL b ks G = ((addRL b (ks.drop i) Gi).1, cs ++ (addRL b (ks.drop i) Gi).2)
theorem RestR.start (b : List Int) (ks : List Tm) (G : Gr) : RestR b ks G 0 G [] := by
  unfold RestR
  rw [List.drop_zero, List.nil_append]
theorem RestR.next {b : List Int} {ks : List Tm} {G Gi : Gr} {i : Nat} {cs : List Int} {T : Tm} (h : RestR b ks G i Gi cs) (hT : ks[i]? = some T) : RestR b ks G (i + 1) (addR b T Gi).1 (cs ++ [(addR b T Gi).2]) := by
  obtain ⟨hi, rfl⟩ := List.getElem?_eq_some_iff.1 hT
  unfold RestR at h ⊢
  rw [h, List.drop_eq_getElem_cons hi, addRL]
  dsimp only
  rw [List.append_assoc]
  rfl
theorem RestR.done {b : List Int} {ks : List Tm} {G Gi : Gr} {cs : List Int} (h : RestR b ks G ks.length Gi cs) : addRL b ks G = (Gi, cs) := by
  unfold RestR at h
  rw [h, List.drop_length, addRL, List.append_nil]
structure GV (W0 : World) (lab : Nat → Nat) (v0 v1 : Value) (G : Gr) (W : World) : Prop where
  below : Below W0.heap.size W0 W
  s : Kd.S k36 36 W W0.heap.size (fun k => lab k = 1) v0 G.1
  r : (Kd.int .i64).R 3 W W0.heap.size (fun k => lab k = 2) v1 G.2
def Ch2 (lab : Nat → Nat) (k : Nat) : Prop := lab k = 1 ∨ lab k = 2
theorem GV.move {W0 W W' : World} {lab lab' : Nat → Nat} {v0 v1 : Value} {G : Gr} (h : GV W0 lab v0 v1 G W) (hb : Below W0.heap.size W0 W') (hl : ∀ k, k < W.heap.size → Ch2 lab k → lab' k = lab k) (hm : ∀ k, Ch2 lab k → k < W.heap.size → W'.heap[k]? = W.heap[k]?) : GV W0 lab' v0 v1 G W' := by
  refine ⟨hb, ?_, ?_⟩
  · exact Kd.S_mono (Kd.S_step (Kd.S_bound h.s) (fun k hk hlt => hm k (.inl hk.1) hlt)) (fun k hk => (hl k hk.2.2.1 (.inl hk.1)).trans hk.1)
  · exact Kd.R_mono (Kd.R_step (Kd.R_bound h.r) (fun k hk hlt => hm k (.inr hk.1) hlt)) (fun k hk => (hl k hk.2.2.1 (.inr hk.1)).trans hk.1)
structure AeR (W0 w : World) (lab L : Nat → Nat) (ga gz gx : Nat) (op n : Int) (ca cb ck va vb vk : Value) (G : Gr) (cs rs : List Int) (A52 : Option Addr) (W : World) : Prop where
  gv : GV W0 L va vb G W
  k : (Kd.int .i64).R 3 W W0.heap.size (fun k => L k = 3) vk cs
  f : Kd.F (Kd.int .i64) W (fun k => L k = 5) A52 rs.length rs
  old : ∀ k, k < w.heap.size → (lab k = 1 → L k = 1) ∧ (lab k = 2 → L k = 2) ∧ (Ch2 L k → L k = lab k) ∧ L k ≠ 3
  kept : Kept w W (Ch2 lab)
  a : W.heap[ga]? = some (.cells #[ca, cb] 32 (0, 0))
  z : W.heap[gz]? = some (.cells #[.slice none 0 0, .slice none 0 0] 32 (0, 0))
  x : W.heap[gx]? = some (.cells #[.int .i64 op, .int .i64 n, ck] 36 (0, 0))
  la : L ga = 0 ∧ L gz = 0 ∧ L gx = 0
  lo : w.heap.size ≤ ga ∧ w.heap.size ≤ gz ∧ w.heap.size ≤ gx ∧ ga ≠ gz ∧ ga ≠ gx ∧ gz ≠ gx
  ws : W0.heap.size ≤ w.heap.size
theorem old_of {lab L L' : Nat → Nat} {k : Nat} (e : L' k = L k) (h : (lab k = 1 → L k = 1) ∧ (lab k = 2 → L k = 2) ∧ (Ch2 L k → L k = lab k) ∧ L k ≠ 3) : (lab k = 1 → L' k = 1) ∧ (lab k = 2 → L' k = 2) ∧ (Ch2 L' k → L' k = lab k) ∧ L' k ≠ 3 := by
  unfold Ch2 at *
  rw [e]
  exact h
section
variable {W0 w W W' : World} {lab L : Nat → Nat} {ga gz gx : Nat} {op n : Int} {ca cb ck va vb vk : Value} {G : Gr} {cs rs : List Int} {A52 : Option Addr}
theorem AeR.grow (h : AeR W0 w lab L ga gz gx op n ca cb ck va vb vk G cs rs A52 W) (hb : Below W.heap.size W W') : AeR W0 w lab (labOn W L (fun _ => 0)) ga gz gx op n ca cb ck va vb vk G cs rs A52 W' where
  gv := h.gv.move (h.gv.below.trans (hb.mono h.gv.below.size)) (fun k hk _ => labOn_old hk) (fun k _ hk => hb.block k hk)
  k := Kd.R_below (Kd.R_mono (Kd.R_bound h.k) (fun k hk => (labOn_old hk.2.2.1).trans hk.1)) hb
  f := Kd.F_below (Kd.F_mono (Kd.F_bound h.f) (fun k hk => (labOn_old hk.2).trans hk.1)) hb
  old := fun k hk => by
    have e : labOn W L (fun _ => 0) k = L k := labOn_old (Nat.lt_of_lt_of_le hk h.kept.1)
    unfold Ch2
    rw [e]
    exact h.old k hk
  kept := h.kept.below hb
  a := blk_below h.a hb
  z := blk_below h.z hb
  x := blk_below h.x hb
  la := ⟨(labOn_old (blk_lt h.a)).trans h.la.1, (labOn_old (blk_lt h.z)).trans h.la.2.1, (labOn_old (blk_lt h.x)).trans h.la.2.2⟩
  lo := h.lo
  ws := h.ws
theorem AeR.setA (h : AeR W0 w lab L ga gz gx op n ca cb ck va vb vk G cs rs A52 W) (x y : Value) : AeR W0 w lab L ga gz gx op n x y ck va vb vk G cs rs A52 ((W.setCell ⟨ga, 0, none⟩ x).setCell ⟨ga, 1, none⟩ y) := by
  have hm : ∀ k, k ≠ ga → ((W.setCell ⟨ga, 0, none⟩ x).setCell ⟨ga, 1, none⟩ y).heap[k]? = W.heap[k]? := fun k hk => (Below.heap_setCell _ ⟨ga, 1, none⟩ _ k hk).trans (Below.heap_setCell _ ⟨ga, 0, none⟩ _ k hk)
  have hne : ∀ k, L k ≠ 0 → k ≠ ga := fun k hk e => hk (by rw [e]; exact h.la.1)
  have hz := h.ws
  exact { gv := h.gv.move ((h.gv.below.setCell (p := ⟨ga, 0, none⟩) (by have := h.lo.1; dsimp only; omega) _).setCell (p := ⟨ga, 1, none⟩) (by have := h.lo.1; dsimp only; omega) _) (fun _ _ _ => rfl) (fun k hk _ => hm k (hne k (by rcases hk with e | e <;> omega)))
          k := Kd.R_step h.k (fun k hk _ => hm k (hne k (by omega)))
          f := Kd.F_step h.f (fun k hk _ => hm k (hne k (by omega)))
          old := h.old
          kept := (h.kept.setCell (p := ⟨ga, 0, none⟩) (.inr h.lo.1) _).setCell (p := ⟨ga, 1, none⟩) (.inr h.lo.1) _
          a := blk_put (blk_put h.a 0 _ rfl) 1 _ rfl
          z := (hm gz h.lo.2.2.2.1.symm).trans h.z
          x := (hm gx h.lo.2.2.2.2.1.symm).trans h.x
          la := h.la
          lo := h.lo
          ws := h.ws }
theorem AeR.setX (h : AeR W0 w lab L ga gz gx op n ca cb ck va vb vk G cs rs A52 W) (y : Value) : AeR W0 w lab L ga gz gx op n ca cb y va vb vk G cs rs A52 (W.setCell ⟨gx, 2, none⟩ y) := by
  have hm : ∀ k, k ≠ gx → (W.setCell ⟨gx, 2, none⟩ y).heap[k]? = W.heap[k]? := fun k hk => Below.heap_setCell _ ⟨gx, 2, none⟩ _ k hk
  have hne : ∀ k, L k ≠ 0 → k ≠ gx := fun k hk e => hk (by rw [e]; exact h.la.2.2)
  have hz := h.ws
  exact { gv := h.gv.move (h.gv.below.setCell (p := ⟨gx, 2, none⟩) (by have := h.lo.2.2.1; dsimp only; omega) _) (fun _ _ _ => rfl) (fun k hk _ => hm k (hne k (by rcases hk with e | e <;> omega)))
          k := Kd.R_step h.k (fun k hk _ => hm k (hne k (by omega)))
          f := Kd.F_step h.f (fun k hk _ => hm k (hne k (by omega)))
          old := h.old
          kept := h.kept.setCell (p := ⟨gx, 2, none⟩) (.inr h.lo.2.2.1) _
          a := (hm ga h.lo.2.2.2.2.1).trans h.a
          z := (hm gz h.lo.2.2.2.2.2).trans h.z
          x := blk_put h.x 2 _ rfl
          la := h.la
          lo := h.lo
          ws := h.ws }
theorem AeR.call {G' : Gr} {lab' : Nat → Nat} {v0 v1 : Value} (h : AeR W0 w lab L ga gz gx op n ca cb ck va vb vk G cs rs A52 W) (hv : GV W0 lab' v0 v1 G' W') (ho : ∀ k, k < W.heap.size → lab' k = L k) (hk : Kept W W' (Ch2 L)) :
    ∃ L', AeR W0 w lab L' ga gz gx op n ca cb ck v0 v1 vk G' cs rs A52 W' := by
  obtain ⟨L', hL⟩ : ∃ L' : Nat → Nat, ∀ k, L' k = if k < W.heap.size then L k else if lab' k = 1 then 1 else if lab' k = 2 then 2 else 0 := ⟨_, fun _ => rfl⟩
  refine ⟨L', ?_⟩
  have e : ∀ k, k < W.heap.size → L' k = L k := fun k hk => (hL k).trans (if_pos hk)
  have hga := blk_lt h.a
  have hgz := blk_lt h.z
  have hgx := blk_lt h.x
  have hno : ∀ k, L k = 0 ∨ L k = 3 ∨ L k = 5 → ¬ Ch2 L k := fun k hk hc => by rcases hc with h1 | h1 <;> omega
  have hchg : ∀ k, k < w.heap.size → Ch2 L k → Ch2 lab k := fun k hk hc => by
    have h1 := (h.old k hk).2.2.1 hc
    unfold Ch2 at hc ⊢
    rw [← h1]
    exact hc
  exact { gv := hv.move hv.below (fun k hk hc => by
            rw [hL k]
            by_cases h1 : k < W.heap.size
            · rw [if_pos h1, ho k h1]
            · rw [if_neg h1]
              rcases hc with h2 | h2
              · rw [if_pos h2, h2]
              · rw [if_neg (by omega), if_pos h2, h2]) (fun _ _ _ => rfl)
          k := Kd.R_kept (Kd.R_mono (Kd.R_bound h.k) (fun k hk => (e k hk.2.2.1).trans hk.1)) hk (fun k hk hc => by
            have hk2 : L' k = 3 := hk
            rw [hL k] at hk2
            by_cases h1 : k < W.heap.size
            · rw [if_pos h1] at hk2
              exact hno k (.inr (.inl hk2)) hc
            · rw [if_neg h1] at hk2
              split at hk2
              · omega
              · split at hk2 <;> omega)
          f := Kd.F_mono (Kd.F_kept (Kd.F_bound h.f) hk (fun k hk => hno k (.inr (.inr hk.1)))) (fun k hk => (e k hk.2).trans hk.1)
          old := fun k hlt => old_of (e k (Nat.lt_of_lt_of_le hlt h.kept.1)) (h.old k hlt)
          kept := h.kept.then_ hk (fun k hc => by
            by_cases h1 : k < w.heap.size
            · exact .inl (hchg k h1 hc)
            · right; omega)
          a := blk_kept h.a hk (hno _ (.inl h.la.1))
          z := blk_kept h.z hk (hno _ (.inl h.la.2.1))
          x := blk_kept h.x hk (hno _ (.inl h.la.2.2))
          la := ⟨(e _ hga).trans h.la.1, (e _ hgz).trans h.la.2.1, (e _ hgx).trans h.la.2.2⟩
          lo := h.lo
          ws := h.ws }
theorem AeR.app {v1 : Value} {c : Int} (h : AeR W0 w lab L ga gz gx op n ca cb ck va vb vk G cs rs A52 W) (hr : (Kd.int .i64).R 3 W' W0.heap.size (fun k => (L k = 3 ∧ k < W.heap.size) ∨ W.heap.size ≤ k) v1 (cs ++ [c])) (hb : Below W0.heap.size W0 W') (hg : W.grownBy W' vk.ownBlock) :
    ∃ L', AeR W0 w lab L' ga gz gx op n ca cb ck va vb v1 G (cs ++ [c]) rs A52 W' := by
  have hrow : ∀ k, vk.ownBlock = some k → L k = 3 := fun k hk => h.k.1 k hk
  have hm : ∀ k, L k ≠ 3 → k < W.heap.size → W'.heap[k]? = W.heap[k]? := fun k hk hlt => hg.block k hlt (fun he => hk (hrow k he.symm))
  have hz := hg.size
  refine ⟨labOn W L (fun _ => 3), ?_⟩
  exact { gv := h.gv.move hb (fun k hk _ => labOn_old hk) (fun k hk hlt => hm k (by rcases hk with e | e <;> omega) hlt)
          k := Kd.R_mono hr (fun k hk => by
            rcases hk with h1 | h1
            · exact (labOn_old h1.2).trans h1.1
            · exact labOn_new h1)
          f := Kd.F_step (Kd.F_mono (Kd.F_bound h.f) (fun k hk => (labOn_old hk.2).trans hk.1)) (fun k hk hlt => hm k (by
            have e : labOn W L (fun _ => 3) k = L k := labOn_old hlt
            have hk2 : labOn W L (fun _ => 3) k = 5 := hk
            omega) hlt)
          old := fun k hlt => by
            have h1 : labOn W L (fun _ => 3) k = L k := labOn_old (Nat.lt_of_lt_of_le hlt h.kept.1)
            unfold Ch2
            rw [h1]
            exact h.old k hlt
          kept := Kept.of_grown hg h.kept (fun k hk => by
            by_cases h1 : k < w.heap.size
            · exact absurd (hrow k hk) (h.old k h1).2.2.2
            · right; omega)
          a := (hm _ (by have := h.la.1; omega) (blk_lt h.a)).trans h.a
          z := (hm _ (by have := h.la.2.1; omega) (blk_lt h.z)).trans h.z
          x := (hm _ (by have := h.la.2.2; omega) (blk_lt h.x)).trans h.x
          la := ⟨(labOn_old (blk_lt h.a)).trans h.la.1, (labOn_old (blk_lt h.z)).trans h.la.2.1, (labOn_old (blk_lt h.x)).trans h.la.2.2⟩
          lo := h.lo
          ws := h.ws }
theorem AeR.put {v0 v1 : Value} {G' : Gr} (h : AeR W0 w lab L ga gz gx op n ca cb ck va vb vk G cs rs A52 W)
    (hs : Kd.S k36 36 W' W0.heap.size (fun k => some k ≠ v1.ownBlock ∧ (((L k = 1 ∨ L k = 3) ∧ k < W.heap.size) ∨ W.heap.size ≤ k)) v0 G'.1) (hr : (Kd.int .i64).R 3 W' W0.heap.size (fun k => (L k = 2 ∧ k < W.heap.size) ∨ W.heap.size ≤ k) v1 G'.2) (hb : Below W0.heap.size W0 W') (hk : Kept W W' (fun k => L k = 1 ∨ L k = 2 ∨ L k = 3)) (x y : Value) :
    W'.heap[gz]? = some (.cells #[.slice none 0 0, .slice none 0 0] 32 (0, 0)) ∧ ∃ lab', GV W0 lab' v0 v1 G' ((W'.setCell ⟨gz, 0, none⟩ x).setCell ⟨gz, 1, none⟩ y) ∧ (∀ k, k < w.heap.size → lab' k = lab k) ∧ Kept w ((W'.setCell ⟨gz, 0, none⟩ x).setCell ⟨gz, 1, none⟩ y) (Ch2 lab) := by
  obtain ⟨lab', hL⟩ : ∃ lab' : Nat → Nat, ∀ k, lab' k = if k < w.heap.size then lab k else if k < W.heap.size then (if L k = 1 ∨ L k = 3 then 1 else if L k = 2 then 2 else 0) else if some k = v1.ownBlock then 2 else 1 := ⟨_, fun _ => rfl⟩
  have hz := h.kept.1
  have hgz := blk_lt h.z
  have hzz : lab' gz = 0 := by rw [hL, if_neg (by have := h.lo.2.1; omega), if_pos hgz, if_neg (by have := h.la.2.1; omega), if_neg (by have := h.la.2.1; omega)]
  have hv : GV W0 lab' v0 v1 G' W' := by
    refine ⟨hb, Kd.S_mono hs (fun k hk => ?_), Kd.R_mono (Kd.R_tight rfl hr) (fun k hk => ?_)⟩
    · show lab' k = 1
      rw [hL]
      rcases hk.2 with h1 | h1
      · by_cases h2 : k < w.heap.size
        · rw [if_pos h2]
          have h3 := h.old k h2
          have h4 : L k = 1 := h1.1.resolve_right h3.2.2.2
          rw [← h3.2.2.1 (.inl h4), h4]
        · rw [if_neg h2, if_pos h1.2, if_pos h1.1]
      · rw [if_neg (by omega), if_neg (by omega), if_neg hk.1]
    · show lab' k = 2
      rw [hL]
      rcases hr.1 k hk.symm with h1 | h1
      · by_cases h2 : k < w.heap.size
        · rw [if_pos h2, ← (h.old k h2).2.2.1 (.inr h1.1), h1.1]
        · rw [if_neg h2, if_pos h1.2, if_neg (by omega), if_pos h1.1]
      · rw [if_neg (by omega), if_neg (by omega), if_pos hk]
  have hm : ∀ k, k ≠ gz → ((W'.setCell ⟨gz, 0, none⟩ x).setCell ⟨gz, 1, none⟩ y).heap[k]? = W'.heap[k]? := fun k hk => (Below.heap_setCell _ ⟨gz, 1, none⟩ _ k hk).trans (Below.heap_setCell _ ⟨gz, 0, none⟩ _ k hk)
  have hws := h.ws
  refine ⟨blk_kept h.z hk (by have := h.la.2.1; omega), lab', hv.move ((hb.setCell (p := ⟨gz, 0, none⟩) (by have := h.lo.2.1; dsimp only; omega) _).setCell (p := ⟨gz, 1, none⟩) (by have := h.lo.2.1; dsimp only; omega) _) (fun _ _ _ => rfl) (fun k hc _ => hm k (fun e => by rw [e] at hc; rcases hc with h1 | h1 <;> omega)), fun k hk => (hL k).trans (if_pos hk), ?_⟩
  refine (((h.kept.then_ hk (fun k hc => ?_)).setCell (p := ⟨gz, 0, none⟩) (.inr h.lo.2.1) _).setCell (p := ⟨gz, 1, none⟩) (.inr h.lo.2.1) _)
  by_cases h1 : k < w.heap.size
  · have h2 := h.old k h1
    left
    rcases hc with h3 | h3 | h3
    · exact .inl (by rw [← h2.2.2.1 (.inl h3)]; exact h3)
    · exact .inr (by rw [← h2.2.2.1 (.inr h3)]; exact h3)
    · exact absurd h3 h2.2.2.2
  · right; omega
end
theorem rootsAt_at : ∀ (ks : List Tm) (o i : Nat) (T : Tm), ks[i]? = some T → (rootsAt o ks)[i]? = some (((o + (postL (ks.take i)).length + T.post.length : Nat) : Int) - 1)
  | [], o, i, T, h => by simp at h
  | t :: r, o, 0, T, h => by
    simp only [List.getElem?_cons_zero, Option.some.injEq] at h
    subst h
    rw [rootsAt, List.take_zero, postL]
    simp
  | t :: r, o, i + 1, T, h => by
    rw [List.getElem?_cons_succ] at h
    rw [rootsAt, List.getElem?_cons_succ, rootsAt_at r _ i T h, List.take_succ_cons, postL, List.length_append]
    simp only [Option.some.injEq]
    omega
theorem kid_cut {ks : List Tm} {i : Nat} {T : Tm} (hT : ks[i]? = some T) : postL ks = postL (ks.take i) ++ T.post ++ postL (ks.drop (i + 1)) := by
  obtain ⟨hi, rfl⟩ := List.getElem?_eq_some_iff.1 hT
  conv => lhs; rw [show ks = ks.take i ++ ks[i] :: ks.drop (i + 1) by rw [← List.drop_eq_getElem_cons hi, List.take_append_drop]]
  rw [postL_app, postL, List.append_assoc]
structure AdS (b : List Int) (ks : List Tm) (G : Gr) (W0 w : World) (lab L : Nat → Nat) (ga gz gx : Nat) (op n : Int) (va vb vk : Value) (i : Nat) (Gi : Gr) (cs rs : List Int) (A52 : Option Addr) (W : World) : Prop where
  st : AeR W0 w lab L ga gz gx op n va vb vk va vb vk Gi cs rs A52 W
  rest : RestR b ks G i Gi cs
  gi : GI Gi
  room : Gi.1.length + (postL (ks.drop i)).length ≤ 1000
  bx : BX b Gi (postL ks)
  len : cs.length = i
theorem AdS.next {b : List Int} {ks : List Tm} {T : Tm} {G : Gr} {W0 w W W' : World} {lab L L' : Nat → Nat} {ga gz gx : Nat} {op n : Int} {va vb vk va' vb' vk' : Value} {i : Nat} {Gi : Gr} {cs rs : List Int} {A52 : Option Addr} (h : AdS b ks G W0 w lab L ga gz gx op n va vb vk i Gi cs rs A52 W) (hT : ks[i]? = some T) (hw : T.wf) (h2 : AeR W0 w lab L' ga gz gx op n va' vb' vk' va' vb' vk' (addR b T Gi).1 (cs ++ [(addR b T Gi).2]) rs A52 W') :
    AdS b ks G W0 w lab L' ga gz gx op n va' vb' vk' (i + 1) (addR b T Gi).1 (cs ++ [(addR b T Gi).2]) rs A52 W' := by
  have hs := addR_size b _ T (Nat.le_refl _) hw Gi h.gi
  have hr := h.room
  obtain ⟨hi, rfl⟩ := List.getElem?_eq_some_iff.1 hT
  rw [List.drop_eq_getElem_cons hi, postL, List.length_append] at hr
  exact ⟨h2, h.rest.next hT, hs.1, by omega, h.bx.grow hs.2.1, by rw [List.length_append, h.len]; rfl⟩
theorem AdS.start {b : List Int} {ks : List Tm} {G : Gr} {W0 w W : World} {lab : Nat → Nat} {ga gz gx N m c52 : Nat} {op n : Int} {v0 v1 : Value} {rs : List Int} {A52 : Option Addr} (hv : GV W0 lab v0 v1 G w) (hG : GI G) (hroom : G.1.length + (postL ks).length ≤ 1000) (hbx : BX b G (postL ks)) (hb : Below w.heap.size w W)
    (ha : W.heap[ga]? = some (.cells #[v0, v1] 32 (0, 0))) (hz : W.heap[gz]? = some (.cells #[.slice none 0 0, .slice none 0 0] 32 (0, 0))) (hx : W.heap[gx]? = some (.cells #[.int .i64 op, .int .i64 n, .slice none 0 0] 36 (0, 0)))
    (hlo : w.heap.size ≤ ga ∧ w.heap.size ≤ gz ∧ w.heap.size ≤ gx ∧ ga ≠ gz ∧ ga ≠ gx ∧ gz ≠ gx) (hN : ga < N ∧ gz < N ∧ gx < N ∧ w.heap.size ≤ N) (hr : (Kd.int .i64).R 3 W N (fun _ => True) (.slice A52 m c52) rs) :
    ∃ L, AdS b ks G W0 w lab L ga gz gx op n v0 v1 (.slice none 0 0) 0 G [] rs A52 W := by
  obtain ⟨L, hL⟩ : ∃ L : Nat → Nat, ∀ k, L k = if k < w.heap.size then (if lab k = 1 then 1 else if lab k = 2 then 2 else 0) else if k < N then 0 else 5 := ⟨_, fun _ => rfl⟩
  have hm := (Kd.R_reads' hr).1
  subst hm
  refine ⟨L, ⟨⟨hv.move (hv.below.trans (hb.mono hv.below.size)) (fun k hk hc => ?_) (fun k _ hk => hb.block k hk), Kd.R_nil _ _ _ _ _, ?_, fun k hk => ?_, Kept.of_below hb _, ha, hz, hx, ⟨?_, ?_, ?_⟩, hlo, hv.below.size⟩, RestR.start b ks G, hG, by rw [List.drop_zero]; exact hroom, hbx, rfl⟩⟩
  · rw [hL, if_pos hk]
    rcases hc with h1 | h1
    · rw [if_pos h1, h1]
    · rw [if_neg (by omega), if_pos h1, h1]
  · refine Kd.F_mono (Kd.R_F (Kd.R_bound hr)) (fun k hk => ?_)
    show L k = 5
    rw [hL, if_neg (by have := hk.2.1; omega), if_neg (by have := hk.2.1; omega)]
  · rw [hL, if_pos hk]
    refine ⟨fun h1 => if_pos h1, fun h1 => by rw [if_neg (by omega), if_pos h1], fun hc => ?_, ?_⟩
    · unfold Ch2 at hc
      rw [hL, if_pos hk] at hc
      split
      · rename_i h1; exact h1.symm
      · split
        · rename_i h1; exact h1.symm
        · rename_i h1 h2
          rw [if_neg h1, if_neg h2] at hc
          omega
    · split
      · decide
      · split <;> decide
  · rw [hL, if_neg (by omega), if_pos hN.1]
  · rw [hL, if_neg (by omega), if_pos hN.2.1]
  · rw [hL, if_neg (by omega), if_pos hN.2.2.1]
def AddPost (b : List Int) (T : Tm) (G : Gr) (W0 w : World) (lab : Nat → Nat) (e : Ending) (w' : World) : Prop :=
  ∃ (v0 v1 : Value) (lab' : Nat → Nat), e = .returned (.tuple #[.agg #[v0, v1], .int .i64 (addR b T G).2]) ∧ GV W0 lab' v0 v1 (addR b T G).1 w' ∧ (∀ k, k < w.heap.size → lab' k = lab k) ∧ Kept w w' (Ch2 lab)
end Go.Proofs.Ytlnejmlphkpaaaa.PA
