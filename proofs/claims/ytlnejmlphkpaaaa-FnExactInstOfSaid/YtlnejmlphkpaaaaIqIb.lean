/- The graph seat: trees put into a graph, as the reference does it and as the implementation does it. -/
import Derived.Test.YtlnejmlphkpaaaaIqIa
import Derived.Test.YtlnejmlphkpaaaaIqGg
namespace Go.Proofs.Ytlnejmlphkpaaaa.PA
open Go.RowKit Go.Proofs.YtlnejmlphkpaaaaW.PrintWords Go.Proofs.YtlnejmlphkpaaaaW.PrintLast Go.Proofs.YtlnejmlphkpaaaaW.PrintMore
set_option linter.unusedVariables false
abbrev Gr := List S36 × List Int
def hasV (b : List Int) (op : Int) : Bool := op == 2 && !b.isEmpty
mutual
def addR (b : List Int) : Tm → Gr → Gr × Int
 | .node op n ks, G => if hasV b op = true then (G, rd G.2 (rd b n)) else putN (addRL b ks G).1.1 (addRL b ks G).1.2 ⟨op, n, (addRL b ks G).2⟩
def addRL (b : List Int) : List Tm → Gr → Gr × List Int
 | [], G => (G, [])
 | t :: r, G => ((addRL b r (addR b t G).1).1, (addR b t G).2 :: (addRL b r (addR b t G).1).2)
end
mutual
def addI (b : List Int) : Tm → Gr → Gr × Int
 | .node op n ks, G => if hasV b op = true then (G, rd b n) else match (addIL b ks G).2 with
  | some cs => putI (addIL b ks G).1.1 (addIL b ks G).1.2 ⟨op, n, kidsC (addIL b ks G).1.2 cs⟩
  | none => ((addIL b ks G).1, -1)
def addIL (b : List Int) : List Tm → Gr → Gr × Option (List Int)
 | [], G => (G, some [])
 | t :: r, G => if (addI b t G).2 < 0 then ((addI b t G).1, none) else ((addIL b r (addI b t G).1).1, ((addIL b r (addI b t G).1).2).map ((addI b t G).2 :: ·))
end
def BOk (b : List Int) (G : Gr) (l : List S125) : Prop := b ≠ [] → ∀ x ∈ l, x.f0 = 2 → (0 ≤ x.f1 ∧ x.f1 < (b.length : Int)) ∧ ((0 ≤ rd b x.f1 ∧ rd b x.f1 < (G.1.length : Int)) ∧ rd G.2 (rd b x.f1) = rd b x.f1)
theorem BOk.nil (G : Gr) (l : List S125) : BOk [] G l := fun h => absurd rfl h
theorem BOk.sub {b : List Int} {G : Gr} {l m : List S125} (h : BOk b G l) (hm : ∀ x ∈ m, x ∈ l) : BOk b G m := fun hb x hx => h hb x (hm x hx)
structure GI (G : Gr) : Prop where
 len : G.2.length = G.1.length
 kids : ∀ y ∈ G.1, y.f2.length ≤ 1000
theorem putN_size {nodes : List S36} {parts : List Int} (x : S36) (h : GI (nodes, parts)) (hx : x.f2.length ≤ 1000) : GI (putN nodes parts x).1 ∧ nodes.length ≤ (putN nodes parts x).1.1.length ∧ (putN nodes parts x).1.1.length ≤ nodes.length + 1 := by
 unfold putN
 split
 ·exact ⟨h, Nat.le_refl _, Nat.le_succ _⟩
 ·refine ⟨⟨?_, fun y hy => ?_⟩, by simp, by simp⟩
  ·have := h.len
   simp only [List.length_append, List.length_singleton] at this ⊢
   omega
  ·rcases List.mem_append.1 hy with hy | hy
   ·exact h.kids y hy
   ·rw [List.mem_singleton] at hy
    rw [hy]
    exact hx
theorem addRL_size (b : List Int) : ∀ (ks : List Tm), (∀ T ∈ ks, ∀ G, GI G → GI (addR b T G).1 ∧ G.1.length ≤ (addR b T G).1.1.length ∧ (addR b T G).1.1.length ≤ G.1.length + T.post.length) → ∀ G, GI G → GI (addRL b ks G).1 ∧ G.1.length ≤ (addRL b ks G).1.1.length ∧ (addRL b ks G).1.1.length ≤ G.1.length + (postL ks).length ∧ (addRL b ks G).2.length = ks.length
 | [], _, G, hG => by
  rw [addRL]
  exact ⟨hG, Nat.le_refl _, Nat.le_add_right _ _, rfl⟩
 | t :: r, h, G, hG => by
  have h1 := h t (List.mem_cons_self ..) G hG
  have h2 := addRL_size b r (fun T hT => h T (List.mem_cons_of_mem _ hT)) _ h1.1
  rw [addRL, postL, List.length_append]
  exact ⟨h2.1, by dsimp only; omega, by dsimp only; omega, by rw [List.length_cons, List.length_cons, h2.2.2.2]⟩
theorem addR_size (b : List Int) : ∀ (d : Nat) (T : Tm), T.post.length ≤ d → T.wf → ∀ G, GI G → GI (addR b T G).1 ∧ G.1.length ≤ (addR b T G).1.1.length ∧ (addR b T G).1.1.length ≤ G.1.length + T.post.length
 | 0, T, hd, hw, G, hG => by have := post_pos T; omega
 | d + 1, .node op n ks, hd, hw, G, hG => by
  rw [Tm.post, List.length_append, List.length_singleton] at hd ⊢
  rw [Tm.wf] at hw
  have h := addRL_size b ks (fun T hT => addR_size b d T (by have := kid_le ks T hT; omega) ((wfL_mem ks).1 hw.2.2 T hT)) G hG
  have ha := arI_pos op
  have hp := putN_size (nodes := (addRL b ks G).1.1) (parts := (addRL b ks G).1.2) ⟨op, n, (addRL b ks G).2⟩ h.1 (by dsimp only; omega)
  rw [addR]
  split
  ·exact ⟨hG, Nat.le_refl _, Nat.le_add_right _ _⟩
  ·exact ⟨hp.1, Nat.le_trans h.2.1 hp.2.1, by omega⟩
theorem find_mem {nodes : List S36} {parts : List Int} (x : S36) : ∀ (d i : Nat), nodes.length - i = d → i ≤ nodes.length → 0 ≤ findFrom nodes parts x d i → ∃ j, j < nodes.length ∧ findFrom nodes parts x d i = rd parts (j : Int)
 | 0, i, hd, hi, h => by rw [findFrom] at h; omega
 | d + 1, i, hd, hi, h => by
  rw [findFrom] at h ⊢
  split
  ·exact ⟨i, by omega, rfl⟩
  ·rename_i hc
   rw [if_neg hc] at h
   exact find_mem x d (i + 1) (by omega) (by omega) h
def Keeps (G G' : Gr) : Prop := ∀ y : Int, 0 ≤ y → y < (G.1.length : Int) → rd G'.2 y = rd G.2 y
def IsCl (G : Gr) (c : Int) : Prop := (0 ≤ c ∧ c < (G.1.length : Int)) ∧ rd G.2 c = c
theorem IsCl.keeps {G G' : Gr} {c : Int} (h : IsCl G c) (hk : Keeps G G') (hl : G.1.length ≤ G'.1.length) : IsCl G' c := ⟨⟨h.1.1, by have := h.1.2; omega⟩, (hk c h.1.1 h.1.2).trans h.2⟩
theorem kidsC_cl {G : Gr} {cs : List Int} (h : ∀ c ∈ cs, IsCl G c) : kidsC G.2 cs = cs := by
 unfold kidsC
 conv => rhs; rw [← List.map_id cs]
 exact List.map_congr_left fun c hc => (h c hc).2
theorem put_good {G : Gr} {op n : Int} {cs : List Int} (hG : GoodGr G.1 G.2) (hx : nodeB op n cs = true) (hc : ∀ c ∈ cs, IsCl G c) :
  ((putN G.1 G.2 ⟨op, n, cs⟩).1.1.length ≤ 120 → GoodGr (putN G.1 G.2 ⟨op, n, cs⟩).1.1 (putN G.1 G.2 ⟨op, n, cs⟩).1.2 ∧ putI G.1 G.2 ⟨op, n, cs⟩ = putN G.1 G.2 ⟨op, n, cs⟩ ∧ IsCl (putN G.1 G.2 ⟨op, n, cs⟩).1 (putN G.1 G.2 ⟨op, n, cs⟩).2 ∧ Keeps G (putN G.1 G.2 ⟨op, n, cs⟩).1) ∧ (120 < (putN G.1 G.2 ⟨op, n, cs⟩).1.1.length → (putI G.1 G.2 ⟨op, n, cs⟩).2 < 0) := by
 have hm := hG.most
 have hl := hG.len
 by_cases hf : 0 ≤ findN G.1 G.2 ⟨op, n, cs⟩
 ·obtain ⟨j, hj, e⟩ := find_mem (parts := G.2) ⟨op, n, cs⟩ G.1.length 0 rfl (Nat.zero_le _) hf
  have hp := hG.part j hj
  have e2 : putN G.1 G.2 ⟨op, n, cs⟩ = (G, findN G.1 G.2 ⟨op, n, cs⟩) := if_pos hf
  have e3 : findN G.1 G.2 ⟨op, n, cs⟩ = rd G.2 (j : Int) := e
  rw [e2, putI_found hf]
  refine ⟨fun _ => ⟨hG, rfl, ?_, fun y _ _ => rfl⟩, fun h => by dsimp only at h; omega⟩
  rw [e3]
  exact ⟨⟨hp.1.1, by show rd G.2 (j : Int) < (G.1.length : Int); omega⟩, hp.2⟩
 ·have e2 : putN G.1 G.2 ⟨op, n, cs⟩ = ((G.1 ++ [⟨op, n, cs⟩], G.2 ++ [(G.1.length : Int)]), (G.1.length : Int)) := if_neg hf
  have hnone := (findFrom_iff (fun k hk => (hG.part k hk).1.1) ⟨op, n, cs⟩ G.1.length 0 rfl (Nat.zero_le _))
  have hfm : findN G.1 G.2 ⟨op, n, cs⟩ = -1 := hnone.1.resolve_left hf
  rw [e2]
  by_cases h120 : G.1.length = 120
  ·rw [putI_full hf h120]
   exact ⟨fun h => by simp at h; omega, fun _ => by show (-1 : Int) < 0; decide⟩
  ·rw [putI_new hf h120]
   refine ⟨fun _ => ⟨?_, rfl, ?_, fun y h0 h1 => ?_⟩, fun h => by simp at h; omega⟩
   ·exact good_add hG (x := ⟨op, n, cs⟩) (by omega) hx (fun y hy => (hc y hy).1) (fun y hy => (hc y hy).2) (fun i hi => hnone.2 hfm i (Nat.zero_le _) hi)
   ·refine ⟨⟨by dsimp only; omega, by simp; omega⟩, ?_⟩
    dsimp only
    rw [← hl]
    exact rd_last
   ·dsimp only
    exact rd_app (by omega)
theorem BOk.keeps {b : List Int} {G G' : Gr} {l : List S125} (h : BOk b G l) (hk : Keeps G G') (hl : G.1.length ≤ G'.1.length) : BOk b G' l := fun hb x hx h2 => ⟨(h hb x hx h2).1, IsCl.keeps (h hb x hx h2).2 hk hl⟩
def AddOk (b : List Int) (T : Tm) : Prop := ∀ G : Gr, GoodGr G.1 G.2 → BOk b G T.post → ((addR b T G).1.1.length ≤ 120 → GoodGr (addR b T G).1.1 (addR b T G).1.2 ∧ addI b T G = addR b T G ∧ IsCl (addR b T G).1 (addR b T G).2 ∧ Keeps G (addR b T G).1) ∧ (120 < (addR b T G).1.1.length → (addI b T G).2 < 0)
theorem good_GI {G : Gr} (h : GoodGr G.1 G.2) : GI G := ⟨h.len, fun y hy => by
 obtain ⟨k, hk, rfl⟩ := List.getElem_of_mem hy
 have := node_kids (h.node k hk)
 rw [rdN_at G.1 k hk] at this
 omega⟩
theorem addRL_ok (b : List Int) : ∀ (ks : List Tm), (∀ T ∈ ks, AddOk b T ∧ T.wf) → ∀ G : Gr, GoodGr G.1 G.2 → BOk b G (postL ks) → ((addRL b ks G).1.1.length ≤ 120 → GoodGr (addRL b ks G).1.1 (addRL b ks G).1.2 ∧ addIL b ks G = ((addRL b ks G).1, some (addRL b ks G).2) ∧ (∀ c ∈ (addRL b ks G).2, IsCl (addRL b ks G).1 c) ∧ Keeps G (addRL b ks G).1) ∧ (120 < (addRL b ks G).1.1.length → (addIL b ks G).2 = none)
 | [], _, G, hG, hB => by
  rw [addRL, addIL]
  exact ⟨fun _ => ⟨hG, rfl, (fun c hc => by cases hc), fun y _ _ => rfl⟩, fun h => by have := hG.most; dsimp only at h; omega⟩
 | t :: r, h, G, hG, hB => by
  have ht := h t (List.mem_cons_self ..)
  have hr : ∀ T ∈ r, AddOk b T ∧ T.wf := fun T hT => h T (List.mem_cons_of_mem _ hT)
  rw [postL] at hB
  have h1 := ht.1 G hG (hB.sub fun x hx => List.mem_append_left _ hx)
  have s1 := addR_size b _ t (Nat.le_refl _) ht.2 G (good_GI hG)
  have s2 := addRL_size b r (fun T hT => addR_size b _ T (Nat.le_refl _) (hr T hT).2) (addR b t G).1 s1.1
  rw [addRL, addIL]
  by_cases q : (addR b t G).1.1.length ≤ 120
  ·obtain ⟨g1, e1, c1, k1⟩ := h1.1 q
   have h2 := addRL_ok b r hr (addR b t G).1 g1 (BOk.keeps (hB.sub fun x hx => List.mem_append_right _ hx) k1 s1.2.1)
   have hc0 : ¬ (addI b t G).2 < 0 := by rw [e1]; have := c1.1.1; omega
   rw [if_neg hc0, e1]
   refine ⟨fun hle => ?_, fun hgt => ?_⟩
   ·obtain ⟨g2, e2, c2, k2⟩ := h2.1 hle
    rw [e2]
    refine ⟨g2, rfl, fun c hc => ?_, fun y h0 hy => ?_⟩
    ·rcases List.mem_cons.1 hc with rfl | hc
     ·exact c1.keeps k2 s2.2.1
     ·exact c2 c hc
    ·exact (k2 y h0 (by have := s1.2.1; omega)).trans (k1 y h0 hy)
   ·rw [h2.2 hgt]
    rfl
  ·have hneg := h1.2 (by omega)
   rw [if_pos hneg]
   exact ⟨fun hle => by have := s2.2.1; dsimp only at hle; omega, fun _ => rfl⟩
theorem addR_ok (b : List Int) : ∀ (d : Nat) (T : Tm), T.post.length ≤ d → T.wf → AddOk b T
 | 0, T, hd, hw => by have := post_pos T; omega
 | d + 1, .node op n ks, hd, hw => fun G hG hB => by
  have hw0 := hw
  rw [Tm.post, List.length_append, List.length_singleton] at hd
  rw [Tm.wf] at hw
  have hks := (wfL_mem ks).1 hw.2.2
  have h := addRL_ok b ks (fun T hT => ⟨addR_ok b d T (by have := kid_le ks T hT; omega) (hks T hT), hks T hT⟩) G hG (hB.sub fun x hx => by rw [Tm.post]; exact List.mem_append_left _ hx)
  have s := addRL_size b ks (fun T hT => addR_size b _ T (Nat.le_refl _) (hks T hT)) G (good_GI hG)
  rw [addR, addI]
  by_cases hv : hasV b op = true
  ·rw [if_pos hv, if_pos hv]
   simp only [hasV, Bool.and_eq_true, beq_iff_eq, Bool.not_eq_true', List.isEmpty_eq_false_iff] at hv
   have hc := (hB hv.2 ⟨op, n⟩ (by rw [Tm.post]; simp) hv.1).2
   refine ⟨fun _ => ⟨hG, ?_, ?_, fun y _ _ => rfl⟩, fun h => by have := hG.most; dsimp only at h; omega⟩
   ·rw [hc.2]
   ·dsimp only
    rw [hc.2]
    exact hc
  rw [if_neg hv, if_neg hv]
  by_cases q : (addRL b ks G).1.1.length ≤ 120
  ·obtain ⟨g1, e1, c1, k1⟩ := h.1 q
   have hx : nodeB op n (addRL b ks G).2 = true := by
    rw [← node_same, hw.1, s.2.2.2, beq_iff_eq.mpr hw.2.1]
    rfl
   have hp := put_good (G := (addRL b ks G).1) g1 hx c1
   rw [e1]
   dsimp only
   rw [kidsC_cl c1]
   refine ⟨fun hle => ?_, hp.2⟩
   obtain ⟨p1, p2, p3, p4⟩ := hp.1 hle
   exact ⟨p1, p2, p3, fun y h0 hy => (p4 y h0 (by have := s.2.1; omega)).trans (k1 y h0 hy)⟩
  ·rw [h.2 (by omega)]
   have hp := putN_size (nodes := (addRL b ks G).1.1) (parts := (addRL b ks G).1.2) ⟨op, n, (addRL b ks G).2⟩ s.1 (by have := arI_pos op; have := s.2.2.2; have := hw.2.1; dsimp only; omega)
   exact ⟨fun hle => by have := hp.2.1; omega, fun _ => by dsimp only; omega⟩
end Go.Proofs.Ytlnejmlphkpaaaa.PA
