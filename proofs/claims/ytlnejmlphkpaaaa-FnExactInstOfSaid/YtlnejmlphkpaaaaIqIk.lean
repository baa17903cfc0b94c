/- Parts of the walk. -/
import Derived.Test.YtlnejmlphkpaaaaIqIj
import Derived.Test.YtlnejmlphkpaaaaIqGh
import Derived.Test.YtlnejmlphkpaaaaIqIu
import Derived.Test.YtlnejmlphkpaaaaIqIh
import Derived.Test.YtlnejmlphkpaaaaIqIb
import Derived.Test.YtlnejmlphkpaaaaIqIe
section
/- The graph seat: spec.AddTerm by hand (printed by gen/mkik.py). -/
namespace Go.Proofs.Ytlnejmlphkpaaaa.PA
open Go.RowKit Go.Proofs.YtlnejmlphkpaaaaW.PrintWords Go.Proofs.YtlnejmlphkpaaaaW.PrintLast Go.Proofs.YtlnejmlphkpaaaaW.PrintMore
set_option linter.unusedVariables false
set_option linter.unusedSimpArgs false
theorem gv_new {w4 w5 : World} {nodes : List S36} {parts : List Int} {v0 v1 : Value} (hs : Kd.S k36 36 w5 w4.heap.size (fun k => some k ≠ v1.ownBlock) v0 nodes) (hr : (Kd.int .i64).R 3 w5 w4.heap.size (fun _ => True) v1 parts) (hb : Below w4.heap.size w4 w5) :
  ∃ lab : Nat → Nat, GV w4 lab v0 v1 (nodes, parts) w5 ∧ ∀ k, k < w4.heap.size → lab k = 0 := by
 obtain ⟨lab, hL⟩ : ∃ lab : Nat → Nat, ∀ k, lab k = if k < w4.heap.size then 0 else if some k = v1.ownBlock then 2 else 1 := ⟨_, fun _ => rfl⟩
 refine ⟨lab, ⟨hb, Kd.S_mono (Kd.S_bound hs) (fun k hk => ?_), Kd.R_mono (Kd.R_tight rfl hr) (fun k hk => ?_)⟩, fun k hk => by rw [hL, if_pos hk]⟩
 ·show lab k = 1
  rw [hL, if_neg (by have := hk.2.1; omega), if_neg hk.1]
 ·show lab k = 2
  rw [hL, if_neg (by have := Kd.R_base hr k hk.symm; omega), if_pos hk]
theorem heap125 : Kd.Heap k125 := Kd.heap_iso _ (Kd.heap_pair (Kd.heap_int _) (Kd.heap_int _))
end Go.Proofs.Ytlnejmlphkpaaaa.PA
end
section
/- The graph seat: helpers of exact laws with a term. -/
namespace Go.Proofs.Ytlnejmlphkpaaaa.PA
open Go.RowKit Go.Proofs.YtlnejmlphkpaaaaW.PrintWords Go.Proofs.YtlnejmlphkpaaaaW.PrintLast Go.Proofs.YtlnejmlphkpaaaaW.PrintMore
set_option linter.unusedVariables false
set_option linter.unusedSimpArgs false
def cT (x : S127) : S125 := ⟨x.f0, x.f1⟩
theorem szT_any (l : List S127) (a : Int) (h0 : 0 ≤ a) (h1 : a ≤ 1048576) (hl : l.length ≤ Max) : ∃ r, laws_szNodeS.f l a = some r ∧ (r < 0 ∨ (0 ≤ r ∧ r ≤ a ∧ l.length ≤ 1048576)) := by
 unfold laws_szNodeS.f
 rw [wsub a l.length h0 h1 hl]
 by_cases h : a - (l.length : Int) < 0
 ·exact ⟨-1, if_pos h, .inl (by omega)⟩
 ·exact ⟨a - (l.length : Int), if_neg h, .inr ⟨by omega, by omega, by omega⟩⟩
theorem toT_l0 (xs : List S127) (hn : xs.length ≤ 1048576) : ∀ (d i : Nat), xs.length - i = d → i ≤ xs.length → Ev (fun k => laws_toNodeS.l0 k xs ((xs.map cT).take i ++ List.replicate ((xs.map cT).length - i) z125) (i : Int)) (xs.map cT)
 | 0, i, hd, hi => by
  obtain rfl : i = xs.length := by omega
  refine Ev.step (f := fun _ => some (xs.map cT)) (fun k => ?_) (Ev.now _)
  simp only [laws_toNodeS.l0]
  rw [if_neg (by omega), List.take_of_length_le (by simp), List.length_map, Nat.sub_self, List.replicate_zero, List.append_nil]
 | d + 1, i, hd, hi => by
  have h : i < xs.length := by omega
  have e : rd_T127 xs (i : Int) = xs[i] := by simp [rd_T127, List.getD_eq_getElem?_getD, List.getElem?_eq_getElem h]
  have ih := toT_l0 xs hn d (i + 1) (by omega) (by omega)
  rw [← acc_set (xs.map cT) z125 i (by simpa using h) (⟨(rd_T127 xs (i : Int)).f0, (rd_T127 xs (i : Int)).f1⟩ : S125) (by rw [e]; simp [cT])] at ih
  refine Ev.step (fun k => ?_) ih
  simp only [laws_toNodeS.l0]
  rw [if_pos (by omega), if_pos (by omega), Int.toNat_natCast, wnext64 i xs.length h (by omega)]
  simp only [laws_toNode.f, Option.bind_some]
  rw [if_pos (by simp; omega)]
theorem toT_f (xs : List S127) (hn : xs.length ≤ 1048576) : Ev (fun k => laws_toNodeS.f k xs) (xs.map cT) :=
 Ev.congr (f := fun k => laws_toNodeS.l0 k xs ((xs.map cT).take 0 ++ List.replicate ((xs.map cT).length - 0) z125) ((0 : Nat) : Int)) (fun k => by unfold laws_toNodeS.f; rw [if_pos (by omega), if_pos (by omega), Int.toNat_natCast, List.length_map]; rfl) (toT_l0 xs hn xs.length 0 rfl (Nat.zero_le _))
theorem toT_any {A : Option Addr} {c : Nat} {t : List S127} (h : t.length ≤ 1048576) (W : World) (h0 : Kd.C k127 W A t.length t) (l0 : t.length ≤ c) :
  Calls Try.prog 47 #[.slice A t.length c] W fun e w' => ∃ v : Value, e = .returned v ∧ Kd.R k125 125 w' W.heap.size (fun _ => True) v (t.map cT) ∧ Below W.heap.size W w' := by
 obtain ⟨k, hk⟩ := Ev.rounds (toT_f t h)
 exact laws_toNodeS.calls k A c t _ W h0 l0 hk
theorem markT_l0 : ∀ (d : Nat) (l : List S125) (a : Int) (i : Nat), l.length - i = d → i ≤ l.length → l.length ≤ 1048576 → 0 ≤ a → a + 2 * (d : Int) ≤ 4000000000003000000 → ∃ r2, Ev (fun k => laws_markNodeS.l0 k l a (i : Int)) (a + 2 * (d : Int), r2)
 | 0, l, a, i, hd, hi, hl, h0, h1 => by
  refine ⟨l, Ev.step (f := fun _ => some (a, l)) (fun k => ?_) (by simpa using Ev.now (a, l))⟩
  simp only [laws_markNodeS.l0]
  rw [if_neg (by omega)]
 | d + 1, l, a, i, hd, hi, hl, h0, h1 => by
  have h : i < l.length := by omega
  obtain ⟨y, hy⟩ : ∃ y, y = l.set i (⟨a, (rd_T125 l (i : Int)).f1⟩ : S125) := ⟨_, rfl⟩
  obtain ⟨z, hz⟩ : ∃ z, z = y.set i (⟨(rd_T125 y (i : Int)).f0, a + 1⟩ : S125) := ⟨_, rfl⟩
  have hzl : z.length = l.length := by rw [hz, hy]; simp
  obtain ⟨r2, ih⟩ := markT_l0 d z (a + 2) (i + 1) (by omega) (by omega) (by omega) (by omega) (by omega)
  refine ⟨r2, ?_⟩
  rw [show a + 2 * ((d + 1 : Nat) : Int) = a + 2 + 2 * (d : Int) by omega]
  refine Ev.step (fun k => ?_) ih
  simp only [laws_markNodeS.l0]
  rw [if_pos (by omega), if_pos (by omega), Int.toNat_natCast, Option.bind_some, ← hy, show wrap64 (a + 1) = a + 1 by unfold wrap64; omega, ← hz, show wrap64 (a + 1 + 1) = a + 2 by unfold wrap64; omega, wnext64 i l.length h (by omega)]
theorem markT_any {w0 w : World} {P : Nat → Prop} {u : Value} (l : List S125) (k : Int) (h0 : 0 ≤ k) (h1 : k ≤ 4000000000000000000) (hl : l.length ≤ 1048576) (hB : Below w0.heap.size w0 w) (ho : Kd.R k125 125 w w0.heap.size P u l) :
  Calls Try.prog 49 #[u, .int .i64 k] w fun e w' => e = .returned (.int .i64 (k + 2 * (l.length : Int))) ∧ Below w0.heap.size w0 w' ∧ Kept w w' P := by
 obtain ⟨r2, hr⟩ := markT_l0 l.length l k 0 rfl (Nat.zero_le _) hl h0 (by omega)
 obtain ⟨j, hj⟩ := Ev.rounds hr
 exact (laws_markNodeS.calls j P u l k _ _ w0 w hB ho hj).mono fun e w' h => ⟨h.1, h.2.2.1, h.2.2.2⟩
def TC (W : World) (v : Value) (t : List S125) : Prop := ∃ A c, v = .slice A t.length c ∧ Kd.C k125 W A t.length t ∧ t.length ≤ c
structure LA7 (w : World) (b2 : Array Value) (g6 : Nat) (u0 u1 : Value) (a1 : List S36) (a2 : List Int) (n3 : Nat) (W : World) : Prop where
 hb : Below w.heap.size w W
 k2 : W.heap[w.heap.size]? = some (.cells b2 25 (0, 0))
 k6 : W.heap[g6]? = some (.cells #[u0, u1] 32 (0, 0))
 s6 : Kd.S k36 36 W w.heap.size (fun k => k < n3) u0 a1
 r6 : (Kd.int .i64).R 3 W w.heap.size (fun k => k < n3) u1 a2
 lt : w.heap.size < n3
 lg : g6 < n3
def LT (w : World) (m n : Nat) (u : Value) (l : List S125) (W : World) : Prop := Kd.R k125 125 W w.heap.size (fun k => m ≤ k ∧ k < n) u l
section
variable {w W W1 : World} {b2 : Array Value} {g6 n3 m n : Nat} {u0 u1 u : Value} {a1 : List S36} {a2 : List Int} {l : List S125} {S : Nat → Prop}
theorem LA7.below (h : LA7 w b2 g6 u0 u1 a1 a2 n3 W) (hb : Below W.heap.size W W1) : LA7 w b2 g6 u0 u1 a1 a2 n3 W1 := ⟨below_step h.hb hb, blk_below h.k2 hb, blk_below h.k6 hb, Kd.S_below h.s6 hb, Kd.R_below h.r6 hb, h.lt, h.lg⟩
theorem LA7.kept (h : LA7 w b2 g6 u0 u1 a1 a2 n3 W) (hb : Below w.heap.size w W1) (hk : Kept W W1 S) (hS : ∀ k, k < n3 → ¬ S k) : LA7 w b2 g6 u0 u1 a1 a2 n3 W1 := ⟨hb, blk_kept h.k2 hk (hS _ h.lt), blk_kept h.k6 hk (hS _ h.lg), Kd.S_kept h.s6 hk hS, Kd.R_kept h.r6 hk hS, h.lt, h.lg⟩
theorem LT.below (h : LT w m n u l W) (hb : Below W.heap.size W W1) : LT w m n u l W1 := Kd.R_below h hb
theorem LT.kept (h : LT w m n u l W) (hk : Kept W W1 S) (hS : ∀ k, m ≤ k → k < n → ¬ S k) : LT w m n u l W1 := Kd.R_kept h hk (fun k h => hS k h.1 h.2)
theorem LT.mk_ {w0 : World} (hr : Kd.R k125 125 W w0.heap.size (fun _ => True) u l) (hw : w.heap.size ≤ w0.heap.size) : LT w w0.heap.size W.heap.size u l W := Kd.R_lower (Kd.R_mono (Kd.R_bound hr) (fun k hk => ⟨hk.2.1, hk.2.2.1⟩)) hw
end
end Go.Proofs.Ytlnejmlphkpaaaa.PA
end
section
/- The graph seat: what InstOf answers, in plain words. -/
namespace Go.Proofs.Ytlnejmlphkpaaaa.PA
open Go.RowKit Go.Proofs.YtlnejmlphkpaaaaW.PrintWords Go.Proofs.YtlnejmlphkpaaaaW.PrintLast Go.Proofs.YtlnejmlphkpaaaaW.PrintMore
set_option linter.unusedVariables false
set_option linter.unusedSimpArgs false
def clsB (G : Gr) (k : Int) : Bool := within k 0 ((G.1.length : Int) - 1) && rd G.2 k == k
def askB (G : Gr) (k : Int) : Bool := k == -1 || clsB G k
def bindB (G : Gr) (b : List Int) : Bool := decide (b.length = 4) && b.all (askB G)
def sureB (b : List Int) (t : List S125) : Bool := t.all fun x => !(x.f0 == 2) || decide (0 ≤ rd b x.f1)
def ansInstOf (nodes : List S36) (parts : List Int) (t : List S125) (b : List Int) : Gr × Int × Bool :=
 match treeT t with
 | some T => if goodG nodes parts = true ∧ t.length ≤ 7 ∧ bindB (nodes, parts) b = true ∧ sureB b t = true ∧ (addR b T (nodes, parts)).1.1.length ≤ 120 then ((addR b T (nodes, parts)).1, (addR b T (nodes, parts)).2, true) else (([], []), 0, false)
 | none => (([], []), 0, false)
theorem mem_postL : ∀ (ks : List Tm) (x : S125), x ∈ postL ks → ∃ T ∈ ks, x ∈ T.post
 | [], x, h => by cases h
 | t :: r, x, h => by
  rw [postL] at h
  rcases List.mem_append.1 h with h | h
  ·exact ⟨t, List.mem_cons_self .., h⟩
  ·obtain ⟨T, hT, hx⟩ := mem_postL r x h
   exact ⟨T, List.mem_cons_of_mem _ hT, hx⟩
theorem wf_memD : ∀ (d : Nat) (T : Tm), T.post.length ≤ d → T.wf → ∀ x ∈ T.post, numI x.f0 x.f1 = true
 | 0, T, hd, hw => by have := post_pos T; omega
 | d + 1, .node op n ks, hd, hw => fun x hx => by
  rw [Tm.post, List.length_append, List.length_singleton] at hd
  rw [Tm.post] at hx
  rw [Tm.wf] at hw
  rcases List.mem_append.1 hx with hx | hx
  ·obtain ⟨T, hT, hx⟩ := mem_postL ks x hx
   exact wf_memD d T (by have := kid_le ks T hT; omega) ((wfL_mem ks).1 hw.2.2 T hT) x hx
  ·rw [List.mem_singleton] at hx
   rw [hx]
   exact hw.1
theorem wf_mem (T : Tm) (h : T.wf) : ∀ x ∈ T.post, numI x.f0 x.f1 = true := wf_memD _ T (Nat.le_refl _) h
theorem wf_var {T : Tm} (h : T.wf) {x : S125} (hx : x ∈ T.post) (h2 : x.f0 = 2) : 0 ≤ x.f1 ∧ x.f1 < 4 := by
 have := (arE_num x.f0 x.f1).2 (wf_mem T h x hx)
 omega
theorem bind_ok {nodes : List S36} {parts : List Int} {t : List S125} {b : List Int} {T : Tm} (hT : treeT t = some T) (hb : bindB (nodes, parts) b = true) (hs : sureB b t = true) : BOk b (nodes, parts) T.post := by
 intro hne x hx h2
 have hr := wf_var (treeT_some hT).2.1 hx h2
 rw [← (treeT_some hT).1] at hx
 simp only [bindB, Bool.and_eq_true, decide_eq_true_eq, List.all_eq_true] at hb
 simp only [sureB, List.all_eq_true, Bool.or_eq_true, Bool.not_eq_true', beq_eq_false_iff_ne, ne_eq, decide_eq_true_eq] at hs
 have h0 := (hs x hx).resolve_left (fun h => h h2)
 have hmem : rd b x.f1 ∈ b := by
  obtain ⟨k, hk⟩ := Int.eq_ofNat_of_zero_le hr.1
  rw [hk, rd_at b k (by omega)]
  exact List.getElem_mem _
 have h3 := hb.2 _ hmem
 simp only [askB, clsB, within, Bool.or_eq_true, Bool.and_eq_true, beq_iff_eq, decide_eq_true_eq] at h3
 have h4 := h3.resolve_left (by omega)
 refine ⟨⟨hr.1, by omega⟩, ⟨h0, by dsimp only at h4 ⊢; omega⟩, h4.2⟩
section
variable {nodes : List S36} {parts : List Int} {t : List S125} {b : List Int} {T : Tm}
theorem ansI_none (h : treeT t = none) : ansInstOf nodes parts t b = (([], []), 0, false) := by rw [ansInstOf, h]
theorem ansI_no (h : ¬ (goodG nodes parts = true ∧ t.length ≤ 7 ∧ bindB (nodes, parts) b = true ∧ sureB b t = true)) : ansInstOf nodes parts t b = (([], []), 0, false) := by
 rw [ansInstOf]
 cases treeT t with
 | none => rfl
 | some T => dsimp only; rw [if_neg (fun hh => h ⟨hh.1, hh.2.1, hh.2.2.1, hh.2.2.2.1⟩)]
theorem ansI_impl (hT : treeT t = some T) (h : goodG nodes parts = true ∧ t.length ≤ 7 ∧ bindB (nodes, parts) b = true ∧ sureB b t = true) : ansInstOf nodes parts t b = if (addI b T (nodes, parts)).2 < 0 then (([], []), 0, false) else ((addI b T (nodes, parts)).1, (addI b T (nodes, parts)).2, true) := by
 have hk := addR_ok b _ T (Nat.le_refl _) (treeT_some hT).2.1 (nodes, parts) (goodG_iff.1 h.1) (bind_ok hT h.2.2.1 h.2.2.2)
 rw [ansInstOf, hT]
 dsimp only
 by_cases hl : (addR b T (nodes, parts)).1.1.length ≤ 120
 ·obtain ⟨_, e, hc, _⟩ := hk.1 hl
  rw [if_pos ⟨h.1, h.2.1, h.2.2.1, h.2.2.2, hl⟩, e, if_neg (by have := hc.1.1; omega)]
 ·rw [if_neg (fun hh => hl hh.2.2.2.2), if_pos (hk.2 (by omega))]
theorem ansI_spec (hT : treeT t = some T) (h : goodG nodes parts = true ∧ t.length ≤ 7 ∧ bindB (nodes, parts) b = true ∧ sureB b t = true) : ansInstOf nodes parts t b = if goodG (addR b T (nodes, parts)).1.1 (addR b T (nodes, parts)).1.2 = true then ((addR b T (nodes, parts)).1, (addR b T (nodes, parts)).2, true) else (([], []), 0, false) := by
 have hk := addR_ok b _ T (Nat.le_refl _) (treeT_some hT).2.1 (nodes, parts) (goodG_iff.1 h.1) (bind_ok hT h.2.2.1 h.2.2.2)
 rw [ansInstOf, hT]
 dsimp only
 by_cases hl : (addR b T (nodes, parts)).1.1.length ≤ 120
 ·rw [if_pos ⟨h.1, h.2.1, h.2.2.1, h.2.2.2, hl⟩, if_pos (goodG_iff.2 (hk.1 hl).1)]
 ·rw [if_neg (fun hh => hl hh.2.2.2.2), if_neg (fun hh => hl (goodG_iff.1 hh).most)]
end
theorem ansI_small (nodes : List S36) (parts : List Int) (t : List S125) (b : List Int) : (ansInstOf nodes parts t b).1.1.length ≤ 1000 ∧ (∀ y ∈ (ansInstOf nodes parts t b).1.1, y.f2.length ≤ 1000) ∧ (ansInstOf nodes parts t b).1.2.length ≤ 1000 := by
 have h0 : (([], []) : List S36 × List Int).1.length ≤ 1000 ∧ (∀ y ∈ (([], []) : List S36 × List Int).1, y.f2.length ≤ 1000) ∧ (([], []) : List S36 × List Int).2.length ≤ 1000 := ⟨by simp, (fun y hy => by cases hy), by simp⟩
 rw [ansInstOf]
 cases hT : treeT t with
 | none => exact h0
 | some T =>
  dsimp only
  split
  ·rename_i h
   have hg := ((addR_ok b _ T (Nat.le_refl _) (treeT_some hT).2.1 (nodes, parts) (goodG_iff.1 h.1) (bind_ok hT h.2.2.1 h.2.2.2.1)).1 h.2.2.2.2).1
   exact ⟨by have := hg.most; dsimp only; omega, (good_GI hg).kids, by have := hg.most; have := hg.len; dsimp only; omega⟩
  ·exact h0
end Go.Proofs.Ytlnejmlphkpaaaa.PA
end
section
/- The graph seat: impl's questions of a pattern and a bind. -/
namespace Go.Proofs.Ytlnejmlphkpaaaa.PA
open Go.RowKit Go.Proofs.YtlnejmlphkpaaaaW.PrintWords Go.Proofs.YtlnejmlphkpaaaaW.PrintLast Go.Proofs.YtlnejmlphkpaaaaW.PrintMore
set_option linter.unusedVariables false
set_option linter.unusedSimpArgs false
set_option maxHeartbeats 2000000 in
theorem isClass_any {A0 A1 : Option Addr} {c0 c1 : Nat} {nodes : List S36} {parts : List Int} (g : Nat) (x : Int) (W : World) (hg : W.heap[g]? = some (.cells #[.slice A0 nodes.length c0, .slice A1 parts.length c1] 32 (0, 0))) (hr : Kd.C (Kd.int .i64) W A1 parts.length parts) (hl : parts.length = nodes.length) (hm : nodes.length ≤ 1000) :
  Calls Try.prog 119 #[.pointer (some ⟨g, 0, none⟩), .int .i64 x] W fun e W' => e = .returned (.bool (clsB (nodes, parts) x)) ∧ W = W' := by
 have z1 := blk_cell hg 1
 simp only [List.getElem?_toArray, List.getElem?_cons_zero, List.getElem?_cons_succ] at z1
 obtain ⟨np, hnp⟩ : ∃ n, n = parts.length := ⟨_, rfl⟩
 have hw1 : IntKind.i64.wrap ((np : Int) - 1) = (np : Int) - 1 := by rw [i64_w]; unfold wrap64; omega
 have T83 := Aside0.mk (fun W => within_any x 0 ((np : Int) - 1) W)
 have HA := Aside0.mk (show clsB (nodes, parts) x = (within x 0 ((np : Int) - 1) && rd parts x == x) by unfold clsB; dsimp only; rw [hnp, hl])
 cases hw : within x 0 ((np : Int) - 1) with
 | true =>
  have h' := hw
  simp only [within, Bool.and_eq_true, decide_eq_true_eq] at h'
  obtain ⟨ad, e, hx⟩ := Kd.at_int hr x h'.1 (by omega)
  cases e
  have p0 := eq_true h'.1
  have q0 := eq_true (show x < (np : Int) by omega)
  rw [hw] at T83 HA
  rw [← hnp] at z1
  clear hg hr hl hm hw h' hnp
  go_enter Try.func119, Try.ntmps119
  go_wp2_with (go_at_call 83; refine (T83.out _).mono ?_; rintro e w1 ⟨rfl, rfl⟩)
  go_ret
  exact ⟨by rw [HA.out]; rfl, rfl⟩
 | false =>
  rw [hw] at T83 HA
  rw [← hnp] at z1
  clear hg hr hl hm hw hnp
  go_enter Try.func119, Try.ntmps119
  go_wp2_with (go_at_call 83; refine (T83.out _).mono ?_; rintro e w1 ⟨rfl, rfl⟩)
  go_ret
  exact ⟨by rw [HA.out]; rfl, rfl⟩
theorem bo_closure {A0 A1 : Option Addr} {c0 c1 : Nat} {nodes : List S36} {parts : List Int} (g gb : Nat) (x : Int) (W : World) (hb : W.heap[gb]? = some (.cells #[.pointer (some ⟨g, 0, none⟩)] 141 (0, 0))) (hg : W.heap[g]? = some (.cells #[.slice A0 nodes.length c0, .slice A1 parts.length c1] 32 (0, 0))) (hr : Kd.C (Kd.int .i64) W A1 parts.length parts) (hl : parts.length = nodes.length) (hm : nodes.length ≤ 1000) :
  Calls Try.prog 147 #[.int .i64 x, .pointer (some ⟨gb, 0, none⟩)] W fun e W' => e = .returned (.bool (x != -1 && !clsB (nodes, parts) x)) ∧ W = W' := by
 have T119 := Aside0.mk (isClass_any g x W hg hr hl hm)
 have z0 := (blk_cell hb 0).trans rfl
 cases hx : (x != -1) with
 | true =>
  clear hb hg hr hl hm
  go_enter Try.func147, Try.ntmps147
  go_wp2_with (go_at_call 119; refine T119.out.mono ?_; rintro e w1 ⟨rfl, rfl⟩)
  go_ret
  exact ⟨rfl, rfl⟩
 | false =>
  clear hb hg hr hl hm T119
  go_enter Try.func147, Try.ntmps147
  go_wp2
  go_ret
  exact ⟨rfl, rfl⟩
theorem bindOK_any {A0 A1 A : Option Addr} {c0 c1 c : Nat} {nodes : List S36} {parts b : List Int} (g : Nat) (w : World) (hg : w.heap[g]? = some (.cells #[.slice A0 nodes.length c0, .slice A1 parts.length c1] 32 (0, 0))) (hr : Kd.C (Kd.int .i64) w A1 parts.length parts) (hl : parts.length = nodes.length) (hm : nodes.length ≤ 1000) (h : Kd.C (Kd.int .i64) w A b.length b) :
  Calls Try.prog 114 #[.pointer (some ⟨g, 0, none⟩), .slice A b.length c] w fun e w' => e = .returned (.bool (bindB (nodes, parts) b)) ∧ Below w.heap.size w w' := by
 have HA := Aside0.mk (show bindB (nodes, parts) b = (decide (b.length = 4) && !(b.any fun x => x != -1 && !clsB (nodes, parts) x)) by
  unfold bindB
  congr 1
  rw [List.not_any_eq_all_not]
  refine List.all_congr rfl (fun p => ?_)
  unfold askB bne
  cases p == -1 <;> simp)
 have HG := Aside0.mk hg
 have HR := Aside0.mk hr
 have HL := Aside0.mk (And.intro hl hm)
 have HB := Aside0.mk h
 have heg := enters_fn (P := Try.prog) Try.func147 (by kernel_rfl) rfl
 obtain ⟨n, hn⟩ : ∃ n, n = b.length := ⟨_, rfl⟩
 have HN := Aside0.mk hn
 by_cases h4 : b.length = 4
 ·rw [decide_eq_true h4, Bool.true_and] at HA
  have e1 : (((n : Int)) == 4) = true := by rw [beq_iff_eq]; omega
  rw [← hn]
  clear hg hr hl hm h h4 hn
  go_enter Try.func114, Try.ntmps114
  go_wp2_with (go_at_call 92; rw [HN.out]; refine (sl_ContainsFunc_int A c b 147 #[.pointer (some ⟨w.heap.size, 0, none⟩)] (fun x => x != -1 && !clsB (nodes, parts) x) _ (Kd.C_alloc HB.out _) heg ?hp).mono ?_; (case hp => exact fun x hx => bo_closure g w.heap.size x _ (blk_new w _) (blk_alloc HG.out _) (Kd.C_alloc HR.out _) HL.out.1 HL.out.2); rintro e w' ⟨rfl, rfl⟩)
  go_ret
  exact ⟨by rw [HA.out]; rfl, below_alloc (Below.refl _ _) _⟩
 ·rw [decide_eq_false h4, Bool.false_and] at HA
  have e1 : (((n : Int)) == 4) = false := by rw [beq_eq_false_iff_ne]; omega
  rw [← hn]
  clear hg hr hl hm h h4 hn
  go_enter Try.func114, Try.ntmps114
  go_wp2
  go_ret
  exact ⟨by rw [HA.out]; rfl, below_alloc (Below.refl _ _) _⟩
def PatP (w w' : World) (t : List S125) (p : Option Addr) : Prop := if t.length ≤ 7 then TreeP w w' t p else p = none
theorem patternOf_any (t : List S125) {A : Option Addr} {c : Nat} (w : World) (h : Kd.C k125 w A t.length t) (hc : t.length ≤ c) :
  Calls Try.prog 113 #[.slice A t.length c] w fun e w' => ∃ p : Option Addr, e = .returned (.pointer p) ∧ Below w.heap.size w w' ∧ PatP w w' t p := by
 have T98 := Aside0.mk (treeOf_any t w h hc)
 obtain ⟨n, hn⟩ : ∃ n, n = t.length := ⟨_, rfl⟩
 have HN := Aside0.mk hn
 rw [← hn] at T98
 rw [← hn]
 by_cases h7 : t.length ≤ 7
 ·have H7 := Aside0.mk h7
  have e1 : decide ((7 : Int) < (n : Int)) = false := decide_eq_false (by omega)
  clear h hc hn h7
  go_enter Try.func113, Try.ntmps113
  go_wp2_with (go_at_call 98; refine T98.out.mono ?_; rintro e w1 ⟨p, rfl, hb, hp⟩; have HB := Aside0.mk hb; have HP := Aside0.mk hp; clear hb hp)
  go_ret
  exact ⟨_, rfl, HB.out, by unfold PatP; rw [if_pos H7.out]; exact HP.out⟩
 ·have H7 := Aside0.mk h7
  have e1 : decide ((7 : Int) < (n : Int)) = true := decide_eq_true (by omega)
  clear h hc hn h7 T98
  go_enter Try.func113, Try.ntmps113
  go_wp2
  go_ret
  exact ⟨_, rfl, Below.refl _ _, by unfold PatP; rw [if_neg H7.out]⟩
theorem io_closure {A : Option Addr} {c : Nat} {b : List Int} (g : Nat) (x : Int) (W : World) (hg : W.heap[g]? = some (.cells #[.slice A b.length c] 23 (0, 0))) (hr : Kd.C (Kd.int .i64) W A b.length b) (h0 : 0 ≤ x) (h1 : x < b.length) :
  Calls Try.prog 116 #[.int .i64 x, .pointer (some ⟨g, 0, none⟩)] W fun e W' => e = .returned (.bool (decide (rd b x < 0))) ∧ W = W' := by
 have hcell : W.cell? ⟨g, 0, none⟩ = some (.slice A b.length c) := (blk_cell hg 0).trans rfl
 obtain ⟨ad, e, hx⟩ := Kd.at_int hr x h0 h1
 cases e
 clear hg hr
 have p0 := eq_true h0
 have q0 := eq_true h1
 clear h0 h1
 go_enter Try.func116, Try.ntmps116
 go_wp2
 go_ret
 exact ⟨rfl, rfl⟩
end Go.Proofs.Ytlnejmlphkpaaaa.PA
end
