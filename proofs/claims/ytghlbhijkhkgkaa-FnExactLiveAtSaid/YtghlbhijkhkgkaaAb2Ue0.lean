/- Parts of the walk. -/
import Derived.Test.YtghlbhijkhkgkaaAb2Ml
section
/- A region that draws its order, walked by one invariant over what has come up. -/
namespace Go.Proofs.Ytghlbhijkhkgkaa.PA
open Go.RowKit Go.Proofs.YtghlbhijkhkgkaaW.PrintWords Go.Proofs.YtghlbhijkhkgkaaW.PrintLast Go.Proofs.YtghlbhijkhkgkaaW.PrintMore
set_option linter.unusedVariables false
section
variable {P : Program} {ops : Array Oper} {Q : Exit → Act → World → Prop} {md : Region.Mode} {S : World → Prop}
/-- How many have not come up. -/
def cntF (l : Array Bool) : Nat := l.toList.countP (fun b => !b)
theorem getD_false {l : Array Bool} {i : Nat} (h : l.getD i true = false) : ∃ hi : i < l.toList.length, l.toList[i] = false := by
  rcases Nat.lt_or_ge i l.size with h' | h'
  · exact ⟨by simpa using h', by simpa [Array.getD, h'] using h⟩
  · rw [Array.getD_eq_getD_getElem?, Array.getElem?_eq_none h'] at h; cases h
theorem cntF_set {l : Array Bool} {i : Nat} (h : l.getD i true = false) : cntF (l.setIfInBounds i true) + 1 = cntF l := by
  obtain ⟨hi, h1⟩ := getD_false h
  have hp : 0 < l.toList.countP (fun b => !b) := List.countP_pos_iff.2 ⟨_, List.getElem_mem hi, by rw [h1]; rfl⟩
  unfold cntF
  rw [Array.toList_setIfInBounds, List.countP_set hi, h1]
  show List.countP (fun b => !b) l.toList - 1 + 0 + 1 = List.countP (fun b => !b) l.toList
  omega
theorem cntF_zero {l : Array Bool} {i : Nat} (h : cntF l = 0) : l.getD i true ≠ false := fun h1 => by
  have := cntF_set h1
  omega
/-- What an operation waits for. -/
def predsB (md : Region.Mode) (ops : Array Oper) (i : Nat) : List Nat := ((ops[i]?).map fun o => (o.after.toList.filter (fun e => Region.binds md e)).map (·.on)).getD []
theorem ready_pred {l : Array Bool} {i : Nat} {ps : List Nat} (h : i ∈ Region.ready md ops l) (hp : predsB md ops i = ps) : ∀ p ∈ ps, l.getD p false = true := by
  obtain ⟨_, o, ho, hall⟩ := mem_ready.1 h
  subst hp
  intro p hp
  unfold predsB at hp
  rw [ho] at hp
  simp only [Option.map_some, Option.getD_some, List.mem_map, List.mem_filter] at hp
  obtain ⟨e, ⟨he, hb⟩, rfl⟩ := hp
  exact hall e (by simpa using he) hb
theorem pred_ready {l : Array Bool} {i : Nat} {o : Oper} {ps : List Nat} (ho : ops[i]? = some o) (hp : predsB md ops i = ps) (h0 : l.getD i true = false) (h : ∀ p ∈ ps, l.getD p false = true) : i ∈ Region.ready md ops l := by
  refine mem_ready.2 ⟨h0, o, ho, fun e he hb => h e.on ?_⟩
  subst hp
  unfold predsB
  rw [ho]
  simp only [Option.map_some, Option.getD_some, List.mem_map, List.mem_filter]
  exact ⟨e, ⟨by simpa using he, hb⟩, rfl⟩
theorem inv_ (Inv : Array Bool → Act → World → Prop) (hS : ∀ l a w, Inv l a w → S w) (hfin : ∀ l a w, Inv l a w → Region.ready md ops l = [] → Q .normal a w)
    (hstep : ∀ l a w, Inv l a w → ∀ i ∈ Region.ready md ops l, ∀ o, ops[i]? = some o → ∀ K' : Act → World → Prop, (∀ a w, Inv (l.setIfInBounds i true) a w → K' a w) → if Region.wanted o (yielded ops a.tmps) = true then Oper.wp P o a w K' Q else K' (a.put o.dst undef) w) :
    ∀ fuel l a w, cntF l ≤ fuel → Inv l a w → wpAnyLast P md ops Q S [] fuel l a w := by
  intro fuel
  induction fuel with
  | zero =>
    intro l a w hc hi
    have hr : Region.ready md ops l = [] := List.eq_nil_iff_forall_not_mem.2 fun i h => cntF_zero (by omega) (mem_ready.1 h).1
    exact ⟨hr, hfin l a w hi hr⟩
  | succ fuel ih =>
    intro l a w hc hi
    refine ⟨hfin l a w hi, fun i h => ?_⟩
    obtain ⟨h0, o, ho, _⟩ := mem_ready.1 h
    refine wpOp_step ho fun K' hK => hstep l a w hi i h o ho K' fun a w h1 => hK a w ⟨fun _ _ => hS _ _ _ h1, ih _ a w ?_ h1⟩
    have := cntF_set h0
    omega
end
end Go.Proofs.Ytghlbhijkhkgkaa.PA
end
section
/- The flow seat: what the region of BackOrder's variables has made so far. -/
namespace Go.Proofs.Ytghlbhijkhkgkaa.PA
open Go.RowKit Go.Proofs.YtghlbhijkhkgkaaW.PrintWords Go.Proofs.YtghlbhijkhkgkaaW.PrintLast Go.Proofs.YtghlbhijkhkgkaaW.PrintMore
set_option linter.unusedVariables false
/-- A variable's block. -/
def BoCell (N0 : Nat) (lab : Nat → Nat) (W : World) (j t : Nat) (x v : Value) (b : Bool) : Prop := ∃ g z, x = .pointer (some ⟨g, 0, none⟩) ∧ N0 ≤ g ∧ lab g = j ∧ W.heap[g]? = some (.cells #[z] t (0, 0)) ∧ (b = true → z = v)
/-- The rows of next. -/
def BoNext (next : List (List Int)) (n N0 : Nat) (lab : Nat → Nat) (W : World) (x : Value) : Prop := ∃ gn capn Bn Hn, x = .slice (some ⟨gn, 0, none⟩) n capn ∧ n ≤ capn ∧ N0 ≤ Bn ∧ RW W gn Bn Hn next ∧ ∀ k, Bn ≤ k → k < Hn → lab k = 1
/-- What has come up (b), the values (x), whose each block is (lab). -/
structure BoR (next : List (List Int)) (n N0 : Nat) (w1 : World) (b1 b8 b9 b10 b11 b12 b13 b14 b15 : Bool) (x5 x6 x7 x14 x21 x22 : Value) (lab : Nat → Nat) (W : World) : Prop where
  below : Below N0 w1 W
  n0 : N0 ≤ W.heap.size
  f1 : b1 = true → BoNext next n N0 lab W x14
  f8 : b8 = true → Kd.bool.R 4 W N0 (fun k => lab k = 2) x21 (List.replicate n false)
  f9 : b9 = true → (Kd.int .i64).R 3 W N0 (fun k => lab k = 3) x22 []
  f10 : b10 = true → BoCell N0 lab W 4 42 x5 x14 b13
  f11 : b11 = true → BoCell N0 lab W 5 69 x6 x21 b14
  f12 : b12 = true → BoCell N0 lab W 6 34 x7 x22 b15
  o13 : b13 = true → b1 = true ∧ b10 = true
  o14 : b14 = true → b8 = true ∧ b11 = true
  o15 : b15 = true → b9 = true ∧ b12 = true
section
variable {next : List (List Int)} {n N0 : Nat} {w1 W W' : World} {b1 b8 b9 b10 b11 b12 b13 b14 b15 : Bool} {x5 x6 x7 x14 x21 x22 : Value} {lab : Nat → Nat}
/-- The labels when a new block is j's. -/
def labOn (W : World) (lab : Nat → Nat) (j : Nat) (k : Nat) : Nat := if k < W.heap.size then lab k else j
theorem BoCell.grow {j0 t : Nat} {x v : Value} {b : Bool} (h : BoCell N0 lab W j0 t x v b) (hb : Below W.heap.size W W') (j : Nat) : BoCell N0 (labOn W lab j) W' j0 t x v b := by
  obtain ⟨g, z, e, h1, h2, h3, h4⟩ := h
  exact ⟨g, z, e, h1, by unfold labOn; rw [if_pos (blk_lt h3)]; exact h2, blk_below h3 hb, h4⟩
theorem BoNext.grow {x : Value} (h : BoNext next n N0 lab W x) (hb : Below W.heap.size W W') (j : Nat) : BoNext next n N0 (labOn W lab j) W' x := by
  obtain ⟨gn, capn, Bn, Hn, e, hc, hB, hrw, hl⟩ := h
  have hlt : ∀ k, k < Hn → k < W.heap.size := fun k h2 => Nat.lt_of_lt_of_le h2 hrw.hW
  exact ⟨gn, capn, Bn, Hn, e, hc, hB, hrw.kept hb.size (fun k h1 h2 => hb.block k (hlt k h2)), fun k h1 h2 => by unfold labOn; rw [if_pos (hlt k h2)]; exact hl k h1 h2⟩
theorem labOn_new {j k : Nat} (h : W.heap.size ≤ k) : labOn W lab j k = j := by unfold labOn; rw [if_neg (by omega)]
theorem BoCell.far {j0 t g : Nat} {x v : Value} {b : Bool} (h : BoCell N0 lab W j0 t x v b) (hg : lab g ≠ j0) (u : Value) : BoCell N0 lab (W.setCell ⟨g, 0, none⟩ u) j0 t x v b := by
  obtain ⟨g', z, e, h1, h2, h3, h4⟩ := h
  exact ⟨g', z, e, h1, h2, (Below.heap_setCell W ⟨g, 0, none⟩ u g' (fun e1 => hg (by rw [← h2, e1]))).trans h3, h4⟩
theorem BoNext.far {g : Nat} {x : Value} (h : BoNext next n N0 lab W x) (hg : lab g ≠ 1) (u : Value) : BoNext next n N0 lab (W.setCell ⟨g, 0, none⟩ u) x := by
  obtain ⟨gn, capn, Bn, Hn, e, hc, hB, hrw, hl⟩ := h
  exact ⟨gn, capn, Bn, Hn, e, hc, hB, hrw.kept (by simp [World.setCell]) (fun k h1 h2 => Below.heap_setCell W ⟨g, 0, none⟩ u k (fun e1 => hg (by rw [← hl k h1 h2, e1]))), hl⟩
theorem BoCell.new {j t : Nat} {z x v : Value} (h0 : N0 ≤ W.heap.size) (h : W'.heap[W.heap.size]? = some (.cells #[z] t (0, 0))) (hx : x = .pointer (some ⟨W.heap.size, 0, none⟩)) : BoCell N0 (labOn W lab j) W' j t x v false :=
  ⟨W.heap.size, z, hx, h0, labOn_new (Nat.le_refl _), h, fun h => by cases h⟩
theorem BoCell.put {j t g : Nat} {x v v0 : Value} {b : Bool} (h : BoCell N0 lab W j t x v b) (hx : x = .pointer (some ⟨g, 0, none⟩)) : BoCell N0 lab (W.setCell ⟨g, 0, none⟩ v0) j t x v0 true ∧ N0 ≤ g ∧ lab g = j := by
  obtain ⟨g', z, e, h1, h2, h3, h4⟩ := h
  rw [hx] at e
  injection e with e
  injection e with e
  injection e with e
  subst e
  exact ⟨⟨g, v0, hx, h1, h2, blk_put h3 0 v0 rfl, fun _ => rfl⟩, h1, h2⟩
theorem BoCell.off {j t : Nat} {x v v' : Value} {b : Bool} (h : BoCell N0 lab W j t x v b) (hb : b = false) : BoCell N0 lab W j t x v' b := by
  obtain ⟨g', z, e, h1, h2, h3, h4⟩ := h
  exact ⟨g', z, e, h1, h2, h3, fun h => by rw [hb] at h; cases h⟩
end
end Go.Proofs.Ytghlbhijkhkgkaa.PA
end
