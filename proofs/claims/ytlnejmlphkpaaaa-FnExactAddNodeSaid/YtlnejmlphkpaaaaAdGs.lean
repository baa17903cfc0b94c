/- The graph seat: appends of a literal that was made some time ago; one invariant over a region that ends with stores; what put does, in plain words. -/
import Derived.Test.YtlnejmlphkpaaaaAdGr
import Derived.Test.YtlnejmlphkpaaaaAdGg
namespace Go.Proofs.Ytlnejmlphkpaaaa.PA
open Go.RowKit Go.Proofs.YtlnejmlphkpaaaaW.PrintWords Go.Proofs.YtlnejmlphkpaaaaW.PrintLast Go.Proofs.YtlnejmlphkpaaaaW.PrintMore
set_option linter.unusedVariables false
section
variable {P : Program} {ops : Array Oper} {o : Oper} {a : Act} {Q : Exit → Act → World → Prop} {Kc : Act → World → Prop} {α : Type}
theorem lit_reads {W : World} {g : Nat} {e : TypeId} {cs : List Value} {sz : Nat} (p : α) (hg : W.heap[g]? = some (.cells cs.toArray e (0, 0))) (hs : cs.length = sz) : ReadsRow (fun x c => x = p ∧ c = cs) sz W (some ⟨g, 0, none⟩) 1 [p] := by
  refine ⟨rfl, by decide, fun _ => ⟨_, rfl, fun j q hj => ?_⟩⟩
  obtain rfl : j = 0 := by
    by_cases h : j = 0
    · exact h
    · rw [List.getElem?_eq_none (by simp; omega)] at hj; cases hj
  simp only [List.getElem?_cons_zero, Option.some.injEq] at hj
  subst hj
  refine ⟨cs, hs, ⟨rfl, rfl⟩, fun i u hi => ?_⟩
  have h := blk_cell hg i
  have e : (⟨g, 0, none⟩ : Addr).add (0 * sz + i) = ⟨g, i, none⟩ := by
    simp only [Nat.zero_mul, Nat.zero_add, Addr.add]
    by_cases h0 : i = 0
    · rw [h0]; rfl
    · rw [if_neg h0]
  rw [e, h]
  simpa using hi
theorem R_append_at_step (d : Kd α) {w0 W : World} (base : Nat) (hw : Region.wanted o (yielded ops a.tmps) = true) (s x : Operand) (t e : TypeId) (z : Value) (bytes : Nat)
    (ho : o.op = .call { callee := .builtin .append, args := #[s, x], argTypes := #[t, t] })
    (ht : P.underlying t = some (.slice e)) (hinfo : (P.info? e).map (fun i => (i.zero, i.size, i.bytes)) = some (some z, d.sz, bytes)) (hz : z.cells.size = d.sz) (hs0 : 0 < d.sz) (hb0 : 0 < bytes)
    (v : Value) (xs : List α) (p : α) (cs : List Value) (gb : Nat) (ok okp : Nat → Prop) (hs : a.eval s = v) (hx : a.eval x = .slice (some ⟨gb, 0, none⟩) 1 1) (hgb : W.heap[gb]? = some (.cells cs.toArray e (0, 0))) (hp : d.M W base okp p cs) (hokp : ∀ k, okp k → ok k ∧ some k ≠ v.ownBlock) (hfresh : ∀ k, W.heap.size ≤ k → ok k)
    (HO : d.R e W base ok v xs) (HB : Below base w0 W) (hbase : base ≤ W.heap.size) (hl : (xs.length + 1) * bytes ≤ 140737488355328)
    (h : ∀ v1 w1, d.R e w1 base ok v1 (xs ++ [p]) → Below base w0 w1 → W.grownBy w1 v.ownBlock → (v1.ownBlock = v.ownBlock ∨ ∃ b, v1.ownBlock = some b ∧ W.heap.size ≤ b) → Kc (a.put o.dst v1) w1) :
    if Region.wanted o (yielded ops a.tmps) = true then Oper.wp P o a W Kc Q else Kc (a.put o.dst undef) W :=
  Kd.R_append_rows_step d base hw s x t e z bytes ho ht hinfo hz hs0 hb0 v xs [p] (some ⟨gb, 0, none⟩) 1 1 ok okp hs hx HO (lit_reads p hgb (d.K_len (d.K_of_M hp))) (fun y c hc => by rw [hc.1, hc.2]; exact hp) hokp hfresh HB hbase hl h
theorem S_append_at_step (d : Kd α) {w0 W : World} (base : Nat) (hw : Region.wanted o (yielded ops a.tmps) = true) (s x : Operand) (t e : TypeId) (z : Value) (bytes : Nat)
    (ho : o.op = .call { callee := .builtin .append, args := #[s, x], argTypes := #[t, t] })
    (ht : P.underlying t = some (.slice e)) (hinfo : (P.info? e).map (fun i => (i.zero, i.size, i.bytes)) = some (some z, d.sz, bytes)) (hz : z.cells.size = d.sz) (hs0 : 0 < d.sz) (hb0 : 0 < bytes)
    (v : Value) (xs : List α) (p : α) (cs : List Value) (gb : Nat) (ok okp : Nat → Prop) (hs : a.eval s = v) (hx : a.eval x = .slice (some ⟨gb, 0, none⟩) 1 1) (hgb : W.heap[gb]? = some (.cells cs.toArray e (0, 0))) (hp : d.M W base okp p cs) (hokp : ∀ k, okp k → ok k ∧ some k ≠ v.ownBlock) (hfresh : ∀ k, W.heap.size ≤ k → ok k)
    (HO : Kd.S d e W base (fun k => ok k ∧ ¬ okp k) v xs) (HB : Below base w0 W) (hbase : base ≤ W.heap.size) (hl : (xs.length + 1) * bytes ≤ 140737488355328)
    (h : ∀ v1 w1, Kd.S d e w1 base ok v1 (xs ++ [p]) → Below base w0 w1 → W.grownBy w1 v.ownBlock → (v1.ownBlock = v.ownBlock ∨ ∃ b, v1.ownBlock = some b ∧ W.heap.size ≤ b) → Kc (a.put o.dst v1) w1) :
    if Region.wanted o (yielded ops a.tmps) = true then Oper.wp P o a W Kc Q else Kc (a.put o.dst undef) W := by
  obtain ⟨f, hf, hR⟩ := Kd.S_tag HO xs.length okp (fun _ hk h2 => h2.2 hk)
  refine R_append_at_step (Kd.tag f d) base hw s x t e z bytes ho ht hinfo hz hs0 hb0 v xs.zipIdx (p, xs.length) cs gb ok okp hs hx hgb (d.M_mono (fun k hk => ⟨hk, hf k hk⟩) hp) hokp hfresh (Kd.R_mono hR (fun _ hk => hk.1)) HB hbase (by rw [List.length_zipIdx]; exact hl) ?_
  intro v1 w1 hr
  rw [← Kd.zip_snoc] at hr
  exact h v1 w1 ⟨f, hr⟩
end
section
variable {P : Program} {ops : Array Oper} {Q : Exit → Act → World → Prop} {md : Region.Mode} {S : World → Prop} {ds : List Nat}
/-- One invariant over what has come up, as far as lT; from there on as before (ds: the stores at the end). -/
theorem invToD_ {a : Act} {w : World} {l : Array Bool} {fuel : Nat} (lT : Array Bool) (Inv : Act → Array Bool → Act → World → Prop) (h0 : Inv a l a w) (hc : cntF l ≤ fuel) (hS : ∀ l' a' w', Inv a l' a' w' → S w')
    (hnr : ∀ l' a' w', Inv a l' a' w' → l' ≠ lT → Region.ready md ops l' ≠ [])
    (hstep : ∀ l' a' w', Inv a l' a' w' → l' ≠ lT → ∀ i ∈ Region.ready md ops l', ∀ o, ops[i]? = some o → ∀ K' : Act → World → Prop, (∀ a'' w'', Inv a (l'.setIfInBounds i true) a'' w'' → K' a'' w'') →
      if Region.wanted o (yielded ops a'.tmps) = true then Oper.wp P o a' w' K' Q else K' (a'.put o.dst undef) w')
    (hcont : ∀ fuel a' w', cntF lT ≤ fuel → Inv a lT a' w' → wpAnyLast P md ops Q S ds fuel lT a' w') :
    wpAnyLast P md ops Q S ds fuel l a w := by
  suffices h : ∀ n l' a' w', cntF l' = n → Inv a l' a' w' → ∀ f, cntF l' ≤ f → wpAnyLast P md ops Q S ds f l' a' w' from h _ l a w rfl h0 fuel hc
  intro n
  induction n using Nat.strongRecOn with
  | _ n ih =>
    intro l' a' w' hn hi f hf
    by_cases e : l' = lT
    · subst e; exact hcont f a' w' hf hi
    · cases f with
      | zero =>
        refine absurd (List.eq_nil_iff_forall_not_mem.2 fun i h => ?_) (hnr l' a' w' hi e)
        have := cntF_set (mem_ready.1 h).1
        omega
      | succ f =>
        refine ⟨fun h => absurd h (hnr l' a' w' hi e), fun i h => ?_⟩
        obtain ⟨h0, o, ho, _⟩ := mem_ready.1 h
        have hs := cntF_set h0
        exact wpOp_step ho fun K' hK => hstep l' a' w' hi e i h o ho K' (fun a'' w'' h1 => hK a'' w'' ⟨fun _ _ => hS _ _ _ h1, ih (cntF (l'.setIfInBounds i true)) (by omega) _ a'' w'' rfl h1 f (by omega)⟩)
end
/-- A graph with a node put by put, whose room has an end; and the node's class. -/
def putI (nodes : List S36) (parts : List Int) (y : S36) : (List S36 × List Int) × Int :=
  if 0 ≤ findN nodes parts y then ((nodes, parts), findN nodes parts y) else if nodes.length = 120 then ((nodes, parts), -1) else ((nodes ++ [y], parts ++ [(nodes.length : Int)]), (nodes.length : Int))
theorem putI_found {nodes : List S36} {parts : List Int} {y : S36} (h : 0 ≤ findN nodes parts y) : putI nodes parts y = ((nodes, parts), findN nodes parts y) := if_pos h
theorem putI_full {nodes : List S36} {parts : List Int} {y : S36} (h : ¬ 0 ≤ findN nodes parts y) (h2 : nodes.length = 120) : putI nodes parts y = ((nodes, parts), -1) := (if_neg h).trans (if_pos h2)
theorem putI_new {nodes : List S36} {parts : List Int} {y : S36} (h : ¬ 0 ≤ findN nodes parts y) (h2 : nodes.length ≠ 120) : putI nodes parts y = ((nodes ++ [y], parts ++ [(nodes.length : Int)]), (nodes.length : Int)) := (if_neg h).trans (if_neg h2)
end Go.Proofs.Ytlnejmlphkpaaaa.PA
