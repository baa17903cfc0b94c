/- Parts of the walk. -/
import Derived.Test.YtlnejmlphkpaaaaIqGe
import Derived.Test.YtlnejmlphkpaaaaIqGr
section
/- The graph seat: the reference's own copy in plain words; what AddNode's region has made so far. -/
namespace Go.Proofs.Ytlnejmlphkpaaaa.PA
open Go.RowKit Go.Proofs.YtlnejmlphkpaaaaW.PrintWords Go.Proofs.YtlnejmlphkpaaaaW.PrintLast Go.Proofs.YtlnejmlphkpaaaaW.PrintMore
set_option linter.unusedVariables false
theorem own1 (l : List Int) (hl : l.length ≤ 1000) : spec_l1Own.f l = some l := by
 unfold spec_l1Own.f
 rw [Option.bind_some, if_pos (by simp; omega), List.nil_append]
theorem own_l0 (nodes : List S36) (parts : List Int) (hl : nodes.length ≤ 1000) (hk : ∀ x ∈ nodes, x.f2.length ≤ 1000) : ∀ (d i : Nat), nodes.length - i = d → i ≤ nodes.length → Ev (fun k => spec_l6Own.l0 k nodes (nodes.length : Int) (i : Int) (nodes.take i) parts) (nodes, parts)
 | 0, i, hd, hi => by
  have e : i = nodes.length := by omega
  refine Ev.step (f := fun _ => some (nodes, parts)) (fun k => ?_) (Ev.now _)
  simp only [spec_l6Own.l0]
  rw [if_neg (by omega), e, List.take_length]
 | d + 1, i, hd, hi => by
  have h : i < nodes.length := by omega
  have hm : (rd_T36 nodes (i : Int)).f2.length ≤ 1000 := by rw [rdN_at nodes i h]; exact hk _ (List.getElem_mem h)
  refine Ev.step (fun k => ?_) (own_l0 nodes parts hl hk d (i + 1) (by omega) (by omega))
  simp only [spec_l6Own.l0]
  rw [if_pos (by omega), if_pos (by omega), if_pos (by omega), own1 _ hm, Option.bind_some, if_pos (by simp; omega), wnext i nodes.length h (by omega)]
  rw [show nodes.take (i + 1) = nodes.take i ++ [(⟨(rd_T36 nodes (i : Int)).f0, (rd_T36 nodes (i : Int)).f1, (rd_T36 nodes (i : Int)).f2⟩ : S36)] by rw [List.take_succ_eq_append_getElem h, rdN_at nodes i h]]
theorem own_is (nodes : List S36) (parts : List Int) (hl : nodes.length ≤ 1000) (hp : parts.length ≤ 1000) (hk : ∀ x ∈ nodes, x.f2.length ≤ 1000) : Ev (fun k => spec_l6Own.f k nodes parts) (nodes, parts) := by
 refine Ev.congr (fun k => by unfold spec_l6Own.f; rw [own1 _ hp, Option.bind_some]) ?_
 have := own_l0 nodes parts hl hk nodes.length 0 rfl (Nat.zero_le _)
 rw [List.take_zero] at this
 exact this
section
variable {P : Program} {ops : Array Oper} {Q : Exit → Act → World → Prop} {md : Region.Mode} {S : World → Prop}
def cntF (l : Array Bool) : Nat := l.toList.countP (fun b => !b)
theorem getD_false {l : Array Bool} {i : Nat} (h : l.getD i true = false) : ∃ hi : i < l.toList.length, l.toList[i] = false := by
 rcases Nat.lt_or_ge i l.size with h' | h'
 ·exact ⟨by simpa using h', by simpa [Array.getD, h'] using h⟩
 ·rw [Array.getD_eq_getD_getElem?, Array.getElem?_eq_none h'] at h; cases h
theorem cntF_set {l : Array Bool} {i : Nat} (h : l.getD i true = false) : cntF (l.setIfInBounds i true) + 1 = cntF l := by
 obtain ⟨hi, h1⟩ := getD_false h
 have hp : 0 < l.toList.countP (fun b => !b) := List.countP_pos_iff.2 ⟨_, List.getElem_mem hi, by rw [h1]; rfl⟩
 unfold cntF
 rw [Array.toList_setIfInBounds, List.countP_set hi, h1]
 show List.countP (fun b => !b) l.toList - 1 + 0 + 1 = List.countP (fun b => !b) l.toList
 omega
def predsB (md : Region.Mode) (ops : Array Oper) (i : Nat) : List Nat := ((ops[i]?).map fun o => (o.after.toList.filter (fun e => Region.binds md e)).map (·.on)).getD []
theorem ready_pred {l : Array Bool} {i : Nat} {ps : List Nat} (h : i ∈ Region.ready md ops l) (hp : predsB md ops i = ps) : ∀ p ∈ ps, l.getD p false = true := by
 obtain ⟨_, o, ho, hall⟩ := mem_ready.1 h
 subst hp
 intro p hp
 unfold predsB at hp
 rw [ho] at hp
 simp only [Option.map_some, Option.getD_some, List.mem_map, List.mem_filter] at hp
 obtain ⟨e, ⟨he, hb⟩, rfl⟩ := hp
 exact hall e (by simpa using he) hb
theorem pred_ready {l : Array Bool} {i : Nat} {o : Oper} {ps : List Nat} (ho : ops[i]? = some o) (hp : predsB md ops i = ps) (h0 : l.getD i true = false) (h : ∀ p ∈ ps, l.getD p false = true) : Region.ready md ops l ≠ [] := by
 have : i ∈ Region.ready md ops l := by
  refine mem_ready.2 ⟨h0, o, ho, fun e he hb => h e.on ?_⟩
  subst hp
  unfold predsB
  rw [ho]
  simp only [Option.map_some, Option.getD_some, List.mem_map, List.mem_filter]
  exact ⟨e, ⟨by simpa using he, hb⟩, rfl⟩
 exact fun h1 => by rw [h1] at this; cases this
end
def labOn (W : World) (lab f : Nat → Nat) (k : Nat) : Nat := if k < W.heap.size then lab k else f k
theorem labOn_new {W : World} {lab f : Nat → Nat} {k : Nat} (h : W.heap.size ≤ k) : labOn W lab f k = f k := by unfold labOn; rw [if_neg (by omega)]
theorem labOn_old {W : World} {lab f : Nat → Nat} {k : Nat} (h : k < W.heap.size) : labOn W lab f k = lab k := by unfold labOn; rw [if_pos h]
theorem R_int_ok {W : World} {B : Nat} {ok ok' : Nat → Prop} {v : Value} {xs : List Int} (h : (Kd.int .i64).R 3 W B ok v xs) (h' : ∀ k, v.ownBlock = some k → ok' k) : (Kd.int .i64).R 3 W B ok' v xs := ⟨h', h.2.imp_ (fun _ _ hp => hp)⟩
structure AdR (base : Nat) (w1 : World) (nodes : List S36) (parts kids : List Int) (nodes' : List S36) (parts' : List Int) (kk : Int) (b1 b10 b12 b16 : Bool) (x7 x30 x39 x42 x43 : Value) (lab : Nat → Nat) (W : World) : Prop where
 below : Below base w1 W
 n0 : base ≤ W.heap.size
 f1 : b1 = true → b12 = false → ∃ v0 v1, x30 = .agg #[v0, v1] ∧ Kd.S k36 36 W base (fun k => lab k = 1) v0 nodes ∧ (Kd.int .i64).R 3 W base (fun k => lab k = 2) v1 parts
 f10 : b10 = true → b12 = false → (Kd.int .i64).R 3 W base (fun k => lab k = 3) x39 kids
 f12 : b12 = true → ∃ v0 v1, x42 = .agg #[v0, v1] ∧ x43 = .int .i64 kk ∧ Kd.S k36 36 W base (fun k => some k ≠ v1.ownBlock ∧ lab k = 5) v0 nodes' ∧ (Kd.int .i64).R 3 W base (fun k => lab k = 5) v1 parts'
 f16 : b16 = true → ∃ g, x7 = .pointer (some ⟨g, 0, none⟩) ∧ base ≤ g ∧ lab g = 4 ∧ W.heap[g]? = some (.cells #[.slice none 0 0, .slice none 0 0] 32 (0, 0))
section
variable {base : Nat} {w1 : World} {nodes : List S36} {parts kids : List Int} {nodes' : List S36} {parts' : List Int} {kk : Int} {b1 b10 b12 b16 : Bool} {x7 x30 x39 x42 x43 : Value} {lab : Nat → Nat} {W W' : World}
end
end Go.Proofs.Ytlnejmlphkpaaaa.PA
end
section
/- The graph seat: appends of a literal that was made some time ago; one invariant over a region that ends with stores; what put does, in plain words. -/
namespace Go.Proofs.Ytlnejmlphkpaaaa.PA
open Go.RowKit Go.Proofs.YtlnejmlphkpaaaaW.PrintWords Go.Proofs.YtlnejmlphkpaaaaW.PrintLast Go.Proofs.YtlnejmlphkpaaaaW.PrintMore
set_option linter.unusedVariables false
section
variable {P : Program} {ops : Array Oper} {o : Oper} {a : Act} {Q : Exit → Act → World → Prop} {Kc : Act → World → Prop} {α : Type}
theorem lit_reads {W : World} {g : Nat} {e : TypeId} {cs : List Value} {sz : Nat} (p : α) (hg : W.heap[g]? = some (.cells cs.toArray e (0, 0))) (hs : cs.length = sz) : ReadsRow (fun x c => x = p ∧ c = cs) sz W (some ⟨g, 0, none⟩) 1 [p] := by
 refine ⟨rfl, by decide, fun _ => ⟨_, rfl, fun j q hj => ?_⟩⟩
 obtain rfl : j = 0 := by
  by_cases h : j = 0
  ·exact h
  ·rw [List.getElem?_eq_none (by simp; omega)] at hj; cases hj
 simp only [List.getElem?_cons_zero, Option.some.injEq] at hj
 subst hj
 refine ⟨cs, hs, ⟨rfl, rfl⟩, fun i u hi => ?_⟩
 have h := blk_cell hg i
 have e : (⟨g, 0, none⟩ : Addr).add (0 * sz + i) = ⟨g, i, none⟩ := by
  simp only [Nat.zero_mul, Nat.zero_add, Addr.add]
  by_cases h0 : i = 0
  ·rw [h0]; rfl
  ·rw [if_neg h0]
 rw [e, h]
 simpa using hi
theorem R_append_at_step (d : Kd α) {w0 W : World} (base : Nat) (hw : Region.wanted o (yielded ops a.tmps) = true) (s x : Operand) (t e : TypeId) (z : Value) (bytes : Nat)
  (ho : o.op = .call { callee := .builtin .append, args := #[s, x], argTypes := #[t, t] })
  (ht : P.underlying t = some (.slice e)) (hinfo : (P.info? e).map (fun i => (i.zero, i.size, i.bytes)) = some (some z, d.sz, bytes)) (hz : z.cells.size = d.sz) (hs0 : 0 < d.sz) (hb0 : 0 < bytes)
  (v : Value) (xs : List α) (p : α) (cs : List Value) (gb : Nat) (ok okp : Nat → Prop) (hs : a.eval s = v) (hx : a.eval x = .slice (some ⟨gb, 0, none⟩) 1 1) (hgb : W.heap[gb]? = some (.cells cs.toArray e (0, 0))) (hp : d.M W base okp p cs) (hokp : ∀ k, okp k → ok k ∧ some k ≠ v.ownBlock) (hfresh : ∀ k, W.heap.size ≤ k → ok k)
  (HO : d.R e W base ok v xs) (HB : Below base w0 W) (hbase : base ≤ W.heap.size) (hl : (xs.length + 1) * bytes ≤ 140737488355328)
  (h : ∀ v1 w1, d.R e w1 base ok v1 (xs ++ [p]) → Below base w0 w1 → W.grownBy w1 v.ownBlock → (v1.ownBlock = v.ownBlock ∨ ∃ b, v1.ownBlock = some b ∧ W.heap.size ≤ b) → Kc (a.put o.dst v1) w1) :
  if Region.wanted o (yielded ops a.tmps) = true then Oper.wp P o a W Kc Q else Kc (a.put o.dst undef) W :=
 Kd.R_append_rows_step d base hw s x t e z bytes ho ht hinfo hz hs0 hb0 v xs [p] (some ⟨gb, 0, none⟩) 1 1 ok okp hs hx HO (lit_reads p hgb (d.K_len (d.K_of_M hp))) (fun y c hc => by rw [hc.1, hc.2]; exact hp) hokp hfresh HB hbase hl h
theorem S_append_at_step (d : Kd α) {w0 W : World} (base : Nat) (hw : Region.wanted o (yielded ops a.tmps) = true) (s x : Operand) (t e : TypeId) (z : Value) (bytes : Nat)
  (ho : o.op = .call { callee := .builtin .append, args := #[s, x], argTypes := #[t, t] })
  (ht : P.underlying t = some (.slice e)) (hinfo : (P.info? e).map (fun i => (i.zero, i.size, i.bytes)) = some (some z, d.sz, bytes)) (hz : z.cells.size = d.sz) (hs0 : 0 < d.sz) (hb0 : 0 < bytes)
  (v : Value) (xs : List α) (p : α) (cs : List Value) (gb : Nat) (ok okp : Nat → Prop) (hs : a.eval s = v) (hx : a.eval x = .slice (some ⟨gb, 0, none⟩) 1 1) (hgb : W.heap[gb]? = some (.cells cs.toArray e (0, 0))) (hp : d.M W base okp p cs) (hokp : ∀ k, okp k → ok k ∧ some k ≠ v.ownBlock) (hfresh : ∀ k, W.heap.size ≤ k → ok k)
  (HO : Kd.S d e W base (fun k => ok k ∧ ¬ okp k) v xs) (HB : Below base w0 W) (hbase : base ≤ W.heap.size) (hl : (xs.length + 1) * bytes ≤ 140737488355328)
  (h : ∀ v1 w1, Kd.S d e w1 base ok v1 (xs ++ [p]) → Below base w0 w1 → W.grownBy w1 v.ownBlock → (v1.ownBlock = v.ownBlock ∨ ∃ b, v1.ownBlock = some b ∧ W.heap.size ≤ b) → Kc (a.put o.dst v1) w1) :
  if Region.wanted o (yielded ops a.tmps) = true then Oper.wp P o a W Kc Q else Kc (a.put o.dst undef) W := by
 obtain ⟨f, hf, hR⟩ := Kd.S_tag HO xs.length okp (fun _ hk h2 => h2.2 hk)
 refine R_append_at_step (Kd.tag f d) base hw s x t e z bytes ho ht hinfo hz hs0 hb0 v xs.zipIdx (p, xs.length) cs gb ok okp hs hx hgb (d.M_mono (fun k hk => ⟨hk, hf k hk⟩) hp) hokp hfresh (Kd.R_mono hR (fun _ hk => hk.1)) HB hbase (by rw [List.length_zipIdx]; exact hl) ?_
 intro v1 w1 hr
 rw [← Kd.zip_snoc] at hr
 exact h v1 w1 ⟨f, hr⟩
end
section
variable {P : Program} {ops : Array Oper} {Q : Exit → Act → World → Prop} {md : Region.Mode} {S : World → Prop} {ds : List Nat}
theorem invToD_ {a : Act} {w : World} {l : Array Bool} {fuel : Nat} (lT : Array Bool) (Inv : Act → Array Bool → Act → World → Prop) (h0 : Inv a l a w) (hc : cntF l ≤ fuel) (hS : ∀ l' a' w', Inv a l' a' w' → S w')
  (hnr : ∀ l' a' w', Inv a l' a' w' → l' ≠ lT → Region.ready md ops l' ≠ [])
  (hstep : ∀ l' a' w', Inv a l' a' w' → l' ≠ lT → ∀ i ∈ Region.ready md ops l', ∀ o, ops[i]? = some o → ∀ K' : Act → World → Prop, (∀ a'' w'', Inv a (l'.setIfInBounds i true) a'' w'' → K' a'' w'') →
   if Region.wanted o (yielded ops a'.tmps) = true then Oper.wp P o a' w' K' Q else K' (a'.put o.dst undef) w')
  (hcont : ∀ fuel a' w', cntF lT ≤ fuel → Inv a lT a' w' → wpAnyLast P md ops Q S ds fuel lT a' w') :
  wpAnyLast P md ops Q S ds fuel l a w := by
 suffices h : ∀ n l' a' w', cntF l' = n → Inv a l' a' w' → ∀ f, cntF l' ≤ f → wpAnyLast P md ops Q S ds f l' a' w' from h _ l a w rfl h0 fuel hc
 intro n
 induction n using Nat.strongRecOn with
 | _ n ih =>
  intro l' a' w' hn hi f hf
  by_cases e : l' = lT
  ·subst e; exact hcont f a' w' hf hi
  ·cases f with
   | zero =>
    refine absurd (List.eq_nil_iff_forall_not_mem.2 fun i h => ?_) (hnr l' a' w' hi e)
    have := cntF_set (mem_ready.1 h).1
    omega
   | succ f =>
    refine ⟨fun h => absurd h (hnr l' a' w' hi e), fun i h => ?_⟩
    obtain ⟨h0, o, ho, _⟩ := mem_ready.1 h
    have hs := cntF_set h0
    exact wpOp_step ho fun K' hK => hstep l' a' w' hi e i h o ho K' (fun a'' w'' h1 => hK a'' w'' ⟨fun _ _ => hS _ _ _ h1, ih (cntF (l'.setIfInBounds i true)) (by omega) _ a'' w'' rfl h1 f (by omega)⟩)
end
def putI (nodes : List S36) (parts : List Int) (y : S36) : (List S36 × List Int) × Int :=
 if 0 ≤ findN nodes parts y then ((nodes, parts), findN nodes parts y) else if nodes.length = 120 then ((nodes, parts), -1) else ((nodes ++ [y], parts ++ [(nodes.length : Int)]), (nodes.length : Int))
theorem putI_found {nodes : List S36} {parts : List Int} {y : S36} (h : 0 ≤ findN nodes parts y) : putI nodes parts y = ((nodes, parts), findN nodes parts y) := if_pos h
theorem putI_full {nodes : List S36} {parts : List Int} {y : S36} (h : ¬ 0 ≤ findN nodes parts y) (h2 : nodes.length = 120) : putI nodes parts y = ((nodes, parts), -1) := (if_neg h).trans (if_pos h2)
theorem putI_new {nodes : List S36} {parts : List Int} {y : S36} (h : ¬ 0 ≤ findN nodes parts y) (h2 : nodes.length ≠ 120) : putI nodes parts y = ((nodes ++ [y], parts ++ [(nodes.length : Int)]), (nodes.length : Int)) := (if_neg h).trans (if_neg h2)
end Go.Proofs.Ytlnejmlphkpaaaa.PA
end
