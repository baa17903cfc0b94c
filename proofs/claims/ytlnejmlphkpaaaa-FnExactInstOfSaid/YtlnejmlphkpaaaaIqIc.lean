/- The graph seat: trees in memory. -/
import Derived.Test.YtlnejmlphkpaaaaIqIb
import Derived.Test.YtlnejmlphkpaaaaIqGk
namespace Go.Proofs.Ytlnejmlphkpaaaa.PA
open Go.RowKit Go.Proofs.YtlnejmlphkpaaaaW.PrintWords Go.Proofs.YtlnejmlphkpaaaaW.PrintLast Go.Proofs.YtlnejmlphkpaaaaW.PrintMore
set_option linter.unusedVariables false
set_option linter.unusedSimpArgs false
abbrev kPtr : Kd (Option Addr) := Kd.scalar Value.pointer (fun _ => rfl)
theorem at_ptr {w : World} {A : Option Addr} {n : Nat} {xs : List (Option Addr)} (h : Kd.C kPtr w A n xs) (i : Int) (h0 : 0 ≤ i) (h1 : i < n) : ∃ ad, A = some ad ∧ w.cell? (ad.add i.toNat) = some (.pointer (xs.getD i.toNat none)) := by
 exact ReadsOf.at_ (Kd.reads_of_C (enc := Value.pointer) (d := (none : Option Addr)) (h1 := fun _ => rfl) h) i h0 h1
theorem info115 : (Try.prog.info? 115).map (fun i => (i.zero, i.size, i.bytes)) = some (some (.pointer none), 1, 8) := by kernel_rfl
mutual
def TreeF (W : World) (ok : Nat → Prop) : Tm → Option Addr → Prop
 | .node op n ks, p => ∃ (g : Nat) (A : Option Addr) (c : Nat) (ps : List (Option Addr)), p = some ⟨g, 0, none⟩ ∧ ok g ∧ W.heap[g]? = some (.cells #[.int .i64 op, .int .i64 n, .slice A ks.length c] 153 (0, 0)) ∧ ks.length ≤ c ∧ Kd.F kPtr W ok A ks.length ps ∧ ForF W ok ks ps
def ForF (W : World) (ok : Nat → Prop) : List Tm → List (Option Addr) → Prop
 | [], ps => ps = []
 | t :: r, ps => ∃ p q, ps = p :: q ∧ TreeF W ok t p ∧ ForF W ok r q
end
mutual
theorem TreeF.step {W W' : World} {ok : Nat → Prop} (hm : ∀ k, ok k → k < W.heap.size → W'.heap[k]? = W.heap[k]?) : ∀ (T : Tm) (p : Option Addr), TreeF W ok T p → TreeF W' ok T p
 | .node op n ks, p, h => by
  rw [TreeF] at h ⊢
  obtain ⟨g, A, c, ps, h1, h2, h3, h4, h5, h6⟩ := h
  exact ⟨g, A, c, ps, h1, h2, (hm g h2 (blk_lt h3)).trans h3, h4, Kd.F_step h5 hm, ForF.step hm ks ps h6⟩
theorem ForF.step {W W' : World} {ok : Nat → Prop} (hm : ∀ k, ok k → k < W.heap.size → W'.heap[k]? = W.heap[k]?) : ∀ (ks : List Tm) (ps : List (Option Addr)), ForF W ok ks ps → ForF W' ok ks ps
 | [], ps, h => by rw [ForF] at h ⊢; exact h
 | t :: r, ps, h => by
  rw [ForF] at h ⊢
  obtain ⟨p, q, h1, h2, h3⟩ := h
  exact ⟨p, q, h1, TreeF.step hm t p h2, ForF.step hm r q h3⟩
end
mutual
theorem TreeF.imp {W : World} {ok ok' : Nat → Prop} (hm : ∀ k, ok k → k < W.heap.size → ok' k) : ∀ (T : Tm) (p : Option Addr), TreeF W ok T p → TreeF W ok' T p
 | .node op n ks, p, h => by
  rw [TreeF] at h ⊢
  obtain ⟨g, A, c, ps, h1, h2, h3, h4, h5, h6⟩ := h
  exact ⟨g, A, c, ps, h1, hm g h2 (blk_lt h3), h3, h4, Kd.F_mono (Kd.F_bound h5) (fun k hk => hm k hk.1 hk.2), ForF.imp hm ks ps h6⟩
theorem ForF.imp {W : World} {ok ok' : Nat → Prop} (hm : ∀ k, ok k → k < W.heap.size → ok' k) : ∀ (ks : List Tm) (ps : List (Option Addr)), ForF W ok ks ps → ForF W ok' ks ps
 | [], ps, h => by rw [ForF] at h ⊢; exact h
 | t :: r, ps, h => by
  rw [ForF] at h ⊢
  obtain ⟨p, q, h1, h2, h3⟩ := h
  exact ⟨p, q, h1, TreeF.imp hm t p h2, ForF.imp hm r q h3⟩
end
theorem ForF_len : ∀ {W : World} {ok : Nat → Prop} (ks : List Tm) (ps : List (Option Addr)), ForF W ok ks ps → ps.length = ks.length
 | W, ok, [], ps, h => by rw [ForF] at h; rw [h]; rfl
 | W, ok, t :: r, ps, h => by
  rw [ForF] at h
  obtain ⟨p, q, rfl, h1, h2⟩ := h
  rw [List.length_cons, List.length_cons, ForF_len r q h2]
theorem ForF_app : ∀ {W : World} {ok : Nat → Prop} (a b : List Tm) (ps : List (Option Addr)), ForF W ok (a ++ b) ps ↔ ForF W ok a (ps.take a.length) ∧ ForF W ok b (ps.drop a.length) ∧ a.length ≤ ps.length
 | W, ok, [], b, ps => by simp [ForF]
 | W, ok, t :: r, b, ps => by
  rw [List.cons_append, ForF, ForF]
  constructor
  ·rintro ⟨p, q, rfl, h1, h2⟩
   have h3 := (ForF_app r b q).1 h2
   exact ⟨⟨p, q.take r.length, by simp, h1, h3.1⟩, by simpa using h3.2.1, by simpa using h3.2.2⟩
  ·rintro ⟨⟨p, q, e, h1, h2⟩, h3, h4⟩
   match ps, h4 with
   | p' :: q', h4 =>
    simp only [List.length_cons, List.take_succ_cons, List.cons.injEq] at e
    obtain ⟨rfl, rfl⟩ := e
    exact ⟨p', q', rfl, h1, (ForF_app r b q').2 ⟨h2, by simpa using h3, by simpa using h4⟩⟩
theorem ForF_at {W : World} {ok : Nat → Prop} {ks : List Tm} {ps : List (Option Addr)} (h : ForF W ok ks ps) (i : Nat) (hi : i < ks.length) : TreeF W ok ks[i] (ps.getD i none) := by
 have e : ks = ks.take i ++ ks[i] :: ks.drop (i + 1) := by rw [← List.drop_eq_getElem_cons hi, List.take_append_drop]
 rw [e, ForF_app] at h
 obtain ⟨h1, h2, h3⟩ := h
 have hl : (ks.take i).length = i := by rw [List.length_take]; omega
 rw [hl] at h2 h3
 rw [ForF] at h2
 obtain ⟨p, q, e2, h4, _⟩ := h2
 have : ps.getD i none = p := by
  have h5 : ps[i]? = some p := by
   have := congrArg (fun l => l[0]?) e2
   simpa using this
  rw [List.getD_eq_getElem?_getD, h5]
  rfl
 rw [this]
 exact h4
set_option maxHeartbeats 8000000 in
set_option maxRecDepth 100000 in
theorem clonePtr_any (A0 : Option Addr) (c0 : Nat) (l0 : List (Option Addr)) (w : World) (hr0 : Kd.C kPtr w A0 l0.length l0) (c2 : l0.length < 17592186044416) :
  Calls Try.prog 157 #[.slice A0 l0.length c0] w fun e w' => ∃ v0_ : Value, e = .returned (v0_) ∧ Kd.R kPtr 115 w' w.heap.size (fun _ => True) v0_ l0 ∧ Below w.heap.size w w' := by
 have HR0 := Aside0.mk hr0
 clear hr0
 have HB := Aside0.mk (Below.refl w.heap.size w)
 have LMc2 := Aside0.mk c2
 clear c2
 have hnil := @Lib.run_eql_slice_nil Try.prog
 rcases A0 with _ | ad
 ·have hz : l0 = [] := by
   rcases l0 with _ | ⟨x, xs⟩
   ·rfl
   ·obtain ⟨ad, e, _⟩ := HR0.out.2.2 (by simp)
    cases e
  subst hz
  have hq : ∀ W, (binOp .eql 150 (.slice none 0 c0) (.slice none 0 0)).run Try.prog W = .ok (.bool true) W := fun W => hnil W 150 115 none 0 c0 0 0 Try.underlying150
  clear hnil
  go_enter Try.func157, Try.ntmps157
  go_wp2
  go_ret
  exact ⟨_, rfl, Kd.R_nil _ _ _ _ _, HB.out⟩
 ·have hq : ∀ W, (binOp .eql 150 (.slice (some ad) l0.length c0) (.slice none 0 0)).run Try.prog W = .ok (.bool false) W := fun W => hnil W 150 115 (some ad) _ c0 0 0 Try.underlying150
  clear hnil
  go_enter Try.func157, Try.ntmps157
  go_wp2_with (first | ((with_reducible refine gate_dst (N := 5) rfl ?_); refine Kd.R_lit kPtr _ 115 ?hg (N := 5) ?hd (xs := ([] : List (Option Addr))) (inner := []) (ok := fun _ => True) (okp := fun _ => True) ?hr ?hp (fun _ hk => hk) trivial (Below.refl _ _) (Nat.le_refl _) (by simp) ?_; (case hd => rfl); (case hg => rfl); (case hr => first | (go_simp; done) | (go_simp; rfl)); (case hp => exact (Reps.none _ _)); intro v167 w3 ho4 hb hg_ hnew_; clear hg_ hnew_; have n0_ := Aside0.mk (Kd.R_lower ho4 (below_size HB.out)); have n1_ := Aside0.mk (below_step HB.out hb); clear HB; have HO168 := n0_; have HB := n1_; clear n0_ n1_; clear hb ho4) | ((with_reducible refine gate_builtin (b := .append) (xs := #[.tmp 5, .tmp 6]) rfl ?_); at_builtin; refine Kd.R_append_rows kPtr (w0 := w) w.heap.size rfl (.tmp 5) (.tmp 6) 150 115 (.pointer none) 8 rfl Try.underlying150 info115 rfl (by decide) (by omega) v167 [] l0 _ _ _ (fun _ => True) (fun _ => False) rfl rfl ?aO ?aR (fun _ _ h => h) (fun _ h => h.elim) ?aF ?aB ?aS ?aL ?_; (case aR => exact (Kd.C_below HR0.out HB.out)); (case aB => exact HB.out); (case aF => exact (fun _ _ => trivial)); (case aO => exact HO168.out); (case aS => exact (below_size HB.out)); (case aL => have := LMc2.out; simp only [List.length_nil]; omega); intro v170 w5 ho hb hg hat; have n0_ := Aside0.mk (hb); have n1_ := Aside0.mk (ho); clear HB; clear HO168; have HB := n0_; have HO171 := n1_; clear n0_ n1_; clear ho hb hg hat))
  go_ret
  exact ⟨_, rfl, by simpa using HO171.out, HB.out⟩
end Go.Proofs.Ytlnejmlphkpaaaa.PA
