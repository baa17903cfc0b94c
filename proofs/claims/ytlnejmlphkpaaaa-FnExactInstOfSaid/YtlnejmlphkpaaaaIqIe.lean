/- The graph seat: impl.treeOf by hand. -/
import Derived.Test.YtlnejmlphkpaaaaIqId
namespace Go.Proofs.Ytlnejmlphkpaaaa.PA
open Go.RowKit Go.Proofs.YtlnejmlphkpaaaaW.PrintWords Go.Proofs.YtlnejmlphkpaaaaW.PrintLast Go.Proofs.YtlnejmlphkpaaaaW.PrintMore
set_option linter.unusedVariables false
set_option linter.unusedSimpArgs false
def TreeP (w w' : World) (t : List S125) (p : Option Addr) : Prop := match treeT t with
 | none => p = none
 | some T => TreeF w' (fun k => w.heap.size ≤ k) T p
theorem TreeP.none {w w' : World} {t : List S125} {p : Option Addr} (h : treeT t = none) (hp : TreeP w w' t p) : p = none := by unfold TreeP at hp; rw [h] at hp; exact hp
theorem TreeP.some {w w' : World} {t : List S125} {p : Option Addr} {T : Tm} (h : treeT t = some T) (hp : TreeP w w' t p) : TreeF w' (fun k => w.heap.size ≤ k) T p := by unfold TreeP at hp; rw [h] at hp; exact hp
theorem TreesP.none {w w' : World} {t : List S125} {v : Value} (h : treeT t = none) (hp : TreesP w w' t v) : v = .slice none 0 0 := by unfold TreesP at hp; rw [h] at hp; exact hp
theorem TreesP.some {w w' : World} {t : List S125} {v : Value} {T : Tm} (h : treeT t = some T) (hp : TreesP w w' t v) : ∃ (a : Addr) (c' : Nat) (qs : List (Option Addr)) (p : Option Addr), v = .slice (some a) qs.length c' ∧ qs.length = t.length ∧ Kd.C kPtr w' (some a) qs.length qs ∧ qs.getLast? = some p ∧ TreeF w' (fun k => w.heap.size ≤ k) T p := by unfold TreesP at hp; rw [h] at hp; exact hp
theorem TreeF_some {W : World} {ok : Nat → Prop} {T : Tm} {p : Option Addr} (h : TreeF W ok T p) : ∃ g, p = some ⟨g, 0, none⟩ := by
 cases T with
 | node op n ks =>
  rw [TreeF] at h
  obtain ⟨g, A, c, ps, hp, _⟩ := h
  exact ⟨g, hp⟩
set_option maxHeartbeats 8000000 in
set_option maxRecDepth 100000 in
theorem treeOf_any (t : List S125) {A : Option Addr} {c : Nat} (w : World) (h : Kd.C k125 w A t.length t) (hc : t.length ≤ c) :
  Calls Try.prog 98 #[.slice A t.length c] w fun e w' => ∃ p : Option Addr, e = .returned (.pointer p) ∧ Below w.heap.size w w' ∧ TreeP w w' t p := by
 have T143 := Aside0.mk (trees_any t w h hc)
 have hnil := @Lib.run_eql_slice_nil Try.prog
 cases ht : treeT t with
 | none =>
  have HN := Aside0.mk ht
  clear ht h hc
  go_enter Try.func98, Try.ntmps98
  go_wp2_with (go_at_call 143; refine T143.out.mono ?_; rintro e w1 ⟨v, rfl, hb, hp⟩; obtain rfl := TreesP.none HN.out hp; have HB := Aside0.mk hb; clear hb hp)
  go_ret
  exact ⟨_, rfl, HB.out, by unfold TreeP; rw [HN.out]⟩
 | some T =>
  have HN := Aside0.mk ht
  clear ht h hc
  go_enter Try.func98, Try.ntmps98
  go_wp2_with (go_at_call 143; refine T143.out.mono ?_; rintro e w1 ⟨v, rfl, hb, hp⟩; obtain ⟨a, c', qs, p, rfl, hq, hC, hl, hT⟩ := TreesP.some HN.out hp; have HB := Aside0.mk hb; have HT := Aside0.mk hT; have hq0 : 0 < qs.length := (by cases qs with | nil => cases hl | cons x y => exact Nat.succ_pos _); obtain ⟨ad, ea, hx⟩ := at_ptr hC ((qs.length : Int) - 1) (by omega) (by omega); obtain rfl := Option.some.inj ea; have e1 : ((qs.length : Int) - 1).toNat = qs.length - 1 := (by omega); have e2 : qs.getD (qs.length - 1) none = p := (by rw [List.getLast?_eq_getElem?] at hl; rw [List.getD_eq_getElem?_getD, hl]; rfl); rw [e1, e2] at hx; have hmax := Kd.C_max hC; obtain ⟨nq, hnq⟩ : ∃ n, n = qs.length := ⟨_, rfl⟩; rw [← hnq] at hx hmax hq0 ⊢; clear hb hp hq hC hl hT ea e1 e2 hnq; have hw1 : IntKind.i64.wrap ((nq : Int) - 1) = ((nq - 1 : Nat) : Int) := (by rw [i64_w]; unfold wrap64; omega); have p1 := eq_true (show (0 : Int) ≤ ((nq - 1 : Nat) : Int) by omega); have p2 := eq_true (show ((nq - 1 : Nat) : Int) < (nq : Int) by omega))
  go_ret
  exact ⟨_, rfl, HB.out, by unfold TreeP; rw [HN.out]; exact HT.out⟩
end Go.Proofs.Ytlnejmlphkpaaaa.PA
