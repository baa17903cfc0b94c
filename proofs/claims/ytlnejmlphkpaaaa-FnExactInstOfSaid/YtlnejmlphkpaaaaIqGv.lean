/- The graph seat: marking a row of nodes, and finding the marks again. -/
import Derived.Test.YtlnejmlphkpaaaaIqGn
import Derived.Test.YtlnejmlphkpaaaaIqPAx6
import Derived.Test.YtlnejmlphkpaaaaIqPAx7
namespace Go.Proofs.Ytlnejmlphkpaaaa.PA
open Go.RowKit Go.Proofs.YtlnejmlphkpaaaaW.PrintWords Go.Proofs.YtlnejmlphkpaaaaW.PrintLast Go.Proofs.YtlnejmlphkpaaaaW.PrintMore
set_option linter.unusedVariables false
set_option linter.unusedSimpArgs false
def mI (n : Nat) (k : Int) : List Int := (List.range n).map fun (j : Nat) => k + (j : Int)
theorem mI_len (n : Nat) (k : Int) : (mI n k).length = n := by simp [mI]
def mX (x : S36) (k : Int) : S36 := ⟨k, k + 1, mI x.f2.length (k + 2)⟩
def mN : List S36 → Int → List S36
 | [], _ => []
 | x :: r, k => mX x k :: mN r (k + 2 + (x.f2.length : Int))
def eN : List S36 → Int → Int
 | [], k => k
 | x :: r, k => eN r (k + 2 + (x.f2.length : Int))
theorem mN_len : ∀ (l : List S36) (k : Int), (mN l k).length = l.length
 | [], _ => rfl
 | x :: r, k => by rw [mN, List.length_cons, List.length_cons, mN_len r]
theorem mN_app : ∀ (a b : List S36) (k : Int), mN (a ++ b) k = mN a k ++ mN b (eN a k)
 | [], _, _ => rfl
 | x :: r, b, k => by rw [List.cons_append, mN, mN, eN, List.cons_append, mN_app r]
theorem eN_app : ∀ (a b : List S36) (k : Int), eN (a ++ b) k = eN b (eN a k)
 | [], _, _ => rfl
 | x :: r, b, k => by rw [List.cons_append, eN, eN, eN_app r]
theorem eN_le : ∀ (l : List S36) (k : Int), (∀ y ∈ l, y.f2.length ≤ 1048576) → k ≤ eN l k ∧ eN l k ≤ k + 1048578 * (l.length : Int)
 | [], k, _ => by simp [eN]
 | x :: r, k, h => by
  have h1 := h x (List.mem_cons_self ..)
  have h2 := eN_le r (k + 2 + (x.f2.length : Int)) (fun y hy => h y (List.mem_cons_of_mem _ hy))
  rw [eN, List.length_cons]
  omega
theorem markI_l0 (l : List Int) (q : Int) (h0 : 0 ≤ q) (h1 : q ≤ 4000000000000000000) (hl : l.length ≤ 1048576) : ∀ (d i : Nat), l.length - i = d → i ≤ l.length → Ev (fun k => laws_markIntS.l0 k (mI i q ++ l.drop i) (q + (i : Int)) (i : Int)) (q + (l.length : Int), mI l.length q)
 | 0, i, hd, hi => by
  obtain rfl : i = l.length := by omega
  refine Ev.step (f := fun _ => some (q + (l.length : Int), mI l.length q)) (fun k => ?_) (Ev.now _)
  simp only [laws_markIntS.l0]
  rw [List.drop_of_length_le (Nat.le_refl _), List.append_nil, mI_len, if_neg (by omega)]
 | d + 1, i, hd, hi => by
  have h : i < l.length := by omega
  refine Ev.step (fun k => ?_) (markI_l0 l q h0 h1 hl d (i + 1) (by omega) (by omega))
  simp only [laws_markIntS.l0]
  have e : (mI i q ++ l.drop i).set i (q + (i : Int)) = mI (i + 1) q ++ l.drop (i + 1) := by
   rw [List.set_append_right _ _ (by rw [mI_len]; exact Nat.le_refl _), mI_len, Nat.sub_self, List.drop_eq_getElem_cons h, List.set_cons_zero, mI, mI, List.range_succ, List.map_append, List.append_assoc]
   rfl
  have e2 : wrap64 (q + (i : Int) + 1) = q + ((i + 1 : Nat) : Int) := by unfold wrap64; omega
  rw [if_pos (by rw [List.length_append, mI_len, List.length_drop]; omega), if_pos (by omega), Int.toNat_natCast, e, e2, wnext64 i l.length h (by omega)]
theorem markI_f (l : List Int) (q : Int) (h0 : 0 ≤ q) (h1 : q ≤ 4000000000000000000) (hl : l.length ≤ 1048576) : Ev (fun k => laws_markIntS.f k l q) (q + (l.length : Int), mI l.length q) := by
 have := markI_l0 l q h0 h1 hl _ 0 rfl (Nat.zero_le _)
 refine Ev.congr (fun k => ?_) this
 show laws_markIntS.l0 k l q 0 = _
 simp [mI]
theorem heldI_l0 (n : Nat) (q : Int) (h0 : 0 ≤ q) (h1 : q ≤ 4000000000000000000) (hn : n ≤ 1048576) : ∀ (d i : Nat), n - i = d → i ≤ n → Ev (fun k => laws_heldIntS.l0 k (mI n q) (q + (i : Int)) (i : Int)) (q + (n : Int))
 | 0, i, hd, hi => by
  obtain rfl : i = n := by omega
  exact Ev.step (f := fun _ => some (q + (i : Int))) (fun k => by simp only [laws_heldIntS.l0]; rw [mI_len, if_neg (by omega)]) (Ev.now _)
 | d + 1, i, hd, hi => by
  have h : i < n := by omega
  have hr : rd (mI n q) (i : Int) = q + (i : Int) := by simp [rd, mI, List.getD_eq_getElem?_getD, h]
  have e2 : wrap64 (q + (i : Int) + 1) = q + ((i + 1 : Nat) : Int) := by unfold wrap64; omega
  refine Ev.step (fun k => ?_) (heldI_l0 n q h0 h1 hn d (i + 1) (by omega) (by omega))
  simp only [laws_heldIntS.l0]
  rw [mI_len, if_pos (by omega), if_pos (by omega), if_pos hr, e2, wnext64 i n h (by omega)]
theorem heldI_f (n : Nat) (q : Int) (h0 : 0 ≤ q) (h1 : q ≤ 4000000000000000000) (hn : n ≤ 1048576) : Ev (fun k => laws_heldIntS.f k (mI n q) q) (q + (n : Int)) := by
 refine Ev.congr (fun k => ?_) (heldI_l0 n q h0 h1 hn _ 0 rfl (Nat.zero_le _))
 show laws_heldIntS.l0 k (mI n q) q 0 = _
 simp
theorem heldN_l0 (l : List S36) (q : Int) (h0 : 0 ≤ q) (h1 : q ≤ 1000000) (hl : l.length ≤ 1048576) (hk : ∀ y ∈ l, y.f2.length ≤ 1048576) : ∀ (d i : Nat), l.length - i = d → i ≤ l.length → Ev (fun k => laws_heldENodeS.l0 k (mN l q) (eN (l.take i) q) (i : Int)) (eN l q)
 | 0, i, hd, hi => by
  obtain rfl : i = l.length := by omega
  refine Ev.step (f := fun _ => some (eN l q)) (fun k => ?_) (Ev.now _)
  simp only [laws_heldENodeS.l0]
  rw [mN_len, if_neg (by omega), List.take_length]
 | d + 1, i, hd, hi => by
  have h : i < l.length := by omega
  have hb := eN_le (l.take i) q (fun y hy => hk y (List.mem_of_mem_take hy))
  have hlt : ((l.take i).length : Int) ≤ 1048576 := by rw [List.length_take]; omega
  have e1 : l.take (i + 1) = l.take i ++ [l[i]] := by rw [List.take_succ_eq_append_getElem h]
  have e2 : eN (l.take (i + 1)) q = eN (l.take i) q + 2 + (l[i].f2.length : Int) := by rw [e1, eN_app]; rfl
  have hel : rd_T36 (mN l q) (i : Int) = mX l[i] (eN (l.take i) q) := by
   rw [rdN_at (mN l q) i (by rw [mN_len]; exact h)]
   have hs : mN l q = mN (l.take i) q ++ mX l[i] (eN (l.take i) q) :: mN (l.drop (i + 1)) (eN (l.take i) q + 2 + (l[i].f2.length : Int)) := by
    have h3 : l = l.take i ++ l[i] :: l.drop (i + 1) := by rw [← List.drop_eq_getElem_cons h, List.take_append_drop]
    conv => lhs; rw [h3, mN_app]
    rfl
   have h4 : (mN (l.take i) q).length = i := by rw [mN_len, List.length_take]; omega
   simp only [hs]
   rw [List.getElem_append_right (by omega)]
   simp [h4]
  have hki := hk l[i] (List.getElem_mem h)
  generalize eN (l.take i) q = z at hb e2 hel
  have hz : 0 ≤ z ∧ z ≤ 2000000000000000000 := by omega
  have w1 : wrap64 (z + 1) = z + 1 := by unfold wrap64; omega
  have w2 : wrap64 (z + 1 + 1) = z + 2 := by unfold wrap64; omega
  have ih := heldN_l0 l q h0 h1 hl hk d (i + 1) (by omega) (by omega)
  rw [e2] at ih
  refine Ev.step (f := fun k => (laws_heldIntS.f k (mI l[i].f2.length (z + 2)) (z + 2)).bind fun t => (if t < 0 then (some (-1)) else (laws_heldENodeS.l0 k (mN l q) t ((i + 1 : Nat) : Int)))) (fun k => ?_) (Ev.bind (heldI_f _ _ (by omega) (by omega) hki) (Ev.congr (fun k => by rw [if_neg (by omega)]) ih))
  simp only [laws_heldENodeS.l0]
  have hf0 : (rd_T36 (mN l q) (i : Int)).f0 = z := by rw [hel]; rfl
  have hf1 : (rd_T36 (mN l q) (i : Int)).f1 = z + 1 := by rw [hel]; rfl
  have hf2 : (rd_T36 (mN l q) (i : Int)).f2 = mI l[i].f2.length (z + 2) := by rw [hel]; rfl
  rw [mN_len, if_pos (by omega), if_pos (by omega), if_pos hf0, if_pos (hf1.trans w1.symm), w1, w2, hf2, wnext64 i l.length h (by omega)]
theorem heldG_f (l : List S36) (p : Nat) (hl : l.length ≤ 1048576) (hk : ∀ y ∈ l, y.f2.length ≤ 1048576) (hp : p ≤ 1048576) : Ev (fun k => laws_heldEGraph.f k (mN l 1) (mI p (eN l 1)) 1) (eN l 1 + (p : Int)) := by
 have hb := eN_le l 1 hk
 have h1 : Ev (fun k => laws_heldENodeS.f k (mN l 1) 1) (eN l 1) := by
  have := heldN_l0 l 1 (by omega) (by omega) hl hk l.length 0 rfl (Nat.zero_le _)
  exact Ev.congr (fun k => rfl) this
 refine Ev.congr (fun k => rfl) (Ev.bind h1 (Ev.congr (f := fun k => (laws_heldIntS.f k (mI p (eN l 1)) (eN l 1)).bind fun t => (if t < 0 then (some (-1)) else (some t))) (fun k => by rw [if_neg (by omega)]) (Ev.bind (heldI_f p _ (by omega) (by omega) hp) (Ev.congr (f := fun _ => some (eN l 1 + (p : Int))) (fun k => by rw [if_neg (by omega)]) (Ev.now _)))))
theorem markI_any {w0 w : World} {P : Nat → Prop} {u : Value} (l : List Int) (q : Int) (h0 : 0 ≤ q) (h1 : q ≤ 4000000000000000000) (hl : l.length ≤ 1048576) (hB : Below w0.heap.size w0 w) (ho : (Kd.int .i64).R 3 w w0.heap.size P u l) :
  Calls Try.prog 54 #[u, .int .i64 q] w fun e w' => e = .returned (.int .i64 (q + (l.length : Int))) ∧ (Kd.int .i64).R 3 w' w0.heap.size P u (mI l.length q) ∧ Below w0.heap.size w0 w' ∧ Kept w w' P := by
 obtain ⟨k, hk⟩ := Ev.rounds (markI_f l q h0 h1 hl)
 exact (laws_markIntS.calls k P u l q _ _ w0 w hB ho hk).mono fun e w' h => ⟨h.1, ⟨ho.1, h.2.1.2.imp_ (fun _ _ hp => hp)⟩, h.2.2.1, h.2.2.2⟩
theorem heldG_any {w : World} {A0 A1 : Option Addr} {c0 c1 : Nat} (l : List S36) (p : Nat) (hl : l.length ≤ 1048576) (hk : ∀ y ∈ l, y.f2.length ≤ 1048576) (hp : p ≤ 1048576) (h0 : Kd.C k36 w A0 l.length (mN l 1)) (hc0 : l.length ≤ c0) (h1 : Kd.C (Kd.int .i64) w A1 p (mI p (eN l 1))) (hc1 : p ≤ c1) :
  Calls Try.prog 20 #[.agg #[.slice A0 l.length c0, .slice A1 p c1], .int .i64 1] w fun e w' => e = .returned (.int .i64 (eN l 1 + (p : Int))) ∧ Below w.heap.size w w' := by
 obtain ⟨k, hkk⟩ := Ev.rounds (heldG_f l p hl hk hp)
 have h := laws_heldEGraph.calls k A0 c0 (mN l 1) A1 c1 (mI p (eN l 1)) 1 _ w (by rw [mN_len]; exact h0) (by rw [mN_len]; exact hc0) (by rw [mI_len]; exact h1) (by rw [mI_len]; exact hc1) hkk
 rwa [mN_len, mI_len] at h
section
variable {W : World} {B n c i g : Nat} {P oki : Nat → Prop} {A : Option Addr} {L : List S36}
theorem node_lend (hs : Kd.S k36 36 W B P (.slice A n c) L) (hi : i < n) : ∃ (g : Nat) (cells : Array Value) (oki : Nat → Prop) (A2 : Option Addr) (c2 : Nat), A = some ⟨g, 0, none⟩ ∧ P g ∧ B ≤ g ∧ W.heap[g]? = some (.cells cells 36 (0, 0)) ∧ cells[i * 3]? = some (.int .i64 (L.getD i z36).f0) ∧ cells[i * 3 + 1]? = some (.int .i64 (L.getD i z36).f1) ∧ cells[i * 3 + 2]? = some (.slice A2 (L.getD i z36).f2.length c2) ∧ (Kd.int .i64).R 3 W B oki (.slice A2 (L.getD i z36).f2.length c2) (L.getD i z36).f2 ∧ (∀ k, oki k → P k ∧ k ≠ g) ∧ Kd.H k36 36 W B P (.slice (some ⟨g, 0, none⟩) n c) L (i : Int) oki [.int .i64 (L.getD i z36).f0, .int .i64 (L.getD i z36).f1, .slice A2 (L.getD i z36).f2.length c2] := by
 have hn := (Kd.S_reads' hs).1
 obtain ⟨g, cap, eA, hg1, hg2, cells, hcells⟩ := Kd.S_form hs (by omega)
 rw [← hn] at eA
 simp only [Value.slice.injEq] at eA
 obtain ⟨rfl, _, rfl⟩ := eA
 obtain ⟨oki, cc, hcl, hM, hcc, hfr, hoki, hH⟩ := Kd.S_elem hs z36 (i : Int) (by omega) (by omega)
 rw [Int.toNat_natCast] at hM
 obtain ⟨v2, rfl, hR⟩ := k36_openM hM
 obtain ⟨A2, c2, rfl⟩ := Kd.R_slice hR
 have e : ∀ j, (i : Int).toNat * k36.sz + j = i * 3 + j := fun j => by rw [Int.toNat_natCast]; rfl
 refine ⟨g, cells, oki, A2, c2, rfl, (Kd.S_R hs).1 g (by simp [Value.ownBlock]), hg1, hcells, ?_, ?_, ?_, hR, hoki, hH⟩
 ·have h := hcc 0 _ rfl
  rw [e, blk_cell hcells] at h
  exact h
 ·have h := hcc 1 _ rfl
  rw [e, blk_cell hcells] at h
  exact h
 ·have h := hcc 2 _ rfl
  rw [e, blk_cell hcells] at h
  exact h
theorem node_mark {f0 f1 : Value} {v2 : Value} (hH : Kd.H k36 36 W B P (.slice (some ⟨g, 0, none⟩) n c) L (i : Int) oki [f0, f1, v2]) (hi : i < n) {l : List Int} (hR : (Kd.int .i64).R 3 W B oki v2 l) (a b : Int) :
  Kd.S k36 36 ((W.setCell ⟨g, i * 3, none⟩ (.int .i64 a)).setCell ⟨g, i * 3 + 1, none⟩ (.int .i64 b)) B P (.slice (some ⟨g, 0, none⟩) n c) (L.set i ⟨a, b, l⟩) := by
 have h3 : Kd.H k36 36 W B (fun k => P k ∧ ¬ False) (.slice (some ⟨g, 0, none⟩) n c) L (i : Int) oki [f0, f1, v2] := Kd.H_mono hH (fun k hk => ⟨hk, fun h => h⟩)
 have h4 := Kd.S_seg (okg := fun _ => False) (seg := [.int .i64 a, .int .i64 b]) (j := 0) (x' := ⟨a, b, l⟩) (okp := oki) h3 (by omega) (by omega) (show 0 + 2 ≤ 3 by decide) (k36_mkM _ _ _ ⟨a, b, l⟩ hR) (fun k hk => .inl hk) (fun k hk => hk.elim)
 have e : (i : Int).toNat * k36.sz + 0 = i * 3 := by rw [Int.toNat_natCast]; rfl
 rw [e, Int.toNat_natCast] at h4
 exact h4.1
theorem node_back {a b : Int} {v2 : Value} (hH : Kd.H k36 36 W B P (.slice (some ⟨g, 0, none⟩) n c) L (i : Int) oki [.int .i64 a, .int .i64 b, v2]) (hi : i < n) {l : List Int} (hR : (Kd.int .i64).R 3 W B oki v2 l) :
  Kd.S k36 36 W B P (.slice (some ⟨g, 0, none⟩) n c) (L.set i ⟨a, b, l⟩) := by
 have h3 : Kd.H k36 36 W B (fun k => P k ∧ ¬ False) (.slice (some ⟨g, 0, none⟩) n c) L (i : Int) oki [.int .i64 a, .int .i64 b, v2] := Kd.H_mono hH (fun k hk => ⟨hk, fun h => h⟩)
 have h4 := Kd.S_seg (okg := fun _ => False) (seg := []) (j := 0) (x' := ⟨a, b, l⟩) (okp := oki) h3 (by omega) (by omega) (by decide) (k36_mkM _ _ _ ⟨a, b, l⟩ hR) (fun k hk => .inl hk) (fun k hk => hk.elim)
 rw [Int.toNat_natCast] at h4
 exact h4.1
end
set_option maxHeartbeats 4000000 in
set_option maxRecDepth 100000 in
theorem markN_any {w0 w : World} {P : Nat → Prop} {A : Option Addr} {n c : Nat} (nodes : List S36) (k : Int) (h0 : 0 ≤ k) (h1 : k ≤ 1000000) (hn : nodes.length = n) (hl : n ≤ 1048576) (hk : ∀ y ∈ nodes, y.f2.length ≤ 1048576) (hB : Below w0.heap.size w0 w) (ho : Kd.S k36 36 w w0.heap.size P (.slice A n c) nodes) :
  Calls Try.prog 69 #[.slice A n c, .int .i64 k] w fun e w' => e = .returned (.int .i64 (eN nodes k)) ∧ Kd.S k36 36 w' w0.heap.size P (.slice A n c) (mN nodes k) ∧ Below w0.heap.size w0 w' ∧ Kept w w' P := by
 have HO := Aside0.mk ho
 have HB := Aside0.mk hB
 have HL := Aside0.mk hl
 have HN := Aside0.mk hn
 have HK := Aside0.mk hk
 have HKK := Aside0.mk (And.intro h0 h1)
 clear h0 h1 hn hk hB ho
 go_enter Try.func69, Try.ntmps69
 go_wp2
 go_loopg [1, 5] n (fun gg s1 s5 wr => ∃ (i : Nat) (q : Int), s5 = .int .i64 (i : Int) ∧ s1 = .int .i64 q ∧ Aside0 (i ≤ n ∧ n - i ≤ gg ∧ q = eN (nodes.take i) k) ∧ Aside0 (Kd.S k36 36 wr w0.heap.size P (.slice A n c) (mN (nodes.take i) k ++ nodes.drop i)) ∧ Aside0 (Below w0.heap.size w0 wr) ∧ Aside0 (Kept w wr P))
 case atStart => exact ⟨0, k, rfl, rfl, ⟨Nat.zero_le _, Nat.le_refl _, rfl⟩, ⟨HO.out⟩, HB, ⟨Kept.refl _ _⟩⟩
 case round =>
  clear HB
  obtain ⟨i, q, rfl, rfl, HA, HS, HB, HP⟩ := hrel
  obtain ⟨wo, rfl⟩ : ∃ wo : World, wo = wr := ⟨_, rfl⟩
  by_cases hlt : i < n
  ·have hi : i < nodes.length := by rw [HN.out]; exact hlt
   have hq := eN_le (nodes.take i) k (fun y hy => HK.out y (List.mem_of_mem_take hy))
   have hlen : ((nodes.take i).length : Int) ≤ 1048576 := by have := HL.out; rw [List.length_take]; omega
   rw [← HA.out.2.2] at hq
   have hq1 : 0 ≤ q := by have := HKK.out; omega
   have hq2 : q ≤ 2000000000000000000 := by have := HKK.out; omega
   obtain ⟨y, hy⟩ : ∃ y, y = nodes[i] := ⟨_, rfl⟩
   have hyl : y.f2.length ≤ 1048576 := by rw [hy]; exact HK.out _ (List.getElem_mem hi)
   obtain ⟨L, hL⟩ : ∃ L, L = mN (nodes.take i) k ++ nodes.drop i := ⟨_, rfl⟩
   have hml : (mN (nodes.take i) k).length = i := by rw [mN_len, List.length_take]; omega
   have hLl : L.length = n := by rw [hL, List.length_append, hml, List.length_drop, HN.out]; omega
   have hLi : L.getD i z36 = y := by
    rw [hL, List.getD_eq_getElem?_getD, List.getElem?_append_right (by omega), hml, Nat.sub_self, List.drop_eq_getElem_cons hi, hy]
    rfl
   have hLs : ∀ y', (L.set i y').set i (mX y q) = mN (nodes.take (i + 1)) k ++ nodes.drop (i + 1) := fun y' => by
    rw [List.set_set, hL, List.set_append_right _ _ (by omega), hml, Nat.sub_self, List.drop_eq_getElem_cons hi, List.set_cons_zero, List.take_succ_eq_append_getElem hi, mN_app, ← HA.out.2.2, ← hy, List.append_assoc]
    rfl
   have hqs : eN (nodes.take (i + 1)) k = q + 2 + (y.f2.length : Int) := by rw [List.take_succ_eq_append_getElem hi, eN_app, ← HA.out.2.2, ← hy]; rfl
   have hs := HS.out
   rw [← hL] at hs
   obtain ⟨g, cells, oki, A2, c2, rfl, hPg, hBg, hcells, hc0, hc1, hc2, hR, hoki, hH⟩ := node_lend hs hlt
   rw [hLi] at hc0 hc1 hc2 hR hH
   have hS2 := node_mark hH hlt hR q (q + 1)
   have hc2' : ((wo.setCell ⟨g, i * 3, none⟩ (.int .i64 q)).setCell ⟨g, i * 3 + 1, none⟩ (.int .i64 (q + 1))).cell? ⟨g, i * 3 + 2, none⟩ = some (.slice A2 y.f2.length c2) := by
    have hb2 := blk_put (blk_put hcells (i * 3) (.int .i64 q) rfl) (i * 3 + 1) (.int .i64 (q + 1)) rfl
    rw [blk_cell hb2, Array.getElem?_setIfInBounds_ne (by omega), Array.getElem?_setIfInBounds_ne (by omega)]
    exact hc2
   obtain ⟨g', cells', oki', A2', c2', e', hPg', hBg', hcells', hc0', hc1', hc2'', hR', hoki', hH'⟩ := node_lend hS2 hlt
   cases e'
   have hgd : (L.set i ⟨q, q + 1, y.f2⟩).getD i z36 = ⟨q, q + 1, y.f2⟩ := by
    rw [List.getD_eq_getElem?_getD, List.getElem?_set_self (by omega)]
    rfl
   rw [hgd] at hc0' hc1' hc2'' hR' hH'
   dsimp only at hc2'' hR' hH'
   rw [blk_cell hcells', hc2''] at hc2'
   simp only [Option.some.injEq, Value.slice.injEq] at hc2'
   obtain ⟨rfl, _, rfl⟩ := hc2'
   have z0 := blk_cell hcells (i * 3)
   have z1 := blk_cell hcells (i * 3 + 1)
   have z2 := blk_cell hcells (i * 3 + 2)
   rw [hc0] at z0
   rw [hc1] at z1
   rw [hc2] at z2
   have f0 := blk_frozen hcells (i * 3)
   have f1 := blk_frozen hcells (i * 3 + 1)
   have HB2 := Aside0.mk (show Below w0.heap.size w0 ((wo.setCell ⟨g, i * 3, none⟩ (.int .i64 q)).setCell ⟨g, i * 3 + 1, none⟩ (.int .i64 (q + 1))) from (HB.out.setCell (p := ⟨g, i * 3, none⟩) hBg _).setCell (p := ⟨g, i * 3 + 1, none⟩) hBg _)
   have HP2 := Aside0.mk (show Kept w ((wo.setCell ⟨g, i * 3, none⟩ (.int .i64 q)).setCell ⟨g, i * 3 + 1, none⟩ (.int .i64 (q + 1))) P from (HP.out.setCell (p := ⟨g, i * 3, none⟩) (.inl hPg) _).setCell (p := ⟨g, i * 3 + 1, none⟩) (.inl hPg) _)
   have T54 := Aside0.mk (markI_any y.f2 (q + 1 + 1) (by omega) (by omega) hyl HB2.out hR')
   have HH := Aside0.mk hH'
   have HOK := Aside0.mk hoki'
   have HLS := Aside0.mk (hLs ⟨q, q + 1, y.f2⟩)
   have HQS := Aside0.mk hqs
   have HLT := Aside0.mk hlt
   clear hS2 hcells hcells' hc0 hc1 hc2 hc0' hc1' hc2'' hR hR' hoki hoki' hH hH' hgd hPg hPg' hBg hBg' hs hLs hqs hLi hLl hml hy hL hi hq hlen hyl
   go_wp2_with (go_at_call 54; refine T54.out.mono ?_; rintro e w9 ⟨rfl, hr9, hb9, hk9⟩; have HR9 := Aside0.mk hr9; have HB9 := Aside0.mk hb9; have HK9 := Aside0.mk hk9; clear hr9 hb9 hk9)
   go_roundg (n - (i + 1))
   case measure => have := HA.out; have := HLT.out; omega
   case rel =>
    refine ⟨i + 1, q + 1 + 1 + (y.f2.length : Int), by go_num, rfl, ⟨by have := HLT.out; omega, Nat.le_refl _, by rw [HQS.out]; omega⟩, ⟨?_⟩, HB9, ⟨HP2.out.then_ HK9.out (fun k hk => .inl (HOK.out k hk).1)⟩⟩
    have h := node_back (Kd.H_kept HH.out HK9.out (fun k _ h1 h2 => h1 h2)) HLT.out HR9.out
    have e9 : (⟨q, q + 1, mI y.f2.length (q + 1 + 1)⟩ : S36) = mX y q := by rw [show q + 1 + 1 = q + 2 by omega]; rfl
    rw [e9, HLS.out] at h
    exact h
  ·have e : i = n := by have := HA.out; omega
   have HS2 := Aside0.mk (show Kd.S k36 36 wo w0.heap.size P (.slice A n c) (mN nodes k) from by
    have h := HS.out
    rw [e, ← HN.out, List.take_length, List.drop_length, List.append_nil, HN.out] at h
    exact h)
   have HQ := Aside0.mk (show q = eN nodes k by rw [HA.out.2.2, e, ← HN.out, List.take_length])
   clear e
   go_wp2
   go_ret
   exact ⟨by rw [← HQ.out]; rfl, HS2.out, HB.out, HP.out⟩
end Go.Proofs.Ytlnejmlphkpaaaa.PA
