/- The graph seat: the exact law's helpers in plain words: a size that is small, a copy, equality of what is the same; marking a graph. -/
import Derived.Test.YtlnejmlphkpaaaaIqGv
namespace Go.Proofs.Ytlnejmlphkpaaaa.PA
open Go.RowKit Go.Proofs.YtlnejmlphkpaaaaW.PrintWords Go.Proofs.YtlnejmlphkpaaaaW.PrintLast Go.Proofs.YtlnejmlphkpaaaaW.PrintMore
set_option linter.unusedVariables false
abbrev Max : Nat := 9223372036854775807
def FitN (x : S27) : Prop := x.f2.length ≤ Max
def FitG (nodes : List S27) (parts : List Int) : Prop := (nodes.length ≤ Max ∧ ∀ x ∈ nodes, FitN x) ∧ parts.length ≤ Max
def SmallN (x : S27) : Prop := x.f2.length ≤ 1048576
def SmallG (nodes : List S27) (parts : List Int) : Prop := (nodes.length ≤ 1048576 ∧ ∀ x ∈ nodes, SmallN x) ∧ parts.length ≤ 1048576
def cN (x : S27) : S36 := ⟨x.f0, x.f1, x.f2⟩
theorem wsub (a : Int) (n : Nat) (h0 : 0 ≤ a) (h1 : a ≤ 1048576) (hn : n ≤ Max) : wrap64 (a - (n : Int)) = a - (n : Int) := by unfold Max at hn; unfold wrap64; omega
theorem getD_mem {α : Type} (xs : List α) (z : α) (i : Nat) (h : i < xs.length) : xs.getD i z ∈ xs := by
 rw [List.getD_eq_getElem?_getD, List.getElem?_eq_getElem h]; exact List.getElem_mem h
theorem acc_set {β : Type} (ys : List β) (z : β) (i : Nat) (h : i < ys.length) (y : β) (hy : y = ys[i]) : (ys.take i ++ List.replicate (ys.length - i) z).set i y = ys.take (i + 1) ++ List.replicate (ys.length - (i + 1)) z := by
 subst hy
 have h1 : (ys.take i).length = i := by simp; omega
 have h2 : ys.length - i = (ys.length - (i + 1)) + 1 := by omega
 rw [List.set_append_right _ _ (by omega), h1, Nat.sub_self, h2, List.replicate_succ, List.set_cons_zero, List.take_succ_eq_append_getElem h, List.append_assoc]
 rfl
theorem szIntS_any (l : List Int) (a : Int) (h0 : 0 ≤ a) (h1 : a ≤ 1048576) (hl : l.length ≤ Max) : ∃ r, laws_szIntS.f l a = some r ∧ (r < 0 ∨ (0 ≤ r ∧ r ≤ a ∧ l.length ≤ 1048576)) := by
 unfold laws_szIntS.f
 rw [wsub a l.length h0 h1 hl]
 by_cases h : a - (l.length : Int) < 0
 ·exact ⟨_, if_pos h, .inl (by omega)⟩
 ·exact ⟨_, if_neg h, .inr (by omega)⟩
theorem szENode_any (p q : Int) (l : List Int) (a : Int) (h0 : 0 ≤ a) (h1 : a ≤ 1048576) (hl : l.length ≤ Max) : ∃ r, laws_szENode.f p q l a = some r ∧ (r < 0 ∨ (0 ≤ r ∧ r ≤ a ∧ l.length ≤ 1048576)) := by
 obtain ⟨r, e, h⟩ := szIntS_any l a h0 h1 hl
 unfold laws_szENode.f
 rw [e]; simp only [Option.bind_some]
 rcases h with h | h
 ·exact ⟨_, if_pos h, .inl (by omega)⟩
 ·exact ⟨_, if_neg (by omega), .inr h⟩
theorem szENodeS_l0 (xs : List S27) (hn : xs.length ≤ Max) (hf : ∀ x ∈ xs, FitN x) : ∀ (d i : Nat) (left : Int), xs.length - i = d → 0 ≤ left → left ≤ 1048576 →
  ∃ r, Ev (fun k => laws_szENodeS.l0 k xs left (i : Int)) r ∧ (r < 0 ∨ (0 ≤ r ∧ r ≤ left ∧ ∀ j, i ≤ j → j < xs.length → SmallN (xs.getD j z27)))
 | 0, i, left, hd, h0, h1 => ⟨left, Ev.step (f := fun _ => some left) (fun k => by simp only [laws_szENodeS.l0]; rw [if_neg (by omega)]) (Ev.now _), .inr ⟨h0, Int.le_refl _, fun j h1 h2 => by omega⟩⟩
 | d + 1, i, left, hd, h0, h1 => by
  have hi : i < xs.length := by omega
  have hm := hf _ (getD_mem xs z27 i hi)
  obtain ⟨r, e, h⟩ := szENode_any (rd_T27 xs (i : Int)).f0 (rd_T27 xs (i : Int)).f1 (rd_T27 xs (i : Int)).f2 left h0 h1 hm
  have st : ∀ k, laws_szENodeS.l0 (k + 1) xs left (i : Int) = (laws_szENode.f (rd_T27 xs (i : Int)).f0 (rd_T27 xs (i : Int)).f1 (rd_T27 xs (i : Int)).f2 left).bind fun t => if t < 0 then some (-1) else laws_szENodeS.l0 k xs t ((i + 1 : Nat) : Int) := fun k => by
   simp only [laws_szENodeS.l0]; rw [if_pos (by omega), if_pos (by omega), wnext64 i xs.length hi hn]
  rcases h with h | ⟨g0, g1, g2⟩
  ·exact ⟨-1, Ev.step st (Ev.bind (⟨0, fun _ _ => e⟩ : Ev (fun _ => laws_szENode.f (rd_T27 xs (i : Int)).f0 (rd_T27 xs (i : Int)).f1 (rd_T27 xs (i : Int)).f2 left) r) (Ev.congr (fun k => if_pos h) (Ev.now _))), .inl (by omega)⟩
  ·obtain ⟨r2, e2, h2⟩ := szENodeS_l0 xs hn hf d (i + 1) r (by omega) g0 (by omega)
   refine ⟨r2, Ev.step st (Ev.bind (⟨0, fun _ _ => e⟩ : Ev (fun _ => laws_szENode.f (rd_T27 xs (i : Int)).f0 (rd_T27 xs (i : Int)).f1 (rd_T27 xs (i : Int)).f2 left) r) (Ev.congr (fun k => if_neg (by omega)) e2)), ?_⟩
   rcases h2 with h2 | ⟨k0, k1, k2⟩
   ·exact .inl h2
   ·refine .inr ⟨k0, by omega, fun j hj hj2 => ?_⟩
    by_cases e : j = i
    ·subst e; exact g2
    ·exact k2 j (by omega) hj2
theorem szENodeS_any (xs : List S27) (left : Int) (h0 : 0 ≤ left) (h1 : left ≤ 1048576) (hn : xs.length ≤ Max) (hf : ∀ x ∈ xs, FitN x) : ∃ r, Ev (fun k => laws_szENodeS.f k xs left) r ∧ (r < 0 ∨ (0 ≤ r ∧ r ≤ left ∧ xs.length ≤ 1048576 ∧ ∀ x ∈ xs, SmallN x)) := by
 by_cases h : left - (xs.length : Int) < 0
 ·exact ⟨-1, Ev.congr (f := fun _ => some (-1)) (fun k => by unfold laws_szENodeS.f; rw [wsub left xs.length h0 h1 hn, if_pos h]) (Ev.now _), .inl (by omega)⟩
 ·obtain ⟨r, e, hh⟩ := szENodeS_l0 xs hn hf xs.length 0 (left - (xs.length : Int)) rfl (by omega) (by omega)
  refine ⟨r, Ev.congr (fun k => by unfold laws_szENodeS.f; rw [wsub left xs.length h0 h1 hn, if_neg h]; rfl) e, ?_⟩
  rcases hh with hh | ⟨k0, k1, k2⟩
  ·exact .inl hh
  ·refine .inr ⟨k0, by omega, by omega, fun x hx => ?_⟩
   obtain ⟨j, hj, rfl⟩ := List.getElem_of_mem hx
   have := k2 j (Nat.zero_le _) hj
   rwa [List.getD_eq_getElem?_getD, List.getElem?_eq_getElem hj] at this
theorem szG_any (nodes : List S27) (parts : List Int) (left : Int) (h0 : 0 ≤ left) (h1 : left ≤ 1048576) (h : FitG nodes parts) : ∃ r, Ev (fun k => laws_szEGraph.f k nodes parts left) r ∧ (r < 0 ∨ (0 ≤ r ∧ r ≤ left ∧ SmallG nodes parts)) := by
 obtain ⟨r, e, hh⟩ := szENodeS_any nodes left h0 h1 h.1.1 h.1.2
 rcases hh with hh | ⟨g0, g1, g2, g3⟩
 ·exact ⟨-1, Ev.congr (fun k => rfl) (Ev.bind e (Ev.congr (fun k => if_pos hh) (Ev.now _))), .inl (by omega)⟩
 ·obtain ⟨r2, e2, h2⟩ := szIntS_any parts r g0 (by omega) h.2
  rcases h2 with h2 | ⟨k0, k1, k2⟩
  ·exact ⟨-1, Ev.congr (fun k => rfl) (Ev.bind e (Ev.congr (f := fun _ => some (-1)) (fun k => by rw [if_neg (by omega), e2, Option.bind_some, if_pos h2]) (Ev.now _))), .inl (by omega)⟩
  ·exact ⟨r2, Ev.congr (fun k => rfl) (Ev.bind e (Ev.congr (f := fun _ => some r2) (fun k => by rw [if_neg (by omega), e2, Option.bind_some, if_neg (by omega)]) (Ev.now _))), .inr ⟨k0, by omega, ⟨g2, g3⟩, k2⟩⟩
theorem toI_l0 (l : List Int) (hl : l.length ≤ 1048576) : ∀ (d i : Nat), l.length - i = d → i ≤ l.length → Ev (fun k => laws_toIntS.l0 k l (l.take i ++ List.replicate (l.length - i) 0) (i : Int)) l
 | 0, i, hd, hi => by
  obtain rfl : i = l.length := by omega
  refine Ev.step (f := fun _ => some l) (fun k => ?_) (Ev.now _)
  simp only [laws_toIntS.l0]
  rw [if_neg (by omega), List.take_length, Nat.sub_self, List.replicate_zero, List.append_nil]
 | d + 1, i, hd, hi => by
  have h : i < l.length := by omega
  refine Ev.step (fun k => ?_) (toI_l0 l hl d (i + 1) (by omega) (by omega))
  simp only [laws_toIntS.l0]
  rw [if_pos (by omega), if_pos (by omega), if_pos (by simp; omega), Int.toNat_natCast, acc_set l 0 i h _ (rd_at l i h), wnext64 i l.length h (by omega)]
theorem toI_f (l : List Int) (hl : l.length ≤ 1048576) : Ev (fun k => laws_toIntS.f k l) l :=
 Ev.congr (f := fun k => laws_toIntS.l0 k l (l.take 0 ++ List.replicate (l.length - 0) 0) ((0 : Nat) : Int)) (fun k => by unfold laws_toIntS.f; rw [if_pos (by omega), if_pos (by omega), Int.toNat_natCast]; rfl) (toI_l0 l hl l.length 0 rfl (Nat.zero_le _))
theorem toN_f (a b : Int) (l : List Int) (hl : l.length ≤ 1048576) : Ev (fun k => laws_toENode.f k a b l) (a, b, l) := Ev.congr (fun k => rfl) (Ev.bind (toI_f l hl) (Ev.now _))
theorem toNS_l0 (xs : List S27) (hn : xs.length ≤ 1048576) (hk : ∀ x ∈ xs, SmallN x) : ∀ (d i : Nat), xs.length - i = d → i ≤ xs.length → Ev (fun k => laws_toENodeS.l0 k xs ((xs.map cN).take i ++ List.replicate ((xs.map cN).length - i) z36) (i : Int)) (xs.map cN)
 | 0, i, hd, hi => by
  obtain rfl : i = xs.length := by omega
  refine Ev.step (f := fun _ => some (xs.map cN)) (fun k => ?_) (Ev.now _)
  simp only [laws_toENodeS.l0]
  rw [if_neg (by omega), List.take_of_length_le (by simp), List.length_map, Nat.sub_self, List.replicate_zero, List.append_nil]
 | d + 1, i, hd, hi => by
  have h : i < xs.length := by omega
  have e : rd_T27 xs (i : Int) = xs[i] := by simp [rd_T27, List.getD_eq_getElem?_getD, List.getElem?_eq_getElem h]
  have hm : (rd_T27 xs (i : Int)).f2.length ≤ 1048576 := by rw [e]; exact hk _ (List.getElem_mem h)
  have ih := toNS_l0 xs hn hk d (i + 1) (by omega) (by omega)
  rw [← acc_set (xs.map cN) z36 i (by simpa using h) (⟨(rd_T27 xs (i : Int)).f0, (rd_T27 xs (i : Int)).f1, (rd_T27 xs (i : Int)).f2⟩ : S36) (by rw [e]; simp [cN])] at ih
  refine Ev.step (f := fun k => (laws_toENode.f k (rd_T27 xs (i : Int)).f0 (rd_T27 xs (i : Int)).f1 (rd_T27 xs (i : Int)).f2).bind fun bt => laws_toENodeS.l0 k xs (((xs.map cN).take i ++ List.replicate ((xs.map cN).length - i) z36).set i (⟨bt.1, bt.2.1, bt.2.2⟩ : S36)) ((i + 1 : Nat) : Int)) (fun k => ?_) (Ev.bind (toN_f _ _ _ hm) ih)
  simp only [laws_toENodeS.l0]
  rw [if_pos (by omega), if_pos (by omega), Int.toNat_natCast, wnext64 i xs.length h (by omega)]
  congr 1
  funext bt
  rw [if_pos (by simp; omega)]
theorem toNS_f (xs : List S27) (hn : xs.length ≤ 1048576) (hk : ∀ x ∈ xs, SmallN x) : Ev (fun k => laws_toENodeS.f k xs) (xs.map cN) :=
 Ev.congr (f := fun k => laws_toENodeS.l0 k xs ((xs.map cN).take 0 ++ List.replicate ((xs.map cN).length - 0) z36) ((0 : Nat) : Int)) (fun k => by unfold laws_toENodeS.f; rw [if_pos (by omega), if_pos (by omega), Int.toNat_natCast, List.length_map]; rfl) (toNS_l0 xs hn hk xs.length 0 rfl (Nat.zero_le _))
theorem toG_f (nodes : List S27) (parts : List Int) (h : SmallG nodes parts) : Ev (fun k => laws_toEGraph.f k nodes parts) (nodes.map cN, parts) := Ev.congr (fun k => rfl) (Ev.bind (toNS_f nodes h.1.1 h.1.2) (Ev.bind (toI_f parts h.2) (Ev.now _)))
theorem eqI_l0 (l : List Int) (hl : l.length ≤ 1048576) : ∀ (d i : Nat), l.length - i = d → Ev (fun k => laws_eqIntS.l0 k l l (i : Int)) true
 | 0, i, hd => Ev.step (f := fun _ => some true) (fun k => by simp only [laws_eqIntS.l0]; rw [if_neg (by omega)]) (Ev.now _)
 | d + 1, i, hd => by
  have h : i < l.length := by omega
  refine Ev.step (fun k => ?_) (eqI_l0 l hl d (i + 1) (by omega))
  simp only [laws_eqIntS.l0]
  rw [if_pos (by omega), if_pos (by omega), if_pos (by omega), if_pos trivial, wnext64 i l.length h (by omega)]
theorem eqI_f (l : List Int) (hl : l.length ≤ 1048576) : Ev (fun k => laws_eqIntS.f k l l) true := Ev.congr (fun k => by unfold laws_eqIntS.f; rw [if_pos rfl]; rfl) (eqI_l0 l hl l.length 0 rfl)
set_option maxHeartbeats 2000000 in
theorem markG_any {w0 w : World} {P0 P1 : Nat → Prop} {A0 A1 : Option Addr} {n m c0 c1 : Nat} (nodes : List S36) (parts : List Int) (hn : nodes.length = n) (hm : parts.length = m) (hl : n ≤ 1048576) (hk : ∀ y ∈ nodes, y.f2.length ≤ 1048576) (hp : m ≤ 1048576) (hB : Below w0.heap.size w0 w)
  (h0 : Kd.S k36 36 w w0.heap.size P0 (.slice A0 n c0) nodes) (h1 : (Kd.int .i64).R 3 w w0.heap.size P1 (.slice A1 m c1) parts) (hd : ∀ k, P0 k → ¬ P1 k) :
  Calls Try.prog 18 #[.agg #[.slice A0 n c0, .slice A1 m c1], .int .i64 1] w fun e w' => e = .returned (.int .i64 (eN nodes 1 + (m : Int))) ∧ Kd.S k36 36 w' w0.heap.size P0 (.slice A0 n c0) (mN nodes 1) ∧ (Kd.int .i64).R 3 w' w0.heap.size P1 (.slice A1 m c1) (mI m (eN nodes 1)) ∧ Below w0.heap.size w0 w' ∧ Kept w w' (fun k => P0 k ∨ P1 k) := by
 have hb := eN_le nodes 1 hk
 obtain ⟨o1, ho1⟩ : ∃ o : Obj, o = .cells #[.slice A0 n c0, .slice A1 m c1] 32 := ⟨_, rfl⟩
 have B1 := Aside0.mk (show (w.alloc o1).heap[w.heap.size]? = some (.cells #[.slice A0 n c0, .slice A1 m c1] 32 (0, 0)) from by rw [← ho1]; exact blk_new w o1)
 have HB1 := Aside0.mk (show Below w.heap.size w (w.alloc o1) from below_alloc (Below.refl _ _) _)
 have HS := Aside0.mk (Kd.S_alloc (Kd.S_mono (Kd.S_bound h0) (fun k hk => (show P0 k ∧ k < w.heap.size from ⟨hk.1, hk.2.2.1⟩))) o1)
 have HR := Aside0.mk (Kd.R_alloc (Kd.R_mono (Kd.R_bound h1) (fun k hk => (show P1 k ∧ k < w.heap.size from ⟨hk.1, hk.2.2.1⟩))) o1)
 have T69 := Aside0.mk (markN_any (w0 := w0) nodes 1 (by omega) (by omega) hn hl hk (hB.trans (HB1.out.mono hB.size)) HS.out)
 have T54 := Aside0.mk (fun W (hW : Below w0.heap.size w0 W) (hR : (Kd.int .i64).R 3 W w0.heap.size (fun k => P1 k ∧ k < w.heap.size) (.slice A1 m c1) parts) => markI_any (w0 := w0) parts (eN nodes 1) (by omega) (by omega) (by omega) hW hR)
 rw [hm] at T54
 subst ho1
 have HD := Aside0.mk hd
 generalize eN nodes 1 = q at *
 clear h0 h1 hd hk hB hm hn hp
 go_enter Try.func18, Try.ntmps18
 go_wp2_with (first | (go_at_call 69; refine T69.out.mono ?_; rintro e w7 ⟨rfl, hs, hb7, hk7⟩; have HS7 := Aside0.mk hs; have HR7 := Aside0.mk (Kd.R_kept HR.out hk7 (fun k h1 h2 => HD.out k h2.1 h1.1)); have HB7 := Aside0.mk hb7; have HK7 := Aside0.mk hk7; have D1 := blk_kept B1.out hk7 (fun h => Nat.lt_irrefl _ h.2); have z1 := blk_cell D1 1; (try simp only [List.getElem?_toArray, List.getElem?_cons_zero, List.getElem?_cons_succ] at z1); clear hs hb7 hk7 D1) | (go_at_call 54; refine (T54.out _ HB7.out HR7.out).mono ?_; rintro e w8 ⟨rfl, hr, hb8, hk8⟩; have HS8 := Aside0.mk (Kd.S_kept HS7.out hk8 (fun k h1 h2 => HD.out k h1.1 h2.1)); have HR8 := Aside0.mk hr; have HB8 := Aside0.mk hb8; have HK8 := Aside0.mk hk8; clear hr hb8 hk8 z1))
 go_ret
 exact ⟨rfl, Kd.S_mono HS8.out (fun k h => h.1), Kd.R_mono HR8.out (fun k h => h.1), HB8.out, ((Kept.of_below HB1.out _).then_ HK7.out (fun k h => .inl (.inl h.1))).then_ HK8.out (fun k h => .inl (.inr h.1))⟩
end Go.Proofs.Ytlnejmlphkpaaaa.PA
