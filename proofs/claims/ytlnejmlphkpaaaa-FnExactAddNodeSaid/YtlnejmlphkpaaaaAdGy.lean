/- The graph seat: the walk of laws.FnExactAddNode. -/
import Derived.Test.YtlnejmlphkpaaaaAdGx
namespace Go.Proofs.Ytlnejmlphkpaaaa.PA
open Go.RowKit Go.Proofs.YtlnejmlphkpaaaaW.PrintWords Go.Proofs.YtlnejmlphkpaaaaW.PrintLast Go.Proofs.YtlnejmlphkpaaaaW.PrintMore
set_option linter.unusedVariables false
set_option linter.unusedSimpArgs false
/-- What stands throughout the walk: the boxed arguments and the reference's answer. -/
structure LA (w : World) (b2 b3 : Array Value) (g6 : Nat) (u0 u1 : Value) (a1 : List S36) (a2 : List Int) (n3 : Nat) (W : World) : Prop where
  hb : Below w.heap.size w W
  k2 : W.heap[w.heap.size]? = some (.cells b2 25 (0, 0))
  k3 : W.heap[w.heap.size + 1]? = some (.cells b3 27 (0, 0))
  k6 : W.heap[g6]? = some (.cells #[u0, u1] 32 (0, 0))
  s6 : Kd.S k36 36 W w.heap.size (fun k => k < n3) u0 a1
  r6 : (Kd.int .i64).R 3 W w.heap.size (fun k => k < n3) u1 a2
  lt : w.heap.size + 1 < n3
  lg : g6 < n3
/-- A graph of one's own, boxed: its rows lie between m and g, where the box is. -/
structure LG (w : World) (m g : Nat) (u0 u1 : Value) (l0 : List S36) (l1 : List Int) (W : World) : Prop where
  k : W.heap[g]? = some (.cells #[u0, u1] 32 (0, 0))
  s : Kd.S k36 36 W w.heap.size (fun k => (m ≤ k ∧ k < g) ∧ some k ≠ u1.ownBlock) u0 l0
  r : (Kd.int .i64).R 3 W w.heap.size (fun k => (m ≤ k ∧ k < g) ∧ some k = u1.ownBlock) u1 l1
/-- A node of one's own, boxed. -/
structure LN (w : World) (m g : Nat) (f0 f1 : Int) (u : Value) (l : List Int) (W : World) : Prop where
  k : W.heap[g]? = some (.cells #[.int .i64 f0, .int .i64 f1, u] 36 (0, 0))
  r : (Kd.int .i64).R 3 W w.heap.size (fun k => m ≤ k ∧ k < g) u l
section
variable {w W W1 : World} {b2 b3 : Array Value} {g6 n3 m g : Nat} {u0 u1 u : Value} {a1 : List S36} {a2 l : List Int} {f0 f1 : Int} {S : Nat → Prop}
theorem LA.below (h : LA w b2 b3 g6 u0 u1 a1 a2 n3 W) (hb : Below W.heap.size W W1) : LA w b2 b3 g6 u0 u1 a1 a2 n3 W1 := ⟨below_step h.hb hb, blk_below h.k2 hb, blk_below h.k3 hb, blk_below h.k6 hb, Kd.S_below h.s6 hb, Kd.R_below h.r6 hb, h.lt, h.lg⟩
theorem LA.kept (h : LA w b2 b3 g6 u0 u1 a1 a2 n3 W) (hb : Below w.heap.size w W1) (hk : Kept W W1 S) (hS : ∀ k, k < n3 → ¬ S k) : LA w b2 b3 g6 u0 u1 a1 a2 n3 W1 := ⟨hb, blk_kept h.k2 hk (hS _ (by have := h.lt; omega)), blk_kept h.k3 hk (hS _ h.lt), blk_kept h.k6 hk (hS _ h.lg), Kd.S_kept h.s6 hk hS, Kd.R_kept h.r6 hk hS, h.lt, h.lg⟩
theorem LG.below (h : LG w m g u0 u1 a1 a2 W) (hb : Below W.heap.size W W1) : LG w m g u0 u1 a1 a2 W1 := ⟨blk_below h.k hb, Kd.S_below h.s hb, Kd.R_below h.r hb⟩
theorem LG.kept (h : LG w m g u0 u1 a1 a2 W) (hk : Kept W W1 S) (hS : ∀ k, m ≤ k → k ≤ g → ¬ S k) (hm : m ≤ g) : LG w m g u0 u1 a1 a2 W1 := ⟨blk_kept h.k hk (hS g hm (Nat.le_refl _)), Kd.S_kept h.s hk (fun k h => hS k h.1.1 (Nat.le_of_lt h.1.2)), Kd.R_kept h.r hk (fun k h => hS k h.1.1 (Nat.le_of_lt h.1.2))⟩
theorem LN.below (h : LN w m g f0 f1 u l W) (hb : Below W.heap.size W W1) : LN w m g f0 f1 u l W1 := ⟨blk_below h.k hb, Kd.R_below h.r hb⟩
theorem LN.kept (h : LN w m g f0 f1 u l W) (hk : Kept W W1 S) (hS : ∀ k, m ≤ k → k ≤ g → ¬ S k) (hm : m ≤ g) : LN w m g f0 f1 u l W1 := ⟨blk_kept h.k hk (hS g hm (Nat.le_refl _)), Kd.R_kept h.r hk (fun k h => hS k h.1 (Nat.le_of_lt h.2))⟩
/-- A graph that has just been made, boxed. -/
theorem LG.mk_ {w0 wC wD : World} {Au Av : Option Addr} {cu cv n p : Nat} (hs : Kd.S k36 36 W w0.heap.size (fun k => some k ≠ (Value.slice Av p cv).ownBlock) (.slice Au n cu) a1) (hr : (Kd.int .i64).R 3 W w0.heap.size (fun _ => True) (.slice Av p cv) a2) (hg : g = W.heap.size) (hC : wC.heap[g]? = some (.cells #[.slice none 0 0, .slice none 0 0] 32 (0, 0))) (hb : Below W.heap.size W wC) (hD : wD = (wC.setCell ⟨g, 0, none⟩ (.slice Au n cu)).setCell ⟨g, 1, none⟩ (.slice Av p cv)) (hw : w.heap.size ≤ w0.heap.size) :
    LG w w0.heap.size g (.slice Au n cu) (.slice Av p cv) a1 a2 wD := by
  subst hD
  have hs1 := Kd.S_below (Kd.S_lower (Kd.S_mono (Kd.S_bound hs) (fun k hk => (show (w0.heap.size ≤ k ∧ k < g) ∧ some k ≠ (Value.slice Av p cv).ownBlock from ⟨⟨hk.2.1, by rw [hg]; exact hk.2.2.1⟩, hk.1⟩))) hw) hb
  have hr1 := Kd.R_below (Kd.R_lower (R_int_ok (ok' := fun k => (w0.heap.size ≤ k ∧ k < g) ∧ some k = (Value.slice Av p cv).ownBlock) (Kd.R_bound hr) (fun k hk => ⟨⟨((Kd.R_bound hr).1 k hk).2.1, by rw [hg]; exact ((Kd.R_bound hr).1 k hk).2.2.1⟩, hk.symm⟩)) hw) hb
  exact ⟨blk_put (blk_put hC 0 _ rfl) 1 _ rfl, Kd.S_far (p := ⟨g, 1, none⟩) (Kd.S_far (p := ⟨g, 0, none⟩) hs1 (fun k hk => by have := hk.1.2; dsimp only; omega) _) (fun k hk => by have := hk.1.2; dsimp only; omega) _, Kd.R_far (p := ⟨g, 1, none⟩) (Kd.R_far (p := ⟨g, 0, none⟩) hr1 (fun k hk => by have := hk.1.2; dsimp only; omega) _) (fun k hk => by have := hk.1.2; dsimp only; omega) _⟩
/-- A node that has just been made, boxed. -/
theorem LN.mk_ {w0 wC wD : World} {Av : Option Addr} {cv p : Nat} (hr : (Kd.int .i64).R 3 W w0.heap.size (fun _ => True) (.slice Av p cv) l) (hg : g = W.heap.size) (hC : wC.heap[g]? = some (.cells #[.int .i64 0, .int .i64 0, .slice none 0 0] 36 (0, 0))) (hb : Below W.heap.size W wC) (hD : wD = ((wC.setCell ⟨g, 0, none⟩ (.int .i64 f0)).setCell ⟨g, 1, none⟩ (.int .i64 f1)).setCell ⟨g, 2, none⟩ (.slice Av p cv)) (hw : w.heap.size ≤ w0.heap.size) :
    LN w w0.heap.size g f0 f1 (.slice Av p cv) l wD := by
  subst hD
  have hr1 := Kd.R_below (Kd.R_lower (Kd.R_mono (Kd.R_bound hr) (fun k hk => (show w0.heap.size ≤ k ∧ k < g from ⟨hk.2.1, by rw [hg]; exact hk.2.2.1⟩))) hw) hb
  exact ⟨blk_put (blk_put (blk_put hC 0 _ rfl) 1 _ rfl) 2 _ rfl, Kd.R_far (p := ⟨g, 2, none⟩) (Kd.R_far (p := ⟨g, 1, none⟩) (Kd.R_far (p := ⟨g, 0, none⟩) hr1 (fun k hk => by have := hk.2; dsimp only; omega) _) (fun k hk => by have := hk.2; dsimp only; omega) _) (fun k hk => by have := hk.2; dsimp only; omega) _⟩
theorem kept_box {v v' : Value} (hW : W1 = (W.setCell ⟨g, 0, none⟩ v).setCell ⟨g, 1, none⟩ v') : Kept W W1 (fun k => k = g) := by
  subst hW
  exact ((Kept.refl W (fun k => k = g)).setCell (p := ⟨g, 0, none⟩) (.inl rfl) _).setCell (p := ⟨g, 1, none⟩) (.inl rfl) _
theorem kept_box3 {v v' v'' : Value} (hW : W1 = ((W.setCell ⟨g, 0, none⟩ v).setCell ⟨g, 1, none⟩ v').setCell ⟨g, 2, none⟩ v'') : Kept W W1 (fun k => k = g) := by
  subst hW
  exact (((Kept.refl W (fun k => k = g)).setCell (p := ⟨g, 0, none⟩) (.inl rfl) _).setCell (p := ⟨g, 1, none⟩) (.inl rfl) _).setCell (p := ⟨g, 2, none⟩) (.inl rfl) _
theorem below_box {B : Nat} {v v' : Value} (hb : Below B w W) (hg : B ≤ g) (hW : W1 = (W.setCell ⟨g, 0, none⟩ v).setCell ⟨g, 1, none⟩ v') : Below B w W1 := by
  subst hW
  exact (hb.setCell (p := ⟨g, 0, none⟩) hg _).setCell (p := ⟨g, 1, none⟩) hg _
theorem below_box3 {B : Nat} {v v' v'' : Value} (hb : Below B w W) (hg : B ≤ g) (hW : W1 = ((W.setCell ⟨g, 0, none⟩ v).setCell ⟨g, 1, none⟩ v').setCell ⟨g, 2, none⟩ v'') : Below B w W1 := by
  subst hW
  exact ((hb.setCell (p := ⟨g, 0, none⟩) hg _).setCell (p := ⟨g, 1, none⟩) hg _).setCell (p := ⟨g, 2, none⟩) hg _
end
set_option maxHeartbeats 16000000 in
set_option maxRecDepth 100000 in
theorem law_AddNode (nodes : List S27) (parts : List Int) (x : S27) {A0 A1 A2 : Option Addr} {c0 c1 c2 : Nat} (w : World) (h0 : Kd.C k27 w A0 nodes.length nodes) (l0 : nodes.length ≤ c0) (h1 : Kd.C (Kd.int .i64) w A1 parts.length parts) (l1 : parts.length ≤ c1) (h2 : Kd.C (Kd.int .i64) w A2 x.f2.length x.f2) (l2 : x.f2.length ≤ c2) (hf : FitG nodes parts) (hfx : FitN x) :
    Calls Try.prog 3 #[.agg #[.slice A0 nodes.length c0, .slice A1 parts.length c1], .agg #[.int .i64 x.f0, .int .i64 x.f1, .slice A2 x.f2.length c2]] w fun e w' => e = .returned (.bool true) ∧ Below w.heap.size w w' := by
  obtain ⟨xp, xq, xl⟩ := x
  dsimp only at h2 l2 ⊢
  replace hfx : xl.length ≤ Max := hfx
  obtain ⟨o1, ho1⟩ : ∃ o : Obj, o = .cells #[.slice A0 nodes.length c0, .slice A1 parts.length c1] 25 := ⟨_, rfl⟩
  obtain ⟨o2, ho2⟩ : ∃ o : Obj, o = .cells #[.int .i64 xp, .int .i64 xq, .slice A2 xl.length c2] 27 := ⟨_, rfl⟩
  have B2 := Aside0.mk (show ((w.alloc o1).alloc o2).heap[w.heap.size]? = some (.cells #[.slice A0 nodes.length c0, .slice A1 parts.length c1] 25 (0, 0)) from by rw [← ho1]; exact blk_alloc (blk_new w o1) _)
  have B3 := Aside0.mk (show ((w.alloc o1).alloc o2).heap[w.heap.size + 1]? = some (.cells #[.int .i64 xp, .int .i64 xq, .slice A2 xl.length c2] 27 (0, 0)) from by rw [← ho2]; simpa using blk_new (w.alloc o1) o2)
  have HB0 := Aside0.mk (show Below w.heap.size w ((w.alloc o1).alloc o2) from below_alloc (below_alloc (Below.refl _ _) _) _)
  subst ho1 ho2
  obtain ⟨r, hev, hsm⟩ := szG_any nodes parts 1048576 (by omega) (by omega) hf
  obtain ⟨kz, hkz⟩ := Ev.rounds hev
  have T10 := Aside0.mk (fun W (hW : Below w.heap.size w W) => laws_szEGraph.calls kz A0 c0 nodes A1 c1 parts 1048576 r W (Kd.C_below h0 hW) l0 (Kd.C_below h1 hW) l1 hkz)
  by_cases hr0 : r < 0
  · have d0 : decide (r < 0) = true := decide_eq_true hr0
    clear h0 h1 h2 l0 l1 l2 hf hfx hev hsm hkz hr0
    go_enter Try.func3, Try.ntmps3
    go_wp2_with (go_at_call 10; refine (T10.out _ (by repeat (first | exact HB0.out | apply pw_below_drewN | apply below_drew1))).mono ?_; rintro e w1 ⟨rfl, hb⟩; have HB1 := Aside0.mk (HB0.out.trans (hb.mono HB0.out.size)); clear hb)
    go_ret
    exact ⟨rfl, HB1.out⟩
  have d0 : decide (r < 0) = false := decide_eq_false hr0
  obtain ⟨g0, g1, hsm⟩ := hsm.resolve_left hr0
  obtain ⟨r2, he2, hs2⟩ := szENode_any xp xq xl r g0 g1 hfx
  have T11 := Aside0.mk (fun W (hW : Below w.heap.size w W) => laws_szENode.calls xp xq A2 c2 xl r r2 W (Kd.C_below h2 hW) l2 he2)
  by_cases hr2 : r2 < 0
  · have d2 : decide (r2 < 0) = true := decide_eq_true hr2
    clear h0 h1 h2 l0 l1 l2 hf hfx hev hsm hkz hr0 hr2 hs2 he2 g0 g1
    go_enter Try.func3, Try.ntmps3
    go_wp2_with (first | (go_at_call 10; refine (T10.out _ (by repeat (first | exact HB0.out | apply pw_below_drewN | apply below_drew1))).mono ?_; rintro e w1 ⟨rfl, hb⟩; have HB1 := Aside0.mk (HB0.out.trans (hb.mono HB0.out.size)); have D3 := blk_below B3.out hb; have y0 := blk_cell D3 0; have y1 := blk_cell D3 1; have y2 := blk_cell D3 2; (try simp only [List.getElem?_toArray, List.getElem?_cons_zero, List.getElem?_cons_succ] at y0 y1 y2); clear hb D3) | (go_at_call 11; refine (T11.out _ HB1.out).mono ?_; rintro e w2 ⟨rfl, hb⟩; have HB2 := Aside0.mk (HB1.out.trans (hb.mono HB1.out.size)); clear hb y0 y1 y2))
    go_ret
    exact ⟨rfl, HB2.out⟩
  have d2 : decide (r2 < 0) = false := decide_eq_false hr2
  have hxl : xl.length ≤ 1048576 := by
    rcases hs2 with h | h
    · exact absurd h hr2
    · exact h.2.2
  have T13 := Aside0.mk (fun W (hW : Below w.heap.size w W) => toG_any hsm W (Kd.C_below h0 hW) l0 (Kd.C_below h1 hW) l1)
  have T14 := Aside0.mk (fun W (hW : Below w.heap.size w W) => toN_any xp xq xl hxl W (Kd.C_below h2 hW) l2)
  have hNl : (nodes.map cN).length ≤ 1048576 := by rw [List.length_map]; exact hsm.1.1
  have hNk : ∀ y ∈ nodes.map cN, y.f2.length ≤ 1048576 := fun y hy => by
    obtain ⟨z, hz, rfl⟩ := List.mem_map.1 hy
    exact hsm.1.2 z hz
  have hPl := hsm.2
  obtain ⟨N, hN⟩ : ∃ N, N = nodes.map cN := ⟨_, rfl⟩
  rw [← hN] at T13 hNl hNk
  obtain ⟨s1, s2, s3⟩ := ans_small N parts ⟨xp, xq, xl⟩
  have T12 := Aside0.mk (fun W v v' (hg : GC W v N parts) (hx : NC W v' ⟨xp, xq, xl⟩) => (by
    obtain ⟨A, c, A', c', rfl, e1, e2, e3, e4⟩ := hg
    obtain ⟨B, d, rfl, e5, e6⟩ := hx
    exact specAddNode_any N parts ⟨xp, xq, xl⟩ W e1 e2 e3 e4 e5 e6 : Calls Try.prog 12 #[v, v'] W fun e w' => ∃ v0 v1 : Value, e = .returned (.tuple #[.agg #[v0, v1], .int .i64 (ansAddNode N parts ⟨xp, xq, xl⟩).2.1, .bool (ansAddNode N parts ⟨xp, xq, xl⟩).2.2]) ∧ Kd.S k36 36 w' W.heap.size (fun k => some k ≠ v1.ownBlock) v0 (ansAddNode N parts ⟨xp, xq, xl⟩).1.1 ∧ (Kd.int .i64).R 3 w' W.heap.size (fun _ => True) v1 (ansAddNode N parts ⟨xp, xq, xl⟩).1.2 ∧ Below W.heap.size W w'))
  have T15 := Aside0.mk (fun W v v' (hg : GC W v N parts) (hx : NC W v' ⟨xp, xq, xl⟩) => (by
    obtain ⟨A, c, A', c', rfl, e1, e2, e3, e4⟩ := hg
    obtain ⟨B, d, rfl, e5, e6⟩ := hx
    exact implAddNode_any N parts ⟨xp, xq, xl⟩ W e1 e2 e3 e4 e5 e6 : Calls Try.prog 15 #[v, v'] W fun e w' => ∃ v0 v1 : Value, e = .returned (.tuple #[.agg #[v0, v1], .int .i64 (ansAddNode N parts ⟨xp, xq, xl⟩).2.1, .bool (ansAddNode N parts ⟨xp, xq, xl⟩).2.2]) ∧ Kd.S k36 36 w' W.heap.size (fun k => some k ≠ v1.ownBlock) v0 (ansAddNode N parts ⟨xp, xq, xl⟩).1.1 ∧ (Kd.int .i64).R 3 w' W.heap.size (fun _ => True) v1 (ansAddNode N parts ⟨xp, xq, xl⟩).1.2 ∧ Below W.heap.size W w'))
  obtain ⟨a1, ha1⟩ : ∃ y, y = (ansAddNode N parts ⟨xp, xq, xl⟩).1.1 := ⟨_, rfl⟩
  obtain ⟨a2, ha2⟩ : ∃ y, y = (ansAddNode N parts ⟨xp, xq, xl⟩).1.2 := ⟨_, rfl⟩
  obtain ⟨ai, hai⟩ : ∃ y, y = (ansAddNode N parts ⟨xp, xq, xl⟩).2.1 := ⟨_, rfl⟩
  obtain ⟨ab, hab⟩ : ∃ y, y = (ansAddNode N parts ⟨xp, xq, xl⟩).2.2 := ⟨_, rfl⟩
  rw [← ha1, ← ha2, ← hai, ← hab] at T12 T15
  rw [← ha1] at s1 s2
  rw [← ha2] at s3
  have HS1 := Aside0.mk (And.intro s1 (And.intro s2 s3))
  have HNL := Aside0.mk (And.intro hNl (And.intro hNk hPl))
  have HXL := Aside0.mk hxl
  have hab' : (ab != ab) = false := by simp
  have hai' : (ai != ai) = false := by simp
  clear h0 h1 h2 l0 l1 l2 hf hfx hev hsm hkz hr0 hr2 hs2 he2 g0 g1 hxl hNl hNk hPl hN ha1 ha2 hai hab s1 s2 s3
  · go_enter Try.func3, Try.ntmps3
    go_wp2_with (first | (go_at_call 10; refine (T10.out _ (by repeat (first | exact HB0.out | apply pw_below_drewN | apply below_drew1))).mono ?_; rintro e w1 ⟨rfl, hb⟩; have HB1 := Aside0.mk (HB0.out.trans (hb.mono HB0.out.size)); have D3 := blk_below B3.out hb; have HD2 := Aside0.mk (blk_below B2.out hb); have HD3 := Aside0.mk D3; have y0 := blk_cell D3 0; have y1 := blk_cell D3 1; have y2 := blk_cell D3 2; (try simp only [List.getElem?_toArray, List.getElem?_cons_zero, List.getElem?_cons_succ] at y0 y1 y2); clear hb D3) | (go_at_call 11; refine (T11.out _ HB1.out).mono ?_; rintro e w2 ⟨rfl, hb⟩; have HB2 := Aside0.mk (HB1.out.trans (hb.mono HB1.out.size)); have HK2 := Aside0.mk (blk_below HD2.out hb); have HK3 := Aside0.mk (blk_below HD3.out hb); clear hb y0 y1 y2))
    have HS2 := Aside0.mk (blk_drew HK2.out)
    have HS3 := Aside0.mk (blk_drew HK3.out)
    have HBS := Aside0.mk (show Below w.heap.size w w2.drew from below_drew1 HB2.out)
    have y0 := blk_cell HS2.out 0
    have y1 := blk_cell HS2.out 1
    have y2 := blk_cell HS3.out 0
    have y3 := blk_cell HS3.out 1
    have y4 := blk_cell HS3.out 2
    simp only [List.getElem?_toArray, List.getElem?_cons_zero, List.getElem?_cons_succ] at y0 y1 y2 y3 y4
    refine start_ (n := 13) (S := fun w' => w'.cell? ⟨w.heap.size, 0, none⟩ = some (.slice A0 nodes.length c0) ∧ w'.cell? ⟨w.heap.size, 1, none⟩ = some (.slice A1 parts.length c1) ∧ w'.cell? ⟨w.heap.size + 1, 0, none⟩ = some (.int .i64 xp) ∧ w'.cell? ⟨w.heap.size + 1, 1, none⟩ = some (.int .i64 xq) ∧ w'.cell? ⟨w.heap.size + 1, 2, none⟩ = some (.slice A2 xl.length c2)) (ds := []) #[false, false, false, false, false, false, false, false, false, false, false, false, false] (by kernel_rfl) rfl rfl ⟨y0, y1, y2, y3, y4⟩ (fun hHeld => ?_)
    clear y0 y1 y2 y3 y4
    generalize hwS : w2.drew = wS at HS2 HS3 HBS hHeld ⊢
    refine take_ (i := 0) (N := some 31) (v := ?_) (a' := ?_) #[true, false, false, false, false, false, false, false, false, false, false, false, false] rfl rfl (by kernel_rfl) (fun _ _ _ h => h) (Or.inl ⟨by rfl, ?_⟩) hHeld ?_ ?_
    rotate_left
    · rintro w' ⟨q0, q1, q2, q3, q4⟩
      go_simp
      with_reducible rfl
    rotate_left
    · simp only [Act.put, List.setIfInBounds_toArray, List.set_cons_zero, List.set_cons_succ]
      rfl
    refine take_ (i := 2) (N := some 33) (v := ?_) (a' := ?_) #[true, false, true, false, false, false, false, false, false, false, false, false, false] rfl rfl (by kernel_rfl) (fun _ _ _ h => h) (Or.inl ⟨by rfl, ?_⟩) hHeld ?_ ?_
    rotate_left
    · rintro w' ⟨q0, q1, q2, q3, q4⟩
      go_simp
      with_reducible rfl
    rotate_left
    · simp only [Act.put, List.setIfInBounds_toArray, List.set_cons_zero, List.set_cons_succ]
      rfl
    refine invTo_ #[true, true, true, true, true, true, true, true, true, true, false, false, false] (fun a0 l a W => ∃ (b1 b3 b4 b9 : Bool) (xal xmv xc1 xc2 xc3 xe0 xe1 xe2 : Value), l = #[true, b1, true, b3, b4, b4, b4, b4, b4, b9, false, false, false] ∧ a = putAll a0 [(6, xal), (30, xmv), (32, xc1), (34, xc2), (35, xc3), (36, xe0), (37, xe1), (38, xe2)] ∧ ((b3 = true → b1 = true) ∧ (b4 = true → b3 = true)) ∧ LR wS N parts ⟨xp, xq, xl⟩ a1 a2 ai ab b1 b3 b4 b9 xc1 xc2 xe0 xe1 xe2 xal W) ?h0 (Nat.le_of_eq (by kernel_rfl)) ?hS ?hnr ?hstep ?hcont
    case h0 => exact ⟨false, false, false, false, undef, undef, undef, undef, undef, undef, undef, undef, rfl, by simp only [putAll, Act.put, List.setIfInBounds_toArray, List.set_cons_zero, List.set_cons_succ], ⟨(fun h => by cases h), (fun h => by cases h)⟩, ⟨Below.refl _ _, (fun h => by cases h), (fun h => by cases h), (fun h => by cases h), (fun h => by cases h)⟩⟩
    case hS =>
      rintro l a W ⟨b1, b3, b4, b9, xal, xmv, xc1, xc2, xc3, xe0, xe1, xe2, rfl, ha, ho, hR⟩
      have E2 := blk_below HS2.out hR.below
      have E3 := blk_below HS3.out hR.below
      exact ⟨blk_cell E2 0, blk_cell E2 1, blk_cell E3 0, blk_cell E3 1, blk_cell E3 2⟩
    case hnr =>
      rintro l a W ⟨b1, b3, b4, b9, xal, xmv, xc1, xc2, xc3, xe0, xe1, xe2, rfl, ha, ho, hR⟩ hne
      clear ha ho hR
      cases b9 with
      | false => exact pred_ready (i := 9) rfl (ps := []) (by kernel_rfl) rfl (by intro p hp; (repeat (rcases List.mem_cons.1 hp with rfl | hp; rfl)); cases hp)
      | true =>
      cases b1 with
      | false => exact pred_ready (i := 1) rfl (ps := [0]) (by kernel_rfl) rfl (by intro p hp; (repeat (rcases List.mem_cons.1 hp with rfl | hp; rfl)); cases hp)
      | true =>
      cases b3 with
      | false => exact pred_ready (i := 3) rfl (ps := [2, 1]) (by kernel_rfl) rfl (by intro p hp; (repeat (rcases List.mem_cons.1 hp with rfl | hp; rfl)); cases hp)
      | true =>
      cases b4 with
      | false => exact pred_ready (i := 4) rfl (ps := [1, 3, 3]) (by kernel_rfl) rfl (by intro p hp; (repeat (rcases List.mem_cons.1 hp with rfl | hp; rfl)); cases hp)
      | true => exact absurd rfl hne
    case hstep =>
      rintro l a W ⟨b1, b3, b4, b9, xal, xmv, xc1, xc2, xc3, xe0, xe1, xe2, rfl, ha, ho, hR⟩ hne hrec i hi op hop K hK hK2
      obtain ⟨o3, o4⟩ := ho
      simp only [putAll, Act.put, List.setIfInBounds_toArray, List.set_cons_zero, List.set_cons_succ] at ha
      subst ha
      have hun := (mem_ready.1 hi).1
      have hW := HBS.out.trans (hR.below.mono HBS.out.size)
      have hi13 : i = 0 ∨ i = 1 ∨ i = 2 ∨ i = 3 ∨ i = 4 ∨ i = 5 ∨ i = 6 ∨ i = 7 ∨ i = 8 ∨ i = 9 ∨ i = 10 ∨ i = 11 ∨ i = 12 := by
        have h13 := (getD_false hun).1
        have h13' : i < 13 := h13
        clear hun hi hop hK hK2 h13
        omega
      rcases hi13 with rfl | rfl | rfl | rfl | rfl | rfl | rfl | rfl | rfl | rfl | rfl | rfl | rfl
      · cases hun
      · have e0 : b1 = false := hun
        have e1 : b3 = false := by
          cases b3 with
          | false => rfl
          | true => exact absurd (o3 rfl) (by rw [e0]; decide)
        have e2 : b4 = false := by
          cases b4 with
          | false => rfl
          | true => exact absurd (o4 rfl) (by rw [e1]; decide)
        subst e0 e1 e2
        obtain rfl := Option.some.inj hop
        refine goes_ Try.func13 (by kernel_rfl) rfl #[.agg #[.slice A0 nodes.length c0, .slice A1 parts.length c1]] (by rfl) rfl rfl (by (try simp only [List.map_toArray, List.map_cons, List.map_nil]); first | done | rfl) ?_
        refine (T13.out W hW).mono ?_
        rintro e W' ⟨v0, v1, rfl, hs, hr, hb⟩
        obtain ⟨Au, du, rfl⟩ := Kd.S_slice hs
        obtain ⟨Av, dv, rfl⟩ := Kd.R_slice hr
        have h' := hR.grow hb
        refine ⟨_, rfl, hK _ _ ⟨true, false, false, b9, xal, xmv, .agg #[.slice Au N.length du, .slice Av parts.length dv], xc2, xc3, xe0, xe1, xe2, rfl, ?ha, ⟨(fun h => by cases h), (fun h => by cases h)⟩, ?hR⟩⟩
        case ha =>
          show Act.put _ (some 32) _ = _
          simp only [putAll, Act.put, List.setIfInBounds_toArray, List.set_cons_zero, List.set_cons_succ]
        case hR => exact ⟨h'.below, fun _ _ => ⟨_, _, _, _, rfl, (Kd.S_reads' hs).2.2, (Kd.S_reads' hs).2.1, (Kd.R_reads' hr).2.2, (Kd.R_reads' hr).2.1⟩, h'.f3, h'.f4, h'.f9⟩
      · cases hun
      · have e0 : b3 = false := hun
        have e2 : b4 = false := by
          cases b4 with
          | false => rfl
          | true => exact absurd (o4 rfl) (by rw [e0]; decide)
        have e1 : b1 = true := ready_has hi (p := 1) (by kernel_rfl)
        subst e0 e1 e2
        obtain rfl := Option.some.inj hop
        refine goes_ Try.func14 (by kernel_rfl) rfl #[.agg #[.int .i64 xp, .int .i64 xq, .slice A2 xl.length c2]] (by rfl) rfl rfl (by (try simp only [List.map_toArray, List.map_cons, List.map_nil]); first | done | rfl) ?_
        refine (T14.out W hW).mono ?_
        rintro e W' ⟨v2, rfl, hr, hb⟩
        obtain ⟨Av, dv, rfl⟩ := Kd.R_slice hr
        have h' := hR.grow hb
        refine ⟨_, rfl, hK _ _ ⟨true, true, false, b9, xal, xmv, xc1, .agg #[.int .i64 xp, .int .i64 xq, .slice Av xl.length dv], xc3, xe0, xe1, xe2, rfl, ?ha, ⟨fun _ => rfl, (fun h => by cases h)⟩, ?hR⟩⟩
        case ha =>
          show Act.put _ (some 34) _ = _
          simp only [putAll, Act.put, List.setIfInBounds_toArray, List.set_cons_zero, List.set_cons_succ]
        case hR => exact ⟨h'.below, h'.f1, fun _ _ => ⟨_, _, rfl, (Kd.R_reads' hr).2.2, (Kd.R_reads' hr).2.1⟩, h'.f4, h'.f9⟩
      · have e0 : b4 = false := hun
        have e1 : b1 = true := ready_has hi (p := 1) (by kernel_rfl)
        have e3 : b3 = true := ready_has hi (p := 3) (by kernel_rfl)
        subst e0 e1 e3
        have hg := hR.f1 rfl rfl
        have hx := hR.f3 rfl rfl
        have hg2 := hg
        have hx2 := hx
        obtain ⟨Ap, cp, Aq, cq, rfl, _⟩ := hg
        obtain ⟨Ar, cr, rfl, _⟩ := hx
        obtain rfl := Option.some.inj hop
        refine goes_ Try.func12 (by kernel_rfl) rfl _ (by rfl) rfl rfl (by (try simp only [List.map_toArray, List.map_cons, List.map_nil]); first | done | rfl) ?_
        refine (T12.out W _ _ hg2 hx2).mono ?_
        rintro e W' ⟨u0, u1, rfl, hs2, hr2, hb2⟩
        have hR2 : LR wS N parts ⟨xp, xq, xl⟩ a1 a2 ai ab true true true b9 (.agg #[.slice Ap N.length cp, .slice Aq parts.length cq]) (.agg #[.int .i64 xp, .int .i64 xq, .slice Ar xl.length cr]) (.agg #[u0, u1]) (.int .i64 ai) (.bool ab) xal W' := ⟨hR.below.trans (hb2.mono hR.below.size), (fun _ h => by cases h), (fun _ h => by cases h), fun _ => ⟨u0, u1, rfl, rfl, rfl, Kd.S_lower hs2 hR.below.size, Kd.R_lower hr2 hR.below.size⟩, (hR.grow hb2).f9⟩
        refine ⟨_, rfl, hK2 _ _ ?hS ?hgo⟩
        case hS =>
          have E2 := blk_below HS2.out hR2.below
          have E3 := blk_below HS3.out hR2.below
          exact ⟨blk_cell E2 0, blk_cell E2 1, blk_cell E3 0, blk_cell E3 1, blk_cell E3 2⟩
        case hgo =>
          intro f hf
          clear hK hK2 hi hun hs2 hr2 hb2 hR hne hg2 hx2
          cases b9 with
          | true =>
            obtain ⟨f, rfl⟩ : ∃ q, f = q + 4 := ⟨f - 4, by have h : cntF #[true, true, true, true, true, false, false, false, false, true, false, false, false] = 7 := (by kernel_rfl); have h2 : cntF #[true, true, true, true, true, false, false, false, false, true, false, false, false] ≤ f := hf; rw [h] at h2; omega⟩
            refine norm_ (a' := ?_) (show Act.put _ (some 35) _ = _ from ?_) ?_
            rotate_left
            · simp only [putAll, Act.put, List.setIfInBounds_toArray, List.set_cons_zero, List.set_cons_succ]
              rfl
            refine pure_ (i := 5) (N := some 30) (v := ?_) (a' := ?_) #[true, true, true, true, true, true, false, false, false, true, false, false, false] rfl rfl (by kernel_rfl) (fun _ _ _ h => h) (Or.inl ⟨by rfl, ?_⟩) ?_ ?_
            rotate_left
            · intro w'
              go_simp
              with_reducible rfl
            rotate_left
            · simp only [Act.put, List.setIfInBounds_toArray, List.set_cons_zero, List.set_cons_succ]
              rfl
            refine pure_ (i := 6) (N := some 36) (v := ?_) (a' := ?_) #[true, true, true, true, true, true, true, false, false, true, false, false, false] rfl rfl (by kernel_rfl) (fun _ _ _ h => h) (Or.inl ⟨by rfl, ?_⟩) ?_ ?_
            rotate_left
            · intro w'
              go_simp
              with_reducible rfl
            rotate_left
            · simp only [Act.put, List.setIfInBounds_toArray, List.set_cons_zero, List.set_cons_succ]
              rfl
            refine pure_ (i := 7) (N := some 37) (v := ?_) (a' := ?_) #[true, true, true, true, true, true, true, true, false, true, false, false, false] rfl rfl (by kernel_rfl) (fun _ _ _ h => h) (Or.inl ⟨by rfl, ?_⟩) ?_ ?_
            rotate_left
            · intro w'
              go_simp
              with_reducible rfl
            rotate_left
            · simp only [Act.put, List.setIfInBounds_toArray, List.set_cons_zero, List.set_cons_succ]
              rfl
            refine pure_ (i := 8) (N := some 38) (v := ?_) (a' := ?_) #[true, true, true, true, true, true, true, true, true, true, false, false, false] rfl rfl (by kernel_rfl) (fun _ _ _ h => h) (Or.inl ⟨by rfl, ?_⟩) ?_ ?_
            rotate_left
            · intro w'
              go_simp
              with_reducible rfl
            rotate_left
            · simp only [Act.put, List.setIfInBounds_toArray, List.set_cons_zero, List.set_cons_succ]
              rfl
            refine hrec _ _ _ ?hc ⟨true, true, true, true, xal, .tuple #[.agg #[u0, u1], .int .i64 ai, .bool ab], .agg #[.slice Ap N.length cp, .slice Aq parts.length cq], .agg #[.int .i64 xp, .int .i64 xq, .slice Ar xl.length cr], .tuple #[.agg #[u0, u1], .int .i64 ai, .bool ab], .agg #[u0, u1], .int .i64 ai, .bool ab, rfl, ?ha, ⟨fun _ => rfl, fun _ => rfl⟩, hR2⟩ f ?hf
            case hc => decide
            case ha => first | rfl | simp only [putAll, Act.put, List.setIfInBounds_toArray, List.set_cons_zero, List.set_cons_succ]
            case hf =>
              have h : cntF #[true, true, true, true, true, false, false, false, false, true, false, false, false] = 7 := (by kernel_rfl)
              have h2 : cntF #[true, true, true, true, true, false, false, false, false, true, false, false, false] ≤ f + 4 := hf
              have h3 : cntF #[true, true, true, true, true, true, true, true, true, true, false, false, false] = 3 := (by kernel_rfl)
              rw [h] at h2
              rw [h3]
              omega
          | false =>
            obtain ⟨f, rfl⟩ : ∃ q, f = q + 4 := ⟨f - 4, by have h : cntF #[true, true, true, true, true, false, false, false, false, false, false, false, false] = 8 := (by kernel_rfl); have h2 : cntF #[true, true, true, true, true, false, false, false, false, false, false, false, false] ≤ f := hf; rw [h] at h2; omega⟩
            refine norm_ (a' := ?_) (show Act.put _ (some 35) _ = _ from ?_) ?_
            rotate_left
            · simp only [putAll, Act.put, List.setIfInBounds_toArray, List.set_cons_zero, List.set_cons_succ]
              rfl
            refine pure_ (i := 5) (N := some 30) (v := ?_) (a' := ?_) #[true, true, true, true, true, true, false, false, false, false, false, false, false] rfl rfl (by kernel_rfl) (fun _ _ _ h => h) (Or.inl ⟨by rfl, ?_⟩) ?_ ?_
            rotate_left
            · intro w'
              go_simp
              with_reducible rfl
            rotate_left
            · simp only [Act.put, List.setIfInBounds_toArray, List.set_cons_zero, List.set_cons_succ]
              rfl
            refine pure_ (i := 6) (N := some 36) (v := ?_) (a' := ?_) #[true, true, true, true, true, true, true, false, false, false, false, false, false] rfl rfl (by kernel_rfl) (fun _ _ _ h => h) (Or.inl ⟨by rfl, ?_⟩) ?_ ?_
            rotate_left
            · intro w'
              go_simp
              with_reducible rfl
            rotate_left
            · simp only [Act.put, List.setIfInBounds_toArray, List.set_cons_zero, List.set_cons_succ]
              rfl
            refine pure_ (i := 7) (N := some 37) (v := ?_) (a' := ?_) #[true, true, true, true, true, true, true, true, false, false, false, false, false] rfl rfl (by kernel_rfl) (fun _ _ _ h => h) (Or.inl ⟨by rfl, ?_⟩) ?_ ?_
            rotate_left
            · intro w'
              go_simp
              with_reducible rfl
            rotate_left
            · simp only [Act.put, List.setIfInBounds_toArray, List.set_cons_zero, List.set_cons_succ]
              rfl
            refine pure_ (i := 8) (N := some 38) (v := ?_) (a' := ?_) #[true, true, true, true, true, true, true, true, true, false, false, false, false] rfl rfl (by kernel_rfl) (fun _ _ _ h => h) (Or.inl ⟨by rfl, ?_⟩) ?_ ?_
            rotate_left
            · intro w'
              go_simp
              with_reducible rfl
            rotate_left
            · simp only [Act.put, List.setIfInBounds_toArray, List.set_cons_zero, List.set_cons_succ]
              rfl
            refine hrec _ _ _ ?hc ⟨true, true, true, false, xal, .tuple #[.agg #[u0, u1], .int .i64 ai, .bool ab], .agg #[.slice Ap N.length cp, .slice Aq parts.length cq], .agg #[.int .i64 xp, .int .i64 xq, .slice Ar xl.length cr], .tuple #[.agg #[u0, u1], .int .i64 ai, .bool ab], .agg #[u0, u1], .int .i64 ai, .bool ab, rfl, ?ha, ⟨fun _ => rfl, fun _ => rfl⟩, hR2⟩ f ?hf
            case hc => decide
            case ha => first | rfl | simp only [putAll, Act.put, List.setIfInBounds_toArray, List.set_cons_zero, List.set_cons_succ]
            case hf =>
              have h : cntF #[true, true, true, true, true, false, false, false, false, false, false, false, false] = 8 := (by kernel_rfl)
              have h2 : cntF #[true, true, true, true, true, false, false, false, false, false, false, false, false] ≤ f + 4 := hf
              have h3 : cntF #[true, true, true, true, true, true, true, true, true, false, false, false, false] = 4 := (by kernel_rfl)
              rw [h] at h2
              rw [h3]
              omega
      · have e0 : b4 = false := hun
        exact absurd (ready_has hi (p := 4) (by kernel_rfl)) (by rw [show (#[true, b1, true, b3, b4, b4, b4, b4, b4, b9, false, false, false] : Array Bool).getD 4 false = b4 from rfl, e0]; decide)
      · have e0 : b4 = false := hun
        exact absurd (ready_has hi (p := 5) (by kernel_rfl)) (by rw [show (#[true, b1, true, b3, b4, b4, b4, b4, b4, b9, false, false, false] : Array Bool).getD 5 false = b4 from rfl, e0]; decide)
      · have e0 : b4 = false := hun
        exact absurd (ready_has hi (p := 5) (by kernel_rfl)) (by rw [show (#[true, b1, true, b3, b4, b4, b4, b4, b4, b9, false, false, false] : Array Bool).getD 5 false = b4 from rfl, e0]; decide)
      · have e0 : b4 = false := hun
        exact absurd (ready_has hi (p := 5) (by kernel_rfl)) (by rw [show (#[true, b1, true, b3, b4, b4, b4, b4, b4, b9, false, false, false] : Array Bool).getD 5 false = b4 from rfl, e0]; decide)
      · have e0 : b9 = false := hun
        subst e0
        obtain rfl := Option.some.inj hop
        refine box_step (by rfl) (N := 6) rfl (cs := #[.slice none 0 0, .slice none 0 0]) (t := 32) ?hr ?_
        case hr => first | (go_simp; done) | (go_simp; rfl)
        intro g hg W' h1 hb
        subst hg
        have h' := hR.grow hb
        refine hK _ _ ⟨b1, b3, b4, true, .pointer (some ⟨W.heap.size, 0, none⟩), xmv, xc1, xc2, xc3, xe0, xe1, xe2, rfl, ?ha, ⟨o3, o4⟩, ?hR⟩
        case ha =>
          show Act.put _ (some 6) _ = _
          simp only [putAll, Act.put, List.setIfInBounds_toArray, List.set_cons_zero, List.set_cons_succ]
        case hR => exact ⟨h'.below, h'.f1, h'.f3, h'.f4, fun _ => ⟨_, rfl, hR.below.size, h1⟩⟩
      · have e4 : b4 = true := ready_has hi (p := 4) (by kernel_rfl)
        have e9 : b9 = true := ready_has hi (p := 9) (by kernel_rfl)
        have e3 : b3 = true := o4 e4
        have e1 : b1 = true := o3 e3
        subst e1 e3 e4 e9
        exact absurd rfl hne
      · cases (ready_has hi (p := 10) (by kernel_rfl))
      · cases (ready_has hi (p := 11) (by kernel_rfl))
    case hcont =>
      rintro f a W hf ⟨b1, b3, b4, b9, xal, xmv, xc1, xc2, xc3, xe0, xe1, xe2, hl, ha, ho, hR⟩
      have e4 : true = b4 := congrArg (fun z => Array.getD z 4 false) hl
      have e9 : true = b9 := congrArg (fun z => Array.getD z 9 false) hl
      subst e4 e9
      simp only [putAll, Act.put, List.setIfInBounds_toArray, List.set_cons_zero, List.set_cons_succ] at ha
      subst ha
      obtain ⟨f, rfl⟩ : ∃ q, f = q + 3 := ⟨f - 3, by have h : cntF #[true, true, true, true, true, true, true, true, true, true, false, false, false] = 3 := (by kernel_rfl); rw [h] at hf; omega⟩
      obtain ⟨u0, u1, rfl, rfl, rfl, hs, hr⟩ := hR.f4 rfl
      obtain ⟨g6, rfl, hg6, hc⟩ := hR.f9 rfl
      obtain ⟨Au, cu, rfl⟩ := Kd.S_slice hs
      obtain ⟨Av, cv, rfl⟩ := Kd.R_slice hr
      have z0 := blk_cell hc 0
      have z1 := blk_cell hc 1
      have fz0 := blk_frozen hc 0
      have fz1 := blk_frozen hc 1
      simp only [List.getElem?_toArray, List.getElem?_cons_zero, List.getElem?_cons_succ] at z0 z1
      have hX : ((W.setCell ⟨g6, 0, none⟩ (.slice Au a1.length cu)).setCell ⟨g6, 1, none⟩ (.slice Av a2.length cv)).heap[g6]? = some (.cells #[.slice Au a1.length cu, .slice Av a2.length cv] 32 (0, 0)) := blk_put (blk_put hc 0 _ rfl) 1 _ rfl
      have hXB : Below wS.heap.size wS ((W.setCell ⟨g6, 0, none⟩ (.slice Au a1.length cu)).setCell ⟨g6, 1, none⟩ (.slice Av a2.length cv)) := (hR.below.setCell (p := ⟨g6, 0, none⟩) hg6 _).setCell (p := ⟨g6, 1, none⟩) hg6 _
      have hXS := Kd.S_set (Kd.S_set hs hc (by decide) 0 (.slice Au a1.length cu)) (blk_put hc 0 (.slice Au a1.length cu) rfl) (by decide) 1 (.slice Av a2.length cv)
      have hXR := Kd.R_set (Kd.R_set hr hc (by decide) 0 (.slice Au a1.length cu)) (blk_put hc 0 (.slice Au a1.length cu) rfl) (by decide) 1 (.slice Av a2.length cv)
      have HX := Aside0.mk (And.intro hX (And.intro hXB (And.intro hXS (And.intro hXR hg6))))
      clear hX hXB hXS hXR hc hs hr hR ho hl hf hHeld hg6
      refine one_ (i := 10) (N := none) #[true, true, true, true, true, true, true, true, true, true, true, false, false] rfl rfl (by kernel_rfl) (by decide) (fun K hK => ?_)
      refine skip_ (by rfl) rfl (w1 := ((W.setCell ⟨g6, 0, none⟩ (.slice Au a1.length cu)).setCell ⟨g6, 1, none⟩ (.slice Av a2.length cv))) ?hr (hK.out _ _ ?hSS (fun hHeld => ?_))
      case hr => first | (go_simp; done) | (go_simp; rfl)
      case hSS =>
        have E2 := blk_below HS2.out HX.out.2.1
        have E3 := blk_below HS3.out HX.out.2.1
        exact ⟨blk_cell E2 0, blk_cell E2 1, blk_cell E3 0, blk_cell E3 1, blk_cell E3 2⟩
      clear hK K hHeld
      refine pure_ (i := 11) (N := some 7) (v := ?_) (a' := ?_) #[true, true, true, true, true, true, true, true, true, true, true, true, false] rfl rfl (by kernel_rfl) (fun _ _ _ h => h) (Or.inl ⟨by rfl, ?_⟩) ?_ ?_
      rotate_left
      · intro w'
        go_simp
        with_reducible rfl
      rotate_left
      · simp only [Act.put, List.setIfInBounds_toArray, List.set_cons_zero, List.set_cons_succ]
        rfl
      refine pure_ (i := 12) (N := some 8) (v := ?_) (a' := ?_) #[true, true, true, true, true, true, true, true, true, true, true, true, true] rfl rfl (by kernel_rfl) (fun _ _ _ h => h) (Or.inl ⟨by rfl, ?_⟩) ?_ ?_
      rotate_left
      · intro w'
        go_simp
        with_reducible rfl
      rotate_left
      · simp only [Act.put, List.setIfInBounds_toArray, List.set_cons_zero, List.set_cons_succ]
        rfl
      refine done_ (by kernel_rfl) ?_
      generalize ((W.setCell ⟨g6, 0, none⟩ (.slice Au a1.length cu)).setCell ⟨g6, 1, none⟩ (.slice Av a2.length cv)) = wE at HX ⊢
      clear z0 z1 fz0 fz1
      have HA := Aside0.mk (show LA w #[.slice A0 nodes.length c0, .slice A1 parts.length c1] #[.int .i64 xp, .int .i64 xq, .slice A2 xl.length c2] g6 (.slice Au a1.length cu) (.slice Av a2.length cv) a1 a2 wE.heap.size wE from ⟨HBS.out.trans (HX.out.2.1.mono HBS.out.size), blk_below HS2.out HX.out.2.1, blk_below HS3.out HX.out.2.1, HX.out.1, Kd.S_lower (Kd.S_mono (Kd.S_bound HX.out.2.2.1) (fun k hk => hk.2.2.1)) HBS.out.size, Kd.R_lower (Kd.R_mono (Kd.R_bound HX.out.2.2.2.1) (fun k hk => hk.2.2.1)) HBS.out.size, blk_lt (blk_below HS3.out HX.out.2.1), blk_lt HX.out.1⟩)
      clear HX HS2 HS3 HBS hwS
      have y0 := blk_cell HA.out.k2 0
      have y1 := blk_cell HA.out.k2 1
      simp only [List.getElem?_toArray, List.getElem?_cons_zero, List.getElem?_cons_succ] at y0 y1
      go_wp2_with (first | (go_at_call 13; refine (T13.out _ HA.out.hb).mono ?_; rintro e wB ⟨v0, v1, rfl, hs, hr, hb⟩; obtain ⟨A9, d9, rfl⟩ := Kd.S_slice hs; obtain ⟨B9, e9, rfl⟩ := Kd.R_slice hr; have HS9 := Aside0.mk hs; have HR9 := Aside0.mk hr; have HAB := Aside0.mk (HA.out.below hb); have HZB := Aside0.mk hb.size; clear hs hr hb y0 y1) | ((with_reducible refine gate_dst (N := 9) rfl ?_); refine box_event ?hg (N := 9) ?hd (cs := #[.slice none 0 0, .slice none 0 0]) (t := 32) ?hr ?_; (case hd => rfl); (case hg => rfl); (case hr => first | (go_simp; done) | (go_simp; rfl)); intro g9 hg wC hbox hb; have G9 := Aside0.mk hg; have C9 := Aside0.mk hbox; have HBC := Aside0.mk hb; have HAC := Aside0.mk (HAB.out.below hb); have z0 := blk_cell hbox 0; have z1 := blk_cell hbox 1; (try simp only [List.getElem?_toArray, List.getElem?_cons_zero, List.getElem?_cons_succ] at z0 z1); have f0 := blk_frozen hbox 0; have f1 := blk_frozen hbox 1; clear hg hbox hb HAB) | ((with_reducible refine gate_store (t := 32) (p := 9) rfl ?_); refine store_event (t := 32) (p := 9) (v := ?vo9) (w1 := (wC.setCell ⟨g9, 0, none⟩ (.slice A9 N.length d9)).setCell ⟨g9, 1, none⟩ (.slice B9 parts.length e9)) ?hg ?ho ?hn ?hr ?_; (case ho => rfl); (case hg => rfl); (case hn => rfl); (case hr => first | (go_simp; done) | (go_simp; rfl)); intro wD hw; have HX9 := Aside0.mk (LG.mk_ HS9.out HR9.out G9.out C9.out HBC.out hw HA.out.hb.size); have E9 := Aside0.mk (show wE.heap.size ≤ g9 by rw [G9.out]; exact HZB.out); have HAD := Aside0.mk (HAC.out.kept (below_box HAC.out.hb (Nat.le_trans HA.out.hb.size E9.out) hw) (kept_box hw) (fun k hk e => by have := E9.out; omega)); have L9 := Aside0.mk (blk_lt HX9.out.k); clear z0 z1 f0 f1 hw HAC HS9 HR9 G9 C9 HBC HZB; have y0 := blk_cell HAD.out.k3 0; have y1 := blk_cell HAD.out.k3 1; have y2 := blk_cell HAD.out.k3 2; (try simp only [List.getElem?_toArray, List.getElem?_cons_zero, List.getElem?_cons_succ] at y0 y1 y2)) | (go_at_call 14; refine (T14.out _ HAD.out.hb).mono ?_; rintro e wF ⟨v2, rfl, hr, hb⟩; obtain ⟨B10, e10, rfl⟩ := Kd.R_slice hr; have HR10 := Aside0.mk hr; have HAF := Aside0.mk (HAD.out.below hb); have HXF := Aside0.mk (HX9.out.below hb); have HZF := Aside0.mk hb.size; clear hr hb y0 y1 y2 HX9) | ((with_reducible refine gate_dst (N := 10) rfl ?_); refine box_event ?hg (N := 10) ?hd (cs := #[.int .i64 0, .int .i64 0, .slice none 0 0]) (t := 36) ?hr ?_; (case hd => rfl); (case hg => rfl); (case hr => first | (go_simp; done) | (go_simp; rfl)); intro g10 hg wG hbox hb; have G10 := Aside0.mk hg; have C10 := Aside0.mk hbox; have HBG := Aside0.mk hb; have HAG := Aside0.mk (HAF.out.below hb); have HXG := Aside0.mk (HXF.out.below hb); have z0 := blk_cell hbox 0; have z1 := blk_cell hbox 1; have z2 := blk_cell hbox 2; (try simp only [List.getElem?_toArray, List.getElem?_cons_zero, List.getElem?_cons_succ] at z0 z1 z2); have f0 := blk_frozen hbox 0; have f1 := blk_frozen hbox 1; have f2 := blk_frozen hbox 2; clear hg hbox hb HAF HXF) | ((with_reducible refine gate_store (t := 36) (p := 10) rfl ?_); refine store_event (t := 36) (p := 10) (v := ?vo10) (w1 := ((wG.setCell ⟨g10, 0, none⟩ (.int .i64 xp)).setCell ⟨g10, 1, none⟩ (.int .i64 xq)).setCell ⟨g10, 2, none⟩ (.slice B10 xl.length e10)) ?hg ?ho ?hn ?hr ?_; (case ho => rfl); (case hg => rfl); (case hn => rfl); (case hr => first | (go_simp; done) | (go_simp; rfl)); intro wH hw; have HX10 := Aside0.mk (LN.mk_ HR10.out G10.out C10.out HBG.out hw HAD.out.hb.size); have E10 := Aside0.mk (show wD.heap.size ≤ g10 by rw [G10.out]; exact HZF.out); have HAH := Aside0.mk (HAG.out.kept (below_box3 HAG.out.hb (Nat.le_trans HAD.out.hb.size E10.out) hw) (kept_box3 hw) (fun k hk e => by have := E10.out; have := E9.out; have := L9.out; omega)); have HXH := Aside0.mk (HXG.out.kept (kept_box3 hw) (fun k h1 h2 e => by have := E10.out; have := L9.out; omega) E9.out); have L10 := Aside0.mk (blk_lt HX10.out.k); clear z0 z1 z2 f0 f1 f2 hw HAG HXG HR10 G10 C10 HBG HZF; have y0 := blk_cell HXH.out.k 0; have y1 := blk_cell HXH.out.k 1; have y2 := blk_cell HX10.out.k 0; have y3 := blk_cell HX10.out.k 1; have y4 := blk_cell HX10.out.k 2; (try simp only [List.getElem?_toArray, List.getElem?_cons_zero, List.getElem?_cons_succ] at y0 y1 y2 y3 y4)) | (go_at_call 15; refine (T15.out _ (.agg #[.slice A9 N.length d9, .slice B9 parts.length e9]) (.agg #[.int .i64 xp, .int .i64 xq, .slice B10 xl.length e10]) ⟨_, _, _, _, rfl, (Kd.S_reads' HXH.out.s).2.2, (Kd.S_reads' HXH.out.s).2.1, (Kd.R_reads' HXH.out.r).2.2, (Kd.R_reads' HXH.out.r).2.1⟩ ⟨_, _, rfl, (Kd.R_reads' HX10.out.r).2.2, (Kd.R_reads' HX10.out.r).2.1⟩).mono ?_; rintro e wI ⟨u0, u1, rfl, hs, hr, hb⟩; obtain ⟨A11, d11, rfl⟩ := Kd.S_slice hs; obtain ⟨B11, e11, rfl⟩ := Kd.R_slice hr; have HS11 := Aside0.mk hs; have HR11 := Aside0.mk hr; have HAI := Aside0.mk (HAH.out.below hb); have HXI := Aside0.mk (HXH.out.below hb); have HNI := Aside0.mk (HX10.out.below hb); have HZI := Aside0.mk hb.size; clear hs hr hb y0 y1 y2 y3 y4 HXH HX10) | ((with_reducible refine gate_dst (N := 11) rfl ?_); refine box_event ?hg (N := 11) ?hd (cs := #[.slice none 0 0, .slice none 0 0]) (t := 32) ?hr ?_; (case hd => rfl); (case hg => rfl); (case hr => first | (go_simp; done) | (go_simp; rfl)); intro g11 hg wJ hbox hb; have G11 := Aside0.mk hg; have C11 := Aside0.mk hbox; have HBJ := Aside0.mk hb; have HAJ := Aside0.mk (HAI.out.below hb); have HXJ := Aside0.mk (HXI.out.below hb); have HNJ := Aside0.mk (HNI.out.below hb); have z0 := blk_cell hbox 0; have z1 := blk_cell hbox 1; (try simp only [List.getElem?_toArray, List.getElem?_cons_zero, List.getElem?_cons_succ] at z0 z1); have f0 := blk_frozen hbox 0; have f1 := blk_frozen hbox 1; clear hg hbox hb HAI HXI HNI) | ((with_reducible refine gate_store (t := 32) (p := 11) rfl ?_); refine store_event (t := 32) (p := 11) (v := ?vo11) (w1 := (wJ.setCell ⟨g11, 0, none⟩ (.slice A11 a1.length d11)).setCell ⟨g11, 1, none⟩ (.slice B11 a2.length e11)) ?hg ?ho ?hn ?hr ?_; (case ho => rfl); (case hg => rfl); (case hn => rfl); (case hr => first | (go_simp; done) | (go_simp; rfl)); intro wK hw; have HX11 := Aside0.mk (LG.mk_ HS11.out HR11.out G11.out C11.out HBJ.out hw HAH.out.hb.size); have E11 := Aside0.mk (show wH.heap.size ≤ g11 by rw [G11.out]; exact HZI.out); have HAK := Aside0.mk (HAJ.out.kept (below_box HAJ.out.hb (Nat.le_trans HAH.out.hb.size E11.out) hw) (kept_box hw) (fun k hk e => by have := E11.out; have := L10.out; have := E10.out; have := E9.out; have := L9.out; omega)); have HXK := Aside0.mk (HXJ.out.kept (kept_box hw) (fun k h1 h2 e => by have := E11.out; have := L10.out; have := E10.out; have := L9.out; omega) E9.out); have HNK := Aside0.mk (HNJ.out.kept (kept_box hw) (fun k h1 h2 e => by have := E11.out; have := L10.out; omega) E10.out); clear z0 z1 f0 f1 hw HAJ HXJ HNJ HS11 HR11 G11 C11 HBJ HZI; have y0 := blk_cell HX11.out.k 0; have y1 := blk_cell HX11.out.k 1; have y2 := blk_cell HAK.out.k6 0; have y3 := blk_cell HAK.out.k6 1; (try simp only [List.getElem?_toArray, List.getElem?_cons_zero, List.getElem?_cons_succ] at y0 y1 y2 y3)) | (go_at_call 16; refine (eqG_any (by have := HS1.out.1; omega) (fun y hy => by have := HS1.out.2.1 y hy; omega) (by have := HS1.out.2.2; omega) _ (Kd.S_reads' HX11.out.s).2.2 (Kd.S_reads' HX11.out.s).2.1 (Kd.R_reads' HX11.out.r).2.2 (Kd.R_reads' HX11.out.r).2.1 (Kd.S_reads' HAK.out.s6).2.2 (Kd.S_reads' HAK.out.s6).2.1 (Kd.R_reads' HAK.out.r6).2.2 (Kd.R_reads' HAK.out.r6).2.1).mono ?_; rintro e wL ⟨rfl, hb⟩; have HAL := Aside0.mk (HAK.out.below hb); have HXL9 := Aside0.mk (HXK.out.below hb); have HNL10 := Aside0.mk (HNK.out.below hb); have HGL := Aside0.mk (HX11.out.below hb); clear hb y0 y1 y2 y3 HAK HXK HNK HX11))
      have y0 := blk_cell HXL9.out.k 0
      have y1 := blk_cell HXL9.out.k 1
      have y2 := blk_cell HAL.out.k2 0
      have y3 := blk_cell HAL.out.k2 1
      simp only [List.getElem?_toArray, List.getElem?_cons_zero, List.getElem?_cons_succ] at y0 y1 y2 y3
      go_region_held3 (fun w' => w'.cell? ⟨g9, 0, none⟩ = some (.slice A9 N.length d9) ∧ w'.cell? ⟨g9, 1, none⟩ = some (.slice B9 parts.length e9) ∧ w'.cell? ⟨w.heap.size, 0, none⟩ = some (.slice A0 nodes.length c0) ∧ w'.cell? ⟨w.heap.size, 1, none⟩ = some (.slice A1 parts.length c1))
        (first
          | go_keep
          | (go_split_ands
             refine ⟨?_, ?_, ?_, ?_⟩ <;> (exact pw_cell_below hbr (by assumption))))
        (first | (go_at_call 13; refine (T13.out _ (below_drew1 HAL.out.hb)).mono ?_; rintro e w7 ⟨v0, v1, rfl, hs, hr, hbr⟩; obtain ⟨P9, p9, rfl⟩ := Kd.S_slice hs; obtain ⟨Q9, q9, rfl⟩ := Kd.R_slice hr; have HB7 := Aside0.mk (below_step (below_drew1 (Below.refl wL.heap.size wL)) hbr); have HS7 := Aside0.mk hs; have HR7 := Aside0.mk hr; clear hs hr) | (go_at_call 16; refine (eqG_any HNL.out.1 HNL.out.2.1 HNL.out.2.2 _ (Kd.C_below (Kd.S_reads' HXL9.out.s).2.2 HB7.out) (Kd.S_reads' HXL9.out.s).2.1 (Kd.C_below (Kd.R_reads' HXL9.out.r).2.2 HB7.out) (Kd.R_reads' HXL9.out.r).2.1 (Kd.S_reads' HS7.out).2.2 (Kd.S_reads' HS7.out).2.1 (Kd.R_reads' HR7.out).2.2 (Kd.R_reads' HR7.out).2.1).mono ?_; rintro e w8 ⟨rfl, hbr⟩; have HB8 := Aside0.mk (below_step HB7.out hbr)))
      have HAM := Aside0.mk (HAL.out.below HB8.out)
      have HXM := Aside0.mk (HXL9.out.below HB8.out)
      have HNM := Aside0.mk (HNL10.out.below HB8.out)
      have HGM := Aside0.mk (HGL.out.below HB8.out)
      clear HAL HXL9 HNL10 HGL HB7 HB8 HS7 HR7 y0 y1 y2 y3
      go_wp2_with fail
      have y0 := blk_cell HNM.out.k 0
      have y1 := blk_cell HNM.out.k 1
      have y2 := blk_cell HNM.out.k 2
      have y3 := blk_cell HAM.out.k3 0
      have y4 := blk_cell HAM.out.k3 1
      have y5 := blk_cell HAM.out.k3 2
      simp only [List.getElem?_toArray, List.getElem?_cons_zero, List.getElem?_cons_succ] at y0 y1 y2 y3 y4 y5
      go_region_held3 (fun w' => w'.cell? ⟨g10, 0, none⟩ = some (.int .i64 xp) ∧ w'.cell? ⟨g10, 1, none⟩ = some (.int .i64 xq) ∧ w'.cell? ⟨g10, 2, none⟩ = some (.slice B10 xl.length e10) ∧ w'.cell? ⟨w.heap.size + 1, 0, none⟩ = some (.int .i64 xp) ∧ w'.cell? ⟨w.heap.size + 1, 1, none⟩ = some (.int .i64 xq) ∧ w'.cell? ⟨w.heap.size + 1, 2, none⟩ = some (.slice A2 xl.length c2))
        (first
          | go_keep
          | (go_split_ands
             refine ⟨?_, ?_, ?_, ?_, ?_, ?_⟩ <;> (exact pw_cell_below hbr (by assumption))))
        (first | (go_at_call 14; refine (T14.out _ (below_drew1 HAM.out.hb)).mono ?_; rintro e w7 ⟨v2, rfl, hr, hbr⟩; obtain ⟨Q9, q9, rfl⟩ := Kd.R_slice hr; have HB7 := Aside0.mk (below_step (below_drew1 (Below.refl _ _)) hbr); have HR7 := Aside0.mk hr; clear hr) | (go_at_call 17; refine (eqN_any xp xq xl HXL.out _ (Kd.C_below (Kd.R_reads' HNM.out.r).2.2 HB7.out) (Kd.R_reads' HNM.out.r).2.1 (Kd.R_reads' HR7.out).2.2 (Kd.R_reads' HR7.out).2.1).mono ?_; rintro e w9 ⟨rfl, hbr⟩; have HB8 := Aside0.mk (below_step HB7.out hbr)))
      have HAO := Aside0.mk (HAM.out.below HB8.out)
      have HXO := Aside0.mk (HXM.out.below HB8.out)
      have HNO := Aside0.mk (HNM.out.below HB8.out)
      have HGO := Aside0.mk (HGM.out.below HB8.out)
      clear HAM HXM HNM HGM HB7 HB8 HR7 y0 y1 y2 y3 y4 y5
      have y0 := blk_cell HXO.out.k 0
      have y1 := blk_cell HXO.out.k 1
      simp only [List.getElem?_toArray, List.getElem?_cons_zero, List.getElem?_cons_succ] at y0 y1
      have hqb := eN_le N 1 HNL.out.2.1
      have T18 := Aside0.mk (markG_any (w0 := w) N parts rfl rfl HNL.out.1 HNL.out.2.1 HNL.out.2.2 HAO.out.hb HXO.out.s HXO.out.r (fun k h1 h2 => h1.2 h2.2))
      obtain ⟨q, hq⟩ : ∃ q, q = eN N 1 := ⟨_, rfl⟩
      rw [← hq] at T18 hqb
      have hN1 := HNL.out.1
      have hP1 := HNL.out.2.2
      have hX1 := HXL.out
      have T19 := Aside0.mk (fun (W : World) (P : Nat → Prop) (u : Value) hB ho => markE_any (w0 := w) (w := W) (P := P) (u := u) xp xq xl (q + (parts.length : Int)) (by omega) (by omega) hX1 hB ho)
      have e4 : (q + (parts.length : Int) + (xl.length : Int) < 0) = False := eq_false (by omega)
      have hqa := eN_le a1 1 (fun y hy => by have := HS1.out.2.1 y hy; omega)
      obtain ⟨qa, hqa2⟩ : ∃ q, q = eN a1 1 := ⟨_, rfl⟩
      have e5 : (qa + (a2.length : Int) < 0) = False := eq_false (by omega)
      have HQA := Aside0.mk hqa2
      clear hq hqb hN1 hP1 hX1 hqa hqa2
      go_wp2_with (first | (go_at_call 18; refine T18.out.mono ?_; rintro e wP ⟨rfl, _, _, hb, hk⟩; have HAP := Aside0.mk (HAO.out.kept hb hk (fun k hk h => h.elim (fun h => by have := h.1.1; omega) (fun h => by have := h.1.1; omega))); have HNP := Aside0.mk (HNO.out.kept hk (fun k h1 h2 h => by have := L9.out; exact h.elim (fun h => by have := h.1.2; omega) (fun h => by have := h.1.2; omega)) E10.out); have HGP := Aside0.mk (HGO.out.kept hk (fun k h1 h2 h => by have := L9.out; have := E10.out; have := L10.out; exact h.elim (fun h => by have := h.1.2; omega) (fun h => by have := h.1.2; omega)) E11.out); clear hb hk y0 y1 HAO HNO HGO HXO T18; have y0 := blk_cell HNP.out.k 0; have y1 := blk_cell HNP.out.k 1; have y2 := blk_cell HNP.out.k 2; (try simp only [List.getElem?_toArray, List.getElem?_cons_zero, List.getElem?_cons_succ] at y0 y1 y2)) | (go_at_call 19; refine (T19.out _ _ _ HAP.out.hb HNP.out.r).mono ?_; rintro e wQ ⟨rfl, hb, hk⟩; have HAQ := Aside0.mk (HAP.out.kept hb hk (fun k hk h => by have := E9.out; have := L9.out; have := h.1; omega)); have HGQ := Aside0.mk (HGP.out.kept hk (fun k h1 h2 h => by have := L10.out; have := h.2; omega) E11.out); clear hb hk y0 y1 y2 HAP HNP HGP; have y0 := blk_cell HGQ.out.k 0; have y1 := blk_cell HGQ.out.k 1; have y2 := blk_cell HAQ.out.k6 0; have y3 := blk_cell HAQ.out.k6 1; (try simp only [List.getElem?_toArray, List.getElem?_cons_zero, List.getElem?_cons_succ] at y0 y1 y2 y3)) | (go_at_call 16; refine (eqG_any (by have := HS1.out.1; omega) (fun y hy => by have := HS1.out.2.1 y hy; omega) (by have := HS1.out.2.2; omega) _ (Kd.S_reads' HGQ.out.s).2.2 (Kd.S_reads' HGQ.out.s).2.1 (Kd.R_reads' HGQ.out.r).2.2 (Kd.R_reads' HGQ.out.r).2.1 (Kd.S_reads' HAQ.out.s6).2.2 (Kd.S_reads' HAQ.out.s6).2.1 (Kd.R_reads' HAQ.out.r6).2.2 (Kd.R_reads' HAQ.out.r6).2.1).mono ?_; rintro e wR ⟨rfl, hb⟩; have HAR := Aside0.mk (HAQ.out.below hb); have HGR := Aside0.mk (HGQ.out.below hb); clear hb y0 y1 y2 y3 HAQ HGQ; have y0 := blk_cell HGR.out.k 0; have y1 := blk_cell HGR.out.k 1; (try simp only [List.getElem?_toArray, List.getElem?_cons_zero, List.getElem?_cons_succ] at y0 y1)))
      have T18b := Aside0.mk (markG_any (w0 := w) a1 a2 rfl rfl (by have := HS1.out.1; omega) (fun y hy => by have := HS1.out.2.1 y hy; omega) (by have := HS1.out.2.2; omega) HAR.out.hb HGR.out.s HGR.out.r (fun k h1 h2 => h1.2 h2.2))
      rw [← HQA.out] at T18b
      refine T18b.out.mono ?_
      rintro e wT ⟨rfl, hs, hr, hb, hk⟩
      have HAT := Aside0.mk (HAR.out.kept hb hk (fun k hk h => by have := E9.out; have := L9.out; have := E10.out; have := L10.out; exact h.elim (fun h => by have := h.1.1; omega) (fun h => by have := h.1.1; omega)))
      have HGT := Aside0.mk (show LG w wH.heap.size g11 (.slice A11 a1.length d11) (.slice B11 a2.length e11) (mN a1 1) (mI a2.length qa) wT from ⟨blk_kept HGR.out.k hk (fun h => h.elim (fun h => Nat.lt_irrefl _ h.1.2) (fun h => Nat.lt_irrefl _ h.1.2)), hs, hr⟩)
      have T20 := Aside0.mk (show ∀ W, LG w wH.heap.size g11 (.slice A11 a1.length d11) (.slice B11 a2.length e11) (mN a1 1) (mI a2.length qa) W → Calls Try.prog 20 #[.agg #[.slice A11 a1.length d11, .slice B11 a2.length e11], .int .i64 1] W fun e w' => e = .returned (.int .i64 (qa + (a2.length : Int))) ∧ Below W.heap.size W w' from fun W hG => by
        rw [HQA.out] at hG ⊢
        exact heldG_any a1 a2.length (by have := HS1.out.1; omega) (fun y hy => by have := HS1.out.2.1 y hy; omega) (by have := HS1.out.2.2; omega) (by have h := (Kd.S_reads' hG.s).2.2; rwa [mN_len] at h) (Kd.S_reads' hG.s).2.1 (by have h := (Kd.R_reads' hG.r).2.2; rwa [mI_len] at h) (Kd.R_reads' hG.r).2.1)
      have e6 : (qa + (a2.length : Int) != qa + (a2.length : Int)) = false := by simp
      clear hs hr hb hk T18b HAR HGR y0 y1 T19
      have y0 := blk_cell HGT.out.k 0
      have y1 := blk_cell HGT.out.k 1
      simp only [List.getElem?_toArray, List.getElem?_cons_zero, List.getElem?_cons_succ] at y0 y1
      go_wp2_with (go_at_call 20; refine (T20.out _ HGT.out).mono ?_; rintro e w31 ⟨rfl, hb⟩; have HD31 := Aside0.mk (HAT.out.below hb); have HG31 := Aside0.mk (HGT.out.below hb); clear hb y0 y1 HAT HGT)
      have HS2 := Aside0.mk (blk_drew HD31.out.k2)
      have HS3 := Aside0.mk (blk_drew HD31.out.k3)
      have HBS := Aside0.mk (show Below w.heap.size w w31.drew from below_drew1 HD31.out.hb)
      have y0 := blk_cell HS2.out 0
      have y1 := blk_cell HS2.out 1
      have y2 := blk_cell HS3.out 0
      have y3 := blk_cell HS3.out 1
      have y4 := blk_cell HS3.out 2
      simp only [List.getElem?_toArray, List.getElem?_cons_zero, List.getElem?_cons_succ] at y0 y1 y2 y3 y4
      refine start_ (n := 13) (S := fun w' => w'.cell? ⟨w.heap.size, 0, none⟩ = some (.slice A0 nodes.length c0) ∧ w'.cell? ⟨w.heap.size, 1, none⟩ = some (.slice A1 parts.length c1) ∧ w'.cell? ⟨w.heap.size + 1, 0, none⟩ = some (.int .i64 xp) ∧ w'.cell? ⟨w.heap.size + 1, 1, none⟩ = some (.int .i64 xq) ∧ w'.cell? ⟨w.heap.size + 1, 2, none⟩ = some (.slice A2 xl.length c2)) (ds := []) #[false, false, false, false, false, false, false, false, false, false, false, false, false] (by kernel_rfl) rfl rfl ⟨y0, y1, y2, y3, y4⟩ (fun hHeld => ?_)
      clear y0 y1 y2 y3 y4
      generalize hwS : w31.drew = wS at HS2 HS3 HBS hHeld ⊢
      refine take_ (i := 0) (N := some 110) (v := ?_) (a' := ?_) #[true, false, false, false, false, false, false, false, false, false, false, false, false] rfl rfl (by kernel_rfl) (fun _ _ _ h => h) (Or.inl ⟨by rfl, ?_⟩) hHeld ?_ ?_
      rotate_left
      · rintro w' ⟨q0, q1, q2, q3, q4⟩
        go_simp
        with_reducible rfl
      rotate_left
      · simp only [Act.put, List.setIfInBounds_toArray, List.set_cons_zero, List.set_cons_succ]
        rfl
      refine take_ (i := 2) (N := some 112) (v := ?_) (a' := ?_) #[true, false, true, false, false, false, false, false, false, false, false, false, false] rfl rfl (by kernel_rfl) (fun _ _ _ h => h) (Or.inl ⟨by rfl, ?_⟩) hHeld ?_ ?_
      rotate_left
      · rintro w' ⟨q0, q1, q2, q3, q4⟩
        go_simp
        with_reducible rfl
      rotate_left
      · simp only [Act.put, List.setIfInBounds_toArray, List.set_cons_zero, List.set_cons_succ]
        rfl
      refine invTo_ #[true, true, true, true, true, true, true, true, true, true, false, false, false] (fun a0 l a W => ∃ (b1 b3 b4 b9 : Bool) (xal xmv xc1 xc2 xc3 xe0 xe1 xe2 : Value), l = #[true, b1, true, b3, b4, b4, b4, b4, b4, b9, false, false, false] ∧ a = putAll a0 [(17, xal), (109, xmv), (111, xc1), (113, xc2), (114, xc3), (115, xe0), (116, xe1), (117, xe2)] ∧ ((b3 = true → b1 = true) ∧ (b4 = true → b3 = true)) ∧ LR wS N parts ⟨xp, xq, xl⟩ a1 a2 ai ab b1 b3 b4 b9 xc1 xc2 xe0 xe1 xe2 xal W) ?h0 (Nat.le_of_eq (by kernel_rfl)) ?hS ?hnr ?hstep ?hcont
      case h0 => exact ⟨false, false, false, false, undef, undef, undef, undef, undef, undef, undef, undef, rfl, by simp only [putAll, Act.put, List.setIfInBounds_toArray, List.set_cons_zero, List.set_cons_succ], ⟨(fun h => by cases h), (fun h => by cases h)⟩, ⟨Below.refl _ _, (fun h => by cases h), (fun h => by cases h), (fun h => by cases h), (fun h => by cases h)⟩⟩
      case hS =>
        rintro l a W ⟨b1, b3, b4, b9, xal, xmv, xc1, xc2, xc3, xe0, xe1, xe2, rfl, ha, ho, hR⟩
        have E2 := blk_below HS2.out hR.below
        have E3 := blk_below HS3.out hR.below
        exact ⟨blk_cell E2 0, blk_cell E2 1, blk_cell E3 0, blk_cell E3 1, blk_cell E3 2⟩
      case hnr =>
        rintro l a W ⟨b1, b3, b4, b9, xal, xmv, xc1, xc2, xc3, xe0, xe1, xe2, rfl, ha, ho, hR⟩ hne
        clear ha ho hR
        cases b9 with
        | false => exact pred_ready (i := 9) rfl (ps := []) (by kernel_rfl) rfl (by intro p hp; (repeat (rcases List.mem_cons.1 hp with rfl | hp; rfl)); cases hp)
        | true =>
        cases b1 with
        | false => exact pred_ready (i := 1) rfl (ps := [0]) (by kernel_rfl) rfl (by intro p hp; (repeat (rcases List.mem_cons.1 hp with rfl | hp; rfl)); cases hp)
        | true =>
        cases b3 with
        | false => exact pred_ready (i := 3) rfl (ps := [2, 1]) (by kernel_rfl) rfl (by intro p hp; (repeat (rcases List.mem_cons.1 hp with rfl | hp; rfl)); cases hp)
        | true =>
        cases b4 with
        | false => exact pred_ready (i := 4) rfl (ps := [1, 3, 3]) (by kernel_rfl) rfl (by intro p hp; (repeat (rcases List.mem_cons.1 hp with rfl | hp; rfl)); cases hp)
        | true => exact absurd rfl hne
      case hstep =>
        rintro l a W ⟨b1, b3, b4, b9, xal, xmv, xc1, xc2, xc3, xe0, xe1, xe2, rfl, ha, ho, hR⟩ hne hrec i hi op hop K hK hK2
        obtain ⟨o3, o4⟩ := ho
        simp only [putAll, Act.put, List.setIfInBounds_toArray, List.set_cons_zero, List.set_cons_succ] at ha
        subst ha
        have hun := (mem_ready.1 hi).1
        have hW := HBS.out.trans (hR.below.mono HBS.out.size)
        have hi13 : i = 0 ∨ i = 1 ∨ i = 2 ∨ i = 3 ∨ i = 4 ∨ i = 5 ∨ i = 6 ∨ i = 7 ∨ i = 8 ∨ i = 9 ∨ i = 10 ∨ i = 11 ∨ i = 12 := by
          have h13 := (getD_false hun).1
          have h13' : i < 13 := h13
          clear hun hi hop hK hK2 h13
          omega
        rcases hi13 with rfl | rfl | rfl | rfl | rfl | rfl | rfl | rfl | rfl | rfl | rfl | rfl | rfl
        · cases hun
        · have e0 : b1 = false := hun
          have e1 : b3 = false := by
            cases b3 with
            | false => rfl
            | true => exact absurd (o3 rfl) (by rw [e0]; decide)
          have e2 : b4 = false := by
            cases b4 with
            | false => rfl
            | true => exact absurd (o4 rfl) (by rw [e1]; decide)
          subst e0 e1 e2
          obtain rfl := Option.some.inj hop
          refine goes_ Try.func13 (by kernel_rfl) rfl #[.agg #[.slice A0 nodes.length c0, .slice A1 parts.length c1]] (by rfl) rfl rfl (by (try simp only [List.map_toArray, List.map_cons, List.map_nil]); first | done | rfl) ?_
          refine (T13.out W hW).mono ?_
          rintro e W' ⟨v0, v1, rfl, hs, hr, hb⟩
          obtain ⟨Au, du, rfl⟩ := Kd.S_slice hs
          obtain ⟨Av, dv, rfl⟩ := Kd.R_slice hr
          have h' := hR.grow hb
          refine ⟨_, rfl, hK _ _ ⟨true, false, false, b9, xal, xmv, .agg #[.slice Au N.length du, .slice Av parts.length dv], xc2, xc3, xe0, xe1, xe2, rfl, ?ha, ⟨(fun h => by cases h), (fun h => by cases h)⟩, ?hR⟩⟩
          case ha =>
            show Act.put _ (some 111) _ = _
            simp only [putAll, Act.put, List.setIfInBounds_toArray, List.set_cons_zero, List.set_cons_succ]
          case hR => exact ⟨h'.below, fun _ _ => ⟨_, _, _, _, rfl, (Kd.S_reads' hs).2.2, (Kd.S_reads' hs).2.1, (Kd.R_reads' hr).2.2, (Kd.R_reads' hr).2.1⟩, h'.f3, h'.f4, h'.f9⟩
        · cases hun
        · have e0 : b3 = false := hun
          have e2 : b4 = false := by
            cases b4 with
            | false => rfl
            | true => exact absurd (o4 rfl) (by rw [e0]; decide)
          have e1 : b1 = true := ready_has hi (p := 1) (by kernel_rfl)
          subst e0 e1 e2
          obtain rfl := Option.some.inj hop
          refine goes_ Try.func14 (by kernel_rfl) rfl #[.agg #[.int .i64 xp, .int .i64 xq, .slice A2 xl.length c2]] (by rfl) rfl rfl (by (try simp only [List.map_toArray, List.map_cons, List.map_nil]); first | done | rfl) ?_
          refine (T14.out W hW).mono ?_
          rintro e W' ⟨v2, rfl, hr, hb⟩
          obtain ⟨Av, dv, rfl⟩ := Kd.R_slice hr
          have h' := hR.grow hb
          refine ⟨_, rfl, hK _ _ ⟨true, true, false, b9, xal, xmv, xc1, .agg #[.int .i64 xp, .int .i64 xq, .slice Av xl.length dv], xc3, xe0, xe1, xe2, rfl, ?ha, ⟨fun _ => rfl, (fun h => by cases h)⟩, ?hR⟩⟩
          case ha =>
            show Act.put _ (some 113) _ = _
            simp only [putAll, Act.put, List.setIfInBounds_toArray, List.set_cons_zero, List.set_cons_succ]
          case hR => exact ⟨h'.below, h'.f1, fun _ _ => ⟨_, _, rfl, (Kd.R_reads' hr).2.2, (Kd.R_reads' hr).2.1⟩, h'.f4, h'.f9⟩
        · have e0 : b4 = false := hun
          have e1 : b1 = true := ready_has hi (p := 1) (by kernel_rfl)
          have e3 : b3 = true := ready_has hi (p := 3) (by kernel_rfl)
          subst e0 e1 e3
          have hg := hR.f1 rfl rfl
          have hx := hR.f3 rfl rfl
          have hg2 := hg
          have hx2 := hx
          obtain ⟨Ap, cp, Aq, cq, rfl, _⟩ := hg
          obtain ⟨Ar, cr, rfl, _⟩ := hx
          obtain rfl := Option.some.inj hop
          refine goes_ Try.func15 (by kernel_rfl) rfl _ (by rfl) rfl rfl (by (try simp only [List.map_toArray, List.map_cons, List.map_nil]); first | done | rfl) ?_
          refine (T15.out W _ _ hg2 hx2).mono ?_
          rintro e W' ⟨u0, u1, rfl, hs2, hr2, hb2⟩
          have hR2 : LR wS N parts ⟨xp, xq, xl⟩ a1 a2 ai ab true true true b9 (.agg #[.slice Ap N.length cp, .slice Aq parts.length cq]) (.agg #[.int .i64 xp, .int .i64 xq, .slice Ar xl.length cr]) (.agg #[u0, u1]) (.int .i64 ai) (.bool ab) xal W' := ⟨hR.below.trans (hb2.mono hR.below.size), (fun _ h => by cases h), (fun _ h => by cases h), fun _ => ⟨u0, u1, rfl, rfl, rfl, Kd.S_lower hs2 hR.below.size, Kd.R_lower hr2 hR.below.size⟩, (hR.grow hb2).f9⟩
          refine ⟨_, rfl, hK2 _ _ ?hS ?hgo⟩
          case hS =>
            have E2 := blk_below HS2.out hR2.below
            have E3 := blk_below HS3.out hR2.below
            exact ⟨blk_cell E2 0, blk_cell E2 1, blk_cell E3 0, blk_cell E3 1, blk_cell E3 2⟩
          case hgo =>
            intro f hf
            clear hK hK2 hi hun hs2 hr2 hb2 hR hne hg2 hx2
            cases b9 with
            | true =>
              obtain ⟨f, rfl⟩ : ∃ q, f = q + 4 := ⟨f - 4, by have h : cntF #[true, true, true, true, true, false, false, false, false, true, false, false, false] = 7 := (by kernel_rfl); have h2 : cntF #[true, true, true, true, true, false, false, false, false, true, false, false, false] ≤ f := hf; rw [h] at h2; omega⟩
              refine norm_ (a' := ?_) (show Act.put _ (some 114) _ = _ from ?_) ?_
              rotate_left
              · simp only [putAll, Act.put, List.setIfInBounds_toArray, List.set_cons_zero, List.set_cons_succ]
                rfl
              refine pure_ (i := 5) (N := some 109) (v := ?_) (a' := ?_) #[true, true, true, true, true, true, false, false, false, true, false, false, false] rfl rfl (by kernel_rfl) (fun _ _ _ h => h) (Or.inl ⟨by rfl, ?_⟩) ?_ ?_
              rotate_left
              · intro w'
                go_simp
                with_reducible rfl
              rotate_left
              · simp only [Act.put, List.setIfInBounds_toArray, List.set_cons_zero, List.set_cons_succ]
                rfl
              refine pure_ (i := 6) (N := some 115) (v := ?_) (a' := ?_) #[true, true, true, true, true, true, true, false, false, true, false, false, false] rfl rfl (by kernel_rfl) (fun _ _ _ h => h) (Or.inl ⟨by rfl, ?_⟩) ?_ ?_
              rotate_left
              · intro w'
                go_simp
                with_reducible rfl
              rotate_left
              · simp only [Act.put, List.setIfInBounds_toArray, List.set_cons_zero, List.set_cons_succ]
                rfl
              refine pure_ (i := 7) (N := some 116) (v := ?_) (a' := ?_) #[true, true, true, true, true, true, true, true, false, true, false, false, false] rfl rfl (by kernel_rfl) (fun _ _ _ h => h) (Or.inl ⟨by rfl, ?_⟩) ?_ ?_
              rotate_left
              · intro w'
                go_simp
                with_reducible rfl
              rotate_left
              · simp only [Act.put, List.setIfInBounds_toArray, List.set_cons_zero, List.set_cons_succ]
                rfl
              refine pure_ (i := 8) (N := some 117) (v := ?_) (a' := ?_) #[true, true, true, true, true, true, true, true, true, true, false, false, false] rfl rfl (by kernel_rfl) (fun _ _ _ h => h) (Or.inl ⟨by rfl, ?_⟩) ?_ ?_
              rotate_left
              · intro w'
                go_simp
                with_reducible rfl
              rotate_left
              · simp only [Act.put, List.setIfInBounds_toArray, List.set_cons_zero, List.set_cons_succ]
                rfl
              refine hrec _ _ _ ?hc ⟨true, true, true, true, xal, .tuple #[.agg #[u0, u1], .int .i64 ai, .bool ab], .agg #[.slice Ap N.length cp, .slice Aq parts.length cq], .agg #[.int .i64 xp, .int .i64 xq, .slice Ar xl.length cr], .tuple #[.agg #[u0, u1], .int .i64 ai, .bool ab], .agg #[u0, u1], .int .i64 ai, .bool ab, rfl, ?ha, ⟨fun _ => rfl, fun _ => rfl⟩, hR2⟩ f ?hf
              case hc => decide
              case ha => first | rfl | simp only [putAll, Act.put, List.setIfInBounds_toArray, List.set_cons_zero, List.set_cons_succ]
              case hf =>
                have h : cntF #[true, true, true, true, true, false, false, false, false, true, false, false, false] = 7 := (by kernel_rfl)
                have h2 : cntF #[true, true, true, true, true, false, false, false, false, true, false, false, false] ≤ f + 4 := hf
                have h3 : cntF #[true, true, true, true, true, true, true, true, true, true, false, false, false] = 3 := (by kernel_rfl)
                rw [h] at h2
                rw [h3]
                omega
            | false =>
              obtain ⟨f, rfl⟩ : ∃ q, f = q + 4 := ⟨f - 4, by have h : cntF #[true, true, true, true, true, false, false, false, false, false, false, false, false] = 8 := (by kernel_rfl); have h2 : cntF #[true, true, true, true, true, false, false, false, false, false, false, false, false] ≤ f := hf; rw [h] at h2; omega⟩
              refine norm_ (a' := ?_) (show Act.put _ (some 114) _ = _ from ?_) ?_
              rotate_left
              · simp only [putAll, Act.put, List.setIfInBounds_toArray, List.set_cons_zero, List.set_cons_succ]
                rfl
              refine pure_ (i := 5) (N := some 109) (v := ?_) (a' := ?_) #[true, true, true, true, true, true, false, false, false, false, false, false, false] rfl rfl (by kernel_rfl) (fun _ _ _ h => h) (Or.inl ⟨by rfl, ?_⟩) ?_ ?_
              rotate_left
              · intro w'
                go_simp
                with_reducible rfl
              rotate_left
              · simp only [Act.put, List.setIfInBounds_toArray, List.set_cons_zero, List.set_cons_succ]
                rfl
              refine pure_ (i := 6) (N := some 115) (v := ?_) (a' := ?_) #[true, true, true, true, true, true, true, false, false, false, false, false, false] rfl rfl (by kernel_rfl) (fun _ _ _ h => h) (Or.inl ⟨by rfl, ?_⟩) ?_ ?_
              rotate_left
              · intro w'
                go_simp
                with_reducible rfl
              rotate_left
              · simp only [Act.put, List.setIfInBounds_toArray, List.set_cons_zero, List.set_cons_succ]
                rfl
              refine pure_ (i := 7) (N := some 116) (v := ?_) (a' := ?_) #[true, true, true, true, true, true, true, true, false, false, false, false, false] rfl rfl (by kernel_rfl) (fun _ _ _ h => h) (Or.inl ⟨by rfl, ?_⟩) ?_ ?_
              rotate_left
              · intro w'
                go_simp
                with_reducible rfl
              rotate_left
              · simp only [Act.put, List.setIfInBounds_toArray, List.set_cons_zero, List.set_cons_succ]
                rfl
              refine pure_ (i := 8) (N := some 117) (v := ?_) (a' := ?_) #[true, true, true, true, true, true, true, true, true, false, false, false, false] rfl rfl (by kernel_rfl) (fun _ _ _ h => h) (Or.inl ⟨by rfl, ?_⟩) ?_ ?_
              rotate_left
              · intro w'
                go_simp
                with_reducible rfl
              rotate_left
              · simp only [Act.put, List.setIfInBounds_toArray, List.set_cons_zero, List.set_cons_succ]
                rfl
              refine hrec _ _ _ ?hc ⟨true, true, true, false, xal, .tuple #[.agg #[u0, u1], .int .i64 ai, .bool ab], .agg #[.slice Ap N.length cp, .slice Aq parts.length cq], .agg #[.int .i64 xp, .int .i64 xq, .slice Ar xl.length cr], .tuple #[.agg #[u0, u1], .int .i64 ai, .bool ab], .agg #[u0, u1], .int .i64 ai, .bool ab, rfl, ?ha, ⟨fun _ => rfl, fun _ => rfl⟩, hR2⟩ f ?hf
              case hc => decide
              case ha => first | rfl | simp only [putAll, Act.put, List.setIfInBounds_toArray, List.set_cons_zero, List.set_cons_succ]
              case hf =>
                have h : cntF #[true, true, true, true, true, false, false, false, false, false, false, false, false] = 8 := (by kernel_rfl)
                have h2 : cntF #[true, true, true, true, true, false, false, false, false, false, false, false, false] ≤ f + 4 := hf
                have h3 : cntF #[true, true, true, true, true, true, true, true, true, false, false, false, false] = 4 := (by kernel_rfl)
                rw [h] at h2
                rw [h3]
                omega
        · have e0 : b4 = false := hun
          exact absurd (ready_has hi (p := 4) (by kernel_rfl)) (by rw [show (#[true, b1, true, b3, b4, b4, b4, b4, b4, b9, false, false, false] : Array Bool).getD 4 false = b4 from rfl, e0]; decide)
        · have e0 : b4 = false := hun
          exact absurd (ready_has hi (p := 5) (by kernel_rfl)) (by rw [show (#[true, b1, true, b3, b4, b4, b4, b4, b4, b9, false, false, false] : Array Bool).getD 5 false = b4 from rfl, e0]; decide)
        · have e0 : b4 = false := hun
          exact absurd (ready_has hi (p := 5) (by kernel_rfl)) (by rw [show (#[true, b1, true, b3, b4, b4, b4, b4, b4, b9, false, false, false] : Array Bool).getD 5 false = b4 from rfl, e0]; decide)
        · have e0 : b4 = false := hun
          exact absurd (ready_has hi (p := 5) (by kernel_rfl)) (by rw [show (#[true, b1, true, b3, b4, b4, b4, b4, b4, b9, false, false, false] : Array Bool).getD 5 false = b4 from rfl, e0]; decide)
        · have e0 : b9 = false := hun
          subst e0
          obtain rfl := Option.some.inj hop
          refine box_step (by rfl) (N := 17) rfl (cs := #[.slice none 0 0, .slice none 0 0]) (t := 32) ?hr ?_
          case hr => first | (go_simp; done) | (go_simp; rfl)
          intro g hg W' h1 hb
          subst hg
          have h' := hR.grow hb
          refine hK _ _ ⟨b1, b3, b4, true, .pointer (some ⟨W.heap.size, 0, none⟩), xmv, xc1, xc2, xc3, xe0, xe1, xe2, rfl, ?ha, ⟨o3, o4⟩, ?hR⟩
          case ha =>
            show Act.put _ (some 17) _ = _
            simp only [putAll, Act.put, List.setIfInBounds_toArray, List.set_cons_zero, List.set_cons_succ]
          case hR => exact ⟨h'.below, h'.f1, h'.f3, h'.f4, fun _ => ⟨_, rfl, hR.below.size, h1⟩⟩
        · have e4 : b4 = true := ready_has hi (p := 4) (by kernel_rfl)
          have e9 : b9 = true := ready_has hi (p := 9) (by kernel_rfl)
          have e3 : b3 = true := o4 e4
          have e1 : b1 = true := o3 e3
          subst e1 e3 e4 e9
          exact absurd rfl hne
        · cases (ready_has hi (p := 10) (by kernel_rfl))
        · cases (ready_has hi (p := 11) (by kernel_rfl))
      case hcont =>
        rintro f a W hf ⟨b1, b3, b4, b9, xal, xmv, xc1, xc2, xc3, xe0, xe1, xe2, hl, ha, ho, hR⟩
        have e4 : true = b4 := congrArg (fun z => Array.getD z 4 false) hl
        have e9 : true = b9 := congrArg (fun z => Array.getD z 9 false) hl
        subst e4 e9
        simp only [putAll, Act.put, List.setIfInBounds_toArray, List.set_cons_zero, List.set_cons_succ] at ha
        subst ha
        obtain ⟨f, rfl⟩ : ∃ q, f = q + 3 := ⟨f - 3, by have h : cntF #[true, true, true, true, true, true, true, true, true, true, false, false, false] = 3 := (by kernel_rfl); rw [h] at hf; omega⟩
        obtain ⟨u0, u1, rfl, rfl, rfl, hs, hr⟩ := hR.f4 rfl
        obtain ⟨g6, rfl, hg6, hc⟩ := hR.f9 rfl
        obtain ⟨Au, cu, rfl⟩ := Kd.S_slice hs
        obtain ⟨Av, cv, rfl⟩ := Kd.R_slice hr
        have z0 := blk_cell hc 0
        have z1 := blk_cell hc 1
        have fz0 := blk_frozen hc 0
        have fz1 := blk_frozen hc 1
        simp only [List.getElem?_toArray, List.getElem?_cons_zero, List.getElem?_cons_succ] at z0 z1
        have hX : ((W.setCell ⟨g6, 0, none⟩ (.slice Au a1.length cu)).setCell ⟨g6, 1, none⟩ (.slice Av a2.length cv)).heap[g6]? = some (.cells #[.slice Au a1.length cu, .slice Av a2.length cv] 32 (0, 0)) := blk_put (blk_put hc 0 _ rfl) 1 _ rfl
        have hXB : Below wS.heap.size wS ((W.setCell ⟨g6, 0, none⟩ (.slice Au a1.length cu)).setCell ⟨g6, 1, none⟩ (.slice Av a2.length cv)) := (hR.below.setCell (p := ⟨g6, 0, none⟩) hg6 _).setCell (p := ⟨g6, 1, none⟩) hg6 _
        have hXS := Kd.S_set (Kd.S_set hs hc (by decide) 0 (.slice Au a1.length cu)) (blk_put hc 0 (.slice Au a1.length cu) rfl) (by decide) 1 (.slice Av a2.length cv)
        have hXR := Kd.R_set (Kd.R_set hr hc (by decide) 0 (.slice Au a1.length cu)) (blk_put hc 0 (.slice Au a1.length cu) rfl) (by decide) 1 (.slice Av a2.length cv)
        have HX := Aside0.mk (And.intro hX (And.intro hXB (And.intro hXS (And.intro hXR hg6))))
        clear hX hXB hXS hXR hc hs hr hR ho hl hf hHeld hg6
        refine one_ (i := 10) (N := none) #[true, true, true, true, true, true, true, true, true, true, true, false, false] rfl rfl (by kernel_rfl) (by decide) (fun K hK => ?_)
        refine skip_ (by rfl) rfl (w1 := ((W.setCell ⟨g6, 0, none⟩ (.slice Au a1.length cu)).setCell ⟨g6, 1, none⟩ (.slice Av a2.length cv))) ?hr (hK.out _ _ ?hSS (fun hHeld => ?_))
        case hr => first | (go_simp; done) | (go_simp; rfl)
        case hSS =>
          have E2 := blk_below HS2.out HX.out.2.1
          have E3 := blk_below HS3.out HX.out.2.1
          exact ⟨blk_cell E2 0, blk_cell E2 1, blk_cell E3 0, blk_cell E3 1, blk_cell E3 2⟩
        clear hK K hHeld
        refine pure_ (i := 11) (N := some 18) (v := ?_) (a' := ?_) #[true, true, true, true, true, true, true, true, true, true, true, true, false] rfl rfl (by kernel_rfl) (fun _ _ _ h => h) (Or.inl ⟨by rfl, ?_⟩) ?_ ?_
        rotate_left
        · intro w'
          go_simp
          with_reducible rfl
        rotate_left
        · simp only [Act.put, List.setIfInBounds_toArray, List.set_cons_zero, List.set_cons_succ]
          rfl
        refine pure_ (i := 12) (N := some 19) (v := ?_) (a' := ?_) #[true, true, true, true, true, true, true, true, true, true, true, true, true] rfl rfl (by kernel_rfl) (fun _ _ _ h => h) (Or.inl ⟨by rfl, ?_⟩) ?_ ?_
        rotate_left
        · intro w'
          go_simp
          with_reducible rfl
        rotate_left
        · simp only [Act.put, List.setIfInBounds_toArray, List.set_cons_zero, List.set_cons_succ]
          rfl
        refine done_ (by kernel_rfl) ?_
        generalize ((W.setCell ⟨g6, 0, none⟩ (.slice Au a1.length cu)).setCell ⟨g6, 1, none⟩ (.slice Av a2.length cv)) = wZ at HX ⊢
        clear z0 z1 fz0 fz1
        have HBZ := Aside0.mk (show Below w31.heap.size w31 wZ from by
          have h := HX.out.2.1
          rw [← hwS] at h
          exact (below_drew1 (Below.refl _ _)).trans h)
        have HAZ := Aside0.mk (HD31.out.below HBZ.out)
        have HGZ := Aside0.mk (HG31.out.below HBZ.out)
        have y0 := blk_cell HX.out.1 0
        have y1 := blk_cell HX.out.1 1
        have y2 := blk_cell HAZ.out.k6 0
        have y3 := blk_cell HAZ.out.k6 1
        simp only [List.getElem?_toArray, List.getElem?_cons_zero, List.getElem?_cons_succ] at y0 y1 y2 y3
        go_wp2_with (first | (go_at_call 16; refine (eqG_any (by have := HS1.out.1; omega) (fun y hy => by have := HS1.out.2.1 y hy; omega) (by have := HS1.out.2.2; omega) _ (Kd.S_reads' HX.out.2.2.1).2.2 (Kd.S_reads' HX.out.2.2.1).2.1 (Kd.R_reads' HX.out.2.2.2.1).2.2 (Kd.R_reads' HX.out.2.2.2.1).2.1 (Kd.S_reads' HAZ.out.s6).2.2 (Kd.S_reads' HAZ.out.s6).2.1 (Kd.R_reads' HAZ.out.r6).2.2 (Kd.R_reads' HAZ.out.r6).2.1).mono ?_; rintro e wR2 ⟨rfl, hb⟩; have HAY := Aside0.mk (HAZ.out.below hb); have HGY := Aside0.mk (HGZ.out.below hb); clear hb y0 y1 y2 y3 HX HAZ HGZ; have y0 := blk_cell HGY.out.k 0; have y1 := blk_cell HGY.out.k 1; (try simp only [List.getElem?_toArray, List.getElem?_cons_zero, List.getElem?_cons_succ] at y0 y1)) | (go_at_call 20; refine (T20.out _ HGY.out).mono ?_; rintro e wR3 ⟨rfl, hb⟩; have HAW := Aside0.mk (HAY.out.below hb); clear hb y0 y1))
        go_ret
        exact ⟨rfl, HAW.out.hb⟩
end Go.Proofs.Ytlnejmlphkpaaaa.PA
