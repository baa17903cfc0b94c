/- The graph seat: findNode by hand. -/
import Derived.Test.YtlnejmlphkpaaaaIqGq
namespace Go.Proofs.Ytlnejmlphkpaaaa.PA
open Go.RowKit Go.Proofs.YtlnejmlphkpaaaaW.PrintWords Go.Proofs.YtlnejmlphkpaaaaW.PrintLast Go.Proofs.YtlnejmlphkpaaaaW.PrintMore
set_option linter.unusedVariables false
set_option linter.unusedSimpArgs false
def PredN (g : Nat) (lb : Array Value) (xs : List S36) (p : S36 → Bool) (w : World) : Prop :=
 ∀ W, Below w.heap.size w W → ∀ y ∈ xs, ∀ (A : Option Addr) (c : Nat), y.f2.length ≤ c → Kd.C (Kd.int .i64) W A y.f2.length y.f2 → Calls Try.prog g (#[.agg #[.int .i64 y.f0, .int .i64 y.f1, .slice A y.f2.length c]] ++ lb) W fun e W' => e = .returned (.bool (p y)) ∧ Below W.heap.size W W'
set_option maxHeartbeats 2000000 in
theorem sl_IndexFunc_node (A : Option Addr) (c : Nat) (xs : List S36) (g : Nat) (lb : Array Value) (p : S36 → Bool) (w : World) (hr : Kd.C k36 w A xs.length xs)
  (eg : ∀ args w, (callFunc g args).run Try.prog w = .ok (.enter g args) w) (hp : PredN g lb xs p w) :
  Calls Try.prog 152 #[.slice A xs.length c, .func (.func g) #[] lb] w fun e w' => e = .returned (.int .i64 (fIdx p xs)) ∧ Below w.heap.size w w' := by
 have HR := Aside0.mk hr
 have HP := Aside0.mk hp
 clear hr hp
 have hmax := Kd.C_max HR.out
 go_enter Try.func152, Try.ntmps152
 go_wp2
 go_loopg [5, 8] xs.length (fun gg _ s8 wr => ∃ x : Nat, s8 = .int .i64 (x : Int) ∧ Aside0 (x ≤ xs.length ∧ xs.length - x ≤ gg ∧ ∀ j, j < x → p (xs.getD j z36) = false) ∧ Aside0 (Below w.heap.size w wr))
 case atStart => exact ⟨0, rfl, ⟨by omega, by omega, fun j hj => absurd hj (by simp)⟩, ⟨Below.refl _ _⟩⟩
 case round =>
  obtain ⟨x, rfl, HA, HB⟩ := hrel
  by_cases hlt : x < xs.length
  ·have p0 := eq_true (show (0 : Int) ≤ (x : Int) by omega)
   have q0 := eq_true (show (x : Int) < (xs.length : Int) by omega)
   obtain ⟨ad, A2, c2, e, hx0, hx1, hx2, hl2, hi2⟩ := at_T36 HR.out (x : Int) (by omega) (by omega)
   cases e
   have hmem : rd_T36 xs (x : Int) ∈ xs := by rw [rdN_at xs x hlt]; exact List.getElem_mem hlt
   have HGD := Aside0.mk (show xs.getD x z36 = rd_T36 xs (x : Int) by rw [rdN_at xs x hlt]; simp [List.getD_eq_getElem?_getD, List.getElem?_eq_getElem hlt])
   have hcall := HP.out wr HB.out (rd_T36 xs (x : Int)) hmem A2 c2 hl2 (Kd.C_below hi2 HB.out)
   replace hx0 := (HB.out.cell (World.block_lt_of_cell? w _ hx0)).trans hx0
   replace hx1 := (HB.out.cell (World.block_lt_of_cell? w _ hx1)).trans hx1
   replace hx2 := (HB.out.cell (World.block_lt_of_cell? w _ hx2)).trans hx2
   simp only [Int.toNat_natCast] at hx0 hx1 hx2
   generalize rd_T36 xs (x : Int) = y at hcall hx0 hx1 hx2 HGD
   have HL := Aside0.mk hlt
   clear hlt hl2 hi2 hmem
   cases hq : p y with
   | true =>
    rw [hq] at hcall
    have HQ := Aside0.mk hq
    clear hq
    go_wp2_with (go_at_fn g; refine hcall.mono ?_; rintro e w' ⟨rfl, hb'⟩; have HB' := Aside0.mk (below_step HB.out hb'); clear hb' HB)
    go_ret
    exact ⟨by rw [fIdx_hit p xs z36 (x : Int) (by omega) (by have := HL.out; omega) (by rw [Int.toNat_natCast, HGD.out]; exact HQ.out) (by rw [Int.toNat_natCast]; exact HA.out.2.2)]; rfl, HB'.out⟩
   | false =>
    rw [hq] at hcall
    have HQ := Aside0.mk hq
    clear hq
    go_wp2_with (go_at_fn g; refine hcall.mono ?_; rintro e w' ⟨rfl, hb'⟩; have HB' := Aside0.mk (below_step HB.out hb'); clear hb' HB)
    go_roundg (xs.length - (x + 1))
    case measure => have := HA.out; have := HL.out; omega
    case rel =>
     refine ⟨x + 1, by first | rfl | (rw [wnext64 x xs.length HL.out hmax]; rfl) | rw [wnext64 x xs.length HL.out hmax], ⟨by have := HL.out; omega, Nat.le_refl _, fun j hj => ?_⟩, HB'⟩
     by_cases e : j = x
     ·subst e; rw [HGD.out]; exact HQ.out
     ·exact HA.out.2.2 j (by omega)
  ·have q0 := eq_false (show ¬ (x : Int) < (xs.length : Int) by omega)
   have cj : decide (x < xs.length) = false := decide_eq_false hlt
   have HL := Aside0.mk hlt
   clear hlt
   go_wp2
   go_ret
   exact ⟨by rw [fIdx_miss p xs z36 (fun j hj => HA.out.2.2 j (by have := HL.out; omega))]; rfl, HB.out⟩
theorem fn_closure {A2 : Option Addr} {c2 : Nat} (x : S36) (hx : x.f2.length ≤ 1000) (gb : Nat) (W : World) (hg : W.heap[gb]? = some (.cells #[.int .i64 x.f0, .int .i64 x.f1, .slice A2 x.f2.length c2] 36 (0, 0))) (h2 : Kd.C (Kd.int .i64) W A2 x.f2.length x.f2) (l2 : x.f2.length ≤ c2)
  (y : S36) (A : Option Addr) (c : Nat) (hc : y.f2.length ≤ c) (hy : Kd.C (Kd.int .i64) W A y.f2.length y.f2) :
  Calls Try.prog 153 #[.agg #[.int .i64 y.f0, .int .i64 y.f1, .slice A y.f2.length c], .pointer (some ⟨gb, 0, none⟩)] W fun e W' => e = .returned (.bool (alikeB x y)) ∧ Below W.heap.size W W' := by
 obtain ⟨o1, ho1⟩ : ∃ o : Obj, o = .cells #[.int .i64 y.f0, .int .i64 y.f1, .slice A y.f2.length c] 36 := ⟨_, rfl⟩
 have T94 := Aside0.mk (fun W' (hW : Below W.heap.size W W') => alike_calls (A := A2) (B := A) x y hx W' (Kd.C_below h2 hW) l2 (Kd.C_below hy hW) hc)
 have B1 := Aside0.mk (show (W.alloc o1).heap[W.heap.size]? = some (.cells #[.int .i64 y.f0, .int .i64 y.f1, .slice A y.f2.length c] 36 (0, 0)) from by rw [← ho1]; exact blk_new W o1)
 have HB1 := Aside0.mk (show Below W.heap.size W (W.alloc o1) from below_alloc (Below.refl _ _) _)
 subst ho1
 have z0 := blk_cell (blk_alloc hg (.cells #[.int .i64 y.f0, .int .i64 y.f1, .slice A y.f2.length c] 36)) 0
 have z1 := blk_cell (blk_alloc hg (.cells #[.int .i64 y.f0, .int .i64 y.f1, .slice A y.f2.length c] 36)) 1
 have z2 := blk_cell (blk_alloc hg (.cells #[.int .i64 y.f0, .int .i64 y.f1, .slice A y.f2.length c] 36)) 2
 try simp only [List.getElem?_toArray, List.getElem?_cons_zero, List.getElem?_cons_succ] at z0 z1 z2
 generalize alikeB x y = r at T94 ⊢
 clear hg h2 l2 hc hy hx
 go_enter Try.func153, Try.ntmps153
 go_wp2_with (go_at_call 94; refine (T94.out _ (by repeat (first | exact HB1.out | apply below_drew1 | apply pw_below_drewN))).mono ?_; rintro e w9 ⟨rfl, hb⟩; have HB9 := Aside0.mk (below_step (by repeat (first | exact HB1.out | apply below_drew1 | apply pw_below_drewN)) hb); clear hb)
 go_ret
 exact ⟨rfl, HB9.out⟩
theorem find_idx {nodes : List S36} {parts : List Int} (x : S36) : ∀ (d i : Nat), nodes.length - i = d → i ≤ nodes.length → (∀ j, j < i → alikeB x (nodes.getD j z36) = false) →
  findFrom nodes parts x d i = if fIdx (alikeB x) nodes < 0 then -1 else rd parts (fIdx (alikeB x) nodes)
 | 0, i, hd, hi, hj => by
  have : fIdx (alikeB x) nodes = -1 := fIdx_miss _ _ z36 fun j h => hj j (by omega)
  rw [this, if_pos (by decide)]
  rfl
 | d + 1, i, hd, hi, hj => by
  have h : i < nodes.length := by omega
  have e : nodes.getD i z36 = rd_T36 nodes (i : Int) := by rw [rdN_at nodes i h]; simp [List.getD_eq_getElem?_getD, List.getElem?_eq_getElem h]
  unfold findFrom
  cases ha : alikeB (rd_T36 nodes (i : Int)) x with
  | true =>
   have hb : alikeB x (nodes.getD i z36) = true := by rw [e]; exact alikeB_iff.2 (alikeB_iff.1 ha).symm
   have : fIdx (alikeB x) nodes = (i : Int) := fIdx_hit _ _ z36 (i : Int) (by omega) (by omega) (by rw [Int.toNat_natCast]; exact hb) (by rw [Int.toNat_natCast]; exact hj)
   rw [this, if_pos rfl, if_neg (by omega)]
  | false =>
   rw [if_neg (by decide)]
   refine find_idx x d (i + 1) (by omega) (by omega) fun j h1 => ?_
   by_cases e2 : j = i
   ·subst e2
    rw [e]
    refine Bool.eq_false_iff.2 fun h3 => ?_
    rw [alikeB_iff.2 (alikeB_iff.1 h3).symm] at ha
    cases ha
   ·exact hj j (by omega)
theorem fIdx_lt {α : Type} (p : α → Bool) (xs : List α) : fIdx p xs < xs.length := by
 unfold fIdx
 cases h : xs.findIdx? p with
 | none => dsimp only; omega
 | some i =>
  have := (List.findIdx?_eq_some_iff_getElem.1 h).1
  dsimp only
  omega
set_option maxHeartbeats 4000000 in
theorem findNode_calls {A0 A1 A2 : Option Addr} {c0 c1 c2 : Nat} {nodes : List S36} {parts : List Int} (x : S36) (g : Nat) (w : World) (hg : w.heap[g]? = some (.cells #[.slice A0 nodes.length c0, .slice A1 parts.length c1] 32 (0, 0))) (h0 : Kd.C k36 w A0 nodes.length nodes) (h1 : Kd.C (Kd.int .i64) w A1 parts.length parts) (h2 : Kd.C (Kd.int .i64) w A2 x.f2.length x.f2) (l2 : x.f2.length ≤ c2) (hl : x.f2.length ≤ 1000) (hp : parts.length = nodes.length) :
  Calls Try.prog 129 #[.pointer (some ⟨g, 0, none⟩), .agg #[.int .i64 x.f0, .int .i64 x.f1, .slice A2 x.f2.length c2]] w fun e w' => e = .returned (.int .i64 (findN nodes parts x)) ∧ Below w.heap.size w w' := by
 have HF := Aside0.mk (show findN nodes parts x = if fIdx (alikeB x) nodes < 0 then -1 else rd parts (fIdx (alikeB x) nodes) from find_idx x nodes.length 0 rfl (Nat.zero_le _) fun j h => absurd h (Nat.not_lt_zero _))
 have hlt := fIdx_lt (alikeB x) nodes
 have HR1 := Aside0.mk h1
 obtain ⟨o1, ho1⟩ : ∃ o : Obj, o = .cells #[.int .i64 x.f0, .int .i64 x.f1, .slice A2 x.f2.length c2] 36 := ⟨_, rfl⟩
 have B1 := Aside0.mk (show (w.alloc o1).heap[w.heap.size]? = some (.cells #[.int .i64 x.f0, .int .i64 x.f1, .slice A2 x.f2.length c2] 36 (0, 0)) from by rw [← ho1]; exact blk_new w o1)
 have HB1 := Aside0.mk (show Below w.heap.size w (w.alloc o1) from below_alloc (Below.refl _ _) _)
 have BG := Aside0.mk (show (w.alloc o1).heap[g]? = some (.cells #[.slice A0 nodes.length c0, .slice A1 parts.length c1] 32 (0, 0)) from blk_alloc hg _)
 have heg := enters_fn (P := Try.prog) Try.func153 (by kernel_rfl) rfl
 have T152 := Aside0.mk (sl_IndexFunc_node A0 c0 nodes 153 #[.pointer (some ⟨w.heap.size, 0, none⟩)] (alikeB x) (w.alloc o1) (Kd.C_alloc h0 _) heg (fun W hW y hy A c hc hC => fn_closure x hl w.heap.size W (blk_below B1.out hW) (Kd.C_below (Kd.C_alloc h2 _) hW) l2 y A c hc hC))
 subst ho1
 have z0 := blk_cell BG.out 0
 try simp only [List.getElem?_toArray, List.getElem?_cons_zero, List.getElem?_cons_succ] at z0
 generalize findN nodes parts x = r at HF ⊢
 have HNEG := Aside0.mk (show fIdx (alikeB x) nodes = -1 ∨ 0 ≤ fIdx (alikeB x) nodes from by
  unfold fIdx
  cases nodes.findIdx? (alikeB x) with
  | none => exact .inl rfl
  | some i => exact .inr (by dsimp only; omega))
 generalize fIdx (alikeB x) nodes = i at HF T152 hlt HNEG
 have hm1 := Kd.C_max h1
 have HLT := Aside0.mk (show i < (parts.length : Int) by rw [hp]; exact hlt)
 clear hg h0 h1 h2 l2 hl heg hlt hp
 by_cases hi : i < 0
 ·have HQ := Aside0.mk (HF.out.trans (if_pos hi))
  have d0 := eq_true hi
  have d1 : decide (i < 0) = true := decide_eq_true hi
  clear hi
  go_enter Try.func129, Try.ntmps129
  go_wp2_with (go_at_call 152; refine T152.out.mono ?_; rintro e w9 ⟨rfl, hb⟩; have HB9 := Aside0.mk (below_step HB1.out hb); clear hb z0)
  go_ret
  exact ⟨by rw [HQ.out]; rfl, HB9.out⟩
 ·have HQ := Aside0.mk (HF.out.trans (if_neg hi))
  obtain ⟨ad, e, hv⟩ := Kd.at_int HR1.out i (by omega) HLT.out
  cases e
  have HV := Aside0.mk hv
  have d0 := eq_false hi
  have d1 : decide (i < 0) = false := decide_eq_false hi
  have d2 := eq_true (show 0 ≤ i by omega)
  have d3 := eq_true HLT.out
  clear hi hv
  go_enter Try.func129, Try.ntmps129
  go_wp2_with (go_at_call 152; refine T152.out.mono ?_; rintro e w9 ⟨rfl, hb⟩; have HB9 := Aside0.mk (below_step HB1.out hb); have D := blk_below BG.out hb; have k1 := blk_cell D 1; have hv9 := (HB9.out.cell (World.block_lt_of_cell? w _ HV.out)).trans HV.out; (try simp only [List.getElem?_toArray, List.getElem?_cons_zero, List.getElem?_cons_succ] at k1); clear hb z0 D)
  go_ret
  exact ⟨by rw [HQ.out]; rfl, HB9.out⟩
end Go.Proofs.Ytlnejmlphkpaaaa.PA
