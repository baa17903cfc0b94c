/- The flow seat: impl.dominators by hand. -/
import Derived.Test.YtghlbhijkhkgkaaIbOa
import Derived.Test.YtghlbhijkhkgkaaIbNa
import Derived.Test.YtghlbhijkhkgkaaIbVc
namespace Go.Proofs.Ytghlbhijkhkgkaa.PA
open Go.RowKit Go.Proofs.YtghlbhijkhkgkaaW.PrintWords Go.Proofs.YtghlbhijkhkgkaaW.PrintLast Go.Proofs.YtghlbhijkhkgkaaW.PrintMore
set_option linter.unusedVariables false
/-- n rows of n bools. -/
def rowF (n : Nat) (f : Int → Int → Bool) (b : Int) : List Bool := (List.range n).map fun (d : Nat) => f b (d : Int)
def grid (n : Nat) (f : Int → Int → Bool) : List (List Bool) := (List.range n).map fun (b : Nat) => rowF n f (b : Int)
section
variable {n b d : Nat} {f f' : Int → Int → Bool} {v : Bool}
theorem rowF_len (n : Nat) (f : Int → Int → Bool) (b : Int) : (rowF n f b).length = n := by simp [rowF]
theorem grid_len (n : Nat) (f : Int → Int → Bool) : (grid n f).length = n := by simp [grid]
theorem rowF_ext (h : ∀ d : Nat, d < n → f (b : Int) (d : Int) = f' (b : Int) (d : Int)) : rowF n f (b : Int) = rowF n f' (b : Int) := List.map_congr_left fun d hd => h d (List.mem_range.1 hd)
theorem grid_ext (h : ∀ b d : Nat, b < n → d < n → f (b : Int) (d : Int) = f' (b : Int) (d : Int)) : grid n f = grid n f' := List.map_congr_left fun b hb => rowF_ext fun d hd => h b d (List.mem_range.1 hb) hd
theorem grid_get (h : b < n) : (grid n f).getD b [] = rowF n f (b : Int) := by simp [grid, List.getD_eq_getElem?_getD, h]
theorem grid_set (hb : b < n) (hd : d < n) (h1 : f' (b : Int) (d : Int) = v) (h2 : ∀ b' d' : Nat, (b' ≠ b ∨ d' ≠ d) → f' (b' : Int) (d' : Int) = f (b' : Int) (d' : Int)) : (grid n f).set b ((rowF n f (b : Int)).set d v) = grid n f' := by
  refine List.ext_getElem (by simp [grid]) fun k h3 h4 => ?_
  rw [List.getElem_set]
  by_cases e : b = k
  · subst e
    rw [if_pos rfl]
    refine List.ext_getElem (by simp [grid, rowF]) fun j h5 h6 => ?_
    rw [List.getElem_set]
    by_cases e2 : d = j
    · subst e2
      rw [if_pos rfl]
      simp [grid, rowF, h1]
    · rw [if_neg e2]
      simp [grid, rowF, h2 b j (.inr (Ne.symm e2))]
  · rw [if_neg e]
    simp only [grid, List.getElem_map, List.getElem_range]
    exact rowF_ext fun j _ => (h2 k j (.inl (Ne.symm e))).symm
/-- The rows that are made, the others nil. -/
def madeL (n i : Nat) : List (List Bool) := (List.range n).map fun (b : Nat) => if b < i then List.replicate n false else []
theorem madeL_len (n i : Nat) : (madeL n i).length = n := by simp [madeL]
theorem madeL_zero (n : Nat) : madeL n 0 = List.replicate n [] := List.ext_getElem (by simp [madeL]) fun k h1 h2 => by simp [madeL]
theorem madeL_succ {i : Nat} : (madeL n i).set i (List.replicate n false) = madeL n (i + 1) := by
  refine List.ext_getElem (by simp [madeL]) fun k h1 h2 => ?_
  rw [List.getElem_set]
  simp only [madeL, List.getElem_map, List.getElem_range]
  by_cases e : i = k
  · subst e; rw [if_pos rfl, if_pos (by omega)]
  · rw [if_neg e]
    by_cases e2 : k < i
    · rw [if_pos e2, if_pos (by omega)]
    · rw [if_neg e2, if_neg (by omega)]
theorem madeL_end (n : Nat) : madeL n n = grid n fun _ _ => false := by
  refine List.ext_getElem (by simp [madeL, grid]) fun k h1 h2 => ?_
  simp only [madeL, grid, List.getElem_map, List.getElem_range]
  rw [madeL_len] at h1
  rw [if_pos h1]
  exact List.ext_getElem (by simp [rowF]) fun j h3 h4 => by simp [rowF]
end
/-- The dominators of all blocks, as bools. -/
noncomputable def domGrid (next : List (List Int)) : List (List Bool) := grid next.length (domB next)
/-- The cells that are told when i of the blocks that are reached are done, and of the next one, x, the first j rows. -/
noncomputable def cellF (next : List (List Int)) (i : Nat) (x : Int) (j : Nat) (b d : Int) : Bool := (decide (d ∈ (reached next).take i) || (decide (d = x) && decide (b < (j : Int)))) && domB next b d
section
variable {next : List (List Int)} {n i j xn : Nat} {x : Int}
theorem cellF_start (next : List (List Int)) (n : Nat) : grid n (cellF next 0 0 0) = grid n fun _ _ => false := grid_ext fun b d _ _ => by simp [cellF]; omega
theorem cellF_zero (next : List (List Int)) (n i : Nat) (x : Int) : grid n (cellF next i x 0) = grid n (cellF next i 0 0) := by
  refine grid_ext fun b d _ _ => ?_
  have e1 : decide ((b : Int) < ((0 : Nat) : Int)) = false := decide_eq_false (by omega)
  simp only [cellF, e1, Bool.and_false]
theorem cellF_all (h : (reached next).take (i + 1) = (reached next).take i ++ [(xn : Int)]) : grid n (cellF next i (xn : Int) n) = grid n (cellF next (i + 1) 0 0) := by
  refine grid_ext fun b d hb hd => ?_
  have e1 : decide ((b : Int) < ((0 : Nat) : Int)) = false := decide_eq_false (by omega)
  have e2 : decide ((b : Int) < (n : Int)) = true := decide_eq_true (by omega)
  simp only [cellF, e1, e2, Bool.and_false, Bool.and_true, Bool.or_false, h, List.mem_append, List.mem_singleton, Bool.decide_or]
theorem cellF_end (next : List (List Int)) (n : Nat) : grid n (cellF next (reached next).length 0 0) = grid n (domB next) := by
  refine grid_ext fun b d hb hd => ?_
  have e1 : decide ((b : Int) < ((0 : Nat) : Int)) = false := decide_eq_false (by omega)
  simp only [cellF, e1, Bool.and_false, Bool.or_false, List.take_length, domB]
  cases h1 : decide ((d : Int) ∈ reached next) <;> simp
theorem cellF_step (hj : j < n) (hx : xn < n) : (grid n (cellF next i (xn : Int) j)).set j ((rowF n (cellF next i (xn : Int) j) (j : Int)).set xn (domB next (j : Int) (xn : Int))) = grid n (cellF next i (xn : Int) (j + 1)) := by
  refine grid_set hj hx ?_ fun b' d' h => ?_
  · have e2 : decide ((j : Int) < ((j + 1 : Nat) : Int)) = true := decide_eq_true (by omega)
    simp [cellF]
    omega
  · simp only [cellF]
    by_cases e : (d' : Int) = (xn : Int)
    · have hb : b' ≠ j := h.resolve_right (fun h => h (by omega))
      have e3 : decide ((b' : Int) < ((j + 1 : Nat) : Int)) = decide ((b' : Int) < (j : Int)) := by rw [decide_eq_decide]; omega
      rw [e3]
    · have e3 : decide ((d' : Int) = (xn : Int)) = false := decide_eq_false e
      rw [e3, Bool.false_and, Bool.false_and]
end
set_option maxHeartbeats 8000000 in
set_option maxRecDepth 100000 in
theorem dominators_any {A0 : Option Addr} {c0 : Nat} (next : List (List Int)) (w : World) (hok : RowsOk next) (h1 : 0 < next.length) (h8 : next.length ≤ 8) (hr0 : Kd.C kR w A0 next.length next) (hc0 : next.length ≤ c0) :
    Calls Try.prog 78 #[.slice A0 next.length c0] w fun e w' => ∃ v : Value, e = .returned v ∧ Kd.S kB 69 w' w.heap.size (fun _ => True) v (domGrid next) ∧ Below w.heap.size w w' := by
  have T73 := Aside0.mk (fun W (hW : Below w.heap.size w W) (but : Int) => (show Calls Try.prog 73 #[.slice A0 next.length c0, .int .i64 0, .int .i64 but] W fun e w' => ∃ v : Value, e = .returned v ∧ Kd.bool.R 4 w' W.heap.size (fun _ => True) v (reachL next 0 but) ∧ Below W.heap.size W w' from by
    obtain ⟨k, hk⟩ := Ev.rounds (reach_is hok ⟨Int.le_refl _, by omega⟩ but)
    exact impl_reach.calls k A0 c0 next 0 but _ W (Kd.C_below hr0 hW) hc0 hk))
  have HB := Aside0.mk (Below.refl w.heap.size w)
  have hlen : ∀ but, (reachL next 0 but).length = next.length := reachL_len next 0
  have hdg : domGrid next = grid next.length (domB next) := rfl
  obtain ⟨n, hn⟩ : ∃ n, n = next.length := ⟨_, rfl⟩
  rw [← hn] at T73 hlen h1 h8 hdg ⊢
  rw [hdg]
  have H1 := Aside0.mk h1
  have H8 := Aside0.mk h8
  have HEN := Aside0.mk hn
  have HLEN := Aside0.mk hlen
  obtain ⟨all, hall⟩ : ∃ z, z = reachL next 0 (-1) := ⟨_, rfl⟩
  have T73a := Aside0.mk (show ∀ W, Below w.heap.size w W → Calls Try.prog 73 #[.slice A0 n c0, .int .i64 0, .int .i64 (-1)] W fun e w' => ∃ v : Value, e = .returned v ∧ Kd.bool.R 4 w' W.heap.size (fun _ => True) v all ∧ Below W.heap.size W w' from fun W hW => by rw [hall]; exact T73.out W hW (-1))
  have HALL := Aside0.mk hall
  clear h1 h8 hn hr0 hc0 hok hlen hall hdg
  go_enter Try.func78, Try.ntmps78
  try go_wp2
  have n0_ := Aside0.mk (below_drew1 HB.out)
  clear HB
  have HB := n0_
  clear n0_
  refine start_ (n := 7) (S := fun w' => True) (ds := []) #[false, false, false, false, false, false, false] (by kernel_rfl) rfl rfl trivial (fun hHeld => ?_)
  generalize w.drew = w5 at HB hHeld ⊢
  refine pure_ (i := 0) (N := some 10) (v := ?_) (a' := ?_) #[true, false, false, false, false, false, false] rfl rfl (by kernel_rfl) (fun _ _ _ h => h) (Or.inl ⟨by rfl, ?_⟩) ?_ ?_
  rotate_left
  · intro w'
    go_simp
    with_reducible rfl
  rotate_left
  · simp only [Act.put, List.setIfInBounds_toArray, List.set_cons_zero, List.set_cons_succ]
    rfl
  refine pure_ (i := 1) (N := some 11) (v := ?_) (a' := ?_) #[true, true, false, false, false, false, false] rfl rfl (by kernel_rfl) (fun _ _ _ h => h) (Or.inl ⟨by rfl, ?_⟩) ?_ ?_
  rotate_left
  · intro w'
    go_simp
    with_reducible rfl
  rotate_left
  · simp only [Act.put, List.setIfInBounds_toArray, List.set_cons_zero, List.set_cons_succ]
    rfl
  refine pure_ (i := 3) (N := some 13) (v := ?_) (a' := ?_) #[true, true, false, true, false, false, false] rfl rfl (by kernel_rfl) (fun _ _ _ h => h) (Or.inl ⟨by rfl, ?_⟩) ?_ ?_
  rotate_left
  · intro w'
    go_simp
    with_reducible rfl
  rotate_left
  · simp only [Act.put, List.setIfInBounds_toArray, List.set_cons_zero, List.set_cons_succ]
    rfl
  refine join_ (σ := Value × Value) 2 #[true, true, true, true, true, false, false] (fun s_ => [(12, s_.1), (14, s_.2)]) (fun s_ w' => (Kd.S kB 69 w' w.heap.size (fun k_ => some k_ ≠ (s_.2 : Value).ownBlock) s_.1 (madeL n 0)) ∧ (Kd.R Kd.bool 4 w' w.heap.size (fun _ => True) s_.2 all) ∧ (Below w.heap.size w w')) ?_ ?_
  rotate_left
  · intro hCont
    refine two_ (i := 2) (j := 4) (Ni := some 12) (Nj := some 14) #[true, true, true, true, false, false, false] #[true, true, false, true, true, false, false] rfl rfl rfl rfl (by kernel_rfl) (by decide) (by decide) (fun K hK => ?_) (fun K hK => ?_)
    · skip
      refine Kd.S_make_step kB _ 69 (by rfl) (N := 12) rfl 75 _ _ rfl (n : Int) rfl rfl Try.underlying75 (.slice none 0 0) 24 info69 rfl (by decide) (by omega) [] (ok := fun _ => True) (okp := fun _ => True) ⟨_, rfl, Kd.R_nil _ _ _ _ _⟩ (fun _ hk => hk) trivial (by omega) (by have := H8.out; simp; omega) (Below.refl _ _) (Nat.le_refl _) ?_
      intro v675 w6 ho7 hb hg_ hnew_
      clear hg_ hnew_
      rw [Int.toNat_natCast, ← madeL_zero] at ho7
      have n0_ := Aside0.mk (Kd.S_lower ho7 (below_size (by repeat (first | (with_reducible first | exact HB.out | apply below_alloc | apply pw_below_drewN | apply below_drew1) | exact HB.out))))
      have n1_ := Aside0.mk (below_step (by repeat (first | (with_reducible first | exact HB.out | apply below_alloc | apply pw_below_drewN | apply below_drew1) | exact HB.out)) hb)
      clear HB
      have HO676 := n0_
      have HB := n1_
      clear n0_ n1_
      clear hb ho7
      refine hK.out _ _ trivial (fun hHeld => ?_)
      clear hK K
      refine norm_ (a' := ?_) ?_ ?_
      rotate_left
      · show Act.put _ (some 12) _ = _
        simp only [Act.put, List.setIfInBounds_toArray, List.set_cons_zero, List.set_cons_succ]
        rfl
      refine one_ (i := 4) (N := some 14) #[true, true, true, true, true, false, false] rfl rfl (by kernel_rfl) (by decide) (fun K hK => ?_)
      refine goes_ Try.func73 (by kernel_rfl) rfl #[.slice A0 n c0, .int .i64 0, .int .i64 (-1)] (by rfl) rfl rfl (by (try simp only [List.map_toArray, List.map_cons, List.map_nil]); first | done | rfl | (simp only [List.length_drop, List.length_take]; rfl)) ?_
      refine (T73a.out _ HB.out).mono ?_
      rintro e w8 ⟨v678, rfl, ho0, hb⟩
      refine ⟨_, rfl, ?_⟩
      have n0_ := Aside0.mk (Kd.S_elder' (by (with_reducible repeat (first | apply Kd.S_alloc | apply Kd.S_drewN | apply Kd.S_drew)); exact HO676.out) (Kd.R_base ho0) hb)
      have n1_ := Aside0.mk (Kd.R_lower ho0 (below_size (by repeat (first | (with_reducible first | exact HB.out | apply below_alloc | apply pw_below_drewN | apply below_drew1) | exact HB.out))))
      have n2_ := Aside0.mk (below_step (by repeat (first | (with_reducible first | exact HB.out | apply below_alloc | apply pw_below_drewN | apply below_drew1) | exact HB.out)) hb)
      clear HO676
      clear HB
      have HO676 := n0_
      have HO679 := n1_
      have HB := n2_
      clear n0_ n1_ n2_
      (try clear hb)
      (try clear hb2)
      (try clear hk)
      (try clear hi)
      (try clear ho0)
      refine hK.out _ _ trivial (fun hHeld => ?_)
      clear hK K
      refine norm_ (a' := ?_) ?_ ?_
      rotate_left
      · show Act.put _ (some 14) _ = _
        simp only [Act.put, List.setIfInBounds_toArray, List.set_cons_zero, List.set_cons_succ]
        rfl
      exact norm_ (by simp only [putAll, Act.put, List.setIfInBounds_toArray, List.set_cons_zero, List.set_cons_succ]) (hCont (v675, v678) _ ⟨(by (with_reducible repeat (first | apply Kd.S_alloc | apply Kd.S_drewN | apply Kd.S_drew)); exact Kd.S_mono HO676.out (fun _ hk => hk.2)), (by (with_reducible repeat (first | apply Kd.R_alloc | apply Kd.R_drewN | apply Kd.R_drew)); exact HO679.out), (by repeat (first | (with_reducible first | exact HB.out | apply below_alloc | apply pw_below_drewN | apply below_drew1) | exact HB.out))⟩)
    · skip
      refine goes_ Try.func73 (by kernel_rfl) rfl #[.slice A0 n c0, .int .i64 0, .int .i64 (-1)] (by rfl) rfl rfl (by (try simp only [List.map_toArray, List.map_cons, List.map_nil]); first | done | rfl | (simp only [List.length_drop, List.length_take]; rfl)) ?_
      refine (T73a.out _ HB.out).mono ?_
      rintro e w6 ⟨v678, rfl, ho0, hb⟩
      refine ⟨_, rfl, ?_⟩
      have n0_ := Aside0.mk (Kd.R_lower ho0 (below_size (by repeat (first | (with_reducible first | exact HB.out | apply below_alloc | apply pw_below_drewN | apply below_drew1) | exact HB.out))))
      have n1_ := Aside0.mk (below_step (by repeat (first | (with_reducible first | exact HB.out | apply below_alloc | apply pw_below_drewN | apply below_drew1) | exact HB.out)) hb)
      clear HB
      have HO679 := n0_
      have HB := n1_
      clear n0_ n1_
      (try clear hb)
      (try clear hb2)
      (try clear hk)
      (try clear hi)
      (try clear ho0)
      refine hK.out _ _ trivial (fun hHeld => ?_)
      clear hK K
      refine norm_ (a' := ?_) ?_ ?_
      rotate_left
      · show Act.put _ (some 14) _ = _
        simp only [Act.put, List.setIfInBounds_toArray, List.set_cons_zero, List.set_cons_succ]
        rfl
      refine one_ (i := 2) (N := some 12) #[true, true, true, true, true, false, false] rfl rfl (by kernel_rfl) (by decide) (fun K hK => ?_)
      refine Kd.S_make_step kB _ 69 (by rfl) (N := 12) rfl 75 _ _ rfl (n : Int) rfl rfl Try.underlying75 (.slice none 0 0) 24 info69 rfl (by decide) (by omega) [] (ok := fun _ => True) (okp := fun _ => True) ⟨_, rfl, Kd.R_nil _ _ _ _ _⟩ (fun _ hk => hk) trivial (by omega) (by have := H8.out; simp; omega) (Below.refl _ _) (Nat.le_refl _) ?_
      intro v675 w7 ho8 hb hg_ hnew_
      clear hg_ hnew_
      rw [Int.toNat_natCast, ← madeL_zero] at ho8
      have n0_ := Aside0.mk (Kd.R_below (by (with_reducible repeat (first | apply Kd.R_alloc | apply Kd.R_drewN | apply Kd.R_drew)); exact HO679.out) hb)
      have n1_ := Aside0.mk (Kd.S_lower (Kd.S_new' ho8 (Kd.R_lt (by (with_reducible repeat (first | apply Kd.R_alloc | apply Kd.R_drewN | apply Kd.R_drew)); exact HO679.out))) (below_size (by repeat (first | (with_reducible first | exact HB.out | apply below_alloc | apply pw_below_drewN | apply below_drew1) | exact HB.out))))
      have n2_ := Aside0.mk (below_step (by repeat (first | (with_reducible first | exact HB.out | apply below_alloc | apply pw_below_drewN | apply below_drew1) | exact HB.out)) hb)
      clear HO679
      clear HB
      have HO679 := n0_
      have HO676 := n1_
      have HB := n2_
      clear n0_ n1_ n2_
      clear hb ho8
      refine hK.out _ _ trivial (fun hHeld => ?_)
      clear hK K
      refine norm_ (a' := ?_) ?_ ?_
      rotate_left
      · show Act.put _ (some 12) _ = _
        simp only [Act.put, List.setIfInBounds_toArray, List.set_cons_zero, List.set_cons_succ]
        rfl
      exact norm_ (by simp only [putAll, Act.put, List.setIfInBounds_toArray, List.set_cons_zero, List.set_cons_succ]) (hCont (v675, v678) _ ⟨(by (with_reducible repeat (first | apply Kd.S_alloc | apply Kd.S_drewN | apply Kd.S_drew)); exact Kd.S_mono HO676.out (fun _ hk => hk.2)), (by (with_reducible repeat (first | apply Kd.R_alloc | apply Kd.R_drewN | apply Kd.R_drew)); exact HO679.out), (by repeat (first | (with_reducible first | exact HB.out | apply below_alloc | apply pw_below_drewN | apply below_drew1) | exact HB.out))⟩)
  rintro ⟨v675, v678⟩ w9 ⟨h0_, h1_, h2_⟩
  have n0_ : Aside0 (Kd.S kB 69 w9 w.heap.size (fun k_ => some k_ ≠ (v678 : Value).ownBlock) v675 (madeL n 0)) := ⟨h0_⟩
  have n1_ : Aside0 (Kd.R Kd.bool 4 w9 w.heap.size (fun _ => True) v678 all) := ⟨h1_⟩
  have n2_ : Aside0 (Below w.heap.size w w9) := ⟨h2_⟩
  clear HB
  clear h0_ h1_ h2_
  have HO676 := n0_
  have HO679 := n1_
  have HB := n2_
  clear n0_ n1_ n2_
  have hHeld := trivial
  refine norm_ (a' := ?_) ?_ ?_
  rotate_left
  · simp only [putAll, Act.put, List.setIfInBounds_toArray, List.set_cons_zero, List.set_cons_succ]
    rfl
  refine pure_ (i := 5) (N := some 3) (v := ?_) (a' := ?_) #[true, true, true, true, true, true, false] rfl rfl (by kernel_rfl) (fun _ _ _ h => h) (Or.inl ⟨by rfl, ?_⟩) ?_ ?_
  rotate_left
  · intro w'
    go_simp
    with_reducible rfl
  rotate_left
  · simp only [Act.put, List.setIfInBounds_toArray, List.set_cons_zero, List.set_cons_succ]
    rfl
  refine pure_ (i := 6) (N := some 4) (v := ?_) (a' := ?_) #[true, true, true, true, true, true, true] rfl rfl (by kernel_rfl) (fun _ _ _ h => h) (Or.inl ⟨by rfl, ?_⟩) ?_ ?_
  rotate_left
  · intro w'
    go_simp
    with_reducible rfl
  rotate_left
  · simp only [Act.put, List.setIfInBounds_toArray, List.set_cons_zero, List.set_cons_succ]
    rfl
  refine done_ (by kernel_rfl) ?_
  obtain ⟨g, cap, e3, hgB, hgH, cells, hcells⟩ := Kd.S_form HO676.out (by rw [madeL_len]; exact H1.out)
  rw [madeL_len] at e3
  subst e3
  obtain ⟨A4, c4, e4⟩ := Kd.R_slice HO679.out
  rw [HALL.out, HLEN.out] at e4
  subst e4
  have HS := HO676
  have HA4 := Aside0.mk (Kd.R_tight rfl HO679.out)
  have HAL := Aside0.mk (show all.length = n by rw [HALL.out, HLEN.out])
  have HGB := Aside0.mk hgB
  clear HO676 HO679 hgB hgH hcells T73a
  have hm4 : n ≤ 9223372036854775807 := by have := H8.out; omega
  try go_wp2
  go_loopg [17] n (fun gg s17 wr => ∃ i : Nat, s17 = .int .i64 (i : Int) ∧ Aside0 (i ≤ n ∧ n - i ≤ gg) ∧ Aside0 (Kd.S kB 69 wr w.heap.size (fun k => some k ≠ (Value.slice A4 n c4).ownBlock) (.slice (some ⟨g, 0, none⟩) n cap) (madeL n i)) ∧ Aside0 (Kd.bool.R 4 wr w.heap.size (fun k => some k = (Value.slice A4 n c4).ownBlock) (.slice A4 n c4) all) ∧ Aside0 (Below w.heap.size w wr))
  case atStart => exact ⟨0, rfl, ⟨by omega, by omega⟩, HS, HA4, HB⟩
  case round =>
    clear HS HA4 HB
    obtain ⟨i, rfl, HA, HS, HA4, HB⟩ := hrel
    obtain ⟨wo, rfl⟩ : ∃ wo : World, wo = wr := ⟨_, rfl⟩
    by_cases hlt : i < n
    · have p0 : (0 ≤ (i : Int)) = True := eq_true (by omega)
      have p1 : ((i : Int) < (n : Int)) = True := eq_true (by omega)
      obtain ⟨oki, v6, z6, f6, hR6, hok6, hH6⟩ := rows_lend HS.out hlt
      obtain ⟨cells6, hg6⟩ := rows_at HS.out H1.out
      have HH6 := Aside0.mk hH6
      have HL := Aside0.mk hlt
      clear hR6 hok6 hH6 f6
      go_wp2_with ((with_reducible refine gate_dst (N := 24) rfl ?_); refine Kd.R_make Kd.bool _ 4 rfl (N := 24) rfl 69 _ _ rfl (n : Int) rfl rfl Try.underlying69 (.bool false) 1 info4 rfl (by decide) (by omega) false (ok := fun _ => True) (okp := fun _ => True) rfl (fun _ hk => hk) trivial (by omega) (by have := H8.out; simp; omega) (Below.refl _ _) (Nat.le_refl _) ?_; intro v24 w17 ho hb hg_ hnew_; obtain ⟨A24, c24, e24⟩ := Kd.R_slice ho; rw [List.length_replicate, Int.toNat_natCast] at e24; subst e24; rw [Int.toNat_natCast] at ho; have z17 := pw_cell_below hb z6; have hg17 := blk_below hg6 hb; have f17 := blk_frozen hg17 i; have HO24 := Aside0.mk ho; have HB24 := Aside0.mk hb; have HG17 := Aside0.mk hg17; clear ho hb hg_ hnew_ z6 hg6 hg17)
      have hput := rows_new HH6.out HL.out (Kd.R_lower (Kd.R_mono (Kd.R_bound HO24.out) (fun k hk => hk.2.1)) HB.out.size) HB24.out (fun k hk e => by have := Kd.R_lt HA4.out k e.symm; omega)
      rw [madeL_succ] at hput
      have HPUT := Aside0.mk hput.1
      have HA4n := Aside0.mk (Kd.R_set (Kd.R_below HA4.out HB24.out) HG17.out (by decide) i (.slice A24 n c24))
      clear hput
      go_roundg (n - (i + 1))
      case measure => have := HA.out; have := HL.out; omega
      case rel => exact ⟨i + 1, by go_num, ⟨by have := HL.out; omega, by omega⟩, HPUT, HA4n, ⟨(below_step HB.out HB24.out).setCell (p := ⟨g, i, none⟩) HGB.out _⟩⟩
    · have e : i = n := by have := HA.out; omega
      obtain ⟨M1, hM1⟩ : ∃ M1, M1 = wo.heap.size := ⟨_, rfl⟩
      have HS1 := Aside0.mk (show Kd.S kB 69 wo w.heap.size (fun k => some k ≠ (Value.slice A4 n c4).ownBlock ∧ k < M1) (.slice (some ⟨g, 0, none⟩) n cap) (grid n fun _ _ => false) from by rw [← madeL_end]; have h := HS.out; rw [e] at h; exact Kd.S_mono (Kd.S_bound h) (fun k hk => ⟨hk.1, by rw [hM1]; exact hk.2.2.1⟩))
      have HM1 := Aside0.mk hM1
      have p1 : ((i : Int) < (n : Int)) = False := eq_false (by omega)
      have T72 := listOf_any (w := wo) (A := A4) (c := c4) all (by rw [HAL.out]; have := H8.out; omega) (Kd.R_reads' HA4.out).2.2 (by rw [HAL.out]; have := (Kd.R_reads' HA4.out).2.1; exact this)
      rw [HALL.out, listOf_reach, ← HALL.out, HAL.out] at T72
      have HT := Aside0.mk T72
      clear e hM1 HS T72
      obtain ⟨D, hD⟩ : ∃ D, D = reached next := ⟨_, rfl⟩
      have HDL := Aside0.mk (show D.length ≤ 8 from by have h2 := fromL_len next 0 (-1); have := H8.out; have := HEN.out; rw [hD]; show (fromL next 0 (-1)).length ≤ 8; omega)
      rw [show fromL next 0 (-1) = D from hD.symm] at HT
      have HED := Aside0.mk hD
      clear hD
      go_wp2_with (go_at_call 72; refine (HT.out).mono ?_; rintro e w28 ⟨v28, rfl, hR, hb⟩; obtain ⟨A28, c28, rfl⟩ := Kd.R_slice hR; have HD := Aside0.mk (show (Kd.int .i64).R 3 w28 w.heap.size (fun k => M1 ≤ k) (.slice A28 D.length c28) D from Kd.R_lower (Kd.R_mono (Kd.R_bound hR) (fun k hk => by rw [HM1.out]; exact hk.2.1)) HB.out.size); have HB28 := Aside0.mk (below_step HB.out hb); have HS28 := Aside0.mk (Kd.S_below HS1.out hb); have HA28 := Aside0.mk (Kd.R_below HA4.out hb); have HM28 := Aside0.mk (show M1 ≤ w28.heap.size from by rw [HM1.out]; exact hb.size); clear hR hb HT)
      have hdm := Kd.C_max (Kd.R_reads' HD.out).2.2
      have HS2 := Aside0.mk (show Kd.S kB 69 w28 w.heap.size (fun k => some k ≠ (Value.slice A4 n c4).ownBlock ∧ k < M1) (.slice (some ⟨g, 0, none⟩) n cap) (grid n (cellF next 0 0 0)) from by rw [cellF_start]; exact HS28.out)
      clear HS28 HS1 HA4 HB HM1
      go_loopg [30] D.length (fun gg s30 wr => ∃ i : Nat, s30 = .int .i64 (i : Int) ∧ Aside0 (i ≤ D.length ∧ D.length - i ≤ gg) ∧ Aside0 (Kd.S kB 69 wr w.heap.size (fun k => some k ≠ (Value.slice A4 n c4).ownBlock ∧ k < M1) (.slice (some ⟨g, 0, none⟩) n cap) (grid n (cellF next i 0 0))) ∧ Aside0 (Kd.bool.R 4 wr w.heap.size (fun k => some k = (Value.slice A4 n c4).ownBlock) (.slice A4 n c4) all) ∧ Aside0 ((Kd.int .i64).R 3 wr w.heap.size (fun k => M1 ≤ k) (.slice A28 D.length c28) D) ∧ Aside0 (Below w.heap.size w wr) ∧ Aside0 (M1 ≤ wr.heap.size))
      case atStart => exact ⟨0, rfl, ⟨by omega, by omega⟩, HS2, HA28, HD, HB28, HM28⟩
      case round =>
        clear HS2 HA28 HD HB28 HM28
        obtain ⟨i, rfl, HA, HS, HA4, HD, HB, HM⟩ := hrel
        obtain ⟨wo, rfl⟩ : ∃ wo : World, wo = wr := ⟨_, rfl⟩
        by_cases hlt : i < D.length
        · obtain ⟨ad, e, hz⟩ := Kd.at_int (Kd.R_reads' HD.out).2.2 (i : Int) (by omega) (by omega)
          cases e
          simp only [Int.toNat_natCast] at hz
          rw [rd_at D i hlt] at hz
          have hmem : D[i] ∈ reached next := by rw [← HED.out]; exact List.getElem_mem hlt
          have hbd := (mem_fromL.1 hmem).2.1
          obtain ⟨x, hx⟩ : ∃ x, x = D[i] := ⟨_, rfl⟩
          rw [← hx] at hz hbd hmem
          obtain ⟨xn, rfl⟩ := Int.eq_ofNat_of_zero_le hbd.1
          have HXN := Aside0.mk (show xn < n by have := hbd.2; have := HEN.out; omega)
          have HMEM := Aside0.mk hmem
          have HTK := Aside0.mk (show (reached next).take (i + 1) = (reached next).take i ++ [(xn : Int)] by rw [← HED.out, List.take_succ_eq_append_getElem hlt, ← hx])
          have HL := Aside0.mk hlt
          have p2 : (0 ≤ (i : Int)) = True := eq_true (by omega)
          have p3 : ((i : Int) < (D.length : Int)) = True := eq_true (by omega)
          clear hbd hx hmem
          go_wp2_with (go_at_call 73; refine (T73.out _ HB.out (xn : Int)).mono ?_; rintro e w8 ⟨v8, rfl, hR, hb⟩; obtain ⟨A8, c8, e8⟩ := Kd.R_slice hR; rw [HLEN.out] at e8; subst e8; have HL8 := Aside0.mk (show Kd.bool.R 4 w8 w.heap.size (fun k => M1 ≤ k) (.slice A8 n c8) (reachL next 0 (xn : Int)) from Kd.R_lower (Kd.R_mono (Kd.R_bound hR) (fun k hk => Nat.le_trans HM.out hk.2.1)) HB.out.size); have HB8 := Aside0.mk (below_step HB.out hb); have HS8 := Aside0.mk (Kd.S_below HS.out hb); have HA8 := Aside0.mk (Kd.R_below HA4.out hb); have HD8 := Aside0.mk (Kd.R_below HD.out hb); have HM8 := Aside0.mk (Nat.le_trans HM.out hb.size); clear hR hb hz)
          have HS3 := Aside0.mk (show Kd.S kB 69 w8 w.heap.size (fun k => some k ≠ (Value.slice A4 n c4).ownBlock ∧ k < M1) (.slice (some ⟨g, 0, none⟩) n cap) (grid n (cellF next i (xn : Int) 0)) from by rw [cellF_zero]; exact HS8.out)
          clear HS8 HS HA4 HD HB HM
          try go_wp2
          go_loopg [39] n (fun gg s39 wr => ∃ j : Nat, s39 = .int .i64 (j : Int) ∧ Aside0 (j ≤ n ∧ n - j ≤ gg) ∧ Aside0 (Kd.S kB 69 wr w.heap.size (fun k => some k ≠ (Value.slice A4 n c4).ownBlock ∧ k < M1) (.slice (some ⟨g, 0, none⟩) n cap) (grid n (cellF next i (xn : Int) j))) ∧ Aside0 (Kd.bool.R 4 wr w.heap.size (fun k => some k = (Value.slice A4 n c4).ownBlock) (.slice A4 n c4) all) ∧ Aside0 ((Kd.int .i64).R 3 wr w.heap.size (fun k => M1 ≤ k) (.slice (some ad) D.length c28) D) ∧ Aside0 (Kd.bool.R 4 wr w.heap.size (fun k => M1 ≤ k) (.slice A8 n c8) (reachL next 0 (xn : Int))) ∧ Aside0 (Below w.heap.size w wr) ∧ Aside0 (M1 ≤ wr.heap.size))
          case atStart => exact ⟨0, rfl, ⟨by omega, by omega⟩, HS3, HA8, HD8, HL8, HB8, HM8⟩
          case round =>
            clear HS3 HA8 HD8 HL8 HB8 HM8
            obtain ⟨j, rfl, HAj, HS, HA4, HD, HL8, HB, HM⟩ := hrel
            obtain ⟨wi, rfl⟩ : ∃ wi : World, wi = wr := ⟨_, rfl⟩
            by_cases hltj : j < n
            · obtain ⟨oki, v6, z6, f6, hR6, hok6, hH6⟩ := rows_lend HS.out hltj
              rw [grid_get hltj] at hR6
              obtain ⟨g6, c6, e6, hb6, hl6, cells6, hc6⟩ := Kd.R_form hR6 (by rw [rowF_len]; exact H1.out)
              rw [rowF_len] at e6
              subst e6
              have hx := HXN.out
              have hy := Kd.R_celln false hR6 (xn : Int) (by omega) (by omega)
              simp only [Int.toNat_natCast] at hy
              obtain ⟨hy1, hy2⟩ := hy
              obtain ⟨ad4, e4', hz4⟩ := Kd.at_bool (Kd.R_reads' HA4.out).2.2 (j : Int) (by omega) (by rw [HAL.out]; omega)
              cases e4'
              obtain ⟨ad8, e8', hz8⟩ := Kd.at_bool (Kd.R_reads' HL8.out).2.2 (j : Int) (by omega) (by rw [HLEN.out]; omega)
              cases e8'
              simp only [Int.toNat_natCast] at hz4 hz8
              rw [reachL_rd _ _ _ _ (by omega)] at hz8
              rw [HALL.out, reachL_rd _ _ _ _ (by omega)] at hz4
              have HSTEP := Aside0.mk (cellF_step (next := next) (i := i) hltj hx)
              have HR6 := Aside0.mk hR6
              have HOK6 := Aside0.mk hok6
              have HH6 := Aside0.mk hH6
              have HG6 := Aside0.mk hc6
              have HLJ := Aside0.mk hltj
              have q0 : (0 ≤ (xn : Int)) = True := eq_true (by omega)
              have q1 : ((xn : Int) < (n : Int)) = True := eq_true (by omega)
              have q2 : (0 ≤ (j : Int)) = True := eq_true (by omega)
              have q3 : ((j : Int) < (n : Int)) = True := eq_true (by omega)
              have hval : domB next (j : Int) (xn : Int) = (decide ((j : Int) ∈ fromL next 0 (-1)) && !decide ((j : Int) ∈ fromL next 0 (xn : Int))) := by
                have := HMEM.out
                simp only [domB, this, decide_true, Bool.true_and]
                rfl
              obtain ⟨b1, hb1⟩ : ∃ b1, b1 = decide ((j : Int) ∈ fromL next 0 (-1)) := ⟨_, rfl⟩
              obtain ⟨b2, hb2⟩ : ∃ b2, b2 = decide ((j : Int) ∈ fromL next 0 (xn : Int)) := ⟨_, rfl⟩
              rw [← hb1, ← hb2] at hval
              rw [← hb1] at hz4
              rw [← hb2] at hz8
              have HVAL := Aside0.mk hval
              clear hR6 hok6 hH6 hb6 hl6 hc6 f6 hx hval hb1 hb2
              have HEND := Aside0.mk (show ∀ v : Bool, domB next (j : Int) (xn : Int) = v → Kd.S kB 69 (wi.setCell ⟨g6, xn, none⟩ (.bool v)) w.heap.size (fun k => some k ≠ (Value.slice (some ad4) n c4).ownBlock ∧ k < M1) (.slice (some ⟨g, 0, none⟩) n cap) (grid n (cellF next i (xn : Int) (j + 1))) ∧ wi.grownBy (wi.setCell ⟨g6, xn, none⟩ (.bool v)) (some g6) from fun v hv => by
                have hput := Kd.R_put (xs := rowF n (cellF next i (xn : Int) j) (j : Int)) (cap := c6) (by rw [rowF_len]; exact HR6.out) (xn : Int) v
                rw [rowF_len] at hput
                simp only [Int.toNat_natCast] at hput
                have hH1 := Kd.H_grown HH6.out hput.2 (fun k hk => by injection hk with hk; subst hk; exact HR6.out.1 _ rfl)
                have hS := Kd.H_back hH1 (x' := (rowF n (cellF next i (xn : Int) j) (j : Int)).set xn v) ⟨_, rfl, hput.1⟩ (fun _ h => h)
                rw [Int.toNat_natCast, ← hv, HSTEP.out, hv] at hS
                exact ⟨hS, hput.2⟩)
              have HG6M := Aside0.mk (HOK6.out g6 (HR6.out.1 _ rfl)).1
              have HFIN := Aside0.mk (show ∀ v : Bool, domB next (j : Int) (xn : Int) = v → Aside0 (Kd.S kB 69 (wi.setCell ⟨g6, xn, none⟩ (.bool v)).drew w.heap.size (fun k => some k ≠ (Value.slice (some ad4) n c4).ownBlock ∧ k < M1) (.slice (some ⟨g, 0, none⟩) n cap) (grid n (cellF next i (xn : Int) (j + 1)))) ∧ Aside0 (Kd.bool.R 4 (wi.setCell ⟨g6, xn, none⟩ (.bool v)).drew w.heap.size (fun k => some k = (Value.slice (some ad4) n c4).ownBlock) (.slice (some ad4) n c4) all) ∧ Aside0 ((Kd.int .i64).R 3 (wi.setCell ⟨g6, xn, none⟩ (.bool v)).drew w.heap.size (fun k => M1 ≤ k) (.slice (some ad) D.length c28) D) ∧ Aside0 (Kd.bool.R 4 (wi.setCell ⟨g6, xn, none⟩ (.bool v)).drew w.heap.size (fun k => M1 ≤ k) (.slice (some ad8) n c8) (reachL next 0 (xn : Int))) ∧ Aside0 (Below w.heap.size w (wi.setCell ⟨g6, xn, none⟩ (.bool v)).drew) ∧ Aside0 (M1 ≤ (wi.setCell ⟨g6, xn, none⟩ (.bool v)).drew.heap.size) from fun v hv => by
                obtain ⟨hS, hgr⟩ := HEND.out v hv
                refine ⟨⟨Kd.S_drew hS⟩, ⟨Kd.R_drew (Kd.R_grown HA4.out hgr (fun k hk e => HG6M.out.1 (by rw [← e]; exact hk)))⟩, ⟨Kd.R_drew (Kd.R_grown HD.out hgr (fun k hk e => by injection e with e; have := HG6M.out.2; omega))⟩, ⟨Kd.R_drew (Kd.R_grown HL8.out hgr (fun k hk e => by injection e with e; have := HG6M.out.2; omega))⟩, ⟨below_drew1 (HB.out.setCell (p := ⟨g6, xn, none⟩) (Kd.R_base HR6.out g6 rfl) _)⟩, ⟨?_⟩⟩
                have := HM.out
                have h2 := hgr.size
                exact Nat.le_trans this h2)
              cases b1 with
              | true =>
                go_wp2_with fail
                refine region_tail 17 (by kernel_rfl) (by kernel_rfl) ?_
                simp only [List.take_succ_cons, List.take_zero, List.drop_succ_cons, List.drop_zero]
                repeat still_step
                refine wpStill_nil ?_
                go_wp2_with fail
                go_roundg (n - (j + 1))
                case measure => have := HAj.out; have := HLJ.out; omega
                case rel => exact ⟨j + 1, by go_num, ⟨by have := HLJ.out; omega, by omega⟩, HFIN.out _ (by rw [HVAL.out, Bool.true_and])⟩
              | false =>
                go_wp2_with fail
                refine region_tail 17 (by kernel_rfl) (by kernel_rfl) ?_
                simp only [List.take_succ_cons, List.take_zero, List.drop_succ_cons, List.drop_zero]
                repeat still_step
                refine wpStill_nil ?_
                go_wp2_with fail
                go_roundg (n - (j + 1))
                case measure => have := HAj.out; have := HLJ.out; omega
                case rel => exact ⟨j + 1, by go_num, ⟨by have := HLJ.out; omega, by omega⟩, HFIN.out _ (by rw [HVAL.out, Bool.false_and])⟩
            · have e : j = n := by have := HAj.out; omega
              have HSE := Aside0.mk (show Kd.S kB 69 wi w.heap.size (fun k => some k ≠ (Value.slice A4 n c4).ownBlock ∧ k < M1) (.slice (some ⟨g, 0, none⟩) n cap) (grid n (cellF next (i + 1) 0 0)) from by
                have h := HS.out
                rw [show cellF next i (xn : Int) j = cellF next i (xn : Int) n by rw [e], cellF_all HTK.out] at h
                exact h)
              have p5 : ((j : Int) < (n : Int)) = False := eq_false (by omega)
              clear e
              go_wp2
              go_roundg (D.length - (i + 1))
              case measure => have := HA.out; have := HL.out; omega
              case rel => exact ⟨i + 1, by go_num, ⟨by have := HL.out; omega, by omega⟩, HSE, HA4, HD, HB, HM⟩
        · have e : i = D.length := by have := HA.out; omega
          have HSE := Aside0.mk (show Kd.S kB 69 wo w.heap.size (fun _ => True) (.slice (some ⟨g, 0, none⟩) n cap) (grid n (domB next)) from by
            have h := HS.out
            rw [e, HED.out, cellF_end] at h
            exact Kd.S_mono h (fun _ _ => trivial))
          have p3 : ((i : Int) < (D.length : Int)) = False := eq_false (by omega)
          clear e
          go_wp2
          go_ret
          exact ⟨_, rfl, HSE.out, HB.out⟩
end Go.Proofs.Ytghlbhijkhkgkaa.PA
