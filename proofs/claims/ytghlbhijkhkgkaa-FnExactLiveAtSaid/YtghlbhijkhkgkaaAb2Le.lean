/- The flow seat: rows of bools against rows of numbers, and the turns of LiveAt's passes. -/
import Derived.Test.YtghlbhijkhkgkaaAb2Ld
namespace Go.Proofs.Ytghlbhijkhkgkaa.PA
open Go.RowKit Go.Proofs.YtghlbhijkhkgkaaW.PrintWords Go.Proofs.YtghlbhijkhkgkaaW.PrintLast Go.Proofs.YtghlbhijkhkgkaaW.PrintMore
set_option linter.unusedVariables false
/-- A row of numbers as bools. -/
def bRow (m : Nat) (r : List Int) : List Bool := (List.range m).map fun (v : Nat) => decide ((v : Int) ∈ r)
/-- A number more. -/
def addR (m : Nat) (r : List Int) (x : Int) : List Int := numsL m fun y => decide (y ∈ r) || decide (y = x)
/-- What the closure has noted of a block's values. -/
def vRow (bl : List Int) (i : Nat) (vis : List Int) : List Bool := (List.range bl.length).map fun (v : Nat) => decide ((v : Int) ∈ vis) && !decide (rd bl (v : Int) = (i : Int))
section
variable {m x i : Nat} {r r' vis bl : List Int} {y : Int}
theorem bRow_len (m : Nat) (r : List Int) : (bRow m r).length = m := by simp [bRow]
theorem bRow_rd (h : 0 ≤ y ∧ y < (m : Int)) : rdOf false (bRow m r) y = decide (y ∈ r) := by
  obtain ⟨k, rfl⟩ := Int.eq_ofNat_of_zero_le h.1
  have : k < m := by omega
  simp [rdOf, bRow, List.getD_eq_getElem?_getD, this]
theorem bRow_set (hx : x < m) (hm : ∀ y, y ∈ r' ↔ y ∈ r ∨ y = (x : Int)) : (bRow m r).set x true = bRow m r' := by
  refine List.ext_getElem (by simp [bRow]) fun j h1 h2 => ?_
  rw [List.getElem_set]
  by_cases e : x = j
  · subst e; rw [if_pos rfl]; simp [bRow, hm]
  · rw [if_neg e]
    have : ¬ (j : Int) = (x : Int) := by omega
    simp [bRow, hm, this]
theorem bRow_listOf (hr : Rises r) (hin : ∀ y ∈ r, 0 ≤ y ∧ y < (m : Int)) : numsL (bRow m r).length (rdOf false (bRow m r)) = r := by
  rw [bRow_len]
  refine (numsL_ext hr fun y => ⟨fun h => ?_, fun h => ?_⟩).symm
  · exact ⟨hin y h, by rw [bRow_rd (hin y h)]; exact decide_eq_true h⟩
  · rw [bRow_rd h.1] at h; exact of_decide_eq_true h.2
theorem mem_addR (hin : ∀ y ∈ r, 0 ≤ y ∧ y < (m : Int)) (hx : x < m) : y ∈ addR m r (x : Int) ↔ y ∈ r ∨ y = (x : Int) := by
  rw [addR, mem_numsL, Bool.or_eq_true, decide_eq_true_iff, decide_eq_true_iff]
  constructor
  · rintro ⟨_, h⟩; exact h
  · intro h
    refine ⟨?_, h⟩
    rcases h with h | rfl
    · exact hin y h
    · omega
theorem rises_addR : Rises (addR m r (x : Int)) := rises_numsL _ _
theorem vRow_len (bl : List Int) (i : Nat) (vis : List Int) : (vRow bl i vis).length = bl.length := by simp [vRow]
theorem vRow_nil (bl : List Int) (i : Nat) : List.replicate bl.length false = vRow bl i [] := List.ext_getElem (by simp [vRow]) fun k h1 h2 => by simp [vRow]
theorem vRow_step (hx : 0 ≤ y ∧ y < (bl.length : Int)) : (vRow bl i vis).set y.toNat (rdOf false (vRow bl i vis) y || !decide (rd bl y = (i : Int))) = vRow bl i (vis ++ [y]) := by
  obtain ⟨x, rfl⟩ := Int.eq_ofNat_of_zero_le hx.1
  have hx2 : x < bl.length := by omega
  rw [Int.toNat_natCast]
  have e0 : rdOf false (vRow bl i vis) (x : Int) = (decide ((x : Int) ∈ vis) && !decide (rd bl (x : Int) = (i : Int))) := by
    simp [rdOf, vRow, List.getD_eq_getElem?_getD, hx2]
  rw [e0]
  refine List.ext_getElem (by simp [vRow]) fun j h1 h2 => ?_
  rw [List.getElem_set]
  by_cases e : x = j
  · subst e
    rw [if_pos rfl]
    simp only [vRow, List.getElem_map, List.getElem_range]
    have : (x : Int) ∈ vis ++ [(x : Int)] := by simp
    rw [decide_eq_true this, Bool.true_and]
    cases (decide ((x : Int) ∈ vis)) <;> cases (!decide (rd bl (x : Int) = (i : Int))) <;> rfl
  · rw [if_neg e]
    have : ¬ (j : Int) = (x : Int) := by omega
    simp [vRow, this]
theorem vRow_is {us : List Int} (hm : ∀ v, v ∈ vis ↔ v ∈ us) : vRow bl i vis = bRow bl.length (numsL bl.length fun v => decide (v ∈ us) && !decide (rd bl v = (i : Int))) := by
  refine List.ext_getElem (by simp [vRow, bRow]) fun j h1 h2 => ?_
  have hj : j < bl.length := by simpa [vRow] using h1
  simp only [vRow, bRow, List.getElem_map, List.getElem_range]
  refine Bool.eq_iff_iff.2 ?_
  rw [decide_eq_true_iff, mem_numsL]
  have : decide ((j : Int) ∈ vis) = decide ((j : Int) ∈ us) := decide_eq_decide.2 (hm _)
  rw [this]
  exact ⟨fun h => ⟨⟨by omega, by omega⟩, h⟩, fun h => h.2⟩
end
/-- The closure, handed on. -/
theorem note_stepper {b : LvAt} {next : List (List Int)} {rows : List (List Bool)} {w1 : World} {i g9 : Nat} {p tot : Int} {A : Option Addr} {bs : List S87} {c : Nat} {fs bl : List Int}
    (hv : View w1 b.gv p A bs c fs bl tot) (hi : i < b.n) (hl : rows.length = b.n) :
    Stepper 87 #[.pointer (some ⟨b.g7, 0, none⟩), .pointer (some ⟨g9, 0, none⟩), .pointer (some ⟨b.g6, 0, none⟩)] w1 (fun x => 0 ≤ x ∧ x < (bl.length : Int)) (fun vis W => LvW b next (rows.set i (vRow bl i vis)) w1 W ∧ W.heap[g9]? = some (.cells #[.int .i64 (i : Int)] 3 (0, 0))) := by
  refine ⟨fun vis W h => h.1.below, enters_fn Try.func87 (by kernel_rfl) (by kernel_rfl), fun vis W ad x hI hx hc => ?_⟩
  have hget : (rows.set i (vRow bl i vis)).getD i [] = vRow bl i vis := by
    rw [List.getD_eq_getElem?_getD, List.getElem?_set_self (by omega)]; rfl
  have h := note_any hv hI.1 hI.2 hi (by rw [hget, vRow_len]) x hx ad (pw_cell_below hI.1.below hc)
  rw [hget, vRow_step hx, List.set_set] at h
  exact h
section
variable {next : List (List Int)} {us : Int → List Int} {bk : Int → Int} {n T0 i : Nat} {rowsB rows : List (List Int)} {moreB more : Bool} {seen : List Int} {v : Int} {r : List Int}
/-- In a block's turn: some values have been looked at. -/
structure TurnL (next : List (List Int)) (us : Int → List Int) (bk : Int → Int) (n T0 : Nat) (rowsB : List (List Int)) (moreB : Bool) (seen : List Int) (more : Bool) (rows : List (List Int)) (i : Nat) : Prop where
  li : LI next us bk n rows
  ge : T0 ≤ totL rows
  off : more = false → moreB = false ∧ rows = rowsB ∧ ∀ v ∈ seen, bk v ≠ (i : Int) → v ∈ rows.getD i []
  on : more = true → T0 < totL rows
theorem TurnL.start (h : PassI next us bk n T0 more rows i) : TurnL next us bk n T0 rows more [] more rows i := ⟨h.li, h.ge, fun e => ⟨e, rfl, fun v hv => by cases hv⟩, h.on⟩
theorem TurnL.skip (h : TurnL next us bk n T0 rowsB moreB seen more rows i) (hv : bk v = (i : Int) ∨ v ∈ rows.getD i []) : TurnL next us bk n T0 rowsB moreB (seen ++ [v]) more rows i :=
  ⟨h.li, h.ge, fun e => by
    obtain ⟨h1, h2, h3⟩ := h.off e
    refine ⟨h1, h2, fun u hu hne => ?_⟩
    rw [List.mem_append, List.mem_singleton] at hu
    rcases hu with h4 | h4
    · exact h3 u h4 hne
    · rw [h4] at hne ⊢
      exact hv.resolve_left hne, h.on⟩
theorem TurnL.put (h : TurnL next us bk n T0 rowsB moreB seen more rows i) (hi : i < n) (hv : LiveV next us bk (i : Int) v) (hne : v ∉ rows.getD i []) (hm : ∀ y, y ∈ r ↔ y ∈ rows.getD i [] ∨ y = v) (hr : Rises r) (seen2 : List Int) : TurnL next us bk n T0 rowsB moreB seen2 true (rows.set i r) i := by
  obtain ⟨h1, h2⟩ := h.li.put hi hv hne hm hr
  have := h.ge
  exact ⟨h1, by omega, fun e => (by cases e), fun _ => by omega⟩
theorem TurnL.done (h : TurnL next us bk n T0 rowsB moreB seen more rows i) (hB : PassI next us bk n T0 moreB rowsB i) (h1 : ∀ v ∈ us (i : Int), bk v ≠ (i : Int) → v ∈ rows.getD i []) (h2 : more = false → ∀ t ∈ rd_L1 next (i : Int), ∀ v ∈ rd_L1 rowsB t, v ∈ seen) : PassI next us bk n T0 more rows (i + 1) :=
  ⟨h.li, h.ge, fun e k hk => by
    obtain ⟨e1, e2, e3⟩ := h.off e
    by_cases hki : k < i
    · rw [e2]; exact hB.off e1 k hki
    · obtain rfl : k = i := by omega
      exact ⟨h1, fun t ht v hv hne => e3 v (h2 e t ht v (by rw [← e2]; exact hv)) hne⟩, h.on⟩
end
/-- What a block uses that isn't made there. -/
def baseR (us : Int → List Int) (bl : List Int) (k : Nat) : List Int := numsL bl.length fun v => decide (v ∈ us (k : Int)) && !decide (rd bl v = (k : Int))
def baseRows (us : Int → List Int) (bl : List Int) (n : Nat) : List (List Int) := (List.range n).map (baseR us bl)
/-- The first i rows, the others nil. -/
def rowsP (us : Int → List Int) (bl : List Int) (n i : Nat) : List (List Bool) := (List.range n).map fun k => if k < i then bRow bl.length (baseR us bl k) else []
section
variable {us : Int → List Int} {bl : List Int} {n i : Nat}
theorem rowsP_len : (rowsP us bl n i).length = n := by simp [rowsP]
theorem rowsP_zero : rowsP us bl n 0 = List.replicate n [] := List.ext_getElem (by simp [rowsP]) fun k h1 h2 => by simp [rowsP]
theorem rowsP_succ : (rowsP us bl n i).set i (bRow bl.length (baseR us bl i)) = rowsP us bl n (i + 1) := by
  refine List.ext_getElem (by simp [rowsP]) fun k h1 h2 => ?_
  rw [List.getElem_set]
  simp only [rowsP, List.getElem_map, List.getElem_range]
  by_cases e : i = k
  · subst e; rw [if_pos rfl, if_pos (by omega)]
  · rw [if_neg e]
    by_cases e2 : k < i
    · rw [if_pos e2, if_pos (by omega)]
    · rw [if_neg e2, if_neg (by omega)]
theorem rowsP_end : rowsP us bl n n = (baseRows us bl n).map (bRow bl.length) := by
  refine List.ext_getElem (by simp [rowsP, baseRows]) fun k h1 h2 => ?_
  have hk : k < n := by simpa [rowsP] using h1
  simp [rowsP, baseRows, hk]
theorem base_get (h : i < n) : (baseRows us bl n).getD i [] = baseR us bl i := by simp [baseRows, List.getD_eq_getElem?_getD, h]
theorem base_li {next : List (List Int)} {bk : Int → Int} (hbk : ∀ x, bk x = rd bl x) : LI next us bk n (baseRows us bl n) := by
  refine ⟨by simp [baseRows], fun k hk => ?_, fun k hk v hv => ?_⟩
  · rw [base_get hk]; exact rises_numsL _ _
  · rw [base_get hk, baseR, mem_numsL] at hv
    have h := hv.2
    simp only [Bool.and_eq_true, decide_eq_true_eq, Bool.not_eq_true', decide_eq_false_iff_not] at h
    exact .use h.1 (by rw [hbk]; exact h.2)
theorem base_in {bk : Int → Int} (hbk : ∀ x, bk x = rd bl x) (h : i < n) {v : Int} (hv : v ∈ us (i : Int)) (hr : 0 ≤ v ∧ v < (bl.length : Int)) (hne : bk v ≠ (i : Int)) : v ∈ (baseRows us bl n).getD i [] := by
  rw [base_get h, baseR, mem_numsL]
  refine ⟨hr, ?_⟩
  simp only [Bool.and_eq_true, decide_eq_true_eq, Bool.not_eq_true', decide_eq_false_iff_not]
  exact ⟨hv, by rw [← hbk]; exact hne⟩
end
theorem LvW.at_row {b : LvAt} {next : List (List Int)} {rows : List (List Bool)} {w1 W : World} {i : Nat} (h : LvW b next rows w1 W) (hi : i < b.n) :
    ∃ A c, W.cell? ⟨b.g, i, none⟩ = some (.slice A (rows.getD i []).length c) ∧ Kd.bool.C W A (rows.getD i []).length (rows.getD i []) ∧ (rows.getD i []).length ≤ c := by
  obtain ⟨oki, v6, z6, f6, hR6, hok6, hH6⟩ := rows_lend h.rows hi
  obtain ⟨A, c, rfl⟩ := Kd.R_slice hR6
  exact ⟨A, c, z6, (Kd.R_reads' hR6).2.2, (Kd.R_reads' hR6).2.1⟩
/-- What a block itself uses is in its row. -/
def BaseP (us : Int → List Int) (bk : Int → Int) (n : Nat) (rows : List (List Int)) : Prop := ∀ k : Nat, k < n → ∀ v ∈ us (k : Int), bk v ≠ (k : Int) → v ∈ rows.getD k []
section
variable {next : List (List Int)} {us : Int → List Int} {bk : Int → Int} {n i m : Nat} {rows : List (List Int)} {r : List Int}
theorem BaseP.put (h : BaseP us bk n rows) (hr : ∀ y ∈ rows.getD i [], y ∈ r) (hl : i < rows.length) : BaseP us bk n (rows.set i r) := fun k hk v hv hne => by
  have h1 := h k hk v hv hne
  rw [List.getD_eq_getElem?_getD, List.getElem?_set]
  by_cases e : i = k
  · subst e; rw [if_pos rfl, if_pos hl]; exact hr v h1
  · rw [if_neg e, ← List.getD_eq_getElem?_getD]; exact h1
theorem map_get (h : i < rows.length) : (rows.map (bRow m)).getD i [] = bRow m (rows.getD i []) := by
  simp [List.getD_eq_getElem?_getD, h]
theorem LI.within (h : LI next us bk n rows) (ho : LiveOk next us n m) (hi : i < n) : ∀ v ∈ rows.getD i [], 0 ≤ v ∧ v < (m : Int) := fun v hv => live_in ho (h.sub i hi v hv) ⟨by omega, by omega⟩
theorem map_put {x : Nat} (h : LI next us bk n rows) (ho : LiveOk next us n m) (hi : i < n) (hx : x < m) : (rows.map (bRow m)).set i ((bRow m (rows.getD i [])).set x true) = (rows.set i (addR m (rows.getD i []) (x : Int))).map (bRow m) := by
  rw [List.map_set, bRow_set hx (fun y => mem_addR (h.within ho hi) hx)]
end
end Go.Proofs.Ytghlbhijkhkgkaa.PA
