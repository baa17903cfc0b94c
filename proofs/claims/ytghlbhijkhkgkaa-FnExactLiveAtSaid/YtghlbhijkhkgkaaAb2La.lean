/- The flow seat: what is live, in plain words. -/
import Derived.Test.YtghlbhijkhkgkaaAb2Mh
namespace Go.Proofs.Ytghlbhijkhkgkaa.PA
open Go.RowKit Go.Proofs.YtghlbhijkhkgkaaW.PrintWords Go.Proofs.YtghlbhijkhkgkaaW.PrintLast Go.Proofs.YtghlbhijkhkgkaaW.PrintMore
set_option linter.unusedVariables false
/-- A value that is used in a block or behind it, and isn't made there. -/
inductive LiveV (next : List (List Int)) (us : Int → List Int) (bk : Int → Int) : Int → Int → Prop
  | use {k v : Int} : v ∈ us k → bk v ≠ k → LiveV next us bk k v
  | flow {k t v : Int} : t ∈ rd_L1 next k → LiveV next us bk t v → bk v ≠ k → LiveV next us bk k v
structure LiveOk (next : List (List Int)) (us : Int → List Int) (n tot : Nat) : Prop where
  len : next.length = n
  use : ∀ k : Nat, k < n → ∀ v ∈ us (k : Int), 0 ≤ v ∧ v < (tot : Int)
  stay : ∀ k : Nat, k < n → ∀ t ∈ rd_L1 next (k : Int), 0 ≤ t ∧ t < (n : Int)
noncomputable def liveB (next : List (List Int)) (us : Int → List Int) (bk : Int → Int) (k v : Int) : Bool := @decide (LiveV next us bk k v) (Classical.propDecidable _)
noncomputable def liveRow (next : List (List Int)) (us : Int → List Int) (bk : Int → Int) (tot : Nat) (k : Int) : List Int := numsL tot (liveB next us bk k)
/-- How many there are in all rows. -/
def totL (rows : List (List Int)) : Nat := (rows.map List.length).sum
theorem totL_set : ∀ (rows : List (List Int)) (k : Nat) (r : List Int), k < rows.length → totL (rows.set k r) + (rows.getD k []).length = totL rows + r.length
  | [], k, r, h => by simp at h
  | x :: rows, 0, r, h => by simp [totL]; omega
  | x :: rows, k + 1, r, h => by
    have ih := totL_set rows k r (by simpa using h)
    simp [totL] at ih ⊢
    omega
theorem totL_le (tot : Nat) : ∀ (rows : List (List Int)), (∀ x ∈ rows, x.length ≤ tot) → totL rows ≤ rows.length * tot
  | [], _ => by simp [totL]
  | x :: rows, h => by
    have ih := totL_le tot rows (fun y hy => h y (List.mem_cons_of_mem _ hy))
    have := h x List.mem_cons_self
    simp only [totL, List.map_cons, List.sum_cons, List.length_cons] at ih ⊢
    rw [Nat.succ_mul]
    omega
theorem nodup_len : ∀ (l r : List Int), l.Nodup → (∀ y ∈ l, y ∈ r) → l.length ≤ r.length
  | [], r, _, _ => Nat.zero_le _
  | a :: l, r, hn, h => by
    rw [List.nodup_cons] at hn
    have ih := nodup_len l (r.erase a) hn.2 (fun y hy => (List.mem_erase_of_ne (fun e => by subst e; exact hn.1 hy)).2 (h y (List.mem_cons_of_mem _ hy)))
    have ha := h a List.mem_cons_self
    have h1 := List.length_erase_of_mem ha
    have h2 := List.length_pos_of_mem ha
    rw [List.length_cons]
    omega
section
variable {next : List (List Int)} {us : Int → List Int} {bk : Int → Int} {n tot : Nat}
theorem live_in (h : LiveOk next us n tot) {k v : Int} (hl : LiveV next us bk k v) (hk : 0 ≤ k ∧ k < (n : Int)) : 0 ≤ v ∧ v < (tot : Int) := by
  induction hl with
  | use h1 h2 => obtain ⟨k, rfl⟩ := Int.eq_ofNat_of_zero_le hk.1; exact h.use k (by omega) _ h1
  | flow h1 h2 h3 ih => obtain ⟨k, rfl⟩ := Int.eq_ofNat_of_zero_le hk.1; exact ih (h.stay k (by omega) _ h1)
/-- Rows of live values, rising. -/
structure LI (next : List (List Int)) (us : Int → List Int) (bk : Int → Int) (n : Nat) (rows : List (List Int)) : Prop where
  len : rows.length = n
  rise : ∀ k : Nat, k < n → Rises (rows.getD k [])
  sub : ∀ k : Nat, k < n → ∀ v ∈ rows.getD k [], LiveV next us bk (k : Int) v
/-- Nothing more to be had for a block. -/
def ShutAt (next : List (List Int)) (us : Int → List Int) (bk : Int → Int) (rows : List (List Int)) (k : Nat) : Prop :=
  (∀ v ∈ us (k : Int), bk v ≠ (k : Int) → v ∈ rows.getD k []) ∧ ∀ t ∈ rd_L1 next (k : Int), ∀ v ∈ rd_L1 rows t, bk v ≠ (k : Int) → v ∈ rows.getD k []
theorem LI.zero : LI next us bk n (List.replicate n []) := by
  refine ⟨by simp, fun k hk => ?_, fun k hk v hv => ?_⟩
  · rw [List.getD_eq_getElem?_getD, List.getElem?_replicate, if_pos hk]; exact List.Pairwise.nil
  · rw [List.getD_eq_getElem?_getD, List.getElem?_replicate, if_pos hk] at hv; cases hv
theorem rises_nodup {l : List Int} (h : Rises l) : l.Nodup := List.Pairwise.imp (fun h => by omega) h
theorem LI.row_len {rows : List (List Int)} (h : LI next us bk n rows) (ho : LiveOk next us n tot) (k : Nat) (hk : k < n) : (rows.getD k []).length ≤ tot := by
  have := rises_len (rows.getD k []) 0 (tot : Int) (h.rise k hk) (fun y hy => live_in ho (h.sub k hk y hy) ⟨by omega, by omega⟩)
  omega
theorem LI.total {rows : List (List Int)} (h : LI next us bk n rows) (ho : LiveOk next us n tot) : totL rows ≤ n * tot := by
  rw [← h.len]
  refine totL_le tot rows fun x hx => ?_
  obtain ⟨k, hk, rfl⟩ := List.getElem_of_mem hx
  have := h.row_len ho k (by rw [← h.len]; exact hk)
  rwa [List.getD_eq_getElem?_getD, List.getElem?_eq_getElem hk] at this
theorem LI.put {rows : List (List Int)} {r : List Int} {k : Nat} {v : Int} (h : LI next us bk n rows) (hk : k < n) (hv : LiveV next us bk (k : Int) v) (hne : v ∉ rows.getD k []) (hm : ∀ y, y ∈ r ↔ y ∈ rows.getD k [] ∨ y = v) (hr : Rises r) :
    LI next us bk n (rows.set k r) ∧ totL rows < totL (rows.set k r) := by
  have hget : ∀ j, (rows.set k r).getD j [] = if k = j then r else rows.getD j [] := fun j => by
    rw [List.getD_eq_getElem?_getD, List.getD_eq_getElem?_getD, List.getElem?_set]
    by_cases e : k = j
    · subst e; rw [if_pos rfl, if_pos rfl, if_pos (by rw [h.len]; exact hk)]; rfl
    · rw [if_neg e, if_neg e]
  refine ⟨⟨by simp [h.len], fun j hj => ?_, fun j hj y hy => ?_⟩, ?_⟩
  · rw [hget]; split
    · exact hr
    · exact h.rise j hj
  · rw [hget] at hy
    split at hy
    · rename_i e
      subst e
      rcases (hm y).1 hy with h1 | rfl
      · exact h.sub k hk y h1
      · exact hv
    · exact h.sub j hj y hy
  · have h1 := totL_set rows k r (by rw [h.len]; exact hk)
    have h2 := nodup_len (v :: rows.getD k []) r (List.nodup_cons.2 ⟨hne, rises_nodup (h.rise k hk)⟩) (fun y hy => by rcases List.mem_cons.1 hy with rfl | h3; exact (hm _).2 (.inr rfl); exact (hm _).2 (.inl h3))
    rw [List.length_cons] at h2
    omega
theorem LI.done {rows : List (List Int)} (h : LI next us bk n rows) (ho : LiveOk next us n tot) (hs : ∀ k : Nat, k < n → ShutAt next us bk rows k) (k : Nat) (hk : k < n) : rows.getD k [] = liveRow next us bk tot (k : Int) := by
  have key : ∀ {k v : Int}, LiveV next us bk k v → (0 ≤ k ∧ k < (n : Int)) → v ∈ rd_L1 rows k := fun hl => by
    induction hl with
    | use h1 h2 =>
      intro hk
      obtain ⟨k, rfl⟩ := Int.eq_ofNat_of_zero_le hk.1
      exact (hs k (by omega)).1 _ h1 h2
    | flow h1 h2 h3 ih =>
      intro hk
      obtain ⟨k, rfl⟩ := Int.eq_ofNat_of_zero_le hk.1
      exact (hs k (by omega)).2 _ h1 _ (ih (ho.stay k (by omega) _ h1)) h3
  refine numsL_ext (h.rise k hk) fun y => ?_
  unfold liveB
  rw [@decide_eq_true_iff _ (Classical.propDecidable _)]
  constructor
  · intro hy
    have h1 := h.sub k hk y hy
    exact ⟨live_in ho h1 ⟨by omega, by omega⟩, h1⟩
  · rintro ⟨_, h1⟩
    exact key h1 ⟨by omega, by omega⟩
theorem liveRow_len (k : Int) : (liveRow next us bk tot k).length ≤ tot := numsL_len _ _
/-- What a pass has done ahead of block i: T0 were there when it began. -/
structure PassI (next : List (List Int)) (us : Int → List Int) (bk : Int → Int) (n T0 : Nat) (more : Bool) (rows : List (List Int)) (i : Nat) : Prop where
  li : LI next us bk n rows
  ge : T0 ≤ totL rows
  off : more = false → ∀ k : Nat, k < i → ShutAt next us bk rows k
  on : more = true → T0 < totL rows
theorem PassI.start {rows : List (List Int)} (h : LI next us bk n rows) : PassI next us bk n (totL rows) false rows 0 := ⟨h, Nat.le_refl _, fun _ k hk => by omega, fun h => by cases h⟩
/-- In a block's turn: j of the values have been looked at. -/
structure TurnI (next : List (List Int)) (us : Int → List Int) (bk : Int → Int) (n T0 : Nat) (rowsB : List (List Int)) (moreB : Bool) (all : List Int) (more : Bool) (rows : List (List Int)) (i j : Nat) : Prop where
  li : LI next us bk n rows
  ge : T0 ≤ totL rows
  off : more = false → moreB = false ∧ rows = rowsB ∧ ∀ v ∈ all.take j, bk v ≠ (i : Int) → v ∈ rows.getD i []
  on : more = true → T0 < totL rows
theorem TurnI.start {T0 i : Nat} {more : Bool} {rows : List (List Int)} {all : List Int} (h : PassI next us bk n T0 more rows i) : TurnI next us bk n T0 rows more all more rows i 0 := ⟨h.li, h.ge, fun e => ⟨e, rfl, fun v hv => by simp at hv⟩, h.on⟩
theorem TurnI.skip {T0 i j : Nat} {more moreB : Bool} {rows rowsB : List (List Int)} {all : List Int} (h : TurnI next us bk n T0 rowsB moreB all more rows i j) (hj : j < all.length) (hv : bk all[j] = (i : Int) ∨ all[j] ∈ rows.getD i []) : TurnI next us bk n T0 rowsB moreB all more rows i (j + 1) :=
  ⟨h.li, h.ge, fun e => by
    obtain ⟨h1, h2, h3⟩ := h.off e
    refine ⟨h1, h2, fun v hv2 hne => ?_⟩
    rw [List.take_succ_eq_append_getElem hj, List.mem_append, List.mem_singleton] at hv2
    rcases hv2 with h4 | h4
    · exact h3 v h4 hne
    · rw [h4] at hne ⊢
      exact hv.resolve_left hne, h.on⟩
theorem TurnI.put {T0 i j : Nat} {more moreB : Bool} {rows rowsB : List (List Int)} {all r : List Int} {v : Int} (h : TurnI next us bk n T0 rowsB moreB all more rows i j) (hi : i < n) (hv : LiveV next us bk (i : Int) v) (hne : v ∉ rows.getD i []) (hm : ∀ y, y ∈ r ↔ y ∈ rows.getD i [] ∨ y = v) (hr : Rises r) : TurnI next us bk n T0 rowsB moreB all true (rows.set i r) i (j + 1) := by
  obtain ⟨h1, h2⟩ := h.li.put hi hv hne hm hr
  have := h.ge
  exact ⟨h1, by omega, fun e => (by cases e), fun _ => by omega⟩
theorem TurnI.done {T0 i : Nat} {more moreB : Bool} {rows rowsB : List (List Int)} {all : List Int} (h : TurnI next us bk n T0 rowsB moreB all more rows i all.length) (hB : PassI next us bk n T0 moreB rowsB i) (h1 : ∀ v ∈ us (i : Int), v ∈ all) (h2 : ∀ t ∈ rd_L1 next (i : Int), ∀ v ∈ rd_L1 rowsB t, v ∈ all) : PassI next us bk n T0 more rows (i + 1) :=
  ⟨h.li, h.ge, fun e k hk => by
    obtain ⟨e1, e2, e3⟩ := h.off e
    rw [List.take_length] at e3
    by_cases hki : k < i
    · rw [e2]; exact hB.off e1 k hki
    · obtain rfl : k = i := by omega
      exact ⟨fun v hv hne => e3 v (h1 v hv) hne, fun t ht v hv hne => e3 v (h2 t ht v (by rw [← e2]; exact hv)) hne⟩, h.on⟩
theorem PassI.live {T0 i : Nat} {more : Bool} {rows : List (List Int)} (h : PassI next us bk n T0 more rows i) (ho : LiveOk next us n tot) (hi : i < n) {v : Int} (hv : v ∈ us (i : Int) ∨ ∃ t ∈ rd_L1 next (i : Int), v ∈ rd_L1 rows t) (hne : bk v ≠ (i : Int)) : LiveV next us bk (i : Int) v := by
  rcases hv with h1 | ⟨t, ht, h1⟩
  · exact .use h1 hne
  · have hs := ho.stay i hi t ht
    obtain ⟨tn, rfl⟩ := Int.eq_ofNat_of_zero_le hs.1
    exact .flow ht (h.li.sub tn (by omega) v h1) hne
end
end Go.Proofs.Ytghlbhijkhkgkaa.PA
