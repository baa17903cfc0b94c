/- The flow seat: what impl.reach finds: the blocks to which a way leads. -/
import Derived.Test.YtghlbhijkhkgkaaIbVp
import Derived.Test.YtghlbhijkhkgkaaIbPAz3
namespace Go.Proofs.Ytghlbhijkhkgkaa.PA
open Go.RowKit Go.Proofs.YtghlbhijkhkgkaaW.PrintWords Go.Proofs.YtghlbhijkhkgkaaW.PrintLast Go.Proofs.YtghlbhijkhkgkaaW.PrintMore
set_option linter.unusedVariables false
/-- A way from a that comes to no block but. -/
inductive Way (next : List (List Int)) (but a : Int) : Int → Prop
  | here : Way next but a a
  | on {b c : Int} : Way next but a b → c ∈ rd_L1 next b → c ≠ but → Way next but a c
/-- Rows of blocks. -/
def RowsOk (next : List (List Int)) : Prop := next.length ≤ 1000 ∧ ∀ b : Int, 0 ≤ b → b < (next.length : Int) → (rd_L1 next b).length ≤ 1000 ∧ ∀ c ∈ rd_L1 next b, 0 ≤ c ∧ c < (next.length : Int)
/-- The walk under way; h: the block whose row is walked, up to i of it. -/
structure RI (next : List (List Int)) (but a : Int) (out : List Bool) (todo : List Int) (h : Int) (i : Nat) : Prop where
  len : out.length = next.length
  at_a : rdOf false out a = true
  way : ∀ y : Int, 0 ≤ y → rdOf false out y = true → Way next but a y
  todo_in : ∀ y ∈ todo, 0 ≤ y ∧ y < (next.length : Int) ∧ rdOf false out y = true
  closed : ∀ y : Int, 0 ≤ y → rdOf false out y = true → y ∉ todo → ∀ c ∈ rd_L1 next y, c ≠ but → rdOf false out c = true
  part : ∀ c ∈ (rd_L1 next h).take i, c ≠ but → rdOf false out c = true
theorem rdOf_set (out : List Bool) (c y : Int) (h0 : 0 ≤ c) (h1 : c < (out.length : Int)) (hy : 0 ≤ y) : rdOf false (out.set c.toNat true) y = if y = c then true else rdOf false out y := by
  unfold rdOf
  rw [List.getD_eq_getElem?_getD, List.getD_eq_getElem?_getD, List.getElem?_set]
  by_cases e : y = c
  · subst e
    rw [if_pos rfl, if_pos (by omega), if_pos rfl]; rfl
  · rw [if_neg (by omega), if_neg e]
theorem RI.way_in {next : List (List Int)} {but a : Int} {out : List Bool} {h : Int} {i : Nat} (hr : RI next but a out [] h i) (hn : RowsOk next) (ha : 0 ≤ a ∧ a < (next.length : Int)) : ∀ y, Way next but a y → (0 ≤ y ∧ y < (next.length : Int)) ∧ rdOf false out y = true := by
  intro y hy
  induction hy with
  | here => exact ⟨ha, hr.at_a⟩
  | on h1 h2 h3 ih =>
    exact ⟨(hn.2 _ ih.1.1 ih.1.2).2 _ h2, hr.closed _ ih.1.1 ih.2 (by simp) _ h2 h3⟩
/-- What a walk answers. -/
def Found (next : List (List Int)) (but a : Int) (r : List Bool) : Prop := r.length = next.length ∧ ∀ y : Int, 0 ≤ y → y < (next.length : Int) → (rdOf false r y = true ↔ Way next but a y)
theorem reach_l1 (next : List (List Int)) (but a : Int) (hn : RowsOk next) (ha : 0 ≤ a ∧ a < (next.length : Int)) (m : Nat) (hmb : m ≤ 10000) (h : Int) (hh : 0 ≤ h ∧ h < (next.length : Int))
    (ih : ∀ out todo, RI next but a out todo 0 0 → out.count false + todo.length = m → ∃ r, Ev (fun k => impl_reach.l0 k next but out todo) r ∧ Found next but a r) :
    ∀ (d i : Nat) (out : List Bool) (t : List Int), (rd_L1 next h).length - i = d → i ≤ (rd_L1 next h).length → RI next but a out (h :: t) h i → out.count false + t.length = m →
      ∃ r, Ev (fun k => impl_reach.l1 k next but out (h :: t) (rd_L1 next h) ((rd_L1 next h).length : Int) (i : Int)) r ∧ Found next but a r
  | 0, i, out, t, hd, hi, hr, hm => by
    obtain ⟨r, e, hf⟩ := ih out t ⟨hr.len, hr.at_a, hr.way, fun y hy => hr.todo_in y (List.mem_cons_of_mem _ hy), fun y h0 h1 h2 c hc hne => by
      by_cases e : y = h
      · subst e
        exact hr.part c (by rw [List.take_of_length_le (by omega)]; exact hc) hne
      · exact hr.closed y h0 h1 (by simp [e, h2]) c hc hne, fun c hc => by simp at hc⟩ hm
    refine ⟨r, Ev.step (fun k => ?_) e, hf⟩
    simp only [impl_reach.l1]
    rw [if_neg (by omega), if_pos (by rw [List.length_cons]; omega)]
    rfl
  | d + 1, i, out, t, hd, hi, hr, hm => by
    obtain ⟨row, hrow⟩ : ∃ z, z = rd_L1 next h := ⟨_, rfl⟩
    have hl : i < (rd_L1 next h).length := by omega
    have hrd : rd (rd_L1 next h) (i : Int) = (rd_L1 next h)[i] := by simp [rd, List.getD_eq_getElem?_getD, List.getElem?_eq_getElem hl]
    obtain ⟨c, hc⟩ : ∃ c, c = (rd_L1 next h)[i] := ⟨_, rfl⟩
    have hcm : c ∈ rd_L1 next h := by rw [hc]; exact List.getElem_mem hl
    have hcb := (hn.2 h hh.1 hh.2).2 c hcm
    have hrl := (hn.2 h hh.1 hh.2).1
    rw [← hc] at hrd
    have htk : (rd_L1 next h).take (i + 1) = (rd_L1 next h).take i ++ [c] := by rw [List.take_succ_eq_append_getElem hl, ← hc]
    by_cases q : rdOf false out c = true
    · obtain ⟨r, e, hf⟩ := reach_l1 next but a hn ha m hmb h hh ih d (i + 1) out t (by omega) (by omega) ⟨hr.len, hr.at_a, hr.way, hr.todo_in, hr.closed, fun x hx hne => by
        rw [htk, List.mem_append, List.mem_singleton] at hx
        rcases hx with hx | rfl
        · exact hr.part x hx hne
        · exact q⟩ hm
      refine ⟨r, Ev.step (fun k => ?_) e, hf⟩
      simp only [impl_reach.l1]
      rw [if_pos (by omega), if_pos (by omega), if_pos (by omega), hrd, if_pos hcb.1, if_pos (by rw [hr.len]; exact hcb.2), if_pos q, wnext i _ hl (by unfold Max; omega)]
    · by_cases q2 : c = but
      · obtain ⟨r, e, hf⟩ := reach_l1 next but a hn ha m hmb h hh ih d (i + 1) out t (by omega) (by omega) ⟨hr.len, hr.at_a, hr.way, hr.todo_in, hr.closed, fun x hx hne => by
          rw [htk, List.mem_append, List.mem_singleton] at hx
          rcases hx with hx | rfl
          · exact hr.part x hx hne
          · exact absurd q2 hne⟩ hm
        refine ⟨r, Ev.step (fun k => ?_) e, hf⟩
        simp only [impl_reach.l1]
        rw [if_pos (by omega), if_pos (by omega), if_pos (by omega), hrd, if_pos hcb.1, if_pos (by rw [hr.len]; exact hcb.2), if_neg q, if_pos q2, wnext i _ hl (by unfold Max; omega)]
      · have hst : ∀ y : Int, 0 ≤ y → rdOf false (out.set c.toNat true) y = if y = c then true else rdOf false out y := fun y hy => rdOf_set out c y hcb.1 (by rw [hr.len]; exact hcb.2) hy
        have hup : ∀ y : Int, 0 ≤ y → rdOf false out y = true → rdOf false (out.set c.toNat true) y = true := fun y hy h1 => by rw [hst y hy]; split <;> simp [h1]
        have hhw : Way next but a h := hr.way h hh.1 (hr.todo_in h List.mem_cons_self).2.2
        have hcnt : (out.set c.toNat true).count false + (t ++ [c]).length = m := by
          have hlt : c.toNat < out.length := by have := hr.len; omega
          have hf : out[c.toNat] = false := by
            have : rdOf false out c = out[c.toNat] := by simp [rdOf, List.getD_eq_getElem?_getD, List.getElem?_eq_getElem hlt]
            rw [this] at q
            simpa using q
          have h1 : 0 < out.count false := List.count_pos_iff.2 (by rw [← hf]; exact List.getElem_mem hlt)
          rw [List.count_set hlt, hf, List.length_append, List.length_singleton]
          simp
          omega
        obtain ⟨r, e, hf⟩ := reach_l1 next but a hn ha m hmb h hh ih d (i + 1) (out.set c.toNat true) (t ++ [c]) (by omega) (by omega) ⟨by rw [List.length_set]; exact hr.len, hup a ha.1 hr.at_a, fun y hy h1 => by
            rw [hst y hy] at h1
            by_cases e : y = c
            · rw [e]; exact .on hhw hcm q2
            · rw [if_neg e] at h1; exact hr.way y hy h1,
          fun y hy => by
            rcases List.mem_cons.1 hy with rfl | hy
            · exact ⟨hh.1, hh.2, hup _ hh.1 (hr.todo_in _ List.mem_cons_self).2.2⟩
            · rcases List.mem_append.1 hy with hy | hy
              · have := hr.todo_in y (List.mem_cons_of_mem _ hy); exact ⟨this.1, this.2.1, hup _ this.1 this.2.2⟩
              · rw [List.mem_singleton] at hy; subst hy; exact ⟨hcb.1, hcb.2, by rw [hst _ hcb.1, if_pos rfl]⟩,
          fun y hy h1 h2 x hx hne => by
            have hyc : y ≠ c := fun e => h2 (by rw [e]; simp)
            rw [hst y hy, if_neg hyc] at h1
            have h3 : y ∉ h :: t := fun h4 => h2 (by rw [← List.cons_append]; exact List.mem_append_left _ h4)
            have hx2 := hr.closed y hy h1 h3 x hx hne
            by_cases hx0 : 0 ≤ x
            · exact hup x hx0 hx2
            · unfold rdOf at hx2 ⊢
              have e0 : x.toNat = (0 : Int).toNat := by omega
              rw [e0] at hx2 ⊢
              exact hup 0 (Int.le_refl _) hx2,
          fun x hx hne => by
            rw [htk, List.mem_append, List.mem_singleton] at hx
            rcases hx with hx | rfl
            · exact hup x ((hn.2 h hh.1 hh.2).2 x (List.mem_of_mem_take hx)).1 (hr.part x hx hne)
            · rw [hst _ hcb.1, if_pos rfl]⟩ hcnt
        refine ⟨r, Ev.step (fun k => ?_) e, hf⟩
        simp only [impl_reach.l1]
        rw [if_pos (by omega), if_pos (by omega), if_pos (by omega), hrd, if_pos hcb.1, if_pos (by rw [hr.len]; exact hcb.2), if_neg q, if_neg q2, if_pos (by rw [List.length_cons]; omega), wnext i _ hl (by unfold Max; omega)]
        rfl
theorem found_of {next : List (List Int)} {but a : Int} {out : List Bool} {h : Int} {i : Nat} (hr : RI next but a out [] h i) (hn : RowsOk next) (ha : 0 ≤ a ∧ a < (next.length : Int)) : Found next but a out :=
  ⟨hr.len, fun y h0 h1 => ⟨hr.way y h0, fun hw => (hr.way_in hn ha y hw).2⟩⟩
theorem reach_l0 (next : List (List Int)) (but a : Int) (hn : RowsOk next) (ha : 0 ≤ a ∧ a < (next.length : Int)) : ∀ (m : Nat) (out : List Bool) (todo : List Int), m ≤ 10000 → RI next but a out todo 0 0 → out.count false + todo.length = m →
    ∃ r, Ev (fun k => impl_reach.l0 k next but out todo) r ∧ Found next but a r
  | m, out, [], hmb, hr, hm => ⟨out, Ev.step (f := fun _ => some out) (fun k => by simp only [impl_reach.l0]; rw [if_neg (by simp)]) (Ev.now _), found_of hr hn ha⟩
  | 0, out, h :: t, hmb, hr, hm => by rw [List.length_cons] at hm; omega
  | m + 1, out, h :: t, hmb, hr, hm => by
    have hh := hr.todo_in h List.mem_cons_self
    obtain ⟨r, e, hf⟩ := reach_l1 next but a hn ha m (by omega) h ⟨hh.1, hh.2.1⟩ (fun out' todo' h1 h2 => reach_l0 next but a hn ha m out' todo' (by omega) h1 h2) _ 0 out t rfl (Nat.zero_le _) ⟨hr.len, hr.at_a, hr.way, hr.todo_in, hr.closed, fun c hc => by simp at hc⟩ (by rw [List.length_cons] at hm; omega)
    have hr0 : rd (h :: t) 0 = h := rfl
    refine ⟨r, Ev.step (fun k => ?_) e, hf⟩
    simp only [impl_reach.l0]
    rw [if_pos (by rw [List.length_cons]; omega), if_pos (by rw [List.length_cons]; omega), hr0, if_pos hh.1, if_pos hh.2.1]
    rfl
theorem reach_f (next : List (List Int)) (but a : Int) (hn : RowsOk next) (ha : 0 ≤ a ∧ a < (next.length : Int)) (hne : a ≠ but) : ∃ r, Ev (fun k => impl_reach.f k next a but) r ∧ Found next but a r := by
  have hl : (List.replicate next.length false).length = next.length := List.length_replicate
  have hs : ∀ y : Int, 0 ≤ y → rdOf false ((List.replicate next.length false).set a.toNat true) y = if y = a then true else rdOf false (List.replicate next.length false) y := fun y hy => rdOf_set _ a y ha.1 (by rw [hl]; exact ha.2) hy
  have h0 : ∀ y : Int, rdOf false (List.replicate next.length false) y = false := fun y => by simp [rdOf, List.getD_eq_getElem?_getD, List.getElem?_replicate]; split <;> rfl
  have hin : ∀ y : Int, 0 ≤ y → rdOf false ((List.replicate next.length false).set a.toNat true) y = true → y = a := fun y hy h1 => by
    rw [hs y hy, h0] at h1
    by_cases e : y = a
    · exact e
    · rw [if_neg e] at h1; cases h1
  obtain ⟨r, e, hf⟩ := reach_l0 next but a hn ha _ ((List.replicate next.length false).set a.toNat true) [a] (by have := List.count_le_length (l := (List.replicate next.length false).set a.toNat true) (a := false); rw [List.length_set, hl] at this; have := hn.1; rw [List.length_singleton]; omega)
    ⟨by rw [List.length_set, hl], by rw [hs a ha.1, if_pos rfl], fun y hy h1 => by rw [hin y hy h1]; exact .here, fun y hy => by rw [List.mem_singleton] at hy; subst hy; exact ⟨ha.1, ha.2, by rw [hs _ ha.1, if_pos rfl]⟩,
      fun y hy h1 h2 => absurd (hin y hy h1) (by simpa using h2), fun c hc => by simp at hc⟩ rfl
  refine ⟨r, Ev.congr (fun k => ?_) e, hf⟩
  have hn1 := hn.1
  unfold impl_reach.f
  rw [if_pos (by omega), if_pos (by omega), Int.toNat_natCast, Option.bind_some, if_neg hne, if_pos ha.1, if_pos (by rw [hl]; exact ha.2)]
theorem listOf_l0 (l : List Bool) (hl : l.length ≤ 1000) : ∀ (d i : Nat) (acc : List Int), l.length - i = d → i ≤ l.length → acc.length ≤ i → acc.Pairwise (· < ·) → (∀ y, y ∈ acc ↔ 0 ≤ y ∧ y < (i : Int) ∧ rdOf false l y = true) →
    ∃ r, Ev (fun k => impl_listOf.l0 k acc l (l.length : Int) (i : Int)) r ∧ r.Pairwise (· < ·) ∧ r.length ≤ l.length ∧ ∀ y, y ∈ r ↔ 0 ≤ y ∧ y < (l.length : Int) ∧ rdOf false l y = true
  | 0, i, acc, hd, hi, ha, hs, hm => by
    obtain rfl : i = l.length := by omega
    exact ⟨acc, Ev.step (f := fun _ => some acc) (fun k => by simp only [impl_listOf.l0]; rw [if_neg (by omega)]) (Ev.now _), hs, ha, hm⟩
  | d + 1, i, acc, hd, hi, ha, hs, hm => by
    have h : i < l.length := by omega
    by_cases q : rdOf false l (i : Int) = true
    · obtain ⟨r, e, h1, h2, h3⟩ := listOf_l0 l hl d (i + 1) (acc ++ [(i : Int)]) (by omega) (by omega) (by rw [List.length_append, List.length_singleton]; omega) (by
          rw [List.pairwise_append]
          exact ⟨hs, List.pairwise_singleton _ _, fun y hy z hz => by rw [List.mem_singleton] at hz; have := ((hm y).1 hy).2.1; omega⟩) (fun y => by
          rw [List.mem_append, hm y, List.mem_singleton]
          constructor
          · rintro (⟨a, b, c⟩ | rfl)
            · exact ⟨a, by omega, c⟩
            · exact ⟨by omega, by omega, q⟩
          · rintro ⟨a, b, c⟩
            by_cases e : y = (i : Int)
            · exact .inr e
            · exact .inl ⟨a, by omega, c⟩)
      refine ⟨r, Ev.step (fun k => ?_) e, h1, h2, h3⟩
      simp only [impl_listOf.l0]
      rw [if_pos (by omega), if_pos (by omega), if_pos (by omega), if_pos q, if_pos (by omega), wnext i _ h (by unfold Max; omega)]
    · obtain ⟨r, e, h1, h2, h3⟩ := listOf_l0 l hl d (i + 1) acc (by omega) (by omega) (by omega) hs (fun y => by
          rw [hm y]
          constructor
          · rintro ⟨a, b, c⟩
            exact ⟨a, by omega, c⟩
          · rintro ⟨a, b, c⟩
            have : y ≠ (i : Int) := fun e => q (by rw [← e]; exact c)
            exact ⟨a, by omega, c⟩)
      refine ⟨r, Ev.step (fun k => ?_) e, h1, h2, h3⟩
      simp only [impl_listOf.l0]
      rw [if_pos (by omega), if_pos (by omega), if_pos (by omega), if_neg q, wnext i _ h (by unfold Max; omega)]
theorem listOf_f (l : List Bool) (hl : l.length ≤ 1000) : ∃ r, Ev (fun k => impl_listOf.f k l) r ∧ r.Pairwise (· < ·) ∧ r.length ≤ l.length ∧ ∀ y, y ∈ r ↔ 0 ≤ y ∧ y < (l.length : Int) ∧ rdOf false l y = true := by
  obtain ⟨r, e, h⟩ := listOf_l0 l hl _ 0 [] rfl (Nat.zero_le _) (Nat.le_refl _) List.Pairwise.nil (fun y => by simp; omega)
  exact ⟨r, Ev.congr (fun k => rfl) e, h⟩
end Go.Proofs.Ytghlbhijkhkgkaa.PA
