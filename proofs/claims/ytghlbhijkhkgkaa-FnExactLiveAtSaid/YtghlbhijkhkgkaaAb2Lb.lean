/- The flow seat: the reference's LiveAt in plain words. -/
import Derived.Test.YtghlbhijkhkgkaaAb2La
import Derived.Test.YtghlbhijkhkgkaaAb2PAz20
import Derived.Test.YtghlbhijkhkgkaaAb2Vl
namespace Go.Proofs.Ytghlbhijkhkgkaa.PA
open Go.RowKit Go.Proofs.YtghlbhijkhkgkaaW.PrintWords Go.Proofs.YtghlbhijkhkgkaaW.PrintLast Go.Proofs.YtghlbhijkhkgkaaW.PrintMore
set_option linter.unusedVariables false
theorem endL_l0 (js : List S109) (hj : js.length ≤ 2) (hm : ∀ x ∈ js, x.f1.length ≤ 4) : ∀ (d i : Nat) (acc : List Int), js.length - i = d → acc.length ≤ 1000 + 4 * i → Ev (fun k => spec_l14End.l0 k acc js (js.length : Int) (i : Int)) (acc ++ (js.drop i).flatMap (·.f1))
  | 0, i, acc, hd, ha => Ev.step (f := fun _ => some (acc ++ (js.drop i).flatMap (·.f1))) (fun k => by simp only [spec_l14End.l0]; rw [if_neg (by omega), List.drop_of_length_le (by omega)]; simp) (Ev.now _)
  | d + 1, i, acc, hd, ha => by
    have h : i < js.length := by omega
    have hl : (rd_T109 js (i : Int)).f1.length ≤ 4 := hm _ (getD_mem js z109 i h)
    have e : (js.drop i).flatMap (·.f1) = (rd_T109 js (i : Int)).f1 ++ (js.drop (i + 1)).flatMap (·.f1) := drop_step js (·.f1) z109 i h
    rw [e, ← List.append_assoc]
    refine Ev.step (fun k => ?_) (endL_l0 js hj hm d (i + 1) (acc ++ (rd_T109 js (i : Int)).f1) (by omega) (by rw [List.length_append]; omega))
    simp only [spec_l14End.l0]
    rw [if_pos (by omega), if_pos (by omega), if_pos (by omega), if_pos (by omega), wnext i js.length h (by unfold Max; omega)]
theorem endL_f (b : S87) (hj : b.f4.length ≤ 2) (hm : ∀ x ∈ b.f4, x.f1.length ≤ 4) : Ev (fun k => spec_l14End.f k b.f0 b.f1 b.f2 b.f3 b.f4) (endL b) := by
  have key : ∀ acc : List Int, acc.length ≤ 1 → Ev (fun k => spec_l14End.j0 k acc b.f0 b.f1 b.f2 b.f3 b.f4) (acc ++ b.f4.flatMap (·.f1)) := fun acc ha =>
    Ev.step (fun k => by simp only [spec_l14End.j0]; rfl) (by simpa using endL_l0 b.f4 hj hm b.f4.length 0 acc rfl (by omega))
  unfold endL
  by_cases e : b.f2 = 2
  · rw [if_pos e]
    exact Ev.congr (fun k => by unfold spec_l14End.f; rw [if_pos e]) (key [] (by simp))
  · rw [if_neg e]
    exact Ev.congr (fun k => by unfold spec_l14End.f; rw [if_neg e, if_pos (by simp)]; rfl) (key [b.f3] (by simp))
theorem jump_len {tot : Int} {bs : List S87} {b : S87} (hf : Fine bs bs.length) (g : GoodB tot bs b) : ∀ x ∈ b.f4, x.f1.length ≤ 4 := fun x hx => by
  obtain ⟨⟨h1, h2⟩, h3, _⟩ := g.jump x hx
  obtain ⟨j, hj⟩ := Int.eq_ofNat_of_zero_le h1
  have := (blkB_iff _).1 (hf j (by omega))
  rw [hj] at h3
  omega
/-- What a block uses. -/
def usK (bs : List S87) (k : Int) : List Int := endL (rd_T87 bs k) ++ insL (rd_T87 bs k)
/-- The block of a value. -/
def bkF (p : Int) (bs : List S87) (v : Int) : Int := (blocksF p bs bs.length).getD v.toNat 0
def totN (p : Int) (bs : List S87) : Nat := (totF p bs bs.length).toNat
section
variable {p : Int} {bs : List S87}
theorem totN_eq (hg : goodB p bs = true) : (totN p bs : Int) = totF p bs bs.length ∧ totN p bs ≤ 80 := by
  obtain ⟨hp, hn, hf, ht⟩ := good_iff hg
  have := totF_bound p bs hp bs.length (Nat.le_refl _) hf
  unfold totN
  omega
theorem block_f (hg : goodB p bs = true) (v : Int) (hv : 0 ≤ v ∧ v < (totN p bs : Int)) : Ev (fun k => spec_l14Block.f k p bs v) (bkF p bs v) := by
  obtain ⟨hp, hn, hf, ht⟩ := good_iff hg
  rw [(totN_eq hg).1] at hv
  unfold bkF
  by_cases hlow : v < p
  · rw [blocks_low p bs v ⟨hv.1, hlow⟩]
    exact Ev.congr (fun k => rfl) (block_miss v p bs hp hn.2 hf ht ⟨hv.1, hlow⟩ bs.length 0 rfl (Nat.zero_le _))
  · obtain ⟨j, hj, h1, h2⟩ := block_where p bs v bs.length (Nat.le_refl _) (by omega) (by omega)
    rw [blocks_at p bs hp v j h1 h2 hv.1 bs.length hj (Nat.le_refl _)]
    exact Ev.congr (fun k => rfl) (block_hit v p bs hp hn.2 hf ht ⟨hv.1, by omega⟩ j hj h1 h2 j 0 rfl (Nat.zero_le _))
theorem end_in (hg : goodB p bs = true) (k : Nat) (hk : k < bs.length) : ∀ v ∈ endL (rd_T87 bs (k : Int)), 0 ≤ v ∧ v < (totN p bs : Int) := by
  have g := good_at hg k hk
  rw [(totN_eq hg).1]
  intro v hv
  unfold endL at hv
  rcases List.mem_append.1 hv with h | h
  · split at h
    · cases h
    · rename_i hne
      rw [List.mem_singleton] at h
      rcases g.ends with e | e | e
      · rw [h]; exact ⟨e.2.2.1, e.2.2.2⟩
      · exact absurd e.1 hne
      · rw [h]; exact ⟨e.2.2.1, e.2.2.2⟩
  · obtain ⟨x, hx, h⟩ := List.mem_flatMap.1 h
    exact (g.jump x hx).2.2 v h
theorem ins_in (hg : goodB p bs = true) (k : Nat) (hk : k < bs.length) : ∀ v ∈ insL (rd_T87 bs (k : Int)), 0 ≤ v ∧ v < (totN p bs : Int) := by
  have g := good_at hg k hk
  rw [(totN_eq hg).1]
  intro v hv
  obtain ⟨x, hx, h⟩ := List.mem_flatMap.1 hv
  exact (g.args x hx).2 v h
theorem live_ok (hg : goodB p bs = true) : LiveOk (nextL bs) (usK bs) bs.length (totN p bs) := by
  refine ⟨nextL_len bs, fun k hk v hv => ?_, fun k hk t ht => ?_⟩
  · rcases List.mem_append.1 hv with h | h
    · exact end_in hg k hk v h
    · exact ins_in hg k hk v h
  · rw [nextL_rd bs k hk] at ht
    exact (rows_of_good hg).stay k hk t ht
theorem end_len (hg : goodB p bs = true) (k : Nat) (hk : k < bs.length) : (endL (rd_T87 bs (k : Int))).length ≤ 9 := by
  have g := good_at hg k hk
  have hf := (good_iff hg).2.2.1
  have := flat_len (fun x : S109 => x.f1) 4 (rd_T87 bs (k : Int)).f4 (jump_len hf g)
  have := g.jumps
  unfold endL
  rw [List.length_append]
  split
  · rw [List.length_nil]; omega
  · rw [List.length_singleton]; omega
theorem ins_len (hg : goodB p bs = true) (k : Nat) (hk : k < bs.length) : (insL (rd_T87 bs (k : Int))).length ≤ 240 := by
  have g := good_at hg k hk
  have := flat_len (fun x : S89 => x.f2) 3 (rd_T87 bs (k : Int)).f1 (fun x hx => (g.args x hx).1)
  have := g.ins
  unfold insL
  omega
variable {res : List (List Int)} {T0 : Nat}
/-- The values of a block's turn, one by one. -/
theorem live_l4 (hg : goodB p bs = true) (i : Nat) (hi : i < bs.length) (all : List Int) (ha : all.length ≤ 1000) (rowsB : List (List Int)) (moreB : Bool)
    (hin : ∀ v ∈ all, 0 ≤ v ∧ v < (totN p bs : Int)) (hlv : ∀ v ∈ all, bkF p bs v ≠ (i : Int) → LiveV (nextL bs) (usK bs) (bkF p bs) (i : Int) v)
    (hcont : ∀ more rows, TurnI (nextL bs) (usK bs) (bkF p bs) bs.length T0 rowsB moreB all more rows i all.length → Ev (fun k => spec_l14Live.l1 k rows more bs (bs.length : Int) ((i + 1 : Nat) : Int) p bs) res) :
    ∀ (d j : Nat) (more : Bool) (rows : List (List Int)), all.length - j = d → j ≤ all.length → TurnI (nextL bs) (usK bs) (bkF p bs) bs.length T0 rowsB moreB all more rows i j →
      Ev (fun k => spec_l14Live.l4 k rows more (i : Int) bs (bs.length : Int) (i : Int) all (all.length : Int) (j : Int) p bs) res
  | 0, j, more, rows, hd, hj, ht => by
    have e : j = all.length := by omega
    subst e
    have hn := (good_iff hg).2.1
    refine Ev.step (f := fun k => spec_l14Live.l1 k rows more bs (bs.length : Int) ((i + 1 : Nat) : Int) p bs) (fun k => ?_) (hcont more rows ht)
    simp only [spec_l14Live.l4]
    rw [if_neg (by omega), wnext i bs.length hi (by unfold Max; omega)]
  | d + 1, j, more, rows, hd, hj, ht => by
    have h : j < all.length := by omega
    have hn := (good_iff hg).2.1
    have hv := hin _ (List.getElem_mem h)
    have hl := hlv _ (List.getElem_mem h)
    have hrl := ht.li.len
    have hrowl := ht.li.row_len (live_ok hg) i hi
    have ht80 := (totN_eq hg).2
    have er : rd all (j : Int) = all[j] := rd_at all j h
    have erow : rd_L1 rows (i : Int) = rows.getD i [] := rfl
    have hb := block_f hg _ hv
    have h1 : 0 ≤ (i : Int) := by omega
    have h2 : (i : Int) < (rows.length : Int) := by omega
    have hstep : ∀ k, spec_l14Live.l4 (k + 1) rows more (i : Int) bs (bs.length : Int) (i : Int) all (all.length : Int) (j : Int) p bs = (spec_l14Block.f k p bs all[j]).bind fun t => if t = (i : Int) then spec_l14Live.l4 k rows more (i : Int) bs (bs.length : Int) (i : Int) all (all.length : Int) ((j + 1 : Nat) : Int) p bs else (spec_l1Has.f k (rows.getD i []) all[j]).bind fun t2 => if t2 = true then spec_l14Live.l4 k rows more (i : Int) bs (bs.length : Int) (i : Int) all (all.length : Int) ((j + 1 : Nat) : Int) p bs else (newPut.f k (rows.getD i []) all[j]).bind fun t3 => spec_l14Live.l4 k (rows.set i t3) true (i : Int) bs (bs.length : Int) (i : Int) all (all.length : Int) ((j + 1 : Nat) : Int) p bs := fun k => by
      simp only [spec_l14Live.l4]
      rw [if_pos (by omega), if_pos (by omega), if_pos (by omega), er, wnext j all.length h (by unfold Max; omega)]
      simp only [if_pos h1, if_pos h2, erow, Int.toNat_natCast]
    refine Ev.step hstep (Ev.bind hb ?_)
    by_cases q : bkF p bs all[j] = (i : Int)
    · exact Ev.congr (fun k => if_pos q) (live_l4 hg i hi all ha rowsB moreB hin hlv hcont d (j + 1) more rows (by omega) (by omega) (ht.skip h (.inl q)))
    · refine Ev.congr (fun k => if_neg q) ?_
      have hh := has_l0 all[j] (rows.getD i []) (by omega) _ 0 rfl
      rw [List.drop_zero] at hh
      refine Ev.bind (Ev.congr (fun k => rfl) hh) ?_
      by_cases q2 : all[j] ∈ rows.getD i []
      · exact Ev.congr (fun k => if_pos (decide_eq_true q2)) (live_l4 hg i hi all ha rowsB moreB hin hlv hcont d (j + 1) more rows (by omega) (by omega) (ht.skip h (.inr q2)))
      · refine Ev.congr (fun k => if_neg (by rw [decide_eq_false q2]; decide)) ?_
        obtain ⟨r, ev, hm, _, hrs⟩ := newPut_l0 (rows.getD i []) all[j] (by omega) (ht.li.rise i hi) q2 _ 0 rfl (Nat.zero_le _) (fun y hy => by simp at hy)
        exact Ev.bind (Ev.congr (fun k => rfl) ev) (live_l4 hg i hi all ha rowsB moreB hin hlv hcont d (j + 1) true (rows.set i r) (by omega) (by omega) (ht.put hi (hl q) q2 hm hrs))
/-- What the next blocks ask for. -/
theorem live_l3 (hg : goodB p bs = true) (i : Nat) (hi : i < bs.length) (R : List Int) (hR : ∀ y, y ∈ R ↔ y ∈ rd_L1 (nextL bs) (i : Int)) (hR2 : R.length ≤ 2) (rowsB : List (List Int)) (moreB : Bool) (hB : PassI (nextL bs) (usK bs) (bkF p bs) bs.length T0 moreB rowsB i)
    (hcont : ∀ more rows, PassI (nextL bs) (usK bs) (bkF p bs) bs.length T0 more rows (i + 1) → Ev (fun k => spec_l14Live.l1 k rows more bs (bs.length : Int) ((i + 1 : Nat) : Int) p bs) res) :
    ∀ (d j : Nat) (acc : List Int), R.length - j = d → j ≤ R.length → acc = usK bs (i : Int) ++ (R.take j).flatMap (fun t => rd_L1 rowsB t) → Ev (fun k => spec_l14Live.l3 k rowsB moreB (i : Int) acc bs (bs.length : Int) (i : Int) R (R.length : Int) (j : Int) p bs) res
  | 0, j, acc, hd, hj, hacc => by
    have e : j = R.length := by omega
    subst e
    rw [List.take_length] at hacc
    have ho := live_ok hg
    have hu1 := end_len hg i hi
    have hu2 := ins_len hg i hi
    have ht80 := (totN_eq hg).2
    have hrow : ∀ t ∈ R, (rd_L1 rowsB t).length ≤ 80 := fun t ht => by
      have hs := ho.stay i hi t ((hR t).1 ht)
      obtain ⟨tn, rfl⟩ := Int.eq_ofNat_of_zero_le hs.1
      exact Nat.le_trans (hB.li.row_len ho tn (by omega)) ht80
    have hfl := flat_len (fun t => rd_L1 rowsB t) 80 R hrow
    have hal : acc.length ≤ 1000 := by
      rw [hacc, List.length_append, usK, List.length_append]
      omega
    have hsrc : ∀ v ∈ acc, v ∈ usK bs (i : Int) ∨ ∃ t ∈ rd_L1 (nextL bs) (i : Int), v ∈ rd_L1 rowsB t := fun v hv => by
      rw [hacc, List.mem_append] at hv
      refine hv.imp id fun h => ?_
      obtain ⟨t, ht, h⟩ := List.mem_flatMap.1 h
      exact ⟨t, (hR t).1 ht, h⟩
    have hin : ∀ v ∈ acc, 0 ≤ v ∧ v < (totN p bs : Int) := fun v hv => by
      rcases hsrc v hv with h | ⟨t, ht, h⟩
      · exact ho.use i hi v h
      · have hs := ho.stay i hi t ht
        obtain ⟨tn, rfl⟩ := Int.eq_ofNat_of_zero_le hs.1
        exact live_in ho (hB.li.sub tn (by omega) v h) hs
    refine Ev.step (fun k => ?_) (live_l4 hg i hi acc hal rowsB moreB hin (fun v hv hne => hB.live ho hi (hsrc v hv) hne) (fun more rows hT => hcont more rows (hT.done hB (fun v hv => by rw [hacc]; exact List.mem_append_left _ hv) (fun t ht v hv => by rw [hacc]; exact List.mem_append_right _ (List.mem_flatMap.2 ⟨t, (hR t).2 ht, hv⟩)))) acc.length 0 moreB rowsB rfl (Nat.zero_le _) (TurnI.start hB))
    simp only [spec_l14Live.l3]
    rw [if_neg (by omega)]
    rfl
  | d + 1, j, acc, hd, hj, hacc => by
    have h : j < R.length := by omega
    have ho := live_ok hg
    have hs := ho.stay i hi R[j] ((hR _).1 (List.getElem_mem h))
    have er : rd R (j : Int) = R[j] := rd_at R j h
    have hrl := hB.li.len
    have hu1 := end_len hg i hi
    have hu2 := ins_len hg i hi
    have ht80 := (totN_eq hg).2
    have hrow : ∀ t ∈ R, (rd_L1 rowsB t).length ≤ 80 := fun t ht => by
      have hs := ho.stay i hi t ((hR t).1 ht)
      obtain ⟨tn, rfl⟩ := Int.eq_ofNat_of_zero_le hs.1
      exact Nat.le_trans (hB.li.row_len ho tn (by omega)) ht80
    have hfl := flat_len (fun t => rd_L1 rowsB t) 80 (R.take j) (fun t ht => hrow t (List.mem_of_mem_take ht))
    have hal : acc.length ≤ 1000 := by
      rw [hacc, List.length_append, usK, List.length_append]
      rw [List.length_take] at hfl
      omega
    have hrj := hrow R[j] (List.getElem_mem h)
    refine Ev.step (fun k => ?_) (live_l3 hg i hi R hR hR2 rowsB moreB hB hcont d (j + 1) (acc ++ rd_L1 rowsB R[j]) (by omega) (by omega) (by rw [List.take_succ_eq_append_getElem h, List.flatMap_append, hacc]; simp))
    simp only [spec_l14Live.l3]
    rw [if_pos (by omega), if_pos (by omega), if_pos (by omega), er, if_pos (by omega), if_pos (by omega), if_pos (by omega), wnext j R.length h (by unfold Max; omega)]
/-- What the instructions ask for. -/
theorem live_l2 (hg : goodB p bs = true) (i : Nat) (hi : i < bs.length) (rowsB : List (List Int)) (moreB : Bool) (hB : PassI (nextL bs) (usK bs) (bkF p bs) bs.length T0 moreB rowsB i)
    (hcont : ∀ more rows, PassI (nextL bs) (usK bs) (bkF p bs) bs.length T0 more rows (i + 1) → Ev (fun k => spec_l14Live.l1 k rows more bs (bs.length : Int) ((i + 1 : Nat) : Int) p bs) res) (xs : List S89) (hxs : xs = (rd_T87 bs (i : Int)).f1) :
    ∀ (d j : Nat) (acc : List Int), xs.length - j = d → j ≤ xs.length → acc = endL (rd_T87 bs (i : Int)) ++ (xs.take j).flatMap (·.f2) → Ev (fun k => spec_l14Live.l2 k rowsB moreB (i : Int) acc bs (bs.length : Int) (i : Int) xs (xs.length : Int) (j : Int) p bs) res
  | 0, j, acc, hd, hj, hacc => by
    have e : j = xs.length := by omega
    subst e
    rw [List.take_length] at hacc
    obtain ⟨R, ev, hR, hR2, _⟩ := nexts_fs p bs i hi ((rows_of_good hg).two i hi)
    refine Ev.step (fun k => ?_) (Ev.bind (f := fun k t => spec_l14Live.l3 k rowsB moreB (i : Int) acc bs (bs.length : Int) (i : Int) t (t.length : Int) 0 p bs) ev (live_l3 hg i hi R (fun y => by rw [hR y, nextL_rd bs i hi]) hR2 rowsB moreB hB hcont R.length 0 acc rfl (Nat.zero_le _) (by rw [hacc, hxs]; simp [usK, insL])))
    simp only [spec_l14Live.l2]
    rw [if_neg (by omega)]
  | d + 1, j, acc, hd, hj, hacc => by
    have h : j < xs.length := by omega
    have g := good_at hg i hi
    have hu1 := end_len hg i hi
    have hx : ∀ x ∈ xs, x.f2.length ≤ 3 := fun x hx => (g.args x (by rw [← hxs]; exact hx)).1
    have hxl : xs.length ≤ 80 := by rw [hxs]; exact g.ins
    have hfl := flat_len (fun x : S89 => x.f2) 3 (xs.take j) (fun x h => hx x (List.mem_of_mem_take h))
    have hal : acc.length ≤ 1000 := by
      rw [hacc, List.length_append]
      rw [List.length_take] at hfl
      omega
    have hl : (rd_T89 xs (j : Int)).f2.length ≤ 3 := hx _ (getD_mem xs z89 j h)
    have e : (xs.take (j + 1)).flatMap (·.f2) = (xs.take j).flatMap (·.f2) ++ (rd_T89 xs (j : Int)).f2 := by
      rw [List.take_succ_eq_append_getElem h, List.flatMap_append]
      simp [rd_T89, List.getD_eq_getElem?_getD, List.getElem?_eq_getElem h]
    refine Ev.step (fun k => ?_) (live_l2 hg i hi rowsB moreB hB hcont xs hxs d (j + 1) (acc ++ (rd_T89 xs (j : Int)).f2) (by omega) (by omega) (by rw [e, hacc, List.append_assoc]))
    simp only [spec_l14Live.l2]
    rw [if_pos (by omega), if_pos (by omega), if_pos (by omega), if_pos (by omega), wnext j xs.length h (by unfold Max; omega)]
/-- A pass. -/
theorem live_l1 (hg : goodB p bs = true) (hcont : ∀ more rows, PassI (nextL bs) (usK bs) (bkF p bs) bs.length T0 more rows bs.length → Ev (fun k => spec_l14Live.l0 k rows more p bs) res) :
    ∀ (d i : Nat) (more : Bool) (rows : List (List Int)), bs.length - i = d → i ≤ bs.length → PassI (nextL bs) (usK bs) (bkF p bs) bs.length T0 more rows i → Ev (fun k => spec_l14Live.l1 k rows more bs (bs.length : Int) (i : Int) p bs) res
  | 0, i, more, rows, hd, hi, hP => by
    have e : i = bs.length := by omega
    subst e
    refine Ev.step (fun k => ?_) (hcont more rows hP)
    simp only [spec_l14Live.l1]
    rw [if_neg (by omega)]
  | d + 1, i, more, rows, hd, hi, hP => by
    have h : i < bs.length := by omega
    have g := good_at hg i h
    have hf := (good_iff hg).2.2.1
    refine Ev.step (fun k => ?_) (Ev.bind (f := fun k t => spec_l14Live.l2 k rows more (i : Int) t bs (bs.length : Int) (i : Int) (rd_T87 bs (i : Int)).f1 ((rd_T87 bs (i : Int)).f1.length : Int) 0 p bs) (endL_f (rd_T87 bs (i : Int)) g.jumps (jump_len hf g)) (live_l2 hg i h rows more hP (fun more rows hP => live_l1 hg hcont d (i + 1) more rows (by omega) (by omega) hP) _ rfl (rd_T87 bs (i : Int)).f1.length 0 _ rfl (Nat.zero_le _) (by simp)))
    simp only [spec_l14Live.l1]
    rw [if_pos (by omega), if_pos (by omega), if_pos (by omega)]
/-- All rows of live values. -/
noncomputable def liveL (p : Int) (bs : List S87) : List (List Int) := (List.range bs.length).map fun (k : Nat) => liveRow (nextL bs) (usK bs) (bkF p bs) (totN p bs) (k : Int)
theorem live_l0 (hg : goodB p bs = true) : ∀ (m : Nat) (more : Bool) (rows : List (List Int)), LI (nextL bs) (usK bs) (bkF p bs) bs.length rows → (more = false → ∀ k : Nat, k < bs.length → ShutAt (nextL bs) (usK bs) (bkF p bs) rows k) → 2 * (bs.length * totN p bs - totL rows) + (if more then 1 else 0) ≤ m →
    Ev (fun k => spec_l14Live.l0 k rows more p bs) (liveL p bs) := by
  have fin : ∀ rows, LI (nextL bs) (usK bs) (bkF p bs) bs.length rows → (∀ k : Nat, k < bs.length → ShutAt (nextL bs) (usK bs) (bkF p bs) rows k) → Ev (fun k => spec_l14Live.l0 k rows false p bs) (liveL p bs) := fun rows hL hs => by
    have e : rows = liveL p bs := by
      refine List.ext_getElem (by simp [liveL, hL.len]) fun k h1 h2 => ?_
      have := hL.done (live_ok hg) hs k (by rw [← hL.len]; exact h1)
      rw [List.getD_eq_getElem?_getD, List.getElem?_eq_getElem h1, Option.getD_some] at this
      rw [this]
      simp [liveL]
    refine Ev.step (f := fun _ => some (liveL p bs)) (fun k => ?_) (Ev.now _)
    simp only [spec_l14Live.l0]
    rw [if_neg (by decide), e]
  intro m
  induction m with
  | zero =>
    intro more rows hL hs hm
    cases more with
    | false => exact fin rows hL (hs rfl)
    | true => simp at hm
  | succ m ih =>
    intro more rows hL hs hm
    cases more with
    | false => exact fin rows hL (hs rfl)
    | true =>
      refine Ev.step (fun k => ?_) (live_l1 (T0 := totL rows) hg (fun more2 rows2 hP => ih more2 rows2 hP.li (fun e k hk => hP.off e k hk) ?_) bs.length 0 false rows rfl (Nat.zero_le _) (PassI.start hL))
      · simp only [spec_l14Live.l0]
        rw [if_pos trivial]
        rfl
      · have h1 := hP.ge
        have h2 := hP.li.total (live_ok hg)
        cases more2 with
        | false => simp at hm ⊢; omega
        | true => have := hP.on rfl; simp at hm ⊢; omega
theorem live_f (hg : goodB p bs = true) : Ev (fun k => spec_l14Live.f k p bs) (liveL p bs) := by
  have hn := (good_iff hg).2.1
  refine Ev.congr (fun k => ?_) (live_l0 hg _ true (List.replicate bs.length []) LI.zero (fun h => by cases h) (Nat.le_refl _))
  unfold spec_l14Live.f
  rw [if_pos (by omega), if_pos (by omega), Int.toNat_natCast]
end
/-- What LiveAt answers. -/
noncomputable def ansLiveAt (p : Int) (bs : List S87) (v : Int) : List Int × Bool := if goodB p bs = true then if within v 0 ((bs.length : Int) - 1) = true then (liveRow (nextL bs) (usK bs) (bkF p bs) (totN p bs) v, true) else ([], false) else ([], false)
theorem ansLiveAt_len (p : Int) (bs : List S87) (v : Int) : (ansLiveAt p bs v).1.length ≤ 1000 := by
  unfold ansLiveAt
  split
  · rename_i hg
    have := (totN_eq hg).2
    split
    · have := liveRow_len (next := nextL bs) (us := usK bs) (bk := bkF p bs) (tot := totN p bs) v
      show (liveRow _ _ _ _ v).length ≤ 1000
      omega
    · simp
  · simp
theorem specLiveAt_f (p : Int) (bs : List S87) (v : Int) : Ev (fun k => spec_LiveAt.f k p bs v) (ansLiveAt p bs v) := by
  unfold ansLiveAt
  have h0 := l13Is_f p bs v
  cases hg : goodB p bs with
  | false =>
    rw [hg, Bool.false_and] at h0
    exact Ev.congr (fun k => rfl) (Ev.bind h0 (Ev.congr (fun k => if_neg (by decide)) (Ev.now _)))
  | true =>
    rw [hg, Bool.true_and] at h0
    rw [if_pos rfl]
    cases hw : within v 0 ((bs.length : Int) - 1) with
    | false =>
      rw [hw] at h0
      exact Ev.congr (fun k => rfl) (Ev.bind h0 (Ev.congr (fun k => if_neg (by decide)) (Ev.now _)))
    | true =>
      rw [hw] at h0
      rw [if_pos rfl]
      have hr : 0 ≤ v ∧ v ≤ (bs.length : Int) - 1 := by simpa [within] using hw
      refine Ev.congr (fun k => rfl) (Ev.bind h0 (Ev.congr (fun k => if_pos rfl) (Ev.bind (live_f hg) (Ev.congr (fun k => ?_) (Ev.now _)))))
      have hl : (liveL p bs).length = bs.length := by simp [liveL]
      rw [if_pos hr.1, if_pos (by omega)]
      obtain ⟨vn, rfl⟩ := Int.eq_ofNat_of_zero_le hr.1
      have hvn : vn < bs.length := by omega
      simp [rd_L1, liveL, List.getD_eq_getElem?_getD, hvn]
theorem specLiveAt_any {A : Option Addr} {c : Nat} (p : Int) (bs : List S87) (v : Int) (w : World) (hr : Kd.C k87 w A bs.length bs) (hc : bs.length ≤ c) :
    Calls Try.prog 50 #[.agg #[.int .i64 p, .slice A bs.length c], .int .i64 v] w fun e w' => ∃ v0 : Value, e = .returned (.tuple #[v0, .bool (ansLiveAt p bs v).2]) ∧ (Kd.int .i64).R 3 w' w.heap.size (fun _ => True) v0 (ansLiveAt p bs v).1 ∧ Below w.heap.size w w' := by
  obtain ⟨k, hk⟩ := Ev.rounds (specLiveAt_f p bs v)
  exact spec_LiveAt.calls k p A c bs v _ _ w hr hc hk
end Go.Proofs.Ytghlbhijkhkgkaa.PA
