/- The flow seat: slices.Repeat of one number by hand. -/
import Derived.Test.YtghlbhijkhkgkaaAb2Vf
import Derived.Laws.CopyOwn
import Derived.Deep.DeepMust
import Derived.Deep.RegionLaw
namespace Go.Proofs.Ytghlbhijkhkgkaa.PA
open Go.RowKit Go.Proofs.YtghlbhijkhkgkaaW.PrintWords Go.Proofs.YtghlbhijkhkgkaaW.PrintLast Go.Proofs.YtghlbhijkhkgkaaW.PrintMore
set_option linter.unusedVariables false
theorem gate_stepd {P : Program} {ops : Array Oper} {o : Oper} {a : Act} {w : World} {K : Act → World → Prop} {Q : Exit → Act → World → Prop} {E : Prop} {N : Tmp} (_hN : o.dst = some N)
    (h : if Region.wanted o (yielded ops a.tmps) = true then Oper.wp P o a w K Q else E) : if Region.wanted o (yielded ops a.tmps) = true then Oper.wp P o a w K Q else E := h
theorem mul_small : ∀ m : Fin 201, bits_Mul.f 1 (m.val : Int) = some (0, (m.val : Int)) := by decide +kernel
theorem mul_any (N : Nat) (hN : N ≤ 200) (w : World) : Calls Try.prog 148 #[.int .u64 1, .int .u64 (N : Int)] w fun e w' => e = .returned (.tuple #[.int .u64 0, .int .u64 (N : Int)]) ∧ Drawn0 w w' :=
  bits_Mul.calls 1 N 0 N w (mul_small ⟨N, by omega⟩)
theorem rep_form {w : World} {base N : Nat} {ok : Nat → Prop} {v : Value} (h : Kd.R (Kd.int .i64) 3 w base ok v (List.replicate ((N : Int)).toNat 0)) (hb : v.ownBlock.isSome = true) :
    ∃ g cap, ∃ cur : List Value, v = .slice (some ⟨g, 0, none⟩) N cap ∧ base ≤ g ∧ w.heap[g]? = some (.cells cur.toArray 3 (0, 0)) ∧ N ≤ cap ∧ cap ≤ maxLen ∧ cur.length = cap := by
  have ho := Kd.own_of_R h
  rcases ho.2 with ⟨rfl, _⟩ | ⟨g, cap, cur, rfl, h1, h2, h3, h4, h5, _⟩
  · simp [Value.ownBlock] at hb
  · exact ⟨g, cap, cur.toList, by simp, h1, by simpa using h2, by simpa using h3, h4, by simpa using h5⟩
theorem rep_cell {w w1 : World} {h : Nat} {x : Int} {m : Nat} (hb : Below w.heap.size w w1) (hx : w.cell? ⟨h, 0, none⟩ = some (.int .i64 x)) (hm : m ≤ 1) (j : Nat) (v : Value) (hj : (List.replicate m (Value.int .i64 x))[j]? = some v) : w1.cell? ((⟨h, 0, none⟩ : Addr).add j) = some v := by
  rw [List.getElem?_replicate] at hj
  split at hj
  · obtain rfl : j = 0 := by omega
    obtain rfl := Option.some.inj hj
    exact (hb.cell (World.block_lt_of_cell? w _ hx)).trans hx
  · simp at hj
theorem rep_cells {w : World} {g m k t : Nat} {x : Int} {cur : List Value} (hg : w.heap[g]? = some (.cells cur.toArray t (0, 0))) (ht : cur.take m = List.replicate m (.int .i64 x)) (hk : k ≤ m) (j : Nat) (v : Value) (hj : (List.replicate k (Value.int .i64 x))[j]? = some v) : w.cell? ((⟨g, 0, none⟩ : Addr).add j) = some v := by
  rw [List.getElem?_replicate] at hj
  split at hj
  · obtain rfl := Option.some.inj hj
    have h1 : cur[j]? = some (.int .i64 x) := by
      have h2 : (cur.take m)[j]? = some (Value.int .i64 x) := by rw [ht, List.getElem?_replicate, if_pos (by omega)]
      rwa [List.getElem?_take, if_pos (by omega)] at h2
    have := blk_cell hg j
    rw [add_plain, this]
    simpa using h1
  · simp at hj
theorem rep_take {m k : Nat} {v : Value} {cur : List Value} (ht : cur.take m = List.replicate m v) (hl : m + k ≤ cur.length) : (splice cur m (List.replicate k v)).take (m + k) = List.replicate (m + k) v := by
  rw [splice, ht, ← List.append_assoc, List.replicate_append_replicate, List.take_append_of_le_length (by simp)]
  simp
theorem rep_R {w : World} {base g N cap : Nat} {x : Int} {cur : List Value} (hb : base ≤ g) (hg : w.heap[g]? = some (.cells cur.toArray 3 (0, 0))) (h1 : N ≤ cap) (h2 : cap ≤ maxLen) (h3 : cur.length = cap) (ht : cur.take N = List.replicate N (.int .i64 x)) :
    Kd.R (Kd.int .i64) 3 w base (fun _ => True) (.slice (some ⟨g, 0, none⟩) N cap) (List.replicate N x) :=
  Kd.R_of_own ⟨by simp [encs], .inr ⟨g, cap, cur.toArray, by simp, hb, hg, by simpa using h1, h2, by simpa using h3, by simpa [encs] using ht⟩⟩ (fun _ _ => trivial)
theorem size3 : (Try.prog.info? 3).map (·.size) = some 1 := by kernel_rfl
set_option maxHeartbeats 1000000 in
set_option maxRecDepth 100000 in
theorem repeat_any (x : Int) (N h : Nat) (w : World) (hN : N ≤ 200) (hx : w.cell? ⟨h, 0, none⟩ = some (.int .i64 x)) :
    Calls Try.prog 121 #[.slice (some ⟨h, 0, none⟩) 1 1, .int .i64 (N : Int)] w fun e w' => ∃ g cap, e = .returned (.slice (some ⟨g, 0, none⟩) N cap) ∧ Kd.R (Kd.int .i64) 3 w' w.heap.size (fun _ => True) (.slice (some ⟨g, 0, none⟩) N cap) (List.replicate N x) ∧ Below w.heap.size w w' := by
  have HX := Aside0.mk hx
  have HN := Aside0.mk hN
  have hlt := World.block_lt_of_cell? w _ hx
  clear hx
  have HB := Aside0.mk (Below.refl w.heap.size w)
  go_enter Try.func121, Try.ntmps121
  obtain ⟨m0, hm0⟩ : ∃ m, m = Nat.min 1 N := ⟨_, rfl⟩
  have HM1 := Aside0.mk (show m0 ≤ 1 ∧ m0 ≤ N ∧ (0 < N → 0 < m0) by rw [hm0]; exact ⟨Nat.min_le_left _ _, Nat.min_le_right _ _, fun h => by show 0 < min 1 N; omega⟩)
  have HM0 := Aside0.mk hm0
  clear hm0
  go_wp2_with (first | (go_at_call 148; refine (mul_any N HN.out _).mono ?_; rintro e w1 ⟨rfl, hd⟩; obtain ⟨nq, rfl⟩ := hd) | ((with_reducible refine gate_dst (N := 30) rfl ?_); refine Kd.R_make (Kd.int .i64) _ 3 rfl (N := 30) rfl 34 _ _ rfl (N : Int) rfl rfl Try.underlying34 (.int .i64 0) 8 info3 rfl (by decide) (by omega) 0 (ok := fun _ => True) (okp := fun _ => True) rfl (fun _ hk => hk) trivial (by omega) (by have := HN.out; simp; omega) (Below.refl _ _) (Nat.le_refl _) ?_; intro v30 w3 ho hb hg_ hnew_; obtain ⟨g, cap, cur, rfl, hgB0, hgH0, hnc0, hcm0, hcs0⟩ := rep_form ho (by obtain ⟨b, e_, _⟩ := hnew_; rw [e_]; rfl); have HC := Aside0.mk (show w.heap.size ≤ g ∧ w3.heap[g]? = some (.cells cur.toArray 3 (0, 0)) ∧ N ≤ cap ∧ cap ≤ maxLen ∧ cur.length = cap from ⟨hgB0, hgH0, hnc0, hcm0, hcs0⟩); have HB' := Aside0.mk (below_step (pw_below_drewN HB.out nq) hb); clear ho hb hg_ hnew_ hgB0 hgH0 hnc0 hcm0 hcs0) | ((with_reducible refine gate_dst (N := 33) rfl ?_); go_must (refine wpList_copy_splice rfl (.tmp 31) (.tmp 32) 34 34 rfl 3 Try.underlying34 size3 (some ⟨g, 0, none⟩) (some ⟨h, 0, none⟩) N cap 1 1 rfl rfl g 0 cur 3 HC.out.2.1 (List.replicate m0 (.int .i64 x)) (by rw [HM0.out]; simp) (fun _ => ⟨rfl, _, rfl, rep_cell (HB'.out) HX.out HM1.out.1⟩) (by have := HC.out; have := HM1.out; simp; omega) (by intro v hv; rw [List.eq_of_mem_replicate hv]; rfl) w.heap.size w HB'.out HC.out.1 ?_; intro w4 hg4 hb4; have HB4 := Aside0.mk hb4; clear hb4)))
  have HN0 := Aside0.mk hN
  go_loopg [8] N (fun gg s8 wr => ∃ (m : Nat) (cur1 : List Value), s8 = .int .i64 (m : Int) ∧ Aside0 (m ≤ N ∧ N - m ≤ gg ∧ (0 < N → 0 < m)) ∧ Aside0 (wr.heap[g]? = some (.cells cur1.toArray 3 (0, 0)) ∧ cur1.length = cap ∧ cur1.take m = List.replicate m (.int .i64 x)) ∧ Aside0 (Below w.heap.size w wr))
  case atStart => exact ⟨m0, _, rfl, ⟨HM1.out.2.1, by omega, HM1.out.2.2⟩, ⟨hg4.out, by have := HC.out; have := HM1.out; rw [length_splice _ _ _ (by simp; omega)]; omega, by simp [splice]⟩, HB4⟩
  case round =>
    clear HB4 hg4
    obtain ⟨m, cur1, rfl, HA, HG, HB1⟩ := hrel
    by_cases hlt : m < N
    · obtain ⟨k, hk⟩ : ∃ k, k = Nat.min m (N - m) := ⟨_, rfl⟩
      have HK := Aside0.mk hk
      have HKK := Aside0.mk (show k ≤ m ∧ k ≤ N - m ∧ 0 < k from by rw [hk]; have := HA.out; exact ⟨Nat.min_le_left _ _, Nat.min_le_right _ _, by show 0 < min m (N - m); omega⟩)
      have hmk : m + k ≤ 200 := by have := HKK.out; omega
      have hcap : N ≤ cap := HC.out.2.2.1
      have hmN : m ≤ N := by omega
      have hmC : m ≤ cap := by omega
      have hcm : (cap = m) = False := eq_false (by omega)
      clear hk
      go_wp2
      have hwk : IntKind.i64.wrap ((m : Int) + (k : Int)) = (m : Int) + (k : Int) := IntWalk.i64_in _ (by omega)
      go_region_law ((with_reducible refine gate_stepd (N := 45) rfl ?_); refine step_copy_splice rfl (.tmp 41) (.tmp 44) 34 34 rfl 3 Try.underlying34 size3 (some ⟨g, m, none⟩) (some ⟨g, 0, none⟩) (N - m) (cap - m) m cap (by go_simp) (by go_simp) g m cur1 3 HG.out.1 (List.replicate k (.int .i64 x)) (by rw [HK.out]; simp) (fun _ => ⟨rfl, _, rfl, rep_cells HG.out.1 HG.out.2.2 HKK.out.1⟩) (by have := HC.out; have := HKK.out; have := HG.out; simp; omega) (by intro v hv; rw [List.eq_of_mem_replicate hv]; rfl) w.heap.size w (below_drew1 HB1.out) HC.out.1 ?_; intro w5 hg5 hb5; have HB5 := Aside0.mk hb5; clear hb5)
      clear hwk
      go_wp2
      go_roundg (N - (m + k))
      case measure => have := HA.out; have := HKK.out; omega
      case rel => exact ⟨m + k, _, by go_num, ⟨by have := HKK.out; omega, by omega, fun _ => by have := HKK.out; omega⟩, ⟨hg5.out, by have := HC.out; have := HKK.out; have := HG.out; rw [length_splice _ _ _ (by simp; omega)]; omega, rep_take HG.out.2.2 (by have := HC.out; have := HKK.out; have := HG.out; omega)⟩, HB5⟩
    · have e : m = N := by have := HA.out; omega
      subst e
      go_wp2
      go_ret
      exact ⟨_, _, rfl, rep_R HC.out.1 HG.out.1 HC.out.2.2.1 HC.out.2.2.2.1 HG.out.2.1 HG.out.2.2, HB1.out⟩
end Go.Proofs.Ytghlbhijkhkgkaa.PA
