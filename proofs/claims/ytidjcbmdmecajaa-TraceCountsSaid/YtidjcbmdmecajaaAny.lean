/- The walks of any, Rows, Of. -/
import Derived.Test.YtidjcbmdmecajaaGet
namespace Go.Proofs.Ytidjcbmdmecajaa
open Go Go.RowKit Go.Calli
set_option linter.unusedVariables false
set_option linter.unusedSimpArgs false
attribute [local irreducible] wpStill wpAnyH wpAnyS wpList Code.wp
theorem any1 (pb : Nat) (e : En) (i : Int) (w : World) (h : w.cell? ⟨pb, 0, none⟩ = some (.int .i64 i)) : Calls Try.prog 25 #[.agg #[.int .i64 e.i, .int .i64 e.l.v, .int .i64 e.l.c, .int .i64 e.l.b], .pointer (some ⟨pb, 0, none⟩)] w fun r w' => r = .returned (.bool (e.i == i)) ∧ Below w.heap.size w w' := by
  have hl : pb < w.heap.size := World.block_lt_of_cell? w _ h
  have h1 : (w.alloc (.cells #[.int .i64 e.i, .int .i64 e.l.v, .int .i64 e.l.c, .int .i64 e.l.b] 43)).cell? ⟨pb, 0, none⟩ = some (.int .i64 i) := ((below_alloc w _).cell hl).trans h
  by_cases he : e.i = i
  · go_enter Try.func25, Try.ntmps25
    go_wp2_with fail
    go_ret
    exact ⟨by simp [he], below_alloc _ _⟩
  · go_enter Try.func25, Try.ntmps25
    go_wp2_with fail
    go_ret
    exact ⟨by simp [he], below_alloc _ _⟩
theorem any_take (ms : List En) (i : Int) (j : Nat) (h : j < ms.length) : (ms.take (j + 1)).any (fun e => e.i == i) = ((ms.take j).any (fun e => e.i == i) || ((ms.getD j e0).i == i)) := by
  rw [List.take_succ_eq_append_getElem h, List.any_append]
  simp [List.getD, h]
theorem any_mem (ms : List En) (i : Int) (j : Nat) (h : j < ms.length) (he : (ms.getD j e0).i = i) : ms.any (fun e => e.i == i) = true := by
  rw [List.any_eq_true]
  refine ⟨ms[j], List.getElem_mem _, ?_⟩
  rw [show ms.getD j e0 = ms[j] by simp [List.getD, h]] at he
  simp [he]
set_option maxHeartbeats 1000000 in
theorem index_any (pb : Nat) (ao : Option Addr) (n c : Nat) (ms : List En) (i : Int) (w : World) (h : w.cell? ⟨pb, 0, none⟩ = some (.int .i64 i)) (hr : Recs valsE 4 e0 w ao n ms) : Calls Try.prog 26 #[.slice ao n c, .func (.func 25) #[] #[.pointer (some ⟨pb, 0, none⟩)]] w fun r w' => (∃ k, r = .returned (.int .i64 k) ∧ (ms.any (fun e => e.i == i) = decide (0 ≤ k))) ∧ Below w.heap.size w w' := by
  have HL := Lib.hid hr.hlen
  have hlim := hr.lim
  unfold maxLen at hlim
  go_enter Try.func26, Try.ntmps26
  go_wp2_with fail
  go_loopw [8] (fun v8 wr => ∃ j : Nat, j ≤ n ∧ v8 = .int .i64 j ∧ Hid ((ms.take j).any (fun e => e.i == i) = false) ∧ Below w.heap.size w wr) (fun v8 _ => (n - (intOf v8).toNat))
  case atStart => exact ⟨0, by omega, rfl, rfl, Below.refl _ _⟩
  case round =>
    obtain ⟨j, hj, rfl, hA, hb⟩ := hrel
    by_cases hlt : j < n
    · obtain ⟨a, rfl, hcell⟩ := (hr.keep0 hb).cell j hlt
      have ht := any_take ms i j (by rw [HL.out]; exact hlt)
      have hm := any_mem ms i j (by rw [HL.out]; exact hlt)
      generalize ms.getD j e0 = x at *
      have HT := Lib.hid ht
      have HM := Lib.hid hm
      clear ht hm
      have q0 : wr.cell? (a.add (j * 4)) = some (.int .i64 x.i) := hcell 0 _ rfl
      have q1 : wr.cell? ⟨(a.add (j * 4)).block, (a.add (j * 4)).off + 1, none⟩ = some (.int .i64 x.l.v) := hcell 1 _ rfl
      have q2 : wr.cell? ⟨(a.add (j * 4)).block, (a.add (j * 4)).off + 2, none⟩ = some (.int .i64 x.l.c) := hcell 2 _ rfl
      have q3 : wr.cell? ⟨(a.add (j * 4)).block, (a.add (j * 4)).off + 3, none⟩ = some (.int .i64 x.l.b) := hcell 3 _ rfl
      clear hcell
      have hpb : wr.cell? ⟨pb, 0, none⟩ = some (.int .i64 i) := (hb.cell (World.block_lt_of_cell? w _ h)).trans h
      have h1 := any1 pb x i wr hpb
      by_cases he : x.i = i
      · rw [show (x.i == i) = true by simp [he]] at h1
        have HE := Lib.hid (HM.out he)
        clear he
        go_wp2_with (go_at_call 25; refine h1.mono ?_; rintro e w1 ⟨rfl, hb1⟩)
        go_ret
        exact ⟨⟨j, rfl, by rw [HE.out]; simp⟩, bstep hb hb1⟩
      · rw [show (x.i == i) = false by simp [he]] at h1
        have HE := Lib.hid he
        have HN : Hid ((ms.take (j + 1)).any (fun e => e.i == i) = false) := by unfold Hid; rw [HT.out, hA.out]; simp [HE.out]
        clear he
        go_wp2_with (go_at_call 25; refine h1.mono ?_; rintro e w1 ⟨rfl, hb1⟩)
        refine ⟨⟨j + 1, by omega, by go_num, HN, bstep hb hb1⟩, ?_⟩
        simp [intOf]; omega
    · obtain rfl : j = n := by omega
      have HN : Hid (ms.any (fun e => e.i == i) = false) := by
        have := hA.out
        rwa [List.take_of_length_le (by rw [HL.out]; exact Nat.le_refl _)] at this
      go_wp2_with fail
      go_ret
      exact ⟨⟨-1, rfl, by rw [HN.out]; rfl⟩, hb⟩
theorem contains_any (pb : Nat) (ao : Option Addr) (n c : Nat) (ms : List En) (i : Int) (w : World) (h : w.cell? ⟨pb, 0, none⟩ = some (.int .i64 i)) (hr : Recs valsE 4 e0 w ao n ms) : Calls Try.prog 24 #[.slice ao n c, .func (.func 25) #[] #[.pointer (some ⟨pb, 0, none⟩)]] w fun r w' => r = .returned (.bool (ms.any (fun e => e.i == i))) ∧ Below w.heap.size w w' := by
  have HI := Lib.hid (index_any pb ao n c ms i w h hr)
  go_enter Try.func24, Try.ntmps24
  go_wp2_with (go_at_call 26; refine HI.out.mono ?_; rintro e w1 ⟨⟨k, rfl, hk⟩, hb1⟩; have HK := Lib.hid hk; clear hk)
  go_ret
  exact ⟨by rw [HK.out] <;> rfl, hb1⟩
theorem any_any (b B : Nat) (vl ve : Value) (g : Lg) (i : Int) (w : World) (h : LogIs w b B vl ve g) : Calls Try.prog 20 #[.pointer (some ⟨b, 0, none⟩), .int .i64 i] w fun r w' => r = .returned (.bool (anyG g i)) ∧ Below w.heap.size w w' := by
  have h2 := h.keep0 (below_alloc w (.cells #[.int .i64 i] 3))
  obtain ⟨ao, cap, rfl, hcap, hR, _⟩ := own_recs e0 valsE_len (by decide) h2.lost
  obtain ⟨c0, c1, c2, c3, c4, c5, c6⟩ := seven_cells h2.blk
  have hp : (w.alloc (.cells #[.int .i64 i] 3)).cell? ⟨w.heap.size, 0, none⟩ = some (.int .i64 i) := (cell_of_row _ _ _ _ _ _ (heap_alloc_new _ _)).trans rfl
  have hC := contains_any w.heap.size ao _ cap _ i _ hp hR
  go_enter Try.func20, Try.ntmps20
  go_wp2_with (go_at_call 24; refine hC.mono ?_; rintro e w1 ⟨rfl, hb1⟩)
  go_ret
  exact ⟨rfl, (below_alloc w _).trans (hb1.mono (by simp))⟩
theorem rows_nil (w : World) : Calls Try.prog 10 #[.pointer none] w (Same (.tuple #[.int .i64 0, .int .i64 (-1)]) w) := by
  have hR := fun w => renders_nil w
  go_enter Try.func10, Try.ntmps10
  go_wp2_with fail
  go_loopw [4, 5, 6, 7] (fun v4 v5 v6 v7 wr => v4 = .int .i64 0 ∧ v5 = .int .i64 (-1) ∧ v6 = .int .i64 0 ∧ v7 = .int .i64 0 ∧ wr = w) (fun _ _ _ _ _ => 0)
  case atStart => exact ⟨rfl, rfl, rfl, rfl, rfl⟩
  case round =>
    obtain ⟨rfl, rfl, rfl, rfl, rfl⟩ := hrel
    go_wp2_with (go_at_call 15; refine (hR _).mono ?_; rintro e w1 ⟨rfl, rfl⟩)
    go_ret2
    exact ⟨rfl, rfl⟩
theorem of_nil (i v : Int) (w : World) : Calls Try.prog 9 #[.pointer none, .int .i64 i, .int .i64 v] w (Same (.slice none 0 0) w) := by
  have hR := fun w => lost_nil w
  go_enter Try.func9, Try.ntmps9
  go_upto_region 3 with (go_at_call 13; refine (hR _).mono ?_; rintro e w1 ⟨rfl, rfl⟩)
  go_loopw [7, 13] (fun v7 v13 wr => v7 = .slice none 0 0 ∧ v13 = .int .i64 0 ∧ wr = w) (fun _ _ _ => 0)
  case atStart => exact ⟨rfl, rfl, rfl⟩
  case round =>
    obtain ⟨rfl, rfl, rfl⟩ := hrel
    go_wp2_with fail
    go_ret
    exact ⟨rfl, rfl⟩
set_option maxHeartbeats 1000000 in
theorem rows_any (b B : Nat) (vl ve : Value) (g : Lg) (k0 : Nat) (hk0 : k0 ≤ 1000) (hg : g.renders = k0) (w : World) (h : LogIs w b B vl ve g) : Calls Try.prog 10 #[.pointer (some ⟨b, 0, none⟩)] w fun r w' => r = .returned (.tuple #[.int .i64 (rrun g k0).best, .int .i64 (rrun g k0).fr]) ∧ Below w.heap.size w w' := by
  have hR := fun w h => renders_any b B vl ve g w h
  rw [hg] at hR
  have hA := fun i w h => any_any b B vl ve g i w h
  clear hg
  go_enter Try.func10, Try.ntmps10
  go_wp2_with fail
  go_loopw [4, 5, 6, 7] (fun v4 v5 v6 v7 wr => ∃ k : Nat, k ≤ k0 ∧ v4 = .int .i64 (rrun g k).best ∧ v5 = .int .i64 (rrun g k).fr ∧ v6 = .int .i64 k ∧ v7 = .int .i64 (rrun g k).n ∧ Below w.heap.size w wr) (fun _ _ v6 _ _ => (k0 - (intOf v6).toNat))
  case atStart => exact ⟨0, by omega, rfl, rfl, rfl, rfl, Below.refl _ _⟩
  case round =>
    obtain ⟨k, hk, rfl, rfl, rfl, rfl, hb⟩ := hrel
    have hbd := rrun_n g k
    have HN : Hid (rrun g (k + 1) = rstep (anyG g k) k (rrun g k)) := rfl
    have hLr := h.keep0 hb
    by_cases hlt : k < k0
    · generalize rrun g k = s at *
      obtain ⟨best, fr, n⟩ := s
      simp only at hbd
      obtain ⟨d1, d2, d3, d4, d5, d6⟩ := hbd
      have hA1 := hA k wr hLr
      generalize anyG g k = B at *
      have hw1 : IntKind.i64.wrap (n + 1) = n + 1 := IntWalk.i64_in _ (by omega)
      have hw2 : IntKind.i64.wrap ((k : Int) - (n + 1)) = (k : Int) - (n + 1) := IntWalk.i64_in _ (by omega)
      have hw3 : IntKind.i64.wrap ((k : Int) - (n + 1) + 1) = (k : Int) - (n + 1) + 1 := IntWalk.i64_in _ (by omega)
      cases B with
      | false =>
        have HN2 : Hid (rrun g (k + 1) = ⟨best, fr, 0⟩) := HN.out
        clear HN
        go_wp2_with (first | (go_at_call 15; refine (hR _ hLr).mono ?_; rintro e w1 ⟨rfl, rfl⟩) | (go_at_call 20; refine hA1.mono ?_; rintro e w1 ⟨rfl, hb1⟩))
        refine ⟨⟨k + 1, by omega, by rw [HN2.out], by rw [HN2.out], by go_num, by rw [HN2.out], bstep hb hb1⟩, ?_⟩
        simp [intOf]; omega
      | true =>
        by_cases hc : n + 1 > best
        · have HN2 : Hid (rrun g (k + 1) = ⟨n + 1, (k : Int) - (n + 1) + 1, n + 1⟩) := by
            unfold Hid; rw [HN.out]; simp only [rstep, if_true, if_pos hc]
          clear HN
          go_wp2_with (first | (go_at_call 15; refine (hR _ hLr).mono ?_; rintro e w1 ⟨rfl, rfl⟩) | (go_at_call 20; refine hA1.mono ?_; rintro e w1 ⟨rfl, hb1⟩))
          refine ⟨⟨k + 1, by omega, by rw [HN2.out], by rw [HN2.out], by go_num, by rw [HN2.out], bstep hb hb1⟩, ?_⟩
          simp [intOf]; omega
        · have HN2 : Hid (rrun g (k + 1) = ⟨best, fr, n + 1⟩) := by
            unfold Hid; rw [HN.out]; simp only [rstep, if_true, if_neg hc]
          clear HN
          go_wp2_with (first | (go_at_call 15; refine (hR _ hLr).mono ?_; rintro e w1 ⟨rfl, rfl⟩) | (go_at_call 20; refine hA1.mono ?_; rintro e w1 ⟨rfl, hb1⟩))
          refine ⟨⟨k + 1, by omega, by rw [HN2.out], by rw [HN2.out], by go_num, by rw [HN2.out], bstep hb hb1⟩, ?_⟩
          simp [intOf]; omega
    · obtain rfl : k = k0 := by omega
      go_wp2_with (first | (go_at_call 15; refine (hR _ hLr).mono ?_; rintro e w1 ⟨rfl, rfl⟩))
      go_ret2
      exact ⟨rfl, hb⟩
end Go.Proofs.Ytidjcbmdmecajaa
