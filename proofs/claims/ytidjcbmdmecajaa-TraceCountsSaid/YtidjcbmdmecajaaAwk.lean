/- awake: the chapter's example. -/
import Derived.Test.YtidjcbmdmecajaaAll
import Derived.Test.YtidjcbmdmecajaaOfl
namespace Go.Proofs.Ytidjcbmdmecajaa
open Go Go.RowKit Go.Calli
set_option linter.unusedVariables false
set_option linter.unusedSimpArgs false
attribute [local irreducible] wpStill wpAnyH wpAnyS wpList Code.wp
theorem info32 : (Try.prog.info? 32).map (·.size) = some 5 := by kernel_rfl
def LostPost (w : World) (e : Ending) (w' : World) : Prop := ∃ lb, e = .returned (.agg #[.slice none 0 0, .slice (some ⟨lb, 0, none⟩) 1 1, .slice none 0 0, .int .i64 0, .int .i64 0]) ∧ w'.heap[lb]? = some (.cells #[.int .i64 1, .int .i64 0, .int .i64 0] 34 (0, 0)) ∧ w.heap.size ≤ lb ∧ Below w.heap.size w w'
theorem lost1 (w : World) : Calls Try.prog 21 #[] w (LostPost w) := by
  go_enter Try.func21, Try.ntmps21
  go_wp2_with fail
  have h1 : ((w.alloc (.cells #[.slice none 0 0, .slice (some ⟨w.heap.size + 1, 0, none⟩) 1 1, .slice none 0 0, .int .i64 0, .int .i64 0] 32)).alloc (.cells #[.int .i64 1, .int .i64 0, .int .i64 0] 34)).heap[w.heap.size + 1]? = some (.cells #[.int .i64 1, .int .i64 0, .int .i64 0] 34 (0, 0)) := by
    have := heap_alloc_new (w.alloc (.cells #[.slice none 0 0, .slice (some ⟨w.heap.size + 1, 0, none⟩) 1 1, .slice none 0 0, .int .i64 0, .int .i64 0] 32)) (.cells #[.int .i64 1, .int .i64 0, .int .i64 0] 34)
    rwa [World.size_alloc] at this
  have h0 : ((w.alloc (.cells #[.slice none 0 0, .slice (some ⟨w.heap.size + 1, 0, none⟩) 1 1, .slice none 0 0, .int .i64 0, .int .i64 0] 32)).alloc (.cells #[.int .i64 1, .int .i64 0, .int .i64 0] 34)).heap[w.heap.size]? = some (.cells #[.slice none 0 0, .slice (some ⟨w.heap.size + 1, 0, none⟩) 1 1, .slice none 0 0, .int .i64 0, .int .i64 0] 32 (0, 0)) :=
    ((below_alloc (w.alloc _) _).block w.heap.size (by rw [World.size_alloc]; omega)).trans (heap_alloc_new w _)
  refine bodyPost_ret (results_cell_row rfl _ _ _ _ _ _ _ rfl h0 Try.underlying32 rfl info32) rfl ⟨_, rfl, h1, by omega, balloc (below_alloc _ _) _⟩
def valsRR (x : RpM × Rp) : List Value := valsR x.1 x.2
theorem valsRR_len (x : RpM × Rp) : (valsRR x).length = 5 := rfl
/-- Reports that stand in one block. -/
theorem rpsF_block {S : Nat → Prop} {W : World} {pb : Nat} (ms : List (RpM × Rp)) (hblk : W.heap[pb]? = some (.cells (ms.flatMap valsRR).toArray 32 (0, 0))) (hS : ¬ S pb) (hlim : ms.length ≤ maxLen) (h : ∀ x ∈ ms, x.1.Is W x.2 ∧ x.1.Far S) : RpsF S W (some ⟨pb, 0, none⟩) ms.length (ms.map Prod.snd) :=
  ⟨List.length_map _, hlim, fun i hi => by
    have e : (ms.map Prod.snd).getD i r0 = (ms.getD i (m0, r0)).2 := by simp [List.getD, hi]
    have hx := h (ms.getD i (m0, r0)) (by rw [show ms.getD i (m0, r0) = ms[i] by simp [List.getD, hi]]; exact List.getElem_mem _)
    rw [e]
    refine ⟨_, (ms.getD i (m0, r0)).1, rfl, fun j u hu => ?_, hx.1, hS, hx.2⟩
    have hj : j < 5 := (List.getElem?_eq_some_iff.1 hu).1
    rw [add0, add0, Nat.zero_add, cell_of_row _ _ _ _ _ _ hblk, List.getElem?_toArray, flat_at valsRR 5 valsRR_len (m0, r0) ms i j hi hj]
    exact hu⟩
def rL : Rp := ⟨0, [⟨1, 0, 0⟩], [], 0, 0⟩
def mL (b : Nat) : RpM := ⟨none, 0, 0, some ⟨b, 0, none⟩, 1, 1, none, 0, 0⟩
theorem is0 (W : World) : m0.Is W r0 := ⟨rfl, ⟨by decide, by decide, by decide⟩, Nat.le_refl _, Nat.le_refl _, Nat.le_refl _, fun h => absurd rfl h, Recs.nil _ _ _ _ _, Ints.nil _ _ _⟩
theorem isL {W : World} {b : Nat} (h : W.heap[b]? = some (.cells #[.int .i64 1, .int .i64 0, .int .i64 0] 34 (0, 0))) : (mL b).Is W rL := by
  have hm : (1 : Nat) ≤ maxLen := by decide
  refine ⟨rfl, ⟨Nat.zero_le _, hm, Nat.zero_le _⟩, Nat.le_refl _, Nat.le_refl _, Nat.le_refl _, fun h => absurd rfl h, ⟨rfl, hm, fun i hi => ?_⟩, Ints.nil _ _ _⟩
  have hi : i < 1 := hi
  obtain rfl : i = 0 := by omega
  refine ⟨_, rfl, fun j u hu => ?_⟩
  have hu : [Value.int .i64 1, Value.int .i64 0, Value.int .i64 0][j]? = some u := hu
  rw [add0, add0, cell_of_row _ _ _ _ _ _ h, List.getElem?_toArray]
  simpa using hu
theorem far0 (S : Nat → Prop) : m0.Far S := ⟨fun h => absurd rfl h, fun h => absurd rfl h⟩
theorem farL {S : Nat → Prop} {b : Nat} (h : ¬ S b) : (mL b).Far S := ⟨fun _ a ha => by cases ha; exact h, fun h => absurd rfl h⟩
def exL : List Rp := [r0, rL, rL, r0, rL]
theorem ex_sm : ∀ r ∈ exL, Sm r := by
  intro r hr
  simp only [exL, List.mem_cons, List.not_mem_nil, or_false] at hr
  rcases hr with rfl | rfl | rfl | rfl | rfl <;> constructor <;> decide
theorem ex_renders : (noteL g0 exL).renders = ((5 : Nat) : Int) := by decide
theorem ex_rows : (rrun (noteL g0 exL) 5).best = 2 ∧ (rrun (noteL g0 exL) 5).fr = 1 := by decide
theorem ex_of : (ofL (noteL g0 exL).lost 4 1).length = 1 := by decide
theorem ex_len : (noteL g0 exL).lost.length ≤ 100000 := by decide
set_option maxHeartbeats 2000000 in
theorem awake_any (w : World) : Calls Try.prog 11 #[] w fun e w' => e = .returned (.bool true) ∧ Below w.heap.size w w' := by
  have hN := new_any w
  have hA := fun w => lost1 w
  have hB := fun w => lost1 w
  have hC := fun w => lost1 w
  go_enter Try.func11, Try.ntmps11
  go_upto_region 2 with (first | (go_at_call 7; refine hN.mono ?_; rintro e w1 ⟨rfl, hs1, hl1, hb1⟩))
  clear hN
  go_wp2_with (first | (go_at_call 21; refine (hA _).mono ?_; clear hA; rintro e w2 ⟨b2, rfl, hk2, hl2, hb2⟩) | (go_at_call 21; refine (hB _).mono ?_; clear hB; rintro e w3 ⟨b3, rfl, hk3, hl3, hb3⟩) | (go_at_call 21; refine (hC _).mono ?_; clear hC; rintro e w4 ⟨b4, rfl, hk4, hl4, hb4⟩))
  have s2 := hb2.size
  have s3 := hb3.size
  have s4 := hb4.size
  have k2 := lt_of_block hk2
  have k3 := lt_of_block hk3
  have k4 := lt_of_block hk4
  have hk2' := (hb4.block _ (Nat.lt_of_lt_of_le k2 s3)).trans ((hb3.block _ k2).trans hk2)
  have hk3' := (hb4.block _ k3).trans hk3
  have hlg : ∀ B, LogIs w4 w.heap.size B (.slice none 0 0) (.slice none 0 0) g0 := fun B => ((((hl1 B).keep0 hb2).keep0 hb3).keep0 hb4)
  have hbw : Below w.heap.size w w4 := bstep (bstep (bstep hb1 hb2) hb3) hb4
  clear hl1
  obtain ⟨cs, hcs⟩ : ∃ cs : Array Value, cs = ([(m0, r0), (mL b2, rL), (mL b3, rL), (m0, r0), (mL b4, rL)].flatMap valsRR).toArray := ⟨_, rfl⟩
  have hW := below_alloc w4 (.cells cs 32)
  have hblk : (w4.alloc (.cells cs 32)).heap[w4.heap.size]? = some (.cells cs 32 (0, 0)) := heap_alloc_new _ _
  have hR : RpsF (fun k => k = w.heap.size ∨ w4.heap.size + 1 ≤ k) (w4.alloc (.cells cs 32)) (some ⟨w4.heap.size, 0, none⟩) 5 exL := by
    rw [hcs] at hblk ⊢
    refine rpsF_block [(m0, r0), (mL b2, rL), (mL b3, rL), (m0, r0), (mL b4, rL)] hblk (by omega) (by show (5 : Nat) ≤ maxLen; decide) ?_
    have q2 := (hW.block _ (by omega)).trans hk2'
    have q3 := (hW.block _ (by omega)).trans hk3'
    have q4 := (hW.block _ (by omega)).trans hk4
    rw [hcs] at q2 q3 q4
    intro x hx
    simp only [List.mem_cons, List.not_mem_nil, or_false] at hx
    rcases hx with rfl | rfl | rfl | rfl | rfl
    · exact ⟨is0 _, far0 _⟩
    · exact ⟨isL q2, farL (by omega)⟩
    · exact ⟨isL q3, farL (by omega)⟩
    · exact ⟨is0 _, far0 _⟩
    · exact ⟨isL q4, farL (by omega)⟩
  have hAll := all_any w.heap.size (w4.heap.size + 1) _ _ 0 _ 5 5 exL (by omega) g0 Lim.zero ex_sm _ (by rw [World.size_alloc]; exact Nat.le_refl _) ((hlg (w4.heap.size + 1)).keep0 hW) hR
  have hbw2 := balloc hbw (.cells cs 32)
  rw [hcs] at hAll hbw2
  clear hR hblk hW hcs
  have hb5 : ∀ w5, Keeps (LogS w.heap.size (.slice none 0 0) (.slice none 0 0)) (w4.alloc (.cells ([(m0, r0), (mL b2, rL), (mL b3, rL), (m0, r0), (mL b4, rL)].flatMap valsRR).toArray 32)) w5 → Below w.heap.size w w5 := fun w5 hk => hbw2.trans (hk.toBelow hbw2.size (fun k hk hS => by
    rcases hS with h | h | h
    · omega
    · cases h
    · cases h))
  have HB5 := Lib.hid hb5
  clear hb5
  go_upto_region 3 with (first | (go_at_call 8; refine hAll.mono ?_; rintro e w5 ⟨rfl, vl, ve, hL5, hk5, hn5⟩))
  have hb := HB5.out _ hk5
  have hRo := rows_any _ _ _ _ _ 5 (by omega) ex_renders w5 hL5
  rw [ex_rows.1, ex_rows.2] at hRo
  have hOf : ∀ w', LogIs w' w.heap.size (w4.heap.size + 1) vl ve (noteL g0 exL) → Calls Try.prog 9 #[.pointer (some ⟨w.heap.size, 0, none⟩), .int .i64 4, .int .i64 1] w' (fun e w'' => ∃ ro rc, e = .returned (.slice ro 1 rc) ∧ Below w'.heap.size w' w'') := fun w' h => (of_any w.heap.size (w4.heap.size + 1) vl ve (noteL g0 exL) 4 1 ex_len w' h).mono (fun e w'' ⟨ro, rc, h1, _, _, h4⟩ => ⟨ro, rc, by rw [h1, ex_of], h4⟩)
  have hRe := fun w' h => renders_any w.heap.size (w4.heap.size + 1) vl ve (noteL g0 exL) w' h
  rw [ex_renders] at hRe
  clear hk5 hn5 hAll hbw2 hbw
  generalize noteL g0 exL = G at *
  go_wp2_with (first | (go_at_call 10; refine hRo.mono ?_; rintro e w6 ⟨rfl, hb6⟩; have hL6 := hL5.keep0 hb6) | (go_at_call 9; refine (hOf _ hL6).mono ?_; rintro e w7 ⟨ro, rc, rfl, hb7⟩; have hL7 := hL6.keep0 hb7) | (go_at_call 15; refine (hRe _ hL7).mono ?_; rintro e w8 ⟨rfl, rfl⟩))
  go_ret
  exact ⟨rfl, bstep (bstep hb hb6) hb7⟩
end Go.Proofs.Ytidjcbmdmecajaa
