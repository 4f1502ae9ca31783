/- The walks of env's Right, New, Plain, and of the statements' awake. -/
import Derived.Test.YthophaghnbmngaaSma
namespace Go.Proofs.Ythophaghnbmngaa
open Go.RowKit Go.Calli Go.Envp
set_option linter.unusedVariables false
/-- What the loop has seen. -/
def Seen (x : Sh) (k : Nat) : Prop := (1 ≤ k → 0 ≤ x.a ∧ x.a ≤ 1048576) ∧ (2 ≤ k → 0 ≤ x.d ∧ x.d ≤ 1048576) ∧ (3 ≤ k → 0 ≤ x.r ∧ x.r ≤ 1048576)
set_option maxHeartbeats 4000000 in
theorem right_any (x : Sh) (w : World) : Calls Try.prog 7 #[.agg #[.int .i64 x.a, .int .i64 x.d, .int .i64 x.s, .int .i64 x.r]] w (OkPost x w) := by
  have i0 : ∀ w, (Instr.index 42 (.agg #[.int .i64 x.a, .int .i64 x.d, .int .i64 x.r]) (.int .i64 0)).run Try.prog w = .ok (.int .i64 x.a) w := fun _ => by kernel_rfl
  have i1 : ∀ w, (Instr.index 42 (.agg #[.int .i64 x.a, .int .i64 x.d, .int .i64 x.r]) (.int .i64 1)).run Try.prog w = .ok (.int .i64 x.d) w := fun _ => by kernel_rfl
  have i2 : ∀ w, (Instr.index 42 (.agg #[.int .i64 x.a, .int .i64 x.d, .int .i64 x.r]) (.int .i64 2)).run Try.prog w = .ok (.int .i64 x.r) w := fun _ => by kernel_rfl
  go_enter Try.func7, Try.ntmps7
  go_wp2_with fail
  go_loop [12] (fun i => ∃ k : Nat, k ≤ 3 ∧ i = .int .i64 k ∧ Hid (Seen x k)) (fun i => 3 - (intOf i).toNat)
  case atStart => exact ⟨0, by omega, rfl, by omega, by omega, by omega⟩
  case round =>
    obtain ⟨k, hk, rfl, hs⟩ := hrel
    by_cases hk0 : k = 0
    · subst hk0
      by_cases hr : 0 ≤ x.a ∧ x.a ≤ 1048576
      · have hs' : Hid (Seen x (0 + 1)) := ⟨fun _ => hr, fun h => by omega, fun h => by omega⟩
        obtain ⟨hr1, hr2⟩ := hr
        go_wp2_with fail
        go_round
        case rel => exact ⟨0 + 1, by omega, by go_num, hs'⟩
        case measure => simp [intOf]
      · have hno := Lib.hid (show okB x = false from decide_eq_false fun h => hr (by omega))
        by_cases hn : x.a < 0
        · clear hr
          go_wp2_with fail
          go_ret
          exact ⟨ret_bool hno.out.symm, below_alloc _ _⟩
        · have hn2 : 1048576 < x.a := by omega
          clear hr
          go_wp2_with fail
          go_ret
          exact ⟨ret_bool hno.out.symm, below_alloc _ _⟩
    by_cases hk1 : k = 1
    · subst hk1
      by_cases hr : 0 ≤ x.d ∧ x.d ≤ 1048576
      · have hs' : Hid (Seen x (1 + 1)) := ⟨fun h => hs.out.1 (by omega), fun _ => hr, fun h => by omega⟩
        obtain ⟨hr1, hr2⟩ := hr
        go_wp2_with fail
        go_round
        case rel => exact ⟨1 + 1, by omega, by go_num, hs'⟩
        case measure => simp [intOf]
      · have hno := Lib.hid (show okB x = false from decide_eq_false fun h => hr (by omega))
        by_cases hn : x.d < 0
        · clear hr
          go_wp2_with fail
          go_ret
          exact ⟨ret_bool hno.out.symm, below_alloc _ _⟩
        · have hn2 : 1048576 < x.d := by omega
          clear hr
          go_wp2_with fail
          go_ret
          exact ⟨ret_bool hno.out.symm, below_alloc _ _⟩
    by_cases hk2 : k = 2
    · subst hk2
      by_cases hr : 0 ≤ x.r ∧ x.r ≤ 1048576
      · have hs' : Hid (Seen x (2 + 1)) := ⟨fun h => hs.out.1 (by omega), fun h => hs.out.2.1 (by omega), fun _ => hr⟩
        obtain ⟨hr1, hr2⟩ := hr
        go_wp2_with fail
        go_round
        case rel => exact ⟨2 + 1, by omega, by go_num, hs'⟩
        case measure => simp [intOf]
      · have hno := Lib.hid (show okB x = false from decide_eq_false fun h => hr (by omega))
        by_cases hn : x.r < 0
        · clear hr
          go_wp2_with fail
          go_ret
          exact ⟨ret_bool hno.out.symm, below_alloc _ _⟩
        · have hn2 : 1048576 < x.r := by omega
          clear hr
          go_wp2_with fail
          go_ret
          exact ⟨ret_bool hno.out.symm, below_alloc _ _⟩
    have hk3 : k = 3 := by omega
    subst hk3
    have h1 := hs.out.1 (by omega)
    have h2 := hs.out.2.1 (by omega)
    have h3 := hs.out.2.2 (by omega)
    have HE := Lib.hid (show okB x = decide (0 ≤ x.s ∧ x.s ≤ 256) by unfold okB; rw [decide_eq_decide]; omega)
    clear h1 h2 h3 hs
    go_wp2_with fail
    all_goals go_ret
    all_goals exact ⟨ret_bool (by rw [HE.out, Bool.eq_iff_iff]; simp <;> omega), below_alloc _ _⟩
theorem plain_any (w : World) : Calls Try.prog 16 #[] w fun e w' => e = .returned (.agg #[.int .i64 0, .int .i64 0, .int .i64 256, .int .i64 0]) ∧ Below w.heap.size w w' := by
  go_enter Try.func16, Try.ntmps16
  go_wp2_with fail
  refine bodyPost_ret (v := .agg #[.int .i64 0, .int .i64 0, .int .i64 256, .int .i64 0]) (by simp [results, Try.results16, go_sem]) rfl ⟨rfl, ?_⟩
  exact below_alloc _ _
def NewPost (x : Sh) (w : World) (e : Ending) (w' : World) : Prop := ∃ b, e = .returned (.tuple #[.pointer (some ⟨b, 0, none⟩), .int .i64 0]) ∧ w.heap.size ≤ b ∧ Sx 41 w' b x (0, 0) ∧ Below w.heap.size w w'
theorem new_yes (x : Sh) (h : x.Ok) (w : World) : Calls Try.prog 6 #[.agg #[.int .i64 x.a, .int .i64 x.d, .int .i64 x.s, .int .i64 x.r]] w (NewPost x w) := by
  have HB := Lib.hid ((okB_iff x).2 h)
  have hal := heap_alloc_new w (.cells #[.int .i64 x.a, .int .i64 x.d, .int .i64 x.s, .int .i64 x.r] 23)
  clear h
  go_enter Try.func6, Try.ntmps6
  go_wp2_with (go_at_call 7; refine (right_any x _).mono ?_; rintro e w1 ⟨rfl, hb1⟩; rw [HB.out]; have hz1 := (hb1.block _ (lt_of_block hal)).trans hal; have d0 : w1.cell? ⟨w.heap.size, 0, none⟩ = some (.int .i64 x.a) := (cell_of_row _ _ _ _ _ _ hz1).trans rfl; have d1 : w1.cell? ⟨w.heap.size, 1, none⟩ = some (.int .i64 x.d) := (cell_of_row _ _ _ _ _ _ hz1).trans rfl; have d2 : w1.cell? ⟨w.heap.size, 2, none⟩ = some (.int .i64 x.s) := (cell_of_row _ _ _ _ _ _ hz1).trans rfl; have d3 : w1.cell? ⟨w.heap.size, 3, none⟩ = some (.int .i64 x.r) := (cell_of_row _ _ _ _ _ _ hz1).trans rfl)
  go_ret2
  exact ⟨_, rfl, by have := hb1.size; simp at this; omega, heap_alloc_new _ _, balloc (bstep (below_alloc _ _) hb1) _⟩
theorem new_no (x : Sh) (h : ¬ x.Ok) (w : World) : Calls Try.prog 6 #[.agg #[.int .i64 x.a, .int .i64 x.d, .int .i64 x.s, .int .i64 x.r]] w fun e w' => e = .returned (.tuple #[.pointer none, .int .i64 1]) ∧ Below w.heap.size w w' := by
  have HB := Lib.hid (show okB x = false by rw [← Bool.not_eq_true, okB_iff]; exact h)
  clear h
  go_enter Try.func6, Try.ntmps6
  go_wp2_with (go_at_call 7; refine (right_any x _).mono ?_; rintro e w1 ⟨rfl, hb1⟩; rw [HB.out])
  go_ret2
  exact ⟨rfl, bstep (below_alloc _ _) hb1⟩
/-- The plain shape. -/
def x0 : Sh := ⟨0, 0, 256, 0⟩
theorem x0_ok : x0.Ok := by unfold Sh.Ok; decide
theorem next_x0 (b : Nat) (t L v t' L' : Int) (hs : St (t, L)) (hv : vl x0 (t, L) = v) (hn : nx x0 (t, L) = (t', L')) (w : World) (h : Sx 41 w b x0 (t, L)) : Calls Try.prog 11 #[.pointer (some ⟨b, 0, none⟩)] w fun e w' => e = .returned (.int .i64 v) ∧ Sx 41 w' b x0 (t', L') ∧ Keeps (fun k => k = b) w w' :=
  (next_any b x0 t L x0_ok hs w h).mono fun e w' ⟨h1, h2, h3⟩ => ⟨by rw [h1, hv], by rw [← hn]; exact h2, h3⟩
theorem kept_below {b : Nat} {a w w' : World} (h : Below a.heap.size a w) (hb : a.heap.size ≤ b) (hk : Keeps (fun k => k = b) w w') : Below a.heap.size a w' :=
  h.trans (hk.toBelow h.size fun k hk e => by omega)
def TruePost (w : World) (e : Ending) (w' : World) : Prop := e = .returned (.bool true) ∧ Below w.heap.size w w'
set_option maxHeartbeats 1000000 in
theorem awake_any (w : World) : Calls Try.prog 9 #[] w (TruePost w) := by
  have v1 : vl x0 (0, 0) = 256 := by decide
  have v2 : vl x0 (2, 16777216) = 256 := by decide
  have v3 : vl x0 (3, 16777216) = 0 := by decide
  have m1 : nx x0 (0, 0) = (2, 16777216) := by decide
  have m2 : nx x0 (2, 16777216) = (2, 16777216) := by decide
  have m3 : nx x0 (3, 16777216) = (4, 0) := by decide
  have r1 : rel (2, 16777216) = (3, 16777216) := by decide
  have q1 := Lib.hid (fun b w h => next_x0 b 0 0 256 2 16777216 (by unfold St; decide) v1 m1 w h)
  have q2 := Lib.hid (fun b w h => next_x0 b 2 16777216 256 2 16777216 (by unfold St; decide) v2 m2 w h)
  have q3 := Lib.hid (fun b w h => next_x0 b 3 16777216 0 4 0 (by unfold St; decide) v3 m3 w h)
  have R1 := Lib.hid r1
  clear v1 v2 v3 m1 m2 m3 r1
  have hN := Lib.hid (fun w => new_yes x0 x0_ok w)
  go_enter Try.func9, Try.ntmps9
  go_wp2_with (go_at_call 16; refine (plain_any _).mono ?_; rintro e w1 ⟨rfl, hb1⟩)
  refine (hN.out _).mono ?_
  rintro e w2 ⟨b, rfl, hbb, hX, hb2⟩
  have hbw : w.heap.size ≤ b := Nat.le_trans hb1.size hbb
  have hB2 := bstep hb1 hb2
  clear hb1 hb2 hbb
  go_wp2_with fail
  refine (q1.out b _ hX).mono ?_
  rintro e w3 ⟨rfl, hX3, hk3⟩
  have hB3 := kept_below hB2 hbw hk3
  clear hX hk3 hB2
  go_wp2_with fail
  refine (q2.out b _ hX3).mono ?_
  rintro e w4 ⟨rfl, hX4, hk4⟩
  have hB4 := kept_below hB3 hbw hk4
  clear hX3 hk4 hB3
  go_wp2_with fail
  refine (rel_any b x0 2 16777216 _ hX4).mono ?_
  rintro e w5 ⟨rfl, hX5, hk5⟩
  rw [R1.out] at hX5
  have hB5 := kept_below hB4 hbw hk5
  clear hX4 hk5 hB4
  go_wp2_with fail
  refine (q3.out b _ hX5).mono ?_
  rintro e w6 ⟨rfl, hX6, hk6⟩
  have hB6 := kept_below hB5 hbw hk6
  clear hX5 hk6 hB5
  go_wp2_with fail
  refine (stage_any b x0 4 0 _ hX6).mono ?_
  rintro e w7 ⟨rfl, rfl⟩
  go_wp2_with fail
  go_ret
  exact ⟨rfl, hB6⟩
end Go.Proofs.Ythophaghnbmngaa
