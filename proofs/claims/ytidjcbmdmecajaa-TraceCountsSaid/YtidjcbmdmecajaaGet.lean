/- The walks of what a log tells: Renders, Samples, Frames, Reads, Worst, Lost, Ended. -/
import Derived.Test.YtidjcbmdmecajaaTms
import Derived.Test.YtidjcbmdmecajaaRea
import Derived.Lib.SliceRun
namespace Go.Proofs.Ytidjcbmdmecajaa
open Go Go.RowKit Go.Calli
set_option linter.unusedVariables false
set_option linter.unusedSimpArgs false
attribute [local irreducible] wpStill wpAnyH wpAnyS wpList Code.wp
theorem renders_nil (w : World) : Calls Try.prog 15 #[.pointer none] w (Same (.int .i64 0) w) := by
  go_enter Try.func15, Try.ntmps15
  go_wp2_with fail
  all_goals go_ret
  all_goals exact ⟨rfl, rfl⟩
theorem samples_nil (w : World) : Calls Try.prog 16 #[.pointer none] w (Same (.int .i64 0) w) := by
  go_enter Try.func16, Try.ntmps16
  go_wp2_with fail
  all_goals go_ret
  all_goals exact ⟨rfl, rfl⟩
theorem frames_nil (w : World) : Calls Try.prog 17 #[.pointer none] w (Same (.int .i64 0) w) := by
  go_enter Try.func17, Try.ntmps17
  go_wp2_with fail
  all_goals go_ret
  all_goals exact ⟨rfl, rfl⟩
theorem reads_nil (w : World) : Calls Try.prog 18 #[.pointer none] w (Same (.int .i64 0) w) := by
  go_enter Try.func18, Try.ntmps18
  go_wp2_with fail
  all_goals go_ret
  all_goals exact ⟨rfl, rfl⟩
theorem worst_nil (w : World) : Calls Try.prog 19 #[.pointer none] w (Same (.int .i64 0) w) := by
  go_enter Try.func19, Try.ntmps19
  go_wp2_with fail
  all_goals go_ret
  all_goals exact ⟨rfl, rfl⟩
theorem lost_nil (w : World) : Calls Try.prog 13 #[.pointer none] w (Same (.slice none 0 0) w) := by
  go_enter Try.func13, Try.ntmps13
  go_wp2_with fail
  all_goals go_ret
  all_goals exact ⟨rfl, rfl⟩
theorem ended_nil (w : World) : Calls Try.prog 14 #[.pointer none] w (Same (.slice none 0 0) w) := by
  go_enter Try.func14, Try.ntmps14
  go_wp2_with fail
  all_goals go_ret
  all_goals exact ⟨rfl, rfl⟩
theorem renders_any (b B : Nat) (vl ve : Value) (g : Lg) (w : World) (h : LogIs w b B vl ve g) : Calls Try.prog 15 #[.pointer (some ⟨b, 0, none⟩)] w (Same (.int .i64 g.renders) w) := by
  obtain ⟨c0, c1, c2, c3, c4, c5, c6⟩ := seven_cells h.blk
  go_enter Try.func15, Try.ntmps15
  go_wp2_with fail
  all_goals go_ret
  all_goals exact ⟨rfl, rfl⟩
theorem samples_any (b B : Nat) (vl ve : Value) (g : Lg) (w : World) (h : LogIs w b B vl ve g) : Calls Try.prog 16 #[.pointer (some ⟨b, 0, none⟩)] w (Same (.int .i64 g.samples) w) := by
  obtain ⟨c0, c1, c2, c3, c4, c5, c6⟩ := seven_cells h.blk
  go_enter Try.func16, Try.ntmps16
  go_wp2_with fail
  all_goals go_ret
  all_goals exact ⟨rfl, rfl⟩
theorem frames_any (b B : Nat) (vl ve : Value) (g : Lg) (w : World) (h : LogIs w b B vl ve g) : Calls Try.prog 17 #[.pointer (some ⟨b, 0, none⟩)] w (Same (.int .i64 g.frames) w) := by
  obtain ⟨c0, c1, c2, c3, c4, c5, c6⟩ := seven_cells h.blk
  go_enter Try.func17, Try.ntmps17
  go_wp2_with fail
  all_goals go_ret
  all_goals exact ⟨rfl, rfl⟩
theorem reads_any (b B : Nat) (vl ve : Value) (g : Lg) (w : World) (h : LogIs w b B vl ve g) : Calls Try.prog 18 #[.pointer (some ⟨b, 0, none⟩)] w (Same (.int .i64 g.reads) w) := by
  obtain ⟨c0, c1, c2, c3, c4, c5, c6⟩ := seven_cells h.blk
  go_enter Try.func18, Try.ntmps18
  go_wp2_with fail
  all_goals go_ret
  all_goals exact ⟨rfl, rfl⟩
theorem worst_any (b B : Nat) (vl ve : Value) (g : Lg) (w : World) (h : LogIs w b B vl ve g) : Calls Try.prog 19 #[.pointer (some ⟨b, 0, none⟩)] w (Same (.int .i64 g.worst) w) := by
  obtain ⟨c0, c1, c2, c3, c4, c5, c6⟩ := seven_cells h.blk
  go_enter Try.func19, Try.ntmps19
  go_wp2_with fail
  all_goals go_ret
  all_goals exact ⟨rfl, rfl⟩
/-- slices.Clone. -/
def ClPost {α : Type} (f : α → List Value) (size : Nat) (d : α) (ms : List α) (w : World) (e : Ending) (w' : World) : Prop := ∃ ro rc, e = .returned (.slice ro ms.length rc) ∧ ms.length ≤ rc ∧ Recs f size d w' ro ms.length ms ∧ Below w.heap.size w w'
theorem clone_lost (ao : Option Addr) (n c : Nat) (ms : List En) (w : World) (h : Recs valsE 4 e0 w ao n ms) (hn : n ≤ 100000) : Calls Try.prog 22 #[.slice ao n c] w (ClPost valsE 4 e0 ms w) := by
  have qT : ∀ (w : World) (a : Option Addr) (n c n' c' : Nat), (binOp .eql 39 (.slice a n c) (.slice none n' c')).run Try.prog w = .ok (.bool a.isNone) w := fun w a n c n' c' => Lib.run_eql_slice_nil w _ _ a n c n' c' Try.underlying39
  have hl := h.hlen
  cases ao with
  | none =>
    have hn0 : n = 0 := by
      rcases Nat.eq_zero_or_pos n with h0 | h0
      · exact h0
      · obtain ⟨a, ha, _⟩ := h.cell 0 h0
        cases ha
    have hms : ms = [] := List.eq_nil_of_length_eq_zero (by omega)
    clear hl
    go_enter Try.func22, Try.ntmps22
    go_wp2_with fail
    all_goals go_ret
    all_goals exact ⟨none, 0, by rw [hms]; rfl, by rw [hms]; exact Nat.le_refl _, by rw [hms]; exact Recs.nil _ _ _ _ _, Below.refl _ _⟩
  | some a =>
    have hfl := (h.keep0 (below_alloc w (.cells #[] 43))).flat valsE_len (by decide)
    have hown := own_empty w 43 4
    have hus : (ms.flatMap valsE).length = n * 4 := by rw [flat_length valsE 4 valsE_len, h.hlen]
    have hone : ∀ u ∈ ms.flatMap valsE, u.oneCell' = true := fun u hu => by
      obtain ⟨x, _, hx⟩ := List.mem_flatMap.1 hu
      exact valsE_one x u hx
    have HL := Lib.hid hl
    clear hl
    go_enter Try.func22, Try.ntmps22
    go_wp2_with (at_builtin; refine wpList_append_recs rfl (.tmp 5) (.tmp 6) 39 43 4 rfl Try.underlying39 infoE rfl (by decide) w.heap.size _ 0 [] rfl hown a n c (ms.flatMap valsE) hus rfl hfl hone ?_ ?_ ?_ ?_)
    case refine_1 => omega
    case refine_2 => unfold maxLen; omega
    case refine_3 => simp
    intro v' w' hown' hk
    obtain ⟨ro, rc, rfl, hrc, hR, _⟩ := own_recs e0 valsE_len (by decide) hown'
    have hb : Below w.heap.size w w' := (below_alloc w (.cells #[] 43)).trans (owns_below hown hk (by simp))
    clear hown hown' hfl hus hone
    go_wp2_with fail
    go_ret
    exact ⟨ro, rc, by rw [HL.out]; rfl, by rw [HL.out]; exact hrc, by rw [HL.out]; exact hR, hb⟩
theorem clone_ended (ao : Option Addr) (n c : Nat) (ms : List Ed) (w : World) (h : Recs valsD 2 d0 w ao n ms) (hn : n ≤ 100000) : Calls Try.prog 23 #[.slice ao n c] w (ClPost valsD 2 d0 ms w) := by
  have qT : ∀ (w : World) (a : Option Addr) (n c n' c' : Nat), (binOp .eql 40 (.slice a n c) (.slice none n' c')).run Try.prog w = .ok (.bool a.isNone) w := fun w a n c n' c' => Lib.run_eql_slice_nil w _ _ a n c n' c' Try.underlying40
  have hl := h.hlen
  cases ao with
  | none =>
    have hn0 : n = 0 := by
      rcases Nat.eq_zero_or_pos n with h0 | h0
      · exact h0
      · obtain ⟨a, ha, _⟩ := h.cell 0 h0
        cases ha
    have hms : ms = [] := List.eq_nil_of_length_eq_zero (by omega)
    clear hl
    go_enter Try.func23, Try.ntmps23
    go_wp2_with fail
    all_goals go_ret
    all_goals exact ⟨none, 0, by rw [hms]; rfl, by rw [hms]; exact Nat.le_refl _, by rw [hms]; exact Recs.nil _ _ _ _ _, Below.refl _ _⟩
  | some a =>
    have hfl := (h.keep0 (below_alloc w (.cells #[] 45))).flat valsD_len (by decide)
    have hown := own_empty w 45 2
    have hus : (ms.flatMap valsD).length = n * 2 := by rw [flat_length valsD 2 valsD_len, h.hlen]
    have hone : ∀ u ∈ ms.flatMap valsD, u.oneCell' = true := fun u hu => by
      obtain ⟨x, _, hx⟩ := List.mem_flatMap.1 hu
      exact valsD_one x u hx
    have HL := Lib.hid hl
    clear hl
    go_enter Try.func23, Try.ntmps23
    go_wp2_with (at_builtin; refine wpList_append_recs rfl (.tmp 5) (.tmp 6) 40 45 2 rfl Try.underlying40 infoD rfl (by decide) w.heap.size _ 0 [] rfl hown a n c (ms.flatMap valsD) hus rfl hfl hone ?_ ?_ ?_ ?_)
    case refine_1 => omega
    case refine_2 => unfold maxLen; omega
    case refine_3 => simp
    intro v' w' hown' hk
    obtain ⟨ro, rc, rfl, hrc, hR, _⟩ := own_recs d0 valsD_len (by decide) hown'
    have hb : Below w.heap.size w w' := (below_alloc w (.cells #[] 45)).trans (owns_below hown hk (by simp))
    clear hown hown' hfl hus hone
    go_wp2_with fail
    go_ret
    exact ⟨ro, rc, by rw [HL.out]; rfl, by rw [HL.out]; exact hrc, by rw [HL.out]; exact hR, hb⟩
theorem lost_any (b B : Nat) (vl ve : Value) (g : Lg) (w : World) (h : LogIs w b B vl ve g) (hn : g.lost.length ≤ 100000) : Calls Try.prog 13 #[.pointer (some ⟨b, 0, none⟩)] w (ClPost valsE 4 e0 g.lost w) := by
  obtain ⟨c0, c1, c2, c3, c4, c5, c6⟩ := seven_cells h.blk
  obtain ⟨ao, cap, rfl, hcap, hR, _⟩ := own_recs e0 valsE_len (by decide) h.lost
  go_enter Try.func13, Try.ntmps13
  go_wp2_with (go_at_call 22; refine (clone_lost ao _ cap _ w hR hn).mono ?_; rintro e w' ⟨ro, rc, rfl, h1, h2, h3⟩)
  all_goals go_ret
  all_goals exact ⟨ro, rc, rfl, h1, h2, h3⟩
theorem ended_any (b B : Nat) (vl ve : Value) (g : Lg) (w : World) (h : LogIs w b B vl ve g) (hn : g.ended.length ≤ 100000) : Calls Try.prog 14 #[.pointer (some ⟨b, 0, none⟩)] w (ClPost valsD 2 d0 g.ended w) := by
  obtain ⟨c0, c1, c2, c3, c4, c5, c6⟩ := seven_cells h.blk
  obtain ⟨ao, cap, rfl, hcap, hR, _⟩ := own_recs d0 valsD_len (by decide) h.ended
  go_enter Try.func14, Try.ntmps14
  go_wp2_with (go_at_call 23; refine (clone_ended ao _ cap _ w hR hn).mono ?_; rintro e w' ⟨ro, rc, rfl, h1, h2, h3⟩)
  all_goals go_ret
  all_goals exact ⟨ro, rc, rfl, h1, h2, h3⟩
end Go.Proofs.Ytidjcbmdmecajaa
