/- The walks of cache's functions where nobody made it. -/
import Derived.Test.YtbboljmmpbchgaaDsn
namespace Go.Proofs.Ytbboljmmpbchgaa
open Go Go.RowKit Go.Calli Go.Dskp Go.Maps
set_option linter.unusedVariables false
set_option linter.unusedSimpArgs false
attribute [local irreducible] wpStill wpAnyH wpAnyS wpList Code.wp
theorem eight_cells {w : World} {b : Nat} {v0 v1 v2 v3 v4 v5 v6 v7 : Value} {T : Nat} (h : w.heap[b]? = some (.cells #[v0, v1, v2, v3, v4, v5, v6, v7] T (0, 0))) :
    w.cell? ⟨b, 0, none⟩ = some v0 ∧ w.cell? ⟨b, 1, none⟩ = some v1 ∧ w.cell? ⟨b, 2, none⟩ = some v2 ∧ w.cell? ⟨b, 3, none⟩ = some v3 ∧ w.cell? ⟨b, 4, none⟩ = some v4 ∧ w.cell? ⟨b, 5, none⟩ = some v5 ∧ w.cell? ⟨b, 6, none⟩ = some v6 ∧ w.cell? ⟨b, 7, none⟩ = some v7 :=
  ⟨(cell_of_row _ _ _ _ _ _ h).trans rfl, (cell_of_row _ _ _ _ _ _ h).trans rfl, (cell_of_row _ _ _ _ _ _ h).trans rfl, (cell_of_row _ _ _ _ _ _ h).trans rfl, (cell_of_row _ _ _ _ _ _ h).trans rfl, (cell_of_row _ _ _ _ _ _ h).trans rfl, (cell_of_row _ _ _ _ _ _ h).trans rfl, (cell_of_row _ _ _ _ _ _ h).trans rfl⟩
/-- Nobody's cache. -/
def NoCache (p : Option Addr) (w : World) : Prop := Calls Try.prog 24 #[.pointer p] w (Same (.bool true) w)
theorem cnone_nil (w : World) : NoCache none w := by
  unfold NoCache
  go_enter Try.func24, Try.ntmps24
  go_wp2_with fail
  all_goals go_ret
  all_goals exact ⟨rfl, rfl⟩
theorem cnone_zero (b : Nat) (v0 v1 v2 v3 v5 v6 v7 : Value) (w : World) (h : w.heap[b]? = some (.cells #[v0, v1, v2, v3, .pointer none, v5, v6, v7] 47 (0, 0))) : NoCache (some ⟨b, 0, none⟩) w := by
  unfold NoCache
  obtain ⟨c0, c1, c2, c3, c4, c5, c6, c7⟩ := eight_cells h
  go_enter Try.func24, Try.ntmps24
  go_wp2_with fail
  all_goals go_ret
  all_goals exact ⟨rfl, rfl⟩
theorem cwhy_no (p : Option Addr) (page : Int) (w : World) (h : NoCache p w) : Calls Try.prog 22 #[.pointer p, .int .i64 page] w (Same (.int .i64 16) w) := by
  unfold NoCache at h
  go_enter Try.func22, Try.ntmps22
  go_wp2_with (go_at_call 24; refine h.mono ?_; rintro e w' ⟨rfl, rfl⟩)
  all_goals go_ret
  all_goals exact ⟨rfl, rfl⟩
theorem get_no (p : Option Addr) (page : Int) (w : World) (h : NoCache p w) : Calls Try.prog 10 #[.pointer p, .int .i64 page] w (Same (.tuple #[.slice none 0 0, .int .i64 16]) w) := by
  have hW := cwhy_no p page w h
  go_enter Try.func10, Try.ntmps10
  go_wp2_with (go_at_call 22; refine hW.mono ?_; rintro e w' ⟨rfl, rfl⟩)
  all_goals go_ret2
  all_goals exact ⟨rfl, rfl⟩
theorem span_no (p : Option Addr) (at_ n : Int) (w : World) (h : NoCache p w) : Calls Try.prog 16 #[.pointer p, .int .i64 at_, .int .i64 n] w (Same (.tuple #[.slice none 0 0, .int .i64 16]) w) := by
  unfold NoCache at h
  go_enter Try.func16, Try.ntmps16
  go_wp2_with (go_at_call 24; refine h.mono ?_; rintro e w' ⟨rfl, rfl⟩)
  all_goals go_ret2
  all_goals exact ⟨rfl, rfl⟩
theorem evict_no (p : Option Addr) (page : Int) (w : World) (h : NoCache p w) : Calls Try.prog 14 #[.pointer p, .int .i64 page] w (Same (.bool false) w) := by
  unfold NoCache at h
  go_enter Try.func14, Try.ntmps14
  go_wp2_with (go_at_call 24; refine h.mono ?_; rintro e w' ⟨rfl, rfl⟩)
  all_goals go_ret
  all_goals exact ⟨rfl, rfl⟩
theorem empty_no (p : Option Addr) (w : World) (h : NoCache p w) : Calls Try.prog 15 #[.pointer p] w (Same (.tuple #[]) w) := by
  unfold NoCache at h
  go_enter Try.func15, Try.ntmps15
  go_wp2_with (go_at_call 24; refine h.mono ?_; rintro e w' ⟨rfl, rfl⟩)
  all_goals go_end0
  all_goals exact ⟨rfl, rfl⟩
theorem disk_no (p : Option Addr) (w : World) (h : NoCache p w) : Calls Try.prog 18 #[.pointer p] w (Same (.pointer none) w) := by
  unfold NoCache at h
  go_enter Try.func18, Try.ntmps18
  go_wp2_with (go_at_call 24; refine h.mono ?_; rintro e w' ⟨rfl, rfl⟩)
  all_goals go_ret
  all_goals exact ⟨rfl, rfl⟩
theorem cpages_no (p : Option Addr) (w : World) (h : NoCache p w) : Calls Try.prog 11 #[.pointer p] w (Same (.slice none 0 0) w) := by
  unfold NoCache at h
  go_enter Try.func11, Try.ntmps11
  go_wp2_with (go_at_call 24; refine h.mono ?_; rintro e w' ⟨rfl, rfl⟩)
  all_goals go_ret
  all_goals exact ⟨rfl, rfl⟩
theorem info35 : (Try.prog.info? 35).map (·.size) = some 4 := by kernel_rfl
theorem told_no (p : Option Addr) (w : World) (h : ∀ w', Below w.heap.size w w' → NoCache p w') : Calls Try.prog 12 #[.pointer p] w (fun e w' => e = .returned (.agg #[.int .i64 0, .int .i64 0, .int .i64 0, .int .i64 0]) ∧ Below w.heap.size w w') := by
  have hb : Below w.heap.size w (w.alloc (.cells #[.int .i64 0, .int .i64 0, .int .i64 0, .int .i64 0] 35)) := below_alloc _ _
  have h1 := h _ hb
  unfold NoCache at h1
  obtain ⟨c0, c1, c2, c3, -, -⟩ := four_cells (MapKept.heap_alloc w (.cells #[.int .i64 0, .int .i64 0, .int .i64 0, .int .i64 0] 35)).1
  go_enter Try.func12, Try.ntmps12
  go_wp2_with (go_at_call 24; refine h1.mono ?_; rintro e w' ⟨rfl, rfl⟩)
  refine bodyPost_ret (results_cell_row rfl _ _ _ _ _ _ _ rfl (MapKept.heap_alloc w _).1 Try.underlying35 rfl info35) rfl ⟨rfl, hb⟩
theorem new_no (s r : Int) (w : World) : Calls Try.prog 17 #[.pointer none, .int .i64 s, .int .i64 r] w (Same (.tuple #[.pointer none, .int .i64 1]) w) := by
  go_enter Try.func17, Try.ntmps17
  go_wp2_with fail
  all_goals go_ret2
  all_goals exact ⟨rfl, rfl⟩
end Go.Proofs.Ytbboljmmpbchgaa
