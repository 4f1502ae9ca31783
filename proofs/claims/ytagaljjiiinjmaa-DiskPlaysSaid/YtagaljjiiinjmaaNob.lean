/- The statement DiskNobody. -/
import Derived.Test.YtagaljjiiinjmaaAwk
namespace Go.Proofs.Ytagaljjiiinjmaa
open Go Go.RowKit Go.Calli Go.Dskp Go.Maps
set_option linter.unusedVariables false
set_option linter.unusedSimpArgs false
attribute [local irreducible] wpStill wpAnyH wpAnyS wpList Code.wp
/-- Nobody's disk. -/
def NoDisk (p : Option Addr) (w : World) : Prop := Calls Try.prog 20 #[.pointer p] w (Same (.bool true) w)
theorem why_no (p : Option Addr) (page : Int) (w : World) (h : NoDisk p w) : Calls Try.prog 19 #[.pointer p, .int .i64 page] w (Same (.int .i64 16) w) := by
  unfold NoDisk at h
  go_enter Try.func19, Try.ntmps19
  go_wp2_with (go_at_call 20; refine h.mono ?_; rintro e w' ⟨rfl, rfl⟩)
  all_goals go_ret
  all_goals exact ⟨rfl, rfl⟩
theorem read_no (p : Option Addr) (page : Int) (w : World) (h : NoDisk p w) : Calls Try.prog 9 #[.pointer p, .int .i64 page] w (Same (.tuple #[.slice none 0 0, .int .i64 16]) w) := by
  have hW := why_no p page w h
  go_enter Try.func9, Try.ntmps9
  go_wp2_with (go_at_call 19; refine hW.mono ?_; rintro e w' ⟨rfl, rfl⟩)
  all_goals go_ret2
  all_goals exact ⟨rfl, rfl⟩
theorem fail_no (p : Option Addr) (page n : Int) (w : World) (h : NoDisk p w) : Calls Try.prog 7 #[.pointer p, .int .i64 page, .int .i64 n] w (Same (.int .i64 16) w) := by
  have hW := why_no p page w h
  go_enter Try.func7, Try.ntmps7
  go_wp2_with (go_at_call 19; refine hW.mono ?_; rintro e w' ⟨rfl, rfl⟩)
  all_goals go_ret
  all_goals exact ⟨rfl, rfl⟩
theorem spoil_no (p : Option Addr) (page n x : Int) (w : World) (h : NoDisk p w) : Calls Try.prog 8 #[.pointer p, .int .i64 page, .int .i64 n, .int .u8 x] w (Same (.int .i64 16) w) := by
  have hW := why_no p page w h
  go_enter Try.func8, Try.ntmps8
  go_wp2_with (go_at_call 19; refine hW.mono ?_; rintro e w' ⟨rfl, rfl⟩)
  all_goals go_ret
  all_goals exact ⟨rfl, rfl⟩
theorem heal_no (p : Option Addr) (page : Int) (w : World) (h : NoDisk p w) : Calls Try.prog 18 #[.pointer p, .int .i64 page] w (Same (.int .i64 16) w) := by
  have hW := why_no p page w h
  go_enter Try.func18, Try.ntmps18
  go_wp2_with (go_at_call 19; refine hW.mono ?_; rintro e w' ⟨rfl, rfl⟩)
  all_goals go_ret
  all_goals exact ⟨rfl, rfl⟩
theorem pages_no (p : Option Addr) (w : World) (h : NoDisk p w) : Calls Try.prog 17 #[.pointer p] w (Same (.int .i64 0) w) := by
  unfold NoDisk at h
  go_enter Try.func17, Try.ntmps17
  go_wp2_with (go_at_call 20; refine h.mono ?_; rintro e w' ⟨rfl, rfl⟩)
  all_goals go_ret
  all_goals exact ⟨rfl, rfl⟩
theorem reads_no (p : Option Addr) (w : World) (h : NoDisk p w) : Calls Try.prog 15 #[.pointer p] w (Same (.int .i64 0) w) := by
  unfold NoDisk at h
  go_enter Try.func15, Try.ntmps15
  go_wp2_with (go_at_call 20; refine h.mono ?_; rintro e w' ⟨rfl, rfl⟩)
  all_goals go_ret
  all_goals exact ⟨rfl, rfl⟩
theorem failed_no (p : Option Addr) (w : World) (h : NoDisk p w) : Calls Try.prog 16 #[.pointer p] w (Same (.int .i64 0) w) := by
  unfold NoDisk at h
  go_enter Try.func16, Try.ntmps16
  go_wp2_with (go_at_call 20; refine h.mono ?_; rintro e w' ⟨rfl, rfl⟩)
  all_goals go_ret
  all_goals exact ⟨rfl, rfl⟩
def TruePost (w : World) (e : Ending) (w' : World) : Prop := e = .returned (.bool true) ∧ Below w.heap.size w w'
theorem nobody_any (page : Int) (w : World) : Calls Try.prog 5 #[.int .i64 page] w (TruePost w) := by
  obtain ⟨W, hW⟩ : ∃ W, W = w.alloc (.cells #[.slice none 0 0, .map none, .int .i64 0, .int .i64 0] 47) := ⟨_, rfl⟩
  have hd : NoDisk none W := none_nil W
  have hz : NoDisk (some ⟨w.heap.size, 0, none⟩) W := none_zero _ _ _ _ _ (by rw [hW]; exact (MapKept.heap_alloc w _).1)
  have hB : Below w.heap.size w W := by rw [hW]; exact (Below.refl _ _).alloc (Nat.le_refl _) _
  have hr1 := read_no none page W hd
  have hr2 := read_no _ page W hz
  have hf := fail_no none page 1 W hd
  have hs := spoil_no _ page 0 1 W hz
  have hh := heal_no none page W hd
  have hp := pages_no none W hd
  have hq := reads_no _ W hz
  have hg := failed_no none W hd
  have hA := awake_any W
  go_enter Try.func5, Try.ntmps5
  go_upto_region 3 with fail
  rw [← hW]
  clear hW
  go_upto_region 4 with (go_at_call 9; refine hr1.mono ?_; rintro e w' ⟨rfl, rfl⟩)
  go_upto_region 5 with (go_at_call 9; refine hr2.mono ?_; rintro e w' ⟨rfl, rfl⟩)
  go_wp2_with (first | (go_at_call 7; refine hf.mono ?_; rintro e w' ⟨rfl, rfl⟩) | (go_at_call 8; refine hs.mono ?_; rintro e w' ⟨rfl, rfl⟩) | (go_at_call 18; refine hh.mono ?_; rintro e w' ⟨rfl, rfl⟩) | (go_at_call 17; refine hp.mono ?_; rintro e w' ⟨rfl, rfl⟩) | (go_at_call 15; refine hq.mono ?_; rintro e w' ⟨rfl, rfl⟩) | (go_at_call 16; refine hg.mono ?_; rintro e w' ⟨rfl, rfl⟩) | (go_at_call 10; refine hA.mono ?_; rintro e w' ⟨rfl, hb2⟩))
  go_ret
  exact ⟨rfl, bstep hB hb2⟩
end Go.Proofs.Ytagaljjiiinjmaa
