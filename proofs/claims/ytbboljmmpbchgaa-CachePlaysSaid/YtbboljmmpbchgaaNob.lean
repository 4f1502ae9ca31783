/- The statement CacheNobody. -/
import Derived.Test.YtbboljmmpbchgaaAwk
namespace Go.Proofs.Ytbboljmmpbchgaa
open Go Go.RowKit Go.Calli Go.Dskp Go.Maps
set_option linter.unusedVariables false
set_option linter.unusedSimpArgs false
attribute [local irreducible] wpStill wpAnyH wpAnyS wpList Code.wp
def TruePost (w : World) (e : Ending) (w' : World) : Prop := e = .returned (.bool true) ∧ Below w.heap.size w w'
theorem nobody_any (page : Int) (w : World) : Calls Try.prog 5 #[.int .i64 page] w (TruePost w) := by
  obtain ⟨W, hW⟩ : ∃ W, W = w.alloc (.cells #[.int .i64 0, .int .i64 0, .int .i64 0, .int .i64 0, .pointer none, .slice none 0 0, .int .i64 0, .int .i64 0] 47) := ⟨_, rfl⟩
  have hd : NoCache none W := cnone_nil W
  have hzz : ∀ W', Below W.heap.size W W' → NoCache (some ⟨w.heap.size, 0, none⟩) W' := fun W' hb => cnone_zero _ _ _ _ _ _ _ _ _ ((Keeps.ofBelow (S := fun _ => False) hb (Nat.le_refl _)).heap (by rw [hW]; exact (MapKept.heap_alloc w _).1) id)
  have hz := hzz W (Below.refl _ _)
  have hB : Below w.heap.size w W := by rw [hW]; exact (Below.refl _ _).alloc (Nat.le_refl _) _
  have hg := get_no none page W hd
  have hs := span_no _ page 1 W hz
  have he := empty_no none W hd
  have hn := new_no 1 0 W
  have hev := evict_no none page W hd
  have hdi := disk_no _ W hz
  have hp := cpages_no none W hd
  have ht := told_no _ W hzz
  go_enter Try.func5, Try.ntmps5
  go_upto_region 3 with fail
  rw [← hW]
  clear hW hzz
  go_upto_region 4 with (go_at_call 10; refine hg.mono ?_; rintro e w' ⟨rfl, rfl⟩)
  go_upto_region 5 with (go_at_call 16; refine hs.mono ?_; rintro e w' ⟨rfl, rfl⟩)
  go_wp2_with (first | (go_at_call 15; refine he.mono ?_; rintro e w' ⟨rfl, rfl⟩) | (go_at_call 17; refine hn.mono ?_; rintro e w' ⟨rfl, rfl⟩) | (go_at_call 14; refine hev.mono ?_; rintro e w' ⟨rfl, rfl⟩) | (go_at_call 18; refine hdi.mono ?_; rintro e w' ⟨rfl, rfl⟩) | (go_at_call 11; refine hp.mono ?_; rintro e w' ⟨rfl, rfl⟩) | (go_at_call 12; refine ht.mono ?_; rintro e w8 ⟨rfl, hb8⟩) | (go_at_call 7; refine (awake_any _).mono ?_; rintro e w' ⟨rfl, hb2⟩))
  go_ret
  exact ⟨rfl, bstep (bstep hB hb8) hb2⟩
end Go.Proofs.Ytbboljmmpbchgaa
