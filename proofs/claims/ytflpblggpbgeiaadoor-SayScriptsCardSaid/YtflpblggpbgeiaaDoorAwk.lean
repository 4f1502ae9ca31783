/- The walk of chapter 27's example. -/
import Derived.Test.YtflpblggpbgeiaaDoorPar
namespace Go.Proofs.YtflpblggpbgeiaaDoor
open Go Go.RowKit Go.Calli
set_option linter.unusedVariables false
set_option linter.unusedSimpArgs false
attribute [local irreducible] wpStill wpAnyH wpAnyS wpList Code.wp
def TrueP (w : World) (e : Ending) (w' : World) : Prop := e = .returned (.bool true) ∧ Below w.heap.size w w'
theorem parse1 : parseL [115, 101, 101, 107, 32, 49, 32, 45, 53] = some ⟨3, 1, [], -5, 0, 0, 0⟩ := by kernel_rfl
theorem parse2 : parseL [115, 101, 101, 107, 32, 49, 32, 48, 53] = none := by kernel_rfl
theorem awake_any (w : World) (hm : HasM w) : Calls Tryd.prog 12 #[] w (TrueP w) := by
  have P1 : Hid (∀ w, HasM w → Calls Tryd.prog 10 #[.string (ByteArray.mk #[115, 101, 101, 107, 32, 49, 32, 45, 53])] w fun e w' => e = .returned (.tuple #[.agg #[.int .i64 3, .int .i64 1, .string (ByteArray.mk #[]), .int .i64 (-5), .int .i64 0, .int .i64 0, .int .i64 0], .int .i64 0]) ∧ Below w.heap.size w w') := fun w h => by
    have := parse_any [115, 101, 101, 107, 32, 49, 32, 45, 53] (by intro z hz; revert z; decide) (by decide) w h
    rw [parse1] at this
    exact this
  have P2 : Hid (∀ w, HasM w → Calls Tryd.prog 10 #[.string (ByteArray.mk #[115, 101, 101, 107, 32, 49, 32, 48, 53])] w fun e w' => e = .returned (.tuple #[.agg #[.int .i64 0, .int .i64 0, .string (ByteArray.mk #[]), .int .i64 0, .int .i64 0, .int .i64 0, .int .i64 0], .int .i64 4]) ∧ Below w.heap.size w w') := fun w h => by
    have := parse_any [115, 101, 101, 107, 32, 49, 32, 48, 53] (by intro z hz; revert z; decide) (by decide) w h
    rw [parse2] at this
    exact this
  go_enter Tryd.func12, Tryd.ntmps12
  go_upto_region 2 with (go_at_call 10; refine (P1.out _ hm).mono ?_; rintro e w1 ⟨rfl, hb1⟩)
  have hx1 := heap_alloc_new w1 (.cells #[.int .i64 3, .int .i64 1, .string (ByteArray.mk #[]), .int .i64 (-5), .int .i64 0, .int .i64 0, .int .i64 0] 23)
  have hb2 := balloc hb1 (.cells #[.int .i64 3, .int .i64 1, .string (ByteArray.mk #[]), .int .i64 (-5), .int .i64 0, .int .i64 0, .int .i64 0] 23)
  have hm2 := hm.keep0 hb2
  clear hb1 hm
  generalize w1.alloc (.cells #[.int .i64 3, .int .i64 1, .string (ByteArray.mk #[]), .int .i64 (-5), .int .i64 0, .int .i64 0, .int .i64 0] 23) = W2 at *
  generalize w1.heap.size = g at *
  go_upto_region 3 with (go_at_call 10; refine (P2.out _ hm2).mono ?_; rintro e w3 ⟨rfl, hb3⟩)
  have hb4 := bstep hb2 hb3
  have hx3 := (hb3.block _ (lt_of_block hx1)).trans hx1
  have hba := below_alloc w3 (.cells #[.int .i64 0, .int .i64 0, .string (ByteArray.mk #[]), .int .i64 0, .int .i64 0, .int .i64 0, .int .i64 0] 23)
  have hb5 := bstep hb4 hba
  have hx5 := (hba.block _ (lt_of_block hx3)).trans hx3
  obtain ⟨⟨c0, c1, c2, c3, c4, c5, c6⟩, -⟩ := seven_cells hx5
  clear hba hb4 hb3 hb2 hx1 hx3
  generalize w3.alloc (.cells #[.int .i64 0, .int .i64 0, .string (ByteArray.mk #[]), .int .i64 0, .int .i64 0, .int .i64 0, .int .i64 0] 23) = W4 at *
  go_wp2_with fail
  go_ret
  exact ⟨rfl, hb5⟩
end Go.Proofs.YtflpblggpbgeiaaDoor
