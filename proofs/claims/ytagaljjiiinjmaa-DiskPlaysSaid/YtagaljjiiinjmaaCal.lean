/- The walk of the law's call of a disk. -/
import Derived.Test.YtagaljjiiinjmaaPlm
namespace Go.Proofs.Ytagaljjiiinjmaa
open Go Go.RowKit Go.Calli Go.Dskp Go.Maps
set_option linter.unusedVariables false
set_option linter.unusedSimpArgs false
attribute [local irreducible] wpStill wpAnyH wpAnyS wpList Code.wp
theorem disk_op {b mb : Nat} {ib : Option Addr} {kap m : Nat} {s : Dk} (w : World) (h : Dsk w b mb ib kap m s) (v0 v1 v2 v3 : Value) :
    ∀ W, W = w.alloc (.cells #[v0, v1, v2, v3] 37) → W.cell? ⟨w.heap.size, 0, none⟩ = some v0 ∧ W.cell? ⟨w.heap.size, 1, none⟩ = some v1 ∧ W.cell? ⟨w.heap.size, 2, none⟩ = some v2 ∧ W.cell? ⟨w.heap.size, 3, none⟩ = some v3 ∧ Dsk W b mb ib kap m s ∧ Below w.heap.size w W := by
  rintro W rfl
  have hb : Below w.heap.size w (w.alloc (.cells #[v0, v1, v2, v3] 37)) := below_alloc _ _
  obtain ⟨c0, c1, c2, c3, -, -⟩ := four_cells (MapKept.heap_alloc w (.cells #[v0, v1, v2, v3] 37)).1
  exact ⟨c0, c1, c2, c3, h.keep0 hb, hb⟩
set_option maxRecDepth 100000 in
theorem call_3 (b mb : Nat) (ib : Option Addr) (kap m : Nat) (s : Dk) (hs : s.Ok) (hm : m < 1000000000) (p n x : Int) (hwp : (Lit.int .i64 p).wf = true) (w : World) (h : Dsk w b mb ib kap m s) : Calls Try.prog 12 #[.pointer (some ⟨b, 0, none⟩), .agg #[.int .i64 3, .int .i64 p, .int .i64 n, .int .u8 x]] w (SetPost b mb ib kap m (flS s p n) (flE s p) w) := by
  obtain ⟨c0, c1, c2, c3, hD, hB⟩ := disk_op w h (.int .i64 3) (.int .i64 p) (.int .i64 n) (.int .u8 x) _ rfl
  go_enter Try.func12, Try.ntmps12
  go_wp2_with (go_at_call 7; refine (fail_any b mb ib kap m s hs hm p n hwp _ (by exact hD)).mono ?_; rintro e w' ⟨rfl, hm', hk⟩)
  go_ret
  exact ⟨rfl, hm', (Keeps.ofBelow hB (Nat.le_refl _)).trans hk⟩
set_option maxRecDepth 100000 in
theorem call_4 (b mb : Nat) (ib : Option Addr) (kap m : Nat) (s : Dk) (hs : s.Ok) (hm : m < 1000000000) (p n x : Int) (hwp : (Lit.int .i64 p).wf = true) (w : World) (h : Dsk w b mb ib kap m s) : Calls Try.prog 12 #[.pointer (some ⟨b, 0, none⟩), .agg #[.int .i64 4, .int .i64 p, .int .i64 n, .int .u8 x]] w (SetPost b mb ib kap m (spS s p n x) (spE s p n) w) := by
  obtain ⟨c0, c1, c2, c3, hD, hB⟩ := disk_op w h (.int .i64 4) (.int .i64 p) (.int .i64 n) (.int .u8 x) _ rfl
  go_enter Try.func12, Try.ntmps12
  go_wp2_with (go_at_call 8; refine (spoil_any b mb ib kap m s hs hm p n x hwp _ (by exact hD)).mono ?_; rintro e w' ⟨rfl, hm', hk⟩)
  go_ret
  exact ⟨rfl, hm', (Keeps.ofBelow hB (Nat.le_refl _)).trans hk⟩
set_option maxRecDepth 100000 in
theorem call_5 (b mb : Nat) (ib : Option Addr) (kap m : Nat) (s : Dk) (hs : s.Ok) (k p n x : Int) (hk3 : k ≠ 3) (hk4 : k ≠ 4) (hwp : (Lit.int .i64 p).wf = true) (w : World) (h : Dsk w b mb ib kap m s) : Calls Try.prog 12 #[.pointer (some ⟨b, 0, none⟩), .agg #[.int .i64 k, .int .i64 p, .int .i64 n, .int .u8 x]] w (SetPost b mb ib kap m (hlS s p) (flE s p) w) := by
  obtain ⟨c0, c1, c2, c3, hD, hB⟩ := disk_op w h (.int .i64 k) (.int .i64 p) (.int .i64 n) (.int .u8 x) _ rfl
  have hb3 : (k == 3) = false := by simpa using hk3
  have hb4 : (k == 4) = false := by simpa using hk4
  go_enter Try.func12, Try.ntmps12
  go_wp2_with (go_at_call 18; refine (heal_any b mb ib kap m s hs p hwp _ (by exact hD)).mono ?_; rintro e w' ⟨rfl, hm', hk⟩)
  go_ret
  exact ⟨rfl, hm', (Keeps.ofBelow hB (Nat.le_refl _)).trans hk⟩
end Go.Proofs.Ytagaljjiiinjmaa
