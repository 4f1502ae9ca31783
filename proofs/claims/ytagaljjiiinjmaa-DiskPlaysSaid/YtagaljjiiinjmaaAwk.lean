/- The walk of chapter 16's example. -/
import Derived.Test.YtagaljjiiinjmaaDsn
namespace Go.Proofs.Ytagaljjiiinjmaa
open Go Go.RowKit Go.Calli Go.Dskp Go.Maps
set_option linter.unusedVariables false
set_option linter.unusedSimpArgs false
attribute [local irreducible] wpStill wpAnyH wpAnyS wpList Code.wp
def S0 : Dk := ⟨[7], fun _ => none, 0, 0⟩
def S1 : Dk := flS S0 0 1
def S2 : Dk := rdS S1 0
def S3 : Dk := rdS S2 0
theorem S0_ok : S0.Ok := ⟨by decide, by decide, by decide, by decide, by rintro k t ⟨⟩⟩
theorem S1_ok : S1.Ok := flS_ok S0_ok 0 1 (by decide)
theorem S2_ok : S2.Ok := rdS_ok S1_ok 0
theorem S3_ok : S3.Ok := rdS_ok S2_ok 0
theorem v1 : flE S0 0 = 0 := by rfl
theorem v2 : rdE S1 0 = 8 := by rfl
theorem v2b : rdB S1 0 = [] := by rfl
theorem v3 : rdE S2 0 = 0 := by rfl
theorem v4 : (rdB S2 0).length = 64 := by rfl
theorem v5 : (rdB S2 0).getD 0 0 = 7 := by decide
theorem v6 : S3.r = 2 := by rfl
theorem v7 : S3.g = 1 := by rfl
theorem awake_any (w : World) : Calls Try.prog 10 #[] w (fun e w' => e = .returned (.bool true) ∧ Below w.heap.size w w') := by
  have hI := Ints.of_heap (zs := [7]) (k := .u8) (MapKept.heap_alloc w (.cells #[.int .u8 7] 5)).1 (by decide) (by decide)
  have hw1 : Below w.heap.size w (w.alloc (.cells #[.int .u8 7] 5)) := (Below.refl _ _).alloc (Nat.le_refl _) _
  have hN := Lib.hid (new_any _ _ 1 _ (by decide) _ hI)
  go_enter Try.func10, Try.ntmps10
  go_upto_region 2 with (go_at_call 6; refine hN.out.mono ?_; rintro e w2 ⟨b, mb, ib, kap, rfl, hD, hb, hmb, hib, hB⟩)
  go_upto_region 3 with (go_at_call 7; refine (fail_any b mb ib kap 0 S0 S0_ok (by decide) 0 1 (by decide) w2 hD).mono ?_; rintro e w3 ⟨rfl, ⟨m3, hm3, hD3⟩, hk3⟩; rw [v1])
  go_upto_region 4 with (go_at_call 9; refine (read_any b mb ib kap m3 S1 S1_ok (by omega) (by decide) 0 (by decide) w3 hD3).mono ?_; rintro e w4 ⟨ro, rc, rfl, hrc, ⟨m4, hm4, hD4⟩, hI4, hn4, hk4⟩; rw [v2, v2b])
  go_upto_region 5 with (go_at_call 9; refine (read_any b mb ib kap m4 S2 S2_ok (by omega) (by decide) 0 (by decide) w4 hD4).mono ?_; rintro e w5 ⟨xo, xc, rfl, hxc, ⟨m5, hm5, hD5⟩, hI5, hn5, hk5⟩; rw [v3])
  rw [v4] at hI5 hxc
  rw [v4]
  obtain ⟨xa, rfl, hx⟩ := hI5.some (by decide)
  have hx0 := hx 0 (by decide)
  rw [v5] at hx0
  rw [show xa.add 0 = xa from by cases xa; simp [Addr.add]] at hx0
  have hR := reads_any b mb ib kap m5 S3 w5 hD5
  have hG := failed_any b mb ib kap m5 S3 w5 hD5
  rw [v6] at hR
  rw [v7] at hG
  have hB2 := bstep hw1 hB
  have hKK := (hk3.trans hk4).trans hk5
  have hs := hw1.size
  have hBB : Below w.heap.size w2 w5 := hKK.toBelow hB2.size (fun k hk hk2 => by rcases hk2 with rfl | rfl <;> omega)
  go_wp2_with (first | (go_at_call 15; refine hR.mono ?_; rintro e w' ⟨rfl, rfl⟩) | (go_at_call 16; refine hG.mono ?_; rintro e w' ⟨rfl, rfl⟩))
  go_ret
  exact ⟨rfl, hB2.trans hBB⟩
end Go.Proofs.Ytagaljjiiinjmaa
