/- The walk of chapter 17's example. -/
import Derived.Test.YtbboljmmpbchgaaMad
namespace Go.Proofs.Ytbboljmmpbchgaa
open Go Go.RowKit Go.Calli Go.Dskp Go.Maps
set_option linter.unusedVariables false
set_option linter.unusedSimpArgs false
attribute [local irreducible] wpStill wpAnyH wpAnyS wpList Code.wp
def k0 : Ca := newC (List.replicate 300 0) 2 0
def k1 : Ca := (getC k0 0).c
def k2 : Ca := (getC k1 1).c
def k3 : Ca := (getC k2 0).c
def k4 : Ca := (getC k3 2).c
theorem k4_pgs : pgsC k4 = [2, 1] := by kernel_rfl
theorem k4_h : k4.h = 1 := by kernel_rfl
theorem k4_m : k4.m = 3 := by kernel_rfl
theorem k4_t : k4.t = 3 := by kernel_rfl
theorem k4_l : k4.l = 0 := by kernel_rfl
theorem k0_ok : COk k0 ∧ CLim 0 k0 := ⟨newC_ok _ _ _, newC_lim _ (by rw [List.length_replicate]; decide) _ _ (by decide) (by decide)⟩
theorem k1_ok : COk k1 ∧ CLim 1 k1 := ⟨(getC_ok k0_ok.1 0 (by decide)).1, k0_ok.2.get 0⟩
theorem k2_ok : COk k2 ∧ CLim 2 k2 := ⟨(getC_ok k1_ok.1 1 (by decide)).1, k1_ok.2.get 1⟩
theorem k3_ok : COk k3 ∧ CLim 3 k3 := ⟨(getC_ok k2_ok.1 0 (by decide)).1, k2_ok.2.get 0⟩
theorem k4_ok : COk k4 ∧ CLim 4 k4 := ⟨(getC_ok k3_ok.1 2 (by decide)).1, k3_ok.2.get 2⟩
theorem make_bytes (n : Nat) (hn : n ≤ 500) (w : World) : (Instr.makeSlice 22 (.int .i64 (n : Int)) (.int .i64 (n : Int))).run Try.prog w = .ok (.slice (some ⟨w.heap.size, 0, none⟩) n n) (w.alloc (.cells ((List.replicate n (0 : Int)).map (Value.int .u8)).toArray 5)) := by
  obtain ⟨i, hi, hz, hsz, hby⟩ := info_parts infoByte
  have hb2 : (i.bytes : Int) * (n : Int) ≤ 281474976710656 := by
    have h : ((i.bytes * n : Nat) : Int) ≤ 281474976710656 := by rw [hby]; omega
    rwa [Int.natCast_mul] at h
  have hr := run_make (P := Try.prog) w 22 5 i _ Try.underlying22 hi hz .i64 .i64 n n (by omega) (Int.le_refl _) hb2 (by omega)
  simp only [Int.toNat_natCast] at hr
  rw [hr, hsz, Nat.mul_one]
  have : madeCells (Value.int .u8 0).cells n = ((List.replicate n (0 : Int)).map (Value.int .u8)).toArray := by
    apply Array.toList_inj.1
    rw [made_list, List.map_replicate]
  rw [this]
theorem awake_any (w : World) : Calls Try.prog 7 #[] w (fun e w' => e = .returned (.bool true) ∧ Below w.heap.size w w') := by
  have hmk := make_bytes 300 (by decide) w
  rw [show ((300 : Nat) : Int) = 300 from rfl] at hmk
  have hI := Ints.of_heap (zs := List.replicate 300 (0 : Int)) (k := .u8) (MapKept.heap_alloc w (.cells ((List.replicate 300 (0 : Int)).map (Value.int .u8)).toArray 5)).1 (by rw [List.length_replicate]; decide) (fun z hz => by rw [List.eq_of_mem_replicate hz]; rfl)
  rw [List.length_replicate] at hI
  have hw1 : Below w.heap.size w (w.alloc (.cells ((List.replicate 300 (0 : Int)).map (Value.int .u8)).toArray 5)) := below_alloc _ _
  obtain ⟨Z, hZ⟩ : ∃ Z, Z = ((List.replicate 300 (0 : Int)).map (Value.int .u8)).toArray := ⟨_, rfl⟩
  rw [← hZ] at hmk hI hw1
  clear hZ
  have hM0 := (made_good (some ⟨w.heap.size, 0, none⟩) 300 300 _ (by decide) 2 0 (by decide) (by decide) (by decide) (by decide) _ hI)
  rw [show ((2 : Nat) : Int) = 2 from rfl] at hM0
  have hM := Lib.hid hM0
  clear hI hM0
  go_enter Try.func7, Try.ntmps7
  go_upto_region 2 with (go_at_call 8; refine hM.out.mono ?_; rintro e w1 ⟨A, rfl, hC0, hA, hib, -, hB1⟩)
  go_upto_region 4 with fail
  have hB01 := bstep hw1 hB1
  go_upto_region 5 with (go_at_call 10; refine (get_any A 2 (by decide) k0 0 (by decide) k0_ok.1 k0_ok.2 0 (by decide) w1 hC0).mono ?_; rintro e w2 ⟨o1, r1, rfl, hr1, hC1, hI1, hn1, hk1⟩)
  go_upto_region 6 with (go_at_call 10; refine (get_any A 2 (by decide) k1 1 (by decide) k1_ok.1 k1_ok.2 1 (by decide) w2 hC1).mono ?_; rintro e w3 ⟨o2, r2, rfl, hr2, hC2, hI2, hn2, hk2⟩)
  go_upto_region 7 with (go_at_call 10; refine (get_any A 2 (by decide) k2 2 (by decide) k2_ok.1 k2_ok.2 0 (by decide) w3 hC2).mono ?_; rintro e w4 ⟨o3, r3, rfl, hr3, hC3, hI3, hn3, hk3⟩)
  go_upto_region 8 with (go_at_call 10; refine (get_any A 2 (by decide) k3 3 (by decide) k3_ok.1 k3_ok.2 2 (by decide) w4 hC3).mono ?_; rintro e w5 ⟨o4, r4, rfl, hr4, hC4, hI4, hn4, hk4⟩)
  have HP := pages_of A 2 (by decide) k4 k4_ok.1 w5 hC4
  rw [k4_pgs] at HP
  go_upto_region 9 with (go_at_call 11; refine HP.mono ?_; rintro e w6 ⟨o5, r5, rfl, hr5, hI5, hn5, hB5⟩)
  have hT := told_any A 2 k4 w6 (hC4.keep0 hB5)
  rw [k4_h, k4_m, k4_t, k4_l] at hT
  obtain ⟨xa, rfl, hx⟩ := hI5.some (by decide)
  have hx0 : w6.cell? xa = some (.int .i64 2) := by have := hx 0 (by decide); rwa [show xa.add 0 = xa from by cases xa; simp [Addr.add]] at this
  have hx1 : w6.cell? ⟨xa.block, xa.off + 1, none⟩ = some (.int .i64 1) := hx 1 (by decide)
  have hKK := ((hk1.trans hk2).trans hk3).trans hk4
  have hs1 := hw1.size
  have hBB : Below w.heap.size w1 w5 := hKK.toBelow (hB01.size) (fun k hk hS => by have := hA k hS; omega)
  have hBF := (hB01.trans hBB).trans (hB5.mono (hB01.trans hBB).size)
  clear hKK hk1 hk2 hk3 hk4 hC0 hC1 hC2 hC3 hC4 hI1 hI2 hI3 hI4 hI5 hx
  go_wp2_with (go_at_call 12; refine hT.mono ?_; rintro e w7 ⟨rfl, hB7⟩)
  go_ret
  exact ⟨rfl, bstep hBF hB7⟩
end Go.Proofs.Ytbboljmmpbchgaa
