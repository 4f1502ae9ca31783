/- The statement MidiNumbers: the number that is one, and both ways joined. -/
import Derived.Test.YtmhlmaimmbopfaaMid
import Derived.Deep.RegionWith
namespace Go.Proofs.Ytmhlmaimmbopfaa
open Go Go.RowKit Go.Calli
set_option linter.unusedVariables false
set_option maxHeartbeats 2000000 in
theorem midiNumbers_in (v : Nat) (t k c a b : Int) (hv : v ≤ 268435455) (w : World) : Calls Try.prog 3 #[.int .i64 (v : Nat), .agg #[.int .i64 t, .int .i64 k, .int .i64 c, .int .i64 a, .int .i64 b]] w (TruePost w) := by
  have HN := Lib.hid (number_any v hv)
  have HL := Lib.hid (lnumber_any v hv)
  have H8 := Lib.hid (right_any t k c a b)
  have H9 := Lib.hid (lright_any t k c a b)
  have hz := heap_alloc_new w (.cells #[.int .i64 t, .int .i64 k, .int .i64 c, .int .i64 a, .int .i64 b] 23)
  have hbz := below_alloc w (.cells #[.int .i64 t, .int .i64 k, .int .i64 c, .int .i64 a, .int .i64 b] 23)
  go_enter Try.func3, Try.ntmps3
  go_upto_region 2 with (go_at_call 7; refine (HN.out _).mono ?_; rintro e w1 ⟨ao, n, cc, rfl, hnc, hi, hb1⟩)
  have hz1 := (hb1.block _ (lt_of_block hz)).trans hz
  have hb2 := bstep hbz hb1
  have hsz := lt_of_block hz1
  obtain ⟨c0, c1, c2, c3, c4⟩ := five_cells hz1
  clear hz hz1 hb1 hbz
  go_cut [12] (fun v wx => v = .bool false ∧ Below w1.heap.size w1 wx)
  case first =>
    go_region_held3 (fun w' => w'.cell? ⟨w.heap.size, 0, none⟩ = some (.int .i64 t) ∧ w'.cell? ⟨w.heap.size, 1, none⟩ = some (.int .i64 k) ∧ w'.cell? ⟨w.heap.size, 2, none⟩ = some (.int .i64 c) ∧ w'.cell? ⟨w.heap.size, 3, none⟩ = some (.int .i64 a) ∧ w'.cell? ⟨w.heap.size, 4, none⟩ = some (.int .i64 b)) (go_keep) (first | (go_at_call 8; refine (H8.out _).mono ?_; rintro e w3 ⟨rfl, hb3⟩; have k0 : w3.cell? ⟨w.heap.size, 0, none⟩ = some (.int .i64 t) := cell_later hb3 (by assumption); have k1 : w3.cell? ⟨w.heap.size, 1, none⟩ = some (.int .i64 k) := cell_later hb3 (by assumption); have k2 : w3.cell? ⟨w.heap.size, 2, none⟩ = some (.int .i64 c) := cell_later hb3 (by assumption); have k3 : w3.cell? ⟨w.heap.size, 3, none⟩ = some (.int .i64 a) := cell_later hb3 (by assumption); have k4 : w3.cell? ⟨w.heap.size, 4, none⟩ = some (.int .i64 b) := cell_later hb3 (by assumption)) | (go_at_call 9; refine (H9.out _).mono ?_; rintro e w4 ⟨rfl, hb4⟩; have m0 : w4.cell? ⟨w.heap.size, 0, none⟩ = some (.int .i64 t) := cell_later hb4 (by assumption); have m1 : w4.cell? ⟨w.heap.size, 1, none⟩ = some (.int .i64 k) := cell_later hb4 (by assumption); have m2 : w4.cell? ⟨w.heap.size, 2, none⟩ = some (.int .i64 c) := cell_later hb4 (by assumption); have m3 : w4.cell? ⟨w.heap.size, 3, none⟩ = some (.int .i64 a) := cell_later hb4 (by assumption); have m4 : w4.cell? ⟨w.heap.size, 4, none⟩ = some (.int .i64 b) := cell_later hb4 (by assumption)))
    go_wp2_with fail
    go_meet
    exact ⟨by simp, (((Below.refl _ _).drew).trans (hb3.mono (by simp))).trans (hb4.mono (by have := hb3.size; simp at this; omega))⟩
  case rest =>
    obtain ⟨rfl, hbx⟩ := hcut
    clear c0 c1 c2 c3 c4
    have hix := hi.keep0 (hbx.trans (((Below.refl _ _).drew).mono hbx.size))
    have hcv := conv_ints (P := Try.prog) hix 24 5 9 cc rfl rfl rfl
    go_upto_region 6 with fail
    go_region_with (first | (go_at_call 11; refine (HL.out _).mono ?_; rintro e w5 ⟨bo, m, dc, rfl, hmc, hj, hb5⟩; have hcv5 := conv_ints (P := Try.prog) (hix.keep0 hb5) 24 5 9 cc rfl rfl rfl; have hcj := conv_ints (P := Try.prog) hj 24 5 9 dc rfl rfl rfl) | (go_at_call 10; refine (awake_any _).mono ?_; rintro e w6 ⟨rfl, hb6⟩))
    all_goals go_wp2_with fail
    all_goals go_ret
    all_goals exact ⟨by first | rfl | (go_simp; rfl), bstep hb2 (hbx.trans ((((Below.refl _ _).drew).trans (hb5.trans (hb6.mono hb5.size))).mono hbx.size))⟩
theorem midiNumbers_any (v t k c a b : Int) (w : World) : Calls Try.prog 3 #[.int .i64 v, .agg #[.int .i64 t, .int .i64 k, .int .i64 c, .int .i64 a, .int .i64 b]] w (TruePost w) := by
  by_cases h : v < 0 ∨ 268435455 < v
  · exact midiNumbers_out v t k c a b h w
  · obtain ⟨N, rfl⟩ : ∃ N : Nat, v = N := ⟨v.toNat, by omega⟩
    exact midiNumbers_in N t k c a b (by omega) w
end Go.Proofs.Ytmhlmaimmbopfaa
