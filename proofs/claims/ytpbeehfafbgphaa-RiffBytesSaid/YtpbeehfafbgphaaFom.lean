/- The walk of riff.format. -/
import Derived.Test.YtpbeehfafbgphaaRin
namespace Go.Proofs.Ytpbeehfafbgphaa
open Go Go.RowKit Go.Calli
set_option linter.unusedVariables false
set_option linter.unusedSimpArgs false
attribute [local irreducible] wpStill wpAnyH wpAnyS wpList Code.wp
def fmtX (n r p q : Int) (k : Nat) : Int := match k with
  | 0 => 1 | 1 => n | 2 => r | 3 => p | 4 => q | _ => 16
def fmtZ (k : Nat) : Nat := match k with
  | 0 => 2 | 1 => 2 | 2 => 4 | 3 => 4 | 4 => 2 | _ => 2
def fmtT (n r p q : Int) : Nat → List Int
  | 0 => []
  | k + 1 => fmtT n r p q k ++ lowL (fmtZ k) (fmtX n r p q k)
theorem fmtT_all (n : Nat) (r : Int) : fmtT n r (r * n * 2) (n * 2) 6 = fmtL n r := by
  simp [fmtT, fmtL, fmtZ, fmtX]
theorem fmt_idx (n r p q : Int) (k : Nat) (hk : k < 6) (w : World) : (Instr.index 69 (.agg #[.int .i64 1, .int .i64 2, .int .i64 n, .int .i64 2, .int .i64 r, .int .i64 4, .int .i64 p, .int .i64 4, .int .i64 q, .int .i64 2, .int .i64 16, .int .i64 2]) (.int .i64 (k : Int))).run Try.prog w = .ok (.agg #[.int .i64 (fmtX n r p q k), .int .i64 (fmtZ k)]) w := by
  rcases (show k = 0 ∨ k = 1 ∨ k = 2 ∨ k = 3 ∨ k = 4 ∨ k = 5 by omega) with rfl | rfl | rfl | rfl | rfl | rfl <;> rfl
theorem fmtZ_le (k : Nat) : fmtZ k ≤ 4 := by unfold fmtZ; split <;> omega
def FmtRel (n r p q : Int) (B : Nat) (w : World) (v4 v27 : Value) (wr : World) : Prop := ∃ (k N : Nat), k ≤ 6 ∧ v27 = .int .i64 k ∧ N ≤ k * 4 ∧ wr.ownsRow B 5 1 v4 N ((fmtT n r p q k).map (Value.int .u8)) ∧ Below B w wr ∧ wr.heap[B + 1]? = some (.cells #[.string (ByteArray.mk #[]), .slice none 0 0] 27 (0, 0))
set_option maxRecDepth 100000 in
set_option maxHeartbeats 4000000 in
theorem format_any (nm : List Int) (rate : Int) (lp : Bool) (a b : Int) (so : Option Addr) (n sc : Nat) (hn : 1 ≤ n ∧ n ≤ 2) (hr : 1 ≤ rate ∧ rate ≤ 192000) (hle : n ≤ sc) (w : World) : Calls Try.prog 28 #[.agg #[.string (strOfNums nm), .int .i64 rate, .bool lp, .int .i64 a, .int .i64 b, .slice so n sc]] w (ChkM ⟨nFmt, fmtL n rate⟩ w) := by
  have hk0 := balloc (below_alloc w (.cells #[.string (strOfNums nm), .int .i64 rate, .bool lp, .int .i64 a, .int .i64 b, .slice so n sc] 37)) (.cells #[.string (ByteArray.mk #[]), .slice none 0 0] 27)
  have hz0 := ((below_alloc (w.alloc (.cells #[.string (strOfNums nm), .int .i64 rate, .bool lp, .int .i64 a, .int .i64 b, .slice so n sc] 37)) (.cells #[.string (ByteArray.mk #[]), .slice none 0 0] 27)).block w.heap.size (by simp)).trans (heap_alloc_new w _)
  have hq0 := heap_alloc_new (w.alloc (.cells #[.string (strOfNums nm), .int .i64 rate, .bool lp, .int .i64 a, .int .i64 b, .slice so n sc] 37)) (.cells #[.string (ByteArray.mk #[]), .slice none 0 0] 27)
  rw [World.size_alloc] at hq0
  have hP : 0 ≤ rate * (n : Int) ∧ rate * (n : Int) ≤ 384000 := by
    rcases (show n = 1 ∨ n = 2 by omega) with rfl | rfl <;> simp <;> omega
  have hw1 : IntKind.i64.wrap (rate * (n : Int)) = rate * (n : Int) := IntWalk.i64_in _ (by omega)
  have hw2 : IntKind.i64.wrap (rate * (n : Int) * 2) = rate * (n : Int) * 2 := IntWalk.i64_in _ (by omega)
  have hw3 : IntKind.i64.wrap ((n : Int) * 2) = (n : Int) * 2 := IntWalk.i64_in _ (by omega)
  have HALL := Lib.hid (fmtT_all n rate)
  go_enter Try.func28, Try.ntmps28
  go_upto_region 1 with fail
  generalize (w.alloc (.cells #[.string (strOfNums nm), .int .i64 rate, .bool lp, .int .i64 a, .int .i64 b, .slice so n sc] 37)).alloc (.cells #[.string (ByteArray.mk #[]), .slice none 0 0] 27) = W at *
  obtain ⟨c0, c1, c2, c3, c4, c5⟩ := six_cells hz0
  go_upto_region 4 with fail
  generalize hp : rate * (n : Int) * 2 = p at *
  generalize hq : (n : Int) * 2 = q at *
  have hX : ∀ k, 0 ≤ fmtX n rate p q k ∧ fmtX n rate p q k < 9223372036854775808 := fun k => by unfold fmtX; split <;> omega
  have HX := Lib.hid hX
  have hidx := fun k hk w => fmt_idx n rate p q k hk w
  have HID := Lib.hid hidx
  have HZ := Lib.hid hz0
  have HW := Lib.hid (fun k => fmtZ_le k)
  clear hX hidx hz0 c0 c1 c2 c3 c4 c5 hp hq hP hw1
  generalize (n : Int) = nn at *
  go_loopw [4, 27] (fun v4 v27 wr => FmtRel nn rate p q w.heap.size w v4 v27 wr) (fun _ v27 _ => (6 - (intOf v27).toNat))
  case atStart => exact ⟨0, 0, by omega, rfl, by omega, World.ownsRow_nil _ _ _ _, hk0, hq0⟩
  case round =>
    clear hq0 hk0
    obtain ⟨k, N, hk, rfl, hN, hown, hb, hq⟩ := hrel
    by_cases hlt : k < 6
    · have hix := HID.out k hlt
      have hx := HX.out k
      have hz := HW.out k
      have HT : Hid (fmtT nn rate p q (k + 1) = fmtT nn rate p q k ++ lowL (fmtZ k) (fmtX nn rate p q k)) := rfl
      generalize fmtX nn rate p q k = X at *
      generalize fmtZ k = Z at *
      have LOW : Hid (∀ w, Calls Try.prog 19 #[.int .u64 X, .int .i64 (Z : Int)] w (LowPost X Z w)) := fun w => low_any X Z (by omega) hx.1 (by omega) w
      have hbx := below_alloc wr (.cells #[.int .i64 X, .int .i64 (Z : Int)] 68)
      have hown1 := own_below0 hown hbx
      have hb1 := hb.alloc hb.size (.cells #[.int .i64 X, .int .i64 (Z : Int)] 68)
      have hq1 := (hbx.block _ (lt_of_block hq)).trans hq
      have hv := heap_alloc_new wr (.cells #[.int .i64 X, .int .i64 (Z : Int)] 68)
      go_upto_region 6 with fail
      generalize wr.alloc (.cells #[.int .i64 X, .int .i64 (Z : Int)] 68) = W1 at *
      obtain ⟨d0, d1⟩ := two_cells hv
      clear hix hown hb hq hbx
      go_wp2_with (first | (go_at_call 19; (with_reducible refine (LOW.out _).mono ?_); rintro e w2 ⟨b1, rfl, hB1, hb2, hbb2⟩; have hown2 := own_below0 hown1 hb2; have hb3 := hb1.trans (hb2.mono hb1.size); have hq2 := (hb2.block _ (lt_of_block hq1)).trans hq1; have hli := hB1.ints Z (lowL_len Z _) (by unfold maxLen; omega) (wf_of (lowL_byt Z _))) | (at_builtin; refine wpList_append_row rfl (.tmp 30) (.tmp 36) 25 5 rfl Try.underlying25 infoByte rfl w.heap.size _ _ _ rfl hown2 (some ⟨b1, 0, none⟩) Z Z ((lowL Z X).map (Value.int .u8)) rfl hli.row (one_ints _ _) hli.nil_len ?_ ?_ ?_ ?_))
      case refine_1 => omega
      case refine_2 => unfold maxLen; omega
      case refine_3 => exact hb3.size
      intro v' w' hown3 hk3
      have hq3 := blk_far hown2 hk3 hq2 (by decide)
      have hb4 := hb3.trans (owns_below hown2 hk3 hb3.size)
      rw [← List.map_append, ← HT.out] at hown3
      clear hown1 hown2 hk3 hq1 hq2 hb1 hb3 hb2 hli hB1 hv d0 d1
      go_wp2_with fail
      refine ⟨⟨k + 1, N + Z, by omega, by go_num, by omega, hown3, hb4, hq3⟩, ?_⟩
      simp [intOf]; omega
    · obtain rfl : k = 6 := by omega
      obtain ⟨o3, cp3, rfl, hcp3, hrow3, hl3, hu3, ht3⟩ := own_slice hown
      obtain ⟨q0, q1⟩ := two_cells hq
      obtain ⟨f0, f1⟩ := two_frozen hq
      rw [HALL.out] at hrow3
      have hI3 := hrow3.ints hl3 (wf_of (fmt_byt _ _))
      have HI := Lib.hid (chk_fin (cp := cp3) hq ht3 hI3 nFmt (.string (ByteArray.mk #[102, 109, 116, 32])) (.slice o3 N cp3))
      have HS := Lib.hid (two_set hq (.string (ByteArray.mk #[102, 109, 116, 32])) (.slice o3 N cp3))
      have HB := Lib.hid (two_below hb (b := w.heap.size + 1) (by omega) (.string (ByteArray.mk #[102, 109, 116, 32])) (.slice o3 N cp3))
      clear hI3 hrow3 ht3 hu3 hown
      go_wp2_with fail
      exact bodyPost_ret (results_cell_row rfl _ _ _ _ _ _ _ rfl HS.out Try.underlying27 rfl info27) rfl ⟨⟨nFmt, o3, N, cp3⟩, rfl, ⟨rfl, (byt_of_small (l := nFmt) (by decide)), hcp3, HI.out.1⟩, HI.out.2, HB.out⟩
end Go.Proofs.Ytpbeehfafbgphaa
