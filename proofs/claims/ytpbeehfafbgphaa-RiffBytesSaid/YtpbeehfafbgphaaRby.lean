/- The walk of the statement RiffBytes. -/
import Derived.Test.YtpbeehfafbgphaaRre
import Derived.Test.YtpbeehfafbgphaaByt
namespace Go.Proofs.Ytpbeehfafbgphaa
open Go Go.RowKit Go.Calli
set_option linter.unusedVariables false
set_option linter.unusedSimpArgs false
attribute [local irreducible] wpStill wpAnyH wpAnyS wpList Code.wp
theorem lenS_few (s : Sm) : lenS (fewS s) ≤ 150 := by
  have key : ∀ L : List (List Int), (∀ r ∈ L, r.length ≤ 150) → (L.getD 0 []).length ≤ 150 := by
    intro L h
    cases L with
    | nil => simp
    | cons r t => simpa using h r (by simp)
  exact key _ (fun r hr => by
    obtain ⟨q, _, rfl⟩ := List.mem_map.1 hr
    rw [List.length_take]; omega)
theorem file_few {s : Sm} (h : Good s) (hl : lenS s ≤ 150) : (fileL s).length ≤ 3000 := by
  have h1 := encC_le ⟨nRIFF, nWAVE ++ joinL (chunksL s)⟩
  have h2 := inner_few h hl
  have h3 : nWAVE.length = 4 := rfl
  simp only [List.length_append] at h1
  unfold fileL
  omega
set_option maxRecDepth 100000 in
set_option maxHeartbeats 4000000 in
theorem lbytes_any (nm : List Int) (rate : Int) (lp : Bool) (a b : Int) (d : List (List Int)) (so : Option Addr) (sn sc : Nat) (w : World) (hs : SmIs w ⟨nm, rate, lp, a, b, d⟩ ⟨so, sn, sc⟩) : Calls Try.prog 6 #[.agg #[.string (strOfNums nm), .int .i64 rate, .bool lp, .int .i64 a, .int .i64 b, .slice so sn sc]] w (TruePost w) := by
  have hk0 := below_alloc w (.cells #[.string (strOfNums nm), .int .i64 rate, .bool lp, .int .i64 a, .int .i64 b, .slice so sn sc] 37)
  have hz0 := heap_alloc_new w (.cells #[.string (strOfNums nm), .int .i64 rate, .bool lp, .int .i64 a, .int .i64 b, .slice so sn sc] 37)
  have hfw := fews_wide ⟨nm, rate, lp, a, b, d⟩ ⟨so, sn, sc⟩ w (w.alloc (.cells #[.string (strOfNums nm), .int .i64 rate, .bool lp, .int .i64 a, .int .i64 b, .slice so sn sc] 37)) hs hk0
  have hfl := lenS_few ⟨nm, rate, lp, a, b, d⟩
  have hfx : (fewS ⟨nm, rate, lp, a, b, d⟩) = ⟨nm.take 100, rate, lp, a, b, fewR d⟩ := rfl
  rw [hfx] at hfw hfl
  clear hfx
  unfold cellsS at hfw
  simp only at hfw
  clear hs
  go_enter Try.func6, Try.ntmps6
  go_upto_region 1 with fail
  generalize w.alloc (.cells #[.string (strOfNums nm), .int .i64 rate, .bool lp, .int .i64 a, .int .i64 b, .slice so sn sc] 37) = W at *
  have HFW := Lib.hid hfw
  clear hfw
  have HZ0 := Lib.hid hz0
  obtain ⟨c0, c1, c2, c3, c4, c5⟩ := six_cells hz0
  clear hz0
  go_upto_region 2 with (go_at_call 12; refine HFW.out.mono ?_; rintro e w1 ⟨⟨fo, fn, fc⟩, rfl, hF, hb1⟩; obtain ⟨f0, f1, f2, f3, f4, f5⟩ := six_frozen ((hb1.block _ (lt_of_block HZ0.out)).trans HZ0.out); obtain ⟨e0, e1, e2, e3, e4, e5⟩ := six_cells ((hb1.block _ (lt_of_block HZ0.out)).trans HZ0.out))
  have hz1 := (hb1.block _ (lt_of_block HZ0.out)).trans HZ0.out
  have hz2 := six_set hz1 (.string (strOfNums (nm.take 100))) (.int .i64 rate) (.bool lp) (.int .i64 a) (.int .i64 b) (.slice fo fn fc)
  have hbb := six_below (hk0.trans (hb1.mono hk0.size)) (b := w.heap.size) (Nat.le_refl _) (.string (strOfNums (nm.take 100))) (.int .i64 rate) (.bool lp) (.int .i64 a) (.int .i64 b) (.slice fo fn fc)
  have hs2 := hF _ (six_keeps (Keeps.refl (fun k => k < _) w1) (b := w.heap.size) (lt_of_block HZ0.out) (.string (strOfNums (nm.take 100))) (.int .i64 rate) (.bool lp) (.int .i64 a) (.int .i64 b) (.slice fo fn fc)) hbb
  clear c0 c1 c2 c3 c4 c5 e0 e1 e2 e3 e4 e5 f0 f1 f2 f3 f4 f5 hF hk0 hz1 hb1 HZ0 HFW
  generalize ((((((w1.setCell ⟨w.heap.size, 0, none⟩ (.string (strOfNums (nm.take 100)))).setCell ⟨w.heap.size, 1, none⟩ (.int .i64 rate)).setCell ⟨w.heap.size, 2, none⟩ (.bool lp)).setCell ⟨w.heap.size, 3, none⟩ (.int .i64 a)).setCell ⟨w.heap.size, 4, none⟩ (.int .i64 b)).setCell ⟨w.heap.size, 5, none⟩ (.slice fo fn fc)) = W2 at *
  generalize nm.take 100 = nm2 at *
  generalize fewR d = d2 at *
  have HS2 := Lib.hid hs2
  have HZ2 := Lib.hid hz2
  have HCK : Hid (∀ w', Below W2.heap.size W2 w' → Calls Try.prog 14 #[.agg #[.string (strOfNums nm2), .int .i64 rate, .bool lp, .int .i64 a, .int .i64 b, .slice fo fn fc]] w' (fun e w2 => e = .returned (.int .i64 (chk ⟨nm2, rate, lp, a, b, d2⟩)) ∧ Below w'.heap.size w' w2)) := fun w' hb => by
    have := check_any _ _ w' (HS2.out.keep0 hb)
    exact this
  obtain ⟨e0, e1, e2, e3, e4, e5⟩ := six_cells hz2
  clear hz2 hs2
  by_cases hC0 : chk ⟨nm2, rate, lp, a, b, d2⟩ = 0
  · have hg := (chk_zero _).1 hC0
    rw [hC0] at HCK
    have hrf := read_file hg
    have hff := file_few hg hfl
    have HBY : Hid (Calls Try.prog 17 #[.agg #[.string (strOfNums nm2), .int .i64 rate, .bool lp, .int .i64 a, .int .i64 b, .slice fo fn fc]] W2 (BytP (fileL ⟨nm2, rate, lp, a, b, d2⟩) W2)) := by
      have := bytes_good _ _ _ _ _ _ _ _ _ W2 HS2.out hg hfl
      exact this
    have HRF := Lib.hid hrf
    have HG := Lib.hid hg
    clear hrf hg hC0
    obtain ⟨F, hF⟩ : ∃ F, F = fileL ⟨nm2, rate, lp, a, b, d2⟩ := ⟨_, rfl⟩
    rw [← hF] at HBY HRF hff
    have HF := Lib.hid hF
    clear hF
    go_upto_region 3 with (go_at_call 17; refine HBY.out.mono ?_; rintro e w3 ⟨ro, rn, rc, rfl, hrc, hrcm, hrI, hb3⟩)
    have hz3 := (hb3.block _ (lt_of_block HZ2.out)).trans HZ2.out
    clear e0 e1 e2 e3 e4 e5 HBY
    obtain ⟨e0, e1, e2, e3, e4, e5⟩ := six_cells hz3
    clear hz3
    unfold maxLen at hrcm
    go_upto_region 5 with (go_at_call 14; refine (HCK.out _ hb3).mono ?_; rintro e w4 ⟨rfl, hb4⟩)
    have hb5 := bstep hb3 hb4
    have hI5 := hrI.keep0 hb4
    have hrn := hrI.hlen
    clear e0 e1 e2 e3 e4 e5 HCK hb3 hb4 hrI
    have HRD : Hid (Calls Try.prog 13 #[.slice ro rn rc] w4 (fun e w' => ∃ m : SmM, e = .returned (.tuple #[.agg #[.string (strOfNums nm2), .int .i64 rate, .bool lp, .int .i64 a, .int .i64 b, .slice m.ao m.n m.cap], .int .i64 0]) ∧ SmIs w' ⟨nm2, rate, lp, a, b, d2⟩ m ∧ Below w4.heap.size w4 w')) := by
      have := read_any ro rn rc F hrc (by unfold maxLen; omega) (by omega) w4 hI5
      rw [HRF.out] at this
      exact this
    go_upto_region 6 with (go_at_call 13; refine HRD.out.mono ?_; rintro e w5 ⟨⟨xo, xn, xc⟩, rfl, hX, hb6⟩)
    have hb7 := bstep hb5 hb6
    have hy3 := heap_alloc_new w5 (.cells #[.string (strOfNums nm2), .int .i64 rate, .bool lp, .int .i64 a, .int .i64 b, .slice xo xn xc] 37)
    have hba := below_alloc w5 (.cells #[.string (strOfNums nm2), .int .i64 rate, .bool lp, .int .i64 a, .int .i64 b, .slice xo xn xc] 37)
    have hb8 := bstep hb7 hba
    have hX3 := hX.keep0 hba
    have hI3 := (hI5.keep0 hb6).keep0 hba
    clear hba hb5 hb6 hb7 hX hI5 HRD
    generalize w5.alloc (.cells #[.string (strOfNums nm2), .int .i64 rate, .bool lp, .int .i64 a, .int .i64 b, .slice xo xn xc] 37) = W3 at *
    generalize w5.heap.size = xk at *
    have hz3 := (hb8.block _ (lt_of_block HZ2.out)).trans HZ2.out
    have hs3 := HS2.out.keep0 hb8
    have HX3 := Lib.hid hX3
    have HI3 := Lib.hid hI3
    have HS3 := Lib.hid hs3
    have HY3 := Lib.hid hy3
    have HZ3 := Lib.hid hz3
    have hb9 := hbb.trans (hb8.mono hbb.size)
    have HFI : Hid (∀ w', Below W3.heap.size W3 w' → Calls Try.prog 15 #[.agg #[.string (strOfNums nm2), .int .i64 rate, .bool lp, .int .i64 a, .int .i64 b, .slice fo fn fc]] w' (fun e w2 => e = .returned (.string (strOfNums F)) ∧ Below w'.heap.size w' w2)) := fun w' hb => by
      have := file_any _ _ _ _ _ _ _ _ _ w' (HS3.out.keep0 hb) HG.out
      unfold FileStr at this
      rw [← HF.out] at this
      exact this
    have HSA : Hid (∀ w', Below W3.heap.size W3 w' → Calls Try.prog 16 #[.agg #[.string (strOfNums nm2), .int .i64 rate, .bool lp, .int .i64 a, .int .i64 b, .slice xo xn xc], .agg #[.string (strOfNums nm2), .int .i64 rate, .bool lp, .int .i64 a, .int .i64 b, .slice fo fn fc]] w' (TruePost w')) := fun w' hb => by
      have := same_any nm2 rate lp a b d2 xo xn xc fo fn fc w' (HX3.out.keep0 hb) (HS3.out.keep0 hb)
      exact this
    have hcv := conv_ints (P := Try.prog) (HI3.out.keep0 (Below.refl W3.heap.size W3).drew) 25 5 9 rc rfl rfl rfl
    have hbd : Below W3.heap.size W3 W3.drew := (Below.refl W3.heap.size W3).drew
    obtain ⟨e0, e1, e2, e3, e4, e5⟩ := six_cells hz3
    obtain ⟨c0, c1, c2, c3, c4, c5⟩ := six_cells hy3
    clear hX3 hI3 hs3 hy3 hz3 hb8 HS2 HZ2 HG HRF HF hbb hrn hff
    go_region_held3 (fun w' => w'.cell? ⟨w.heap.size, 0, none⟩ = some (.string (strOfNums nm2)) ∧ w'.cell? ⟨w.heap.size, 1, none⟩ = some (.int .i64 rate) ∧ w'.cell? ⟨w.heap.size, 2, none⟩ = some (.bool lp) ∧ w'.cell? ⟨w.heap.size, 3, none⟩ = some (.int .i64 a) ∧ w'.cell? ⟨w.heap.size, 4, none⟩ = some (.int .i64 b) ∧ w'.cell? ⟨w.heap.size, 5, none⟩ = some (.slice fo fn fc) ∧ w'.cell? ⟨xk, 0, none⟩ = some (.string (strOfNums nm2)) ∧ w'.cell? ⟨xk, 1, none⟩ = some (.int .i64 rate) ∧ w'.cell? ⟨xk, 2, none⟩ = some (.bool lp) ∧ w'.cell? ⟨xk, 3, none⟩ = some (.int .i64 a) ∧ w'.cell? ⟨xk, 4, none⟩ = some (.int .i64 b) ∧ w'.cell? ⟨xk, 5, none⟩ = some (.slice xo xn xc) ∧ (convert 25 9 (.slice ro rn rc)).run Try.prog w' = .ok (.string (strOfNums F)) w') (go_keep) (first | (go_at_call 15; refine (HFI.out _ (by assumption)).mono ?_; rintro e w6 ⟨rfl, hb5⟩; have hbW := bstep (a := W3) (by assumption) hb5; have hz5 := (hbW.block _ (lt_of_block HZ3.out)).trans HZ3.out; have hy5 := (hbW.block _ (lt_of_block HY3.out)).trans HY3.out; obtain ⟨e0, e1, e2, e3, e4, e5⟩ := six_cells hz5; obtain ⟨c0, c1, c2, c3, c4, c5⟩ := six_cells hy5; have hcv := conv_ints (P := Try.prog) (HI3.out.keep0 hbW) 25 5 9 rc rfl rfl rfl) | (go_at_call 16; refine (HSA.out _ (by assumption)).mono ?_; rintro e w6 ⟨rfl, hb5⟩; have hbW := bstep (a := W3) (by assumption) hb5; have hz5 := (hbW.block _ (lt_of_block HZ3.out)).trans HZ3.out; have hy5 := (hbW.block _ (lt_of_block HY3.out)).trans HY3.out; obtain ⟨e0, e1, e2, e3, e4, e5⟩ := six_cells hz5; obtain ⟨c0, c1, c2, c3, c4, c5⟩ := six_cells hy5; have hcv := conv_ints (P := Try.prog) (HI3.out.keep0 hbW) 25 5 9 rc rfl rfl rfl) | (go_at_call 11; refine (awake_any _).mono ?_; rintro e w6 ⟨rfl, hb5⟩; have hbW := bstep (a := W3) (by assumption) hb5; have hz5 := (hbW.block _ (lt_of_block HZ3.out)).trans HZ3.out; have hy5 := (hbW.block _ (lt_of_block HY3.out)).trans HY3.out; obtain ⟨e0, e1, e2, e3, e4, e5⟩ := six_cells hz5; obtain ⟨c0, c1, c2, c3, c4, c5⟩ := six_cells hy5; have hcv := conv_ints (P := Try.prog) (HI3.out.keep0 hbW) 25 5 9 rc rfl rfl rfl))
    repeat (first | go_guarded | go_step | go_upon)
    go_ret
    exact ⟨rfl, hb9.trans (Below.mono (by assumption) hb9.size)⟩
  · have HBB : Hid (Calls Try.prog 17 #[.agg #[.string (strOfNums nm2), .int .i64 rate, .bool lp, .int .i64 a, .int .i64 b, .slice fo fn fc]] W2 (fun e w' => e = .returned (.tuple #[.slice none 0 0, .int .i64 (chk ⟨nm2, rate, lp, a, b, d2⟩)]) ∧ Below W2.heap.size W2 w')) := by
      have := bytes_bad _ _ _ _ _ _ _ _ _ W2 HS2.out _ rfl hC0
      exact this
    generalize chk ⟨nm2, rate, lp, a, b, d2⟩ = C at *
    have g1 : (C == 0) = false := by simpa using hC0
    have g2 : (C != 0) = true := by simpa using hC0
    go_upto_region 3 with (go_at_call 17; refine HBB.out.mono ?_; rintro e w3 ⟨rfl, hb3⟩)
    have hz3 := (hb3.block _ (lt_of_block HZ2.out)).trans HZ2.out
    clear e0 e1 e2 e3 e4 e5 HBB
    obtain ⟨e0, e1, e2, e3, e4, e5⟩ := six_cells hz3
    clear hz3
    go_upto_region 4 with (go_at_call 14; refine (HCK.out _ hb3).mono ?_; rintro e w4 ⟨rfl, hb4⟩)
    have hb5 := bstep hb3 hb4
    have hz5 := (hb5.block _ (lt_of_block HZ2.out)).trans HZ2.out
    clear e0 e1 e2 e3 e4 e5 hb3 hb4
    obtain ⟨e0, e1, e2, e3, e4, e5⟩ := six_cells hz5
    repeat (first | (go_at_call 14; refine (HCK.out _ (by assumption)).mono ?_; rintro e w6 ⟨rfl, hb6⟩; have hb7 := bstep hb5 hb6; dsimp only) | (go_at_call 11; refine (awake_any _).mono ?_; rintro e w7 ⟨rfl, hb8⟩; have hb9 := bstep hb7 hb8; dsimp only) | go_guarded | go_step | go_upon)
    go_ret
    exact ⟨rfl, hbb.trans (hb9.mono hbb.size)⟩
end Go.Proofs.Ytpbeehfafbgphaa
