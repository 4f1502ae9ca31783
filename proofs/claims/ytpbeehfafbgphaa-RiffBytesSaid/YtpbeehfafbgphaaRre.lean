/- The walk of the statement RiffReads. -/
import Derived.Test.YtpbeehfafbgphaaRdd
import Derived.Test.YtpbeehfafbgphaaFil
import Derived.Test.YtpbeehfafbgphaaFsw
import Derived.Test.YtpbeehfafbgphaaRrp
namespace Go.Proofs.Ytpbeehfafbgphaa
open Go Go.RowKit Go.Calli
set_option linter.unusedVariables false
set_option linter.unusedSimpArgs false
attribute [local irreducible] wpStill wpAnyH wpAnyS wpList Code.wp
set_option maxRecDepth 100000 in
set_option maxHeartbeats 4000000 in
theorem reads_any (ao : Option Addr) (n0 cap : Nat) (bs0 : List Int) (hc : n0 ≤ cap) (hcm : cap ≤ maxLen) (nm : List Int) (rate : Int) (lp : Bool) (a b : Int) (d : List (List Int)) (so : Option Addr) (sn sc : Nat) (w : World) (h0 : Ints .u8 w ao n0 bs0) (hs : SmIs w ⟨nm, rate, lp, a, b, d⟩ ⟨so, sn, sc⟩) : Calls Try.prog 5 #[.slice ao n0 cap, .agg #[.string (strOfNums nm), .int .i64 rate, .bool lp, .int .i64 a, .int .i64 b, .slice so sn sc]] w (TruePost w) := by
  obtain ⟨n, bs, hn, hn5, h⟩ : ∃ (n : Nat) (bs : List Int), ((n0 ≤ 600 ∧ n = n0) ∨ (600 < n0 ∧ n = 600)) ∧ n ≤ 600 ∧ Ints .u8 w ao n bs := by
    by_cases hgt : 600 < n0
    · exact ⟨600, _, Or.inr ⟨hgt, rfl⟩, by omega, h0.take (by omega)⟩
    · exact ⟨n0, _, Or.inl ⟨by omega, rfl⟩, by omega, h0⟩
  have hao : 600 < n0 → ∃ a, ao = some a := fun hg => by
    obtain ⟨a, ha, _⟩ := h0.some (by omega)
    exact ⟨a, ha⟩
  have HREAD := Lib.hid (fun w h => read_any ao n cap bs (by omega) hcm (by omega) w h)
  have hby := byt_of h.wf
  have hk0 := below_alloc w (.cells #[.string (strOfNums nm), .int .i64 rate, .bool lp, .int .i64 a, .int .i64 b, .slice so sn sc] 37)
  have hz0 := heap_alloc_new w (.cells #[.string (strOfNums nm), .int .i64 rate, .bool lp, .int .i64 a, .int .i64 b, .slice so sn sc] 37)
  have hfw := fews_wide ⟨nm, rate, lp, a, b, d⟩ ⟨so, sn, sc⟩ w (w.alloc (.cells #[.string (strOfNums nm), .int .i64 rate, .bool lp, .int .i64 a, .int .i64 b, .slice so sn sc] 37)) hs hk0
  have hfx : (fewS ⟨nm, rate, lp, a, b, d⟩) = ⟨nm.take 100, rate, lp, a, b, fewR d⟩ := rfl
  rw [hfx] at hfw
  clear hfx
  unfold cellsS at hfw
  simp only at hfw
  have HI := Lib.hid h
  have HBY := Lib.hid hby
  clear hs h h0 hby
  unfold maxLen at hcm
  go_enter Try.func5, Try.ntmps5
  go_upto_if 10 with fail
  generalize w.alloc (.cells #[.string (strOfNums nm), .int .i64 rate, .bool lp, .int .i64 a, .int .i64 b, .slice so sn sc] 37) = W at *
  have HFW := Lib.hid hfw
  clear hfw
  go_cut [0] (fun v0 wx => v0 = .slice ao n cap ∧ wx = W)
  case first =>
    rcases hn with ⟨hn1, rfl⟩ | ⟨hn1, rfl⟩
    · go_wp2_with fail
      go_meet
      exact ⟨rfl, rfl⟩
    · obtain ⟨a, rfl⟩ := hao hn1
      go_wp2_with fail
      go_meet
      exact ⟨rfl, rfl⟩
  case rest =>
    obtain ⟨rfl, rfl⟩ := hcut
    have HZ0 := Lib.hid hz0
    obtain ⟨c0, c1, c2, c3, c4, c5⟩ := six_cells hz0
    clear hn hao hz0
    go_upto_region 4 with (go_at_call 12; refine HFW.out.mono ?_; rintro e w1 ⟨⟨fo, fn, fc⟩, rfl, hF, hb1⟩; obtain ⟨f0, f1, f2, f3, f4, f5⟩ := six_frozen ((hb1.block _ (lt_of_block HZ0.out)).trans HZ0.out); obtain ⟨e0, e1, e2, e3, e4, e5⟩ := six_cells ((hb1.block _ (lt_of_block HZ0.out)).trans HZ0.out))
    have hz1 := (hb1.block _ (lt_of_block HZ0.out)).trans HZ0.out
    have hz2 := six_set hz1 (.string (strOfNums (nm.take 100))) (.int .i64 rate) (.bool lp) (.int .i64 a) (.int .i64 b) (.slice fo fn fc)
    have hbb := six_below (hk0.trans (hb1.mono hk0.size)) (b := w.heap.size) (Nat.le_refl _) (.string (strOfNums (nm.take 100))) (.int .i64 rate) (.bool lp) (.int .i64 a) (.int .i64 b) (.slice fo fn fc)
    have hs2 := hF _ (six_keeps (Keeps.refl (fun k => k < _) w1) (b := w.heap.size) (lt_of_block HZ0.out) (.string (strOfNums (nm.take 100))) (.int .i64 rate) (.bool lp) (.int .i64 a) (.int .i64 b) (.slice fo fn fc)) hbb
    have hI2 := HI.out.keep0 hbb
    clear c0 c1 c2 c3 c4 c5 e0 e1 e2 e3 e4 e5 f0 f1 f2 f3 f4 f5 hF hk0 hz1 hb1 HZ0 HFW
    generalize ((((((w1.setCell ⟨w.heap.size, 0, none⟩ (.string (strOfNums (nm.take 100)))).setCell ⟨w.heap.size, 1, none⟩ (.int .i64 rate)).setCell ⟨w.heap.size, 2, none⟩ (.bool lp)).setCell ⟨w.heap.size, 3, none⟩ (.int .i64 a)).setCell ⟨w.heap.size, 4, none⟩ (.int .i64 b)).setCell ⟨w.heap.size, 5, none⟩ (.slice fo fn fc)) = W2 at *
    generalize nm.take 100 = nm2 at *
    generalize fewR d = d2 at *
    have HRD := Lib.hid (HREAD.out W2 hI2)
    clear HREAD
    obtain ⟨R, hR⟩ : ∃ R, R = readL bs := ⟨_, rfl⟩
    rw [← hR] at HRD
    have HR := Lib.hid hR
    clear hR
    obtain ⟨E, xnm, xrate, xlp, xa, xb, xd⟩ := R
    unfold ReadPost cellsS at HRD
    simp only at HRD
    have HZ2 := Lib.hid hz2
    have HS2 := Lib.hid hs2
    go_upto_region 5 with (go_at_call 13; refine HRD.out.mono ?_; rintro e w3 ⟨⟨xo, xn, xc⟩, rfl, hX, hb3⟩)
    have hba := below_alloc w3 (.cells #[.string (strOfNums xnm), .int .i64 xrate, .bool xlp, .int .i64 xa, .int .i64 xb, .slice xo xn xc] 37)
    have hy3 := heap_alloc_new w3 (.cells #[.string (strOfNums xnm), .int .i64 xrate, .bool xlp, .int .i64 xa, .int .i64 xb, .slice xo xn xc] 37)
    have hz3 := (hba.block _ (lt_of_block ((hb3.block _ (lt_of_block HZ2.out)).trans HZ2.out))).trans ((hb3.block _ (lt_of_block HZ2.out)).trans HZ2.out)
    have hs3 := (HS2.out.keep0 hb3).keep0 hba
    have hX3 := hX.keep0 hba
    have hb4 := (hbb.trans (hb3.mono hbb.size)).alloc (hbb.trans (hb3.mono hbb.size)).size (.cells #[.string (strOfNums xnm), .int .i64 xrate, .bool xlp, .int .i64 xa, .int .i64 xb, .slice xo xn xc] 37)
    have hI3 := HI.out.keep0 hb4
    clear hba hX hb3 hbb hz2 HZ2 hs2 HS2 hI2 HRD
    generalize w3.alloc (.cells #[.string (strOfNums xnm), .int .i64 xrate, .bool xlp, .int .i64 xa, .int .i64 xb, .slice xo xn xc] 37) = W3 at *
    generalize w3.heap.size = xk at *
    have HX3 := Lib.hid hX3
    have HI3 := Lib.hid hI3
    have HS3 := Lib.hid hs3
    have HY3 := Lib.hid hy3
    have HZ3 := Lib.hid hz3
    clear hs3 hI3 HI
    by_cases hE : E = 0
    · subst hE
      obtain ⟨hg, hfl⟩ := file_read HBY.out HR.out.symm
      have hxl : xd.length = xn := hX3.rows.hlen
      have hxn : 1 ≤ xn ∧ xn ≤ 2 := by have := hg.n; simp only at this; omega
      have g1 : (0 : Int) < (xn : Int) := by omega
      have g2 : (xn : Int) < 3 := by omega
      have HCK : Hid (∀ w', Below W3.heap.size W3 w' → Calls Try.prog 14 #[.agg #[.string (strOfNums xnm), .int .i64 xrate, .bool xlp, .int .i64 xa, .int .i64 xb, .slice xo xn xc]] w' (fun e w2 => e = .returned (.int .i64 0) ∧ Below w'.heap.size w' w2)) := fun w' hb => by
        have := check_any _ _ w' (HX3.out.keep0 hb)
        rw [(chk_zero _).2 hg] at this
        exact this
      have HFI : Hid (∀ w', Below W3.heap.size W3 w' → Calls Try.prog 15 #[.agg #[.string (strOfNums xnm), .int .i64 xrate, .bool xlp, .int .i64 xa, .int .i64 xb, .slice xo xn xc]] w' (fun e w2 => e = .returned (.string (strOfNums bs)) ∧ Below w'.heap.size w' w2)) := fun w' hb => by
        have := file_any _ _ _ _ _ _ _ _ _ w' (HX3.out.keep0 hb) hg
        unfold FileStr at this
        rw [hfl] at this
        exact this
      have hcv := conv_ints (P := Try.prog) (HI3.out.keep0 (Below.refl W3.heap.size W3).drew) 25 5 9 cap rfl rfl rfl
      obtain ⟨e0, e1, e2, e3, e4, e5⟩ := six_cells hy3
      clear hX3 hy3 hz3 hg hfl hxl
      rcases (show xn = 1 ∨ xn = 2 by omega) with rfl | rfl
      · go_upto_region 10 with fail
        go_region_held3 (fun w' => w'.cell? ⟨xk, 0, none⟩ = some (.string (strOfNums xnm)) ∧ w'.cell? ⟨xk, 1, none⟩ = some (.int .i64 xrate) ∧ w'.cell? ⟨xk, 2, none⟩ = some (.bool xlp) ∧ w'.cell? ⟨xk, 3, none⟩ = some (.int .i64 xa) ∧ w'.cell? ⟨xk, 4, none⟩ = some (.int .i64 xb) ∧ w'.cell? ⟨xk, 5, none⟩ = some (.slice xo 1 xc) ∧ (convert 25 9 (.slice ao n cap)).run Try.prog w' = .ok (.string (strOfNums bs)) w') (go_keep) (first | (go_at_call 14; refine (HCK.out _ (by first | assumption | exact (Below.refl _ _).drew)).mono ?_; rintro e w4 ⟨rfl, hb5⟩; have hbW := bstep (a := W3) (by first | assumption | exact (Below.refl _ _).drew) hb5; have hy4 := (hbW.block _ (lt_of_block HY3.out)).trans HY3.out; obtain ⟨e0, e1, e2, e3, e4, e5⟩ := six_cells hy4; have hcv := conv_ints (P := Try.prog) (HI3.out.keep0 hbW) 25 5 9 cap rfl rfl rfl) | (go_at_call 15; refine (HFI.out _ (by first | assumption | exact (Below.refl _ _).drew)).mono ?_; rintro e w4 ⟨rfl, hb5⟩; have hbW := bstep (a := W3) (by first | assumption | exact (Below.refl _ _).drew) hb5; have hy4 := (hbW.block _ (lt_of_block HY3.out)).trans HY3.out; obtain ⟨e0, e1, e2, e3, e4, e5⟩ := six_cells hy4; have hcv := conv_ints (P := Try.prog) (HI3.out.keep0 hbW) 25 5 9 cap rfl rfl rfl) | (go_at_call 11; refine (awake_any _).mono ?_; rintro e w4 ⟨rfl, hb5⟩; have hbW := bstep (a := W3) (by first | assumption | exact (Below.refl _ _).drew) hb5; have hy4 := (hbW.block _ (lt_of_block HY3.out)).trans HY3.out; obtain ⟨e0, e1, e2, e3, e4, e5⟩ := six_cells hy4; have hcv := conv_ints (P := Try.prog) (HI3.out.keep0 hbW) 25 5 9 cap rfl rfl rfl))
        repeat (first | go_guarded | go_step | go_upon)
        go_ret
        exact ⟨rfl, hb4.trans (Below.mono (by assumption) hb4.size)⟩
      · go_upto_region 10 with fail
        go_region_held3 (fun w' => w'.cell? ⟨xk, 0, none⟩ = some (.string (strOfNums xnm)) ∧ w'.cell? ⟨xk, 1, none⟩ = some (.int .i64 xrate) ∧ w'.cell? ⟨xk, 2, none⟩ = some (.bool xlp) ∧ w'.cell? ⟨xk, 3, none⟩ = some (.int .i64 xa) ∧ w'.cell? ⟨xk, 4, none⟩ = some (.int .i64 xb) ∧ w'.cell? ⟨xk, 5, none⟩ = some (.slice xo 2 xc) ∧ (convert 25 9 (.slice ao n cap)).run Try.prog w' = .ok (.string (strOfNums bs)) w') (go_keep) (first | (go_at_call 14; refine (HCK.out _ (by first | assumption | exact (Below.refl _ _).drew)).mono ?_; rintro e w4 ⟨rfl, hb5⟩; have hbW := bstep (a := W3) (by first | assumption | exact (Below.refl _ _).drew) hb5; have hy4 := (hbW.block _ (lt_of_block HY3.out)).trans HY3.out; obtain ⟨e0, e1, e2, e3, e4, e5⟩ := six_cells hy4; have hcv := conv_ints (P := Try.prog) (HI3.out.keep0 hbW) 25 5 9 cap rfl rfl rfl) | (go_at_call 15; refine (HFI.out _ (by first | assumption | exact (Below.refl _ _).drew)).mono ?_; rintro e w4 ⟨rfl, hb5⟩; have hbW := bstep (a := W3) (by first | assumption | exact (Below.refl _ _).drew) hb5; have hy4 := (hbW.block _ (lt_of_block HY3.out)).trans HY3.out; obtain ⟨e0, e1, e2, e3, e4, e5⟩ := six_cells hy4; have hcv := conv_ints (P := Try.prog) (HI3.out.keep0 hbW) 25 5 9 cap rfl rfl rfl) | (go_at_call 11; refine (awake_any _).mono ?_; rintro e w4 ⟨rfl, hb5⟩; have hbW := bstep (a := W3) (by first | assumption | exact (Below.refl _ _).drew) hb5; have hy4 := (hbW.block _ (lt_of_block HY3.out)).trans HY3.out; obtain ⟨e0, e1, e2, e3, e4, e5⟩ := six_cells hy4; have hcv := conv_ints (P := Try.prog) (HI3.out.keep0 hbW) 25 5 9 cap rfl rfl rfl))
        repeat (first | go_guarded | go_step | go_upon)
        go_ret
        exact ⟨rfl, hb4.trans (Below.mono (by assumption) hb4.size)⟩
    · have hx0 := readL_s0 HR.out.symm hE
      unfold s0 at hx0
      simp only [Sm.mk.injEq] at hx0
      obtain ⟨rfl, rfl, rfl, rfl, rfl, rfl⟩ := hx0
      have g1 : (E == 0) = false := by simpa using hE
      have g2 : (E != 0) = true := by simpa using hE
      have str0 : strOfNums [] = ByteArray.mk #[] := rfl
      rw [str0] at hy3 HY3
      have HCK : Hid (∀ w', Below W3.heap.size W3 w' → Calls Try.prog 14 #[.agg #[.string (strOfNums nm2), .int .i64 rate, .bool lp, .int .i64 a, .int .i64 b, .slice fo fn fc]] w' (fun e w2 => e = .returned (.int .i64 (chk ⟨nm2, rate, lp, a, b, d2⟩)) ∧ Below w'.heap.size w' w2)) := fun w' hb => by
        have := check_any _ _ w' (HS3.out.keep0 hb)
        exact this
      have HSA : Hid (∀ w', Below W3.heap.size W3 w' → Calls Try.prog 16 #[.agg #[.string (ByteArray.mk #[]), .int .i64 0, .bool false, .int .i64 0, .int .i64 0, .slice xo xn xc], .agg #[.string (ByteArray.mk #[]), .int .i64 0, .bool false, .int .i64 0, .int .i64 0, .slice none 0 0]] w' (TruePost w')) := fun w' hb => by
        have := same_any [] 0 false 0 0 [] xo xn xc none 0 0 w' (HX3.out.keep0 hb) (sm0_is w')
        rw [str0] at this
        exact this
      generalize hC : chk ⟨nm2, rate, lp, a, b, d2⟩ = C at *
      obtain ⟨e0, e1, e2, e3, e4, e5⟩ := six_cells hz3
      obtain ⟨c0, c1, c2, c3, c4, c5⟩ := six_cells hy3
      clear hX3 hy3 hz3
      by_cases hC0 : C = 0
      · have hg := (chk_zero _).1 (hC.trans hC0)
        have hne : ((strOfNums (fileL ⟨nm2, rate, lp, a, b, d2⟩)).toList == (strOfNums bs).toList) = false := toList_ne (file_byt hg) HBY.out (fun e => by
          have := read_file hg
          rw [e, ← HR.out] at this
          exact hE (Prod.mk.inj this).1)
        have hne2 : ((strOfNums (fileL ⟨nm2, rate, lp, a, b, d2⟩)).toList != (strOfNums bs).toList) = true := by rw [bne, hne]; rfl
        have HFI : Hid (∀ w', Below W3.heap.size W3 w' → Calls Try.prog 15 #[.agg #[.string (strOfNums nm2), .int .i64 rate, .bool lp, .int .i64 a, .int .i64 b, .slice fo fn fc]] w' (fun e w2 => e = .returned (.string (strOfNums (fileL ⟨nm2, rate, lp, a, b, d2⟩))) ∧ Below w'.heap.size w' w2)) := fun w' hb => by
          have := file_any _ _ _ _ _ _ _ _ _ w' (HS3.out.keep0 hb) hg
          exact this
        generalize fileL ⟨nm2, rate, lp, a, b, d2⟩ = F at *
        subst hC0
        clear hC hg
        go_upto_region 8 with (go_at_call 14; refine (HCK.out _ (Below.refl _ _)).mono ?_; rintro e w4 ⟨rfl, hb5⟩)
        have hz4 := (hb5.block _ (lt_of_block HZ3.out)).trans HZ3.out
        obtain ⟨e0, e1, e2, e3, e4, e5⟩ := six_cells hz4
        have hb6 : Below W3.heap.size W3 w4.drew := bstep hb5 (Below.refl w4.heap.size w4).drew
        have hcv := conv_ints (P := Try.prog) (HI3.out.keep0 hb6) 25 5 9 cap rfl rfl rfl
        go_region_held3 (fun w' => w'.cell? ⟨w.heap.size, 0, none⟩ = some (.string (strOfNums nm2)) ∧ w'.cell? ⟨w.heap.size, 1, none⟩ = some (.int .i64 rate) ∧ w'.cell? ⟨w.heap.size, 2, none⟩ = some (.bool lp) ∧ w'.cell? ⟨w.heap.size, 3, none⟩ = some (.int .i64 a) ∧ w'.cell? ⟨w.heap.size, 4, none⟩ = some (.int .i64 b) ∧ w'.cell? ⟨w.heap.size, 5, none⟩ = some (.slice fo fn fc) ∧ (convert 25 9 (.slice ao n cap)).run Try.prog w' = .ok (.string (strOfNums bs)) w') (go_keep) (first | (go_at_call 15; refine (HFI.out _ (by assumption)).mono ?_; rintro e w5 ⟨rfl, hb7⟩; have hbW := bstep (a := W3) (by assumption) hb7; have hz4 := (hbW.block _ (lt_of_block HZ3.out)).trans HZ3.out; obtain ⟨e0, e1, e2, e3, e4, e5⟩ := six_cells hz4; have hy4 := (hbW.block _ (lt_of_block HY3.out)).trans HY3.out; obtain ⟨c0, c1, c2, c3, c4, c5⟩ := six_cells hy4; have hcv := conv_ints (P := Try.prog) (HI3.out.keep0 hbW) 25 5 9 cap rfl rfl rfl))
        repeat (first | (go_at_call 16; refine (HSA.out _ (by assumption)).mono ?_; rintro e w6 ⟨rfl, hb7⟩; have hbW := bstep (a := W3) (by assumption) hb7; have hz4 := (hbW.block _ (lt_of_block HZ3.out)).trans HZ3.out; obtain ⟨e0, e1, e2, e3, e4, e5⟩ := six_cells hz4; have hy4 := (hbW.block _ (lt_of_block HY3.out)).trans HY3.out; obtain ⟨c0, c1, c2, c3, c4, c5⟩ := six_cells hy4; dsimp only) | (go_at_call 11; refine (awake_any _).mono ?_; rintro e w6 ⟨rfl, hb7⟩; have hbW := bstep (a := W3) (by assumption) hb7; have hz4 := (hbW.block _ (lt_of_block HZ3.out)).trans HZ3.out; obtain ⟨e0, e1, e2, e3, e4, e5⟩ := six_cells hz4; have hy4 := (hbW.block _ (lt_of_block HY3.out)).trans HY3.out; obtain ⟨c0, c1, c2, c3, c4, c5⟩ := six_cells hy4; dsimp only) | go_guarded | go_step | go_upon)
        go_ret
        exact ⟨rfl, hb4.trans (Below.mono (by assumption) hb4.size)⟩
      · have g3 : (C == 0) = false := by simpa using hC0
        have g4 : (C != 0) = true := by simpa using hC0
        clear hC
        go_upto_region 9 with (go_at_call 14; refine (HCK.out _ (Below.refl _ _)).mono ?_; rintro e w4 ⟨rfl, hb5⟩)
        have hy4 := (hb5.block _ (lt_of_block HY3.out)).trans HY3.out
        obtain ⟨c0, c1, c2, c3, c4, c5⟩ := six_cells hy4
        repeat (first | (go_at_call 16; refine (HSA.out _ (by assumption)).mono ?_; rintro e w6 ⟨rfl, hb7⟩; have hbW := bstep (a := W3) (by assumption) hb7; have hz4 := (hbW.block _ (lt_of_block HZ3.out)).trans HZ3.out; obtain ⟨e0, e1, e2, e3, e4, e5⟩ := six_cells hz4; have hy4 := (hbW.block _ (lt_of_block HY3.out)).trans HY3.out; obtain ⟨c0, c1, c2, c3, c4, c5⟩ := six_cells hy4; dsimp only) | (go_at_call 11; refine (awake_any _).mono ?_; rintro e w6 ⟨rfl, hb7⟩; have hbW := bstep (a := W3) (by assumption) hb7; have hz4 := (hbW.block _ (lt_of_block HZ3.out)).trans HZ3.out; obtain ⟨e0, e1, e2, e3, e4, e5⟩ := six_cells hz4; have hy4 := (hbW.block _ (lt_of_block HY3.out)).trans HY3.out; obtain ⟨c0, c1, c2, c3, c4, c5⟩ := six_cells hy4; dsimp only) | go_guarded | go_step | go_upon)
        go_ret
        exact ⟨rfl, hb4.trans (Below.mono (by assumption) hb4.size)⟩
end Go.Proofs.Ytpbeehfafbgphaa
