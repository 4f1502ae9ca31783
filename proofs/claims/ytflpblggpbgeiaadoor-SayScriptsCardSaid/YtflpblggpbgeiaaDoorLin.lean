/- The walk of the law's line. -/
import Derived.Test.YtflpblggpbgeiaaDoorLpl
namespace Go.Proofs.YtflpblggpbgeiaaDoor
open Go Go.RowKit Go.Calli
set_option linter.unusedVariables false
set_option linter.unusedSimpArgs false
attribute [local irreducible] wpStill wpAnyH wpAnyS wpList Code.wp
theorem numD_le20 (n : Int) (h1 : -9223372036854775808 ≤ n) (h2 : n < 9223372036854775808) : (numD n).length ≤ 20 := by
  have := digL_len n.natAbs (by omega)
  unfold numD
  split
  · simp only [List.length_cons]; omega
  · omega
theorem numD_size (n : Int) (h : i64 n) : (strOfNums (numD n)).size ≤ 20 := by
  rw [strOfNums_size]; exact numD_le20 n h.1 h.2
theorem lnum (n : Int) (h : i64 n) (w : World) : Calls Tryd.prog 19 #[.int .i64 n] w (fun e w' => e = .returned (.string (strOfNums (numD n))) ∧ Below w.heap.size w w') := lnumber_any n h.1 h.2 w
set_option maxRecDepth 100000 in
set_option maxHeartbeats 8000000 in
theorem lline_any (ak av : Int) (anm : List Int) (an am ap ax : Int) (h : OkA ⟨ak, av, anm, an, am, ap, ax⟩) (w : World) : Calls Tryd.prog 11 #[.agg #[.int .i64 ak, .int .i64 av, .string (strOfNums anm), .int .i64 an, .int .i64 am, .int .i64 ap, .int .i64 ax]] w (StrP (lineL ⟨ak, av, anm, an, am, ap, ax⟩) w) := by
  have hk0 := below_alloc w (.cells #[.int .i64 ak, .int .i64 av, .string (strOfNums anm), .int .i64 an, .int .i64 am, .int .i64 ap, .int .i64 ax] 23)
  have hz0 := heap_alloc_new w (.cells #[.int .i64 ak, .int .i64 av, .string (strOfNums anm), .int .i64 an, .int .i64 am, .int .i64 ap, .int .i64 ax] 23)
  obtain ⟨hnm, hnl, hv, hn, hm, hp, hx⟩ := h
  simp only at hnm hnl hv hn hm hp hx
  have LV := Lib.hid (lnum av hv)
  have LN := Lib.hid (lnum an hn)
  have LM := Lib.hid (lnum am hm)
  have LX := Lib.hid (lnum ax hx)
  have LP := Lib.hid (lnum ap hp)
  have LW : Hid (∀ w, Calls Tryd.prog 16 #[.string (strOfNums anm)] w (fun e w' => e = .returned (.string (strOfNums (wordL anm))) ∧ Below w.heap.size w w')) := fun w => lword_any anm hnm hnl w
  have zv := numD_size av hv
  have zn := numD_size an hn
  have zm := numD_size am hm
  have zx := numD_size ax hx
  have zp := numD_size ap hp
  have zw : (strOfNums (wordL anm)).size ≤ 3000001 := by rw [strOfNums_size]; have := wordL_len anm; omega
  clear hnm hnl hv hn hm hp hx
  go_enter Tryd.func11, Tryd.ntmps11
  go_upto_region 1 with fail
  generalize w.alloc (.cells #[.int .i64 ak, .int .i64 av, .string (strOfNums anm), .int .i64 an, .int .i64 am, .int .i64 ap, .int .i64 ax] 23) = W at *
  have HZ0 := Lib.hid hz0
  obtain ⟨⟨c0, c1, c2, c3, c4, c5, c6⟩, -⟩ := seven_cells hz0
  clear hz0
  go_cut [3, 4, 5, 6] (fun v3 v4 v5 v6 wx => v3 = .string (strOfNums (numD av)) ∧ v4 = .string (strOfNums (numD an)) ∧ v5 = .string (strOfNums (numD am)) ∧ v6 = .string (strOfNums (numD ax)) ∧ ∃ Wx, Wx = wx ∧ Below W.heap.size W Wx)
  case first =>
    go_region_held3 (fun w' => w'.cell? ⟨w.heap.size, 1, none⟩ = some (.int .i64 av) ∧ w'.cell? ⟨w.heap.size, 3, none⟩ = some (.int .i64 an) ∧ w'.cell? ⟨w.heap.size, 4, none⟩ = some (.int .i64 am) ∧ w'.cell? ⟨w.heap.size, 6, none⟩ = some (.int .i64 ax)) (go_keep) (first | (go_at_call 19; (first | with_reducible refine (LV.out _).mono ?_ | with_reducible refine (LN.out _).mono ?_ | with_reducible refine (LM.out _).mono ?_ | with_reducible refine (LX.out _).mono ?_); rintro e w2 ⟨rfl, hb2⟩; have hbW := bstep (a := W) (by first | assumption | exact (Below.refl _ _).drew) hb2; have hz2 := (hbW.block _ (lt_of_block HZ0.out)).trans HZ0.out; obtain ⟨⟨c0, c1, c2, c3, c4, c5, c6⟩, -⟩ := seven_cells hz2))
    go_wp2_with fail
    go_meet
    exact ⟨rfl, rfl, rfl, rfl, _, rfl, by assumption⟩
  case rest =>
    obtain ⟨rfl, rfl, rfl, rfl, wx, rfl, hbx⟩ := hcut
    have hzx := (hbx.block _ (lt_of_block HZ0.out)).trans HZ0.out
    have hb := hk0.trans (hbx.mono hk0.size)
    clear c0 c1 c2 c3 c4 c5 c6 LV LN LM LX hk0 HZ0 hbx
    obtain ⟨⟨c0, c1, c2, c3, c4, c5, c6⟩, -⟩ := seven_cells hzx
    clear hzx
    by_cases hk : 1 ≤ ak ∧ ak ≤ 12
    · rcases (show ak = 1 ∨ ak = 2 ∨ ak = 3 ∨ ak = 4 ∨ ak = 5 ∨ ak = 6 ∨ ak = 7 ∨ ak = 8 ∨ ak = 9 ∨ ak = 10 ∨ ak = 11 ∨ ak = 12 by omega) with rfl | rfl | rfl | rfl | rfl | rfl | rfl | rfl | rfl | rfl | rfl | rfl
      · have HS : Hid (ByteArray.mk #[115, 116, 97, 114, 116, 32] ++ strOfNums (wordL anm) = strOfNums (lineL ⟨1, av, anm, an, am, ap, ax⟩)) := by
          unfold Hid
          rw [show lineL ⟨1, av, anm, an, am, ap, ax⟩ = [115, 116, 97, 114, 116, 32] ++ wordL anm by simp [lineL, vW, vF, putL], show ByteArray.mk #[115, 116, 97, 114, 116, 32] = strOfNums [115, 116, 97, 114, 116, 32] from rfl]
          skip
          simp only [strOfNums_append]
        have q0 : ¬ 9223372036854775807 < 6 + (strOfNums (wordL anm)).size := by omega
        clear zv zn zm zx zp zw
        go_wp2_with (go_at_call 16; refine (LW.out _).mono ?_; rintro e w3 ⟨rfl, hb3⟩)
        go_ret
        exact ⟨by rw [HS.out] <;> rfl, hb.trans (hb3.mono hb.size)⟩
      · have HS : Hid (ByteArray.mk #[115, 116, 111, 112, 32] ++ strOfNums (numD av) = strOfNums (lineL ⟨2, av, anm, an, am, ap, ax⟩)) := by
          unfold Hid
          rw [show lineL ⟨2, av, anm, an, am, ap, ax⟩ = [115, 116, 111, 112, 32] ++ numD av by simp [lineL, vW, vF, putL], show ByteArray.mk #[115, 116, 111, 112, 32] = strOfNums [115, 116, 111, 112, 32] from rfl]
          skip
          simp only [strOfNums_append]
        have q0 : ¬ 9223372036854775807 < 5 + (strOfNums (numD av)).size := by omega
        clear zv zn zm zx zp zw
        go_wp2_with fail
        go_ret
        exact ⟨by rw [HS.out] <;> rfl, hb⟩
      · have HS : Hid (ByteArray.mk #[115, 101, 101, 107, 32] ++ strOfNums (numD av) ++ ByteArray.mk #[32] ++ strOfNums (numD an) = strOfNums (lineL ⟨3, av, anm, an, am, ap, ax⟩)) := by
          unfold Hid
          rw [show lineL ⟨3, av, anm, an, am, ap, ax⟩ = [115, 101, 101, 107, 32] ++ numD av ++ [32] ++ numD an by simp [lineL, vW, vF, putL], show ByteArray.mk #[115, 101, 101, 107, 32] = strOfNums [115, 101, 101, 107, 32] from rfl]
          rw [show ByteArray.mk #[32] = strOfNums [32] from rfl]
          simp only [strOfNums_append]
        have q0 : ¬ 9223372036854775807 < 5 + (strOfNums (numD av)).size := by omega
        have q1 : ¬ 9223372036854775807 < 5 + (strOfNums (numD av)).size + 1 := by omega
        have q2 : ¬ 9223372036854775807 < 5 + (strOfNums (numD av)).size + 1 + (strOfNums (numD an)).size := by omega
        clear zv zn zm zx zp zw
        go_wp2_with fail
        go_ret
        exact ⟨by rw [HS.out] <;> rfl, hb⟩
      · have HS : Hid (ByteArray.mk #[112, 105, 116, 99, 104, 32] ++ strOfNums (numD av) ++ ByteArray.mk #[32] ++ strOfNums (numD ap) = strOfNums (lineL ⟨4, av, anm, an, am, ap, ax⟩)) := by
          unfold Hid
          rw [show lineL ⟨4, av, anm, an, am, ap, ax⟩ = [112, 105, 116, 99, 104, 32] ++ numD av ++ [32] ++ numD ap by simp [lineL, vW, vF, putL], show ByteArray.mk #[112, 105, 116, 99, 104, 32] = strOfNums [112, 105, 116, 99, 104, 32] from rfl]
          rw [show ByteArray.mk #[32] = strOfNums [32] from rfl]
          simp only [strOfNums_append]
        have q0 : ¬ 9223372036854775807 < 6 + (strOfNums (numD av)).size := by omega
        have q1 : ¬ 9223372036854775807 < 6 + (strOfNums (numD av)).size + 1 := by omega
        have q2 : ¬ 9223372036854775807 < 6 + (strOfNums (numD av)).size + 1 + (strOfNums (numD ap)).size := by omega
        clear zv zn zm zx zp zw
        go_wp2_with (go_at_call 19; refine (LP.out _).mono ?_; rintro e w3 ⟨rfl, hb3⟩)
        go_ret
        exact ⟨by rw [HS.out] <;> rfl, hb.trans (hb3.mono hb.size)⟩
      · have HS : Hid (ByteArray.mk #[118, 111, 108, 117, 109, 101, 32] ++ strOfNums (numD av) ++ ByteArray.mk #[32] ++ strOfNums (numD an) ++ ByteArray.mk #[32] ++ strOfNums (numD am) = strOfNums (lineL ⟨5, av, anm, an, am, ap, ax⟩)) := by
          unfold Hid
          rw [show lineL ⟨5, av, anm, an, am, ap, ax⟩ = [118, 111, 108, 117, 109, 101, 32] ++ numD av ++ [32] ++ numD an ++ [32] ++ numD am by simp [lineL, vW, vF, putL], show ByteArray.mk #[118, 111, 108, 117, 109, 101, 32] = strOfNums [118, 111, 108, 117, 109, 101, 32] from rfl]
          rw [show ByteArray.mk #[32] = strOfNums [32] from rfl]
          simp only [strOfNums_append]
        have q0 : ¬ 9223372036854775807 < 7 + (strOfNums (numD av)).size := by omega
        have q1 : ¬ 9223372036854775807 < 7 + (strOfNums (numD av)).size + 1 := by omega
        have q2 : ¬ 9223372036854775807 < 7 + (strOfNums (numD av)).size + 1 + (strOfNums (numD an)).size := by omega
        have q3 : ¬ 9223372036854775807 < 7 + (strOfNums (numD av)).size + 1 + (strOfNums (numD an)).size + 1 := by omega
        have q4 : ¬ 9223372036854775807 < 7 + (strOfNums (numD av)).size + 1 + (strOfNums (numD an)).size + 1 + (strOfNums (numD am)).size := by omega
        clear zv zn zm zx zp zw
        go_wp2_with fail
        go_ret
        exact ⟨by rw [HS.out] <;> rfl, hb⟩
      · have HS : Hid (ByteArray.mk #[114, 101, 110, 100, 101, 114, 32] ++ strOfNums (numD an) = strOfNums (lineL ⟨6, av, anm, an, am, ap, ax⟩)) := by
          unfold Hid
          rw [show lineL ⟨6, av, anm, an, am, ap, ax⟩ = [114, 101, 110, 100, 101, 114, 32] ++ numD an by simp [lineL, vW, vF, putL], show ByteArray.mk #[114, 101, 110, 100, 101, 114, 32] = strOfNums [114, 101, 110, 100, 101, 114, 32] from rfl]
          skip
          simp only [strOfNums_append]
        have q0 : ¬ 9223372036854775807 < 7 + (strOfNums (numD an)).size := by omega
        clear zv zn zm zx zp zw
        go_wp2_with fail
        go_ret
        exact ⟨by rw [HS.out] <;> rfl, hb⟩
      · have HS : Hid (ByteArray.mk #[101, 118, 105, 99, 116, 32] ++ strOfNums (numD an) = strOfNums (lineL ⟨7, av, anm, an, am, ap, ax⟩)) := by
          unfold Hid
          rw [show lineL ⟨7, av, anm, an, am, ap, ax⟩ = [101, 118, 105, 99, 116, 32] ++ numD an by simp [lineL, vW, vF, putL], show ByteArray.mk #[101, 118, 105, 99, 116, 32] = strOfNums [101, 118, 105, 99, 116, 32] from rfl]
          skip
          simp only [strOfNums_append]
        have q0 : ¬ 9223372036854775807 < 6 + (strOfNums (numD an)).size := by omega
        clear zv zn zm zx zp zw
        go_wp2_with fail
        go_ret
        exact ⟨by rw [HS.out] <;> rfl, hb⟩
      · have HS : Hid (ByteArray.mk #[102, 97, 105, 108, 32] ++ strOfNums (numD an) ++ ByteArray.mk #[32] ++ strOfNums (numD am) = strOfNums (lineL ⟨8, av, anm, an, am, ap, ax⟩)) := by
          unfold Hid
          rw [show lineL ⟨8, av, anm, an, am, ap, ax⟩ = [102, 97, 105, 108, 32] ++ numD an ++ [32] ++ numD am by simp [lineL, vW, vF, putL], show ByteArray.mk #[102, 97, 105, 108, 32] = strOfNums [102, 97, 105, 108, 32] from rfl]
          rw [show ByteArray.mk #[32] = strOfNums [32] from rfl]
          simp only [strOfNums_append]
        have q0 : ¬ 9223372036854775807 < 5 + (strOfNums (numD an)).size := by omega
        have q1 : ¬ 9223372036854775807 < 5 + (strOfNums (numD an)).size + 1 := by omega
        have q2 : ¬ 9223372036854775807 < 5 + (strOfNums (numD an)).size + 1 + (strOfNums (numD am)).size := by omega
        clear zv zn zm zx zp zw
        go_wp2_with fail
        go_ret
        exact ⟨by rw [HS.out] <;> rfl, hb⟩
      · have HS : Hid (ByteArray.mk #[115, 112, 111, 105, 108, 32] ++ strOfNums (numD an) ++ ByteArray.mk #[32] ++ strOfNums (numD am) ++ ByteArray.mk #[32] ++ strOfNums (numD ax) = strOfNums (lineL ⟨9, av, anm, an, am, ap, ax⟩)) := by
          unfold Hid
          rw [show lineL ⟨9, av, anm, an, am, ap, ax⟩ = [115, 112, 111, 105, 108, 32] ++ numD an ++ [32] ++ numD am ++ [32] ++ numD ax by simp [lineL, vW, vF, putL], show ByteArray.mk #[115, 112, 111, 105, 108, 32] = strOfNums [115, 112, 111, 105, 108, 32] from rfl]
          rw [show ByteArray.mk #[32] = strOfNums [32] from rfl]
          simp only [strOfNums_append]
        have q0 : ¬ 9223372036854775807 < 6 + (strOfNums (numD an)).size := by omega
        have q1 : ¬ 9223372036854775807 < 6 + (strOfNums (numD an)).size + 1 := by omega
        have q2 : ¬ 9223372036854775807 < 6 + (strOfNums (numD an)).size + 1 + (strOfNums (numD am)).size := by omega
        have q3 : ¬ 9223372036854775807 < 6 + (strOfNums (numD an)).size + 1 + (strOfNums (numD am)).size + 1 := by omega
        have q4 : ¬ 9223372036854775807 < 6 + (strOfNums (numD an)).size + 1 + (strOfNums (numD am)).size + 1 + (strOfNums (numD ax)).size := by omega
        clear zv zn zm zx zp zw
        go_wp2_with fail
        go_ret
        exact ⟨by rw [HS.out] <;> rfl, hb⟩
      · have HS : Hid (ByteArray.mk #[104, 101, 97, 108, 32] ++ strOfNums (numD an) = strOfNums (lineL ⟨10, av, anm, an, am, ap, ax⟩)) := by
          unfold Hid
          rw [show lineL ⟨10, av, anm, an, am, ap, ax⟩ = [104, 101, 97, 108, 32] ++ numD an by simp [lineL, vW, vF, putL], show ByteArray.mk #[104, 101, 97, 108, 32] = strOfNums [104, 101, 97, 108, 32] from rfl]
          skip
          simp only [strOfNums_append]
        have q0 : ¬ 9223372036854775807 < 5 + (strOfNums (numD an)).size := by omega
        clear zv zn zm zx zp zw
        go_wp2_with fail
        go_ret
        exact ⟨by rw [HS.out] <;> rfl, hb⟩
      · have HS : Hid (ByteArray.mk #[107, 101, 121, 32] ++ strOfNums (numD an) ++ ByteArray.mk #[32] ++ strOfNums (numD am) ++ ByteArray.mk #[32] ++ strOfNums (numD ax) = strOfNums (lineL ⟨11, av, anm, an, am, ap, ax⟩)) := by
          unfold Hid
          rw [show lineL ⟨11, av, anm, an, am, ap, ax⟩ = [107, 101, 121, 32] ++ numD an ++ [32] ++ numD am ++ [32] ++ numD ax by simp [lineL, vW, vF, putL], show ByteArray.mk #[107, 101, 121, 32] = strOfNums [107, 101, 121, 32] from rfl]
          rw [show ByteArray.mk #[32] = strOfNums [32] from rfl]
          simp only [strOfNums_append]
        have q0 : ¬ 9223372036854775807 < 4 + (strOfNums (numD an)).size := by omega
        have q1 : ¬ 9223372036854775807 < 4 + (strOfNums (numD an)).size + 1 := by omega
        have q2 : ¬ 9223372036854775807 < 4 + (strOfNums (numD an)).size + 1 + (strOfNums (numD am)).size := by omega
        have q3 : ¬ 9223372036854775807 < 4 + (strOfNums (numD an)).size + 1 + (strOfNums (numD am)).size + 1 := by omega
        have q4 : ¬ 9223372036854775807 < 4 + (strOfNums (numD an)).size + 1 + (strOfNums (numD am)).size + 1 + (strOfNums (numD ax)).size := by omega
        clear zv zn zm zx zp zw
        go_wp2_with fail
        go_ret
        exact ⟨by rw [HS.out] <;> rfl, hb⟩
      · have HS : Hid (ByteArray.mk #[103, 97, 116, 101, 32] ++ strOfNums (numD av) = strOfNums (lineL ⟨12, av, anm, an, am, ap, ax⟩)) := by
          unfold Hid
          rw [show lineL ⟨12, av, anm, an, am, ap, ax⟩ = [103, 97, 116, 101, 32] ++ numD av by simp [lineL, vW, vF, putL], show ByteArray.mk #[103, 97, 116, 101, 32] = strOfNums [103, 97, 116, 101, 32] from rfl]
          skip
          simp only [strOfNums_append]
        have q0 : ¬ 9223372036854775807 < 5 + (strOfNums (numD av)).size := by omega
        clear zv zn zm zx zp zw
        go_wp2_with fail
        go_ret
        exact ⟨by rw [HS.out] <;> rfl, hb⟩
    · have HS : Hid (lineL ⟨ak, av, anm, an, am, ap, ax⟩ = []) := line_out hk
      have g1 : (ak == 1) = false := by simp; omega
      have g2 : (ak == 2) = false := by simp; omega
      have g3 : (ak == 3) = false := by simp; omega
      have g4 : (ak == 4) = false := by simp; omega
      have g5 : (ak == 5) = false := by simp; omega
      have g6 : (ak == 6) = false := by simp; omega
      have g7 : (ak == 7) = false := by simp; omega
      have g8 : (ak == 8) = false := by simp; omega
      have g9 : (ak == 9) = false := by simp; omega
      have g10 : (ak == 10) = false := by simp; omega
      have g11 : (ak == 11) = false := by simp; omega
      have g12 : (ak == 12) = false := by simp; omega
      clear hk
      go_wp2_with fail
      go_ret
      exact ⟨by rw [HS.out] <;> rfl, hb⟩
end Go.Proofs.YtflpblggpbgeiaaDoor
