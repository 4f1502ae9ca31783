/- The walk of riff.shape. -/
import Derived.Test.YtpbeehfafbgphaaTak
namespace Go.Proofs.Ytpbeehfafbgphaa
open Go Go.RowKit Go.Calli
set_option linter.unusedVariables false
set_option linter.unusedSimpArgs false
attribute [local irreducible] wpStill wpAnyH wpAnyS wpList Code.wp
def NumQ (v : Int) (w : World) (e : Ending) (w' : World) : Prop := e = .returned (.int .i64 v) ∧ w = w'
theorem num_bound {f : List Int} (hb : Byt f) (j k : Nat) (hk : k ≤ 4) : 0 ≤ numL ((f.drop j).take k) ∧ numL ((f.drop j).take k) < 4294967296 := by
  have := numL_lt ((hb.drop j).take k) (k := 4) (by rw [List.length_take]; omega)
  simpa using this
set_option maxRecDepth 100000 in
set_option maxHeartbeats 4000000 in
theorem shape_full (ao : Option Addr) (cap : Nat) (f : List Int) (w : World) (h : Ints .u8 w ao 16 f) (hc : 16 ≤ cap) : Calls Try.prog 22 #[.slice ao 16 cap] w (ShapePost f w) := by
  have hl := h.hlen
  obtain ⟨a, rfl, -⟩ := h.some (by omega)
  have hb := byt_of h.wf
  have I1 : Ints .u8 w (some ⟨a.block, a.off + 2, none⟩) 2 ((f.drop 2).take 2) := (h.drop (j := 2) (by omega)).take (by omega)
  have I2 : Ints .u8 w (some ⟨a.block, a.off + 4, none⟩) 4 ((f.drop 4).take 4) := (h.drop (j := 4) (by omega)).take (by omega)
  have I3 : Ints .u8 w (some a) 2 (f.take 2) := h.take (by omega)
  have I4 : Ints .u8 w (some ⟨a.block, a.off + 8, none⟩) 4 ((f.drop 8).take 4) := (h.drop (j := 8) (by omega)).take (by omega)
  have I5 : Ints .u8 w (some ⟨a.block, a.off + 12, none⟩) 2 ((f.drop 12).take 2) := (h.drop (j := 12) (by omega)).take (by omega)
  have I6 : Ints .u8 w (some ⟨a.block, a.off + 14, none⟩) 2 (f.drop 14) := h.drop (j := 14) (by omega)
  have b1 := num_bound hb 2 2 (by omega)
  have b2 := num_bound hb 4 4 (by omega)
  have hfull : ShapePost f w = fun e w' => e = .returned (.tuple #[.int .i64 (shN f), .int .i64 (shR f), .bool (shOk f)]) ∧ Below w.heap.size w w' := by
    unfold ShapePost; rw [if_pos hl, if_pos hl]
  rw [hfull]
  clear hfull
  have hok : shOk f = decide (numL (f.take 2) = 1 ∧ (shN f = 1 ∨ shN f = 2) ∧ numL ((f.drop 8).take 4) = shR f * shN f * 2 ∧ numL ((f.drop 12).take 2) = shN f * 2 ∧ numL (f.drop 14) = 16) := by
    unfold shOk
    rw [decide_eq_decide]
    exact ⟨fun h => h.2, fun h => ⟨hl, h⟩⟩
  rw [hok]
  clear hok
  have N1 := fun c w (h : Ints .u8 w (some ⟨a.block, a.off + 2, none⟩) 2 ((f.drop 2).take 2)) => number_any _ 2 c _ (by omega) w h
  have N2 := fun c w (h : Ints .u8 w (some ⟨a.block, a.off + 4, none⟩) 4 ((f.drop 4).take 4)) => number_any _ 4 c _ (by omega) w h
  have N3 := fun c w (h : Ints .u8 w (some a) 2 (f.take 2)) => number_any _ 2 c _ (by omega) w h
  have N4 := fun c w (h : Ints .u8 w (some ⟨a.block, a.off + 8, none⟩) 4 ((f.drop 8).take 4)) => number_any _ 4 c _ (by omega) w h
  have N5 := fun c w (h : Ints .u8 w (some ⟨a.block, a.off + 12, none⟩) 2 ((f.drop 12).take 2)) => number_any _ 2 c _ (by omega) w h
  have N6 := fun c w (h : Ints .u8 w (some ⟨a.block, a.off + 14, none⟩) 2 (f.drop 14)) => number_any _ 2 c _ (by omega) w h
  have e1 : shN f = numL ((f.drop 2).take 2) := rfl
  have e2 : shR f = numL ((f.drop 4).take 4) := rfl
  rw [← e1] at N1 b1
  rw [← e2] at N2 b2
  generalize shN f = N at *
  generalize shR f = R at *
  generalize numL (f.take 2) = x1 at *
  generalize numL ((f.drop 8).take 4) = x4 at *
  generalize numL ((f.drop 12).take 2) = x5 at *
  generalize numL (f.drop 14) = x6 at *
  have M1 : Hid (∀ n, Calls Try.prog 20 #[.slice (some ⟨a.block, a.off + 2, none⟩) 2 n] w (NumQ N w)) := fun n => N1 n w I1
  have M1d : Hid (∀ n, Calls Try.prog 20 #[.slice (some ⟨a.block, a.off + 2, none⟩) 2 n] w.drew (NumQ N w.drew)) := fun n => N1 n _ (I1.keep0 (Below.refl _ _).drew)
  have M2d : Hid (∀ n, Calls Try.prog 20 #[.slice (some ⟨a.block, a.off + 4, none⟩) 4 n] w.drew (NumQ R w.drew)) := fun n => N2 n _ (I2.keep0 (Below.refl _ _).drew)
  have M3 : Hid (∀ n, Calls Try.prog 20 #[.slice (some a) 2 n] w.drew (NumQ x1 w.drew)) := fun n => N3 n _ (I3.keep0 (Below.refl _ _).drew)
  have M4 : Hid (∀ n, Calls Try.prog 20 #[.slice (some ⟨a.block, a.off + 8, none⟩) 4 n] w.drew (NumQ x4 w.drew)) := fun n => N4 n _ (I4.keep0 (Below.refl _ _).drew)
  have M5 : Hid (∀ n, Calls Try.prog 20 #[.slice (some ⟨a.block, a.off + 12, none⟩) 2 n] w.drew (NumQ x5 w.drew)) := fun n => N5 n _ (I5.keep0 (Below.refl _ _).drew)
  have M6 : Hid (∀ n, Calls Try.prog 20 #[.slice (some ⟨a.block, a.off + 14, none⟩) 2 n] w.drew (NumQ x6 w.drew)) := fun n => N6 n _ (I6.keep0 (Below.refl _ _).drew)
  clear N1 N2 N3 N4 N5 N6 I1 I2 I3 I4 I5 I6 M1 hb hl h e1 e2
  have kk2 : (2 : Int) ≤ (cap : Int) := by omega
  have kk4 : (4 : Int) ≤ (cap : Int) := by omega
  have kk8 : (8 : Int) ≤ (cap : Int) := by omega
  have kk12 : (12 : Int) ≤ (cap : Int) := by omega
  have kk14 : (14 : Int) ≤ (cap : Int) := by omega
  have k2 : cap ≠ 2 := by omega
  have k4 : cap ≠ 4 := by omega
  have k8 : cap ≠ 8 := by omega
  have k12 : cap ≠ 12 := by omega
  have k14 : cap ≠ 14 := by omega
  go_enter Try.func22, Try.ntmps22
  go_upto_region 3 with fail
  go_cut [5, 6] (fun v5 v6 wx => v5 = .int .i64 N ∧ v6 = .int .i64 R ∧ w.drew = wx)
  case first =>
    go_region_held3 (fun w' => True) (trivial) (first | (go_at_call 20; (first | with_reducible refine (M1d.out _).mono ?_ | with_reducible refine (M2d.out _).mono ?_); rintro e w2 ⟨rfl, rfl⟩))
    go_wp2_with fail
    go_meet
    exact ⟨rfl, rfl, rfl⟩
  case rest =>
    obtain ⟨rfl, rfl, rfl⟩ := hcut
    by_cases h1 : x1 = 1
    · have g1 : (x1 == 1) = true := by simpa using h1
      have HH1 := Lib.hid h1
      clear h1
      by_cases h2 : N = 1 ∨ N = 2
      · rcases h2 with rfl | rfl
        · have hw0 : IntKind.i64.wrap R = R := IntWalk.i64_in _ (by omega)
          have hw1 : IntKind.i64.wrap (R * 2) = R * 2 := IntWalk.i64_in _ (by omega)
          have hw2 : IntKind.i64.wrap (R * 2 * 2) = R * 2 * 2 := IntWalk.i64_in _ (by omega)
          by_cases h4 : x4 = R * 2
          · have g4 : (x4 == R * 2) = true := by simpa using h4
            have HH4 := Lib.hid h4
            clear h4
            by_cases h5 : x5 = 2
            · have g5 : (x5 == 2) = true := by simpa using h5
              have HH5 := Lib.hid h5
              clear h5
              by_cases h6 : x6 = 16
              · have g6 : (x6 == 16) = true := by simpa using h6
                have HR : Hid (decide (x1 = 1 ∧ (((1 : Int)) = 1 ∨ ((1 : Int)) = 2) ∧ x4 = R * ((1 : Int)) * 2 ∧ x5 = ((1 : Int)) * 2 ∧ x6 = 16) = true) := decide_eq_true ⟨HH1.out, by omega, by have := HH4.out; omega, by have := HH5.out; omega, h6⟩
                have HN := Lib.hid h6
                clear h6
                go_wp2_with (go_at_call 20; (first | with_reducible refine (M3.out _).mono ?_ | with_reducible refine (M4.out _).mono ?_ | with_reducible refine (M5.out _).mono ?_ | with_reducible refine (M6.out _).mono ?_); rintro e w2 ⟨rfl, rfl⟩)
                exact bodyPost_ret (v := .tuple #[.int .i64 ((1 : Int)), .int .i64 R, .bool true]) (by simp [results, Try.results22, go_sem]) rfl ⟨by first | (rw [HR.out] <;> done) | (simp [HN.out] <;> done) | (simp [HH1.out, HH4.out, HH5.out, HN.out] <;> done), (Below.refl _ _).drew⟩
              · have g6 : (x6 == 16) = false := by simpa using h6
                have HR : Hid (decide (x1 = 1 ∧ (((1 : Int)) = 1 ∨ ((1 : Int)) = 2) ∧ x4 = R * ((1 : Int)) * 2 ∧ x5 = ((1 : Int)) * 2 ∧ x6 = 16) = false) := decide_eq_false (fun h => h6 h.2.2.2.2)
                have HN := Lib.hid h6
                clear h6
                go_wp2_with (go_at_call 20; (first | with_reducible refine (M3.out _).mono ?_ | with_reducible refine (M4.out _).mono ?_ | with_reducible refine (M5.out _).mono ?_ | with_reducible refine (M6.out _).mono ?_); rintro e w2 ⟨rfl, rfl⟩)
                exact bodyPost_ret (v := .tuple #[.int .i64 ((1 : Int)), .int .i64 R, .bool false]) (by simp [results, Try.results22, go_sem]) rfl ⟨by first | (rw [HR.out] <;> done) | (simp [HN.out] <;> done) | (simp [HH1.out, HH4.out, HH5.out, HN.out] <;> done), (Below.refl _ _).drew⟩
            · have g5 : (x5 == 2) = false := by simpa using h5
              have HR : Hid (decide (x1 = 1 ∧ (((1 : Int)) = 1 ∨ ((1 : Int)) = 2) ∧ x4 = R * ((1 : Int)) * 2 ∧ x5 = ((1 : Int)) * 2 ∧ x6 = 16) = false) := decide_eq_false (fun h => h5 (by have := h.2.2.2.1; omega))
              have HN := Lib.hid h5
              clear h5
              go_wp2_with (go_at_call 20; (first | with_reducible refine (M3.out _).mono ?_ | with_reducible refine (M4.out _).mono ?_ | with_reducible refine (M5.out _).mono ?_ | with_reducible refine (M6.out _).mono ?_); rintro e w2 ⟨rfl, rfl⟩)
              exact bodyPost_ret (v := .tuple #[.int .i64 ((1 : Int)), .int .i64 R, .bool false]) (by simp [results, Try.results22, go_sem]) rfl ⟨by first | (rw [HR.out] <;> done) | (simp [HN.out] <;> done) | (simp [HH1.out, HH4.out, HH5.out, HN.out] <;> done), (Below.refl _ _).drew⟩
          · have g4 : (x4 == R * 2) = false := by simpa using h4
            have HR : Hid (decide (x1 = 1 ∧ (((1 : Int)) = 1 ∨ ((1 : Int)) = 2) ∧ x4 = R * ((1 : Int)) * 2 ∧ x5 = ((1 : Int)) * 2 ∧ x6 = 16) = false) := decide_eq_false (fun h => h4 (by have := h.2.2.1; omega))
            have HN := Lib.hid h4
            clear h4
            go_wp2_with (go_at_call 20; (first | with_reducible refine (M3.out _).mono ?_ | with_reducible refine (M4.out _).mono ?_ | with_reducible refine (M5.out _).mono ?_ | with_reducible refine (M6.out _).mono ?_); rintro e w2 ⟨rfl, rfl⟩)
            exact bodyPost_ret (v := .tuple #[.int .i64 ((1 : Int)), .int .i64 R, .bool false]) (by simp [results, Try.results22, go_sem]) rfl ⟨by first | (rw [HR.out] <;> done) | (simp [HN.out] <;> done) | (simp [HH1.out, HH4.out, HH5.out, HN.out] <;> done), (Below.refl _ _).drew⟩
        · have hw0 : IntKind.i64.wrap R = R := IntWalk.i64_in _ (by omega)
          have hw1 : IntKind.i64.wrap (R * 2) = R * 2 := IntWalk.i64_in _ (by omega)
          have hw2 : IntKind.i64.wrap (R * 2 * 2) = R * 2 * 2 := IntWalk.i64_in _ (by omega)
          by_cases h4 : x4 = R * 2 * 2
          · have g4 : (x4 == R * 2 * 2) = true := by simpa using h4
            have HH4 := Lib.hid h4
            clear h4
            by_cases h5 : x5 = 4
            · have g5 : (x5 == 4) = true := by simpa using h5
              have HH5 := Lib.hid h5
              clear h5
              by_cases h6 : x6 = 16
              · have g6 : (x6 == 16) = true := by simpa using h6
                have HR : Hid (decide (x1 = 1 ∧ (((2 : Int)) = 1 ∨ ((2 : Int)) = 2) ∧ x4 = R * ((2 : Int)) * 2 ∧ x5 = ((2 : Int)) * 2 ∧ x6 = 16) = true) := decide_eq_true ⟨HH1.out, by omega, by have := HH4.out; omega, by have := HH5.out; omega, h6⟩
                have HN := Lib.hid h6
                clear h6
                go_wp2_with (go_at_call 20; (first | with_reducible refine (M3.out _).mono ?_ | with_reducible refine (M4.out _).mono ?_ | with_reducible refine (M5.out _).mono ?_ | with_reducible refine (M6.out _).mono ?_); rintro e w2 ⟨rfl, rfl⟩)
                exact bodyPost_ret (v := .tuple #[.int .i64 ((2 : Int)), .int .i64 R, .bool true]) (by simp [results, Try.results22, go_sem]) rfl ⟨by first | (rw [HR.out] <;> done) | (simp [HN.out] <;> done) | (simp [HH1.out, HH4.out, HH5.out, HN.out] <;> done), (Below.refl _ _).drew⟩
              · have g6 : (x6 == 16) = false := by simpa using h6
                have HR : Hid (decide (x1 = 1 ∧ (((2 : Int)) = 1 ∨ ((2 : Int)) = 2) ∧ x4 = R * ((2 : Int)) * 2 ∧ x5 = ((2 : Int)) * 2 ∧ x6 = 16) = false) := decide_eq_false (fun h => h6 h.2.2.2.2)
                have HN := Lib.hid h6
                clear h6
                go_wp2_with (go_at_call 20; (first | with_reducible refine (M3.out _).mono ?_ | with_reducible refine (M4.out _).mono ?_ | with_reducible refine (M5.out _).mono ?_ | with_reducible refine (M6.out _).mono ?_); rintro e w2 ⟨rfl, rfl⟩)
                exact bodyPost_ret (v := .tuple #[.int .i64 ((2 : Int)), .int .i64 R, .bool false]) (by simp [results, Try.results22, go_sem]) rfl ⟨by first | (rw [HR.out] <;> done) | (simp [HN.out] <;> done) | (simp [HH1.out, HH4.out, HH5.out, HN.out] <;> done), (Below.refl _ _).drew⟩
            · have g5 : (x5 == 4) = false := by simpa using h5
              have HR : Hid (decide (x1 = 1 ∧ (((2 : Int)) = 1 ∨ ((2 : Int)) = 2) ∧ x4 = R * ((2 : Int)) * 2 ∧ x5 = ((2 : Int)) * 2 ∧ x6 = 16) = false) := decide_eq_false (fun h => h5 (by have := h.2.2.2.1; omega))
              have HN := Lib.hid h5
              clear h5
              go_wp2_with (go_at_call 20; (first | with_reducible refine (M3.out _).mono ?_ | with_reducible refine (M4.out _).mono ?_ | with_reducible refine (M5.out _).mono ?_ | with_reducible refine (M6.out _).mono ?_); rintro e w2 ⟨rfl, rfl⟩)
              exact bodyPost_ret (v := .tuple #[.int .i64 ((2 : Int)), .int .i64 R, .bool false]) (by simp [results, Try.results22, go_sem]) rfl ⟨by first | (rw [HR.out] <;> done) | (simp [HN.out] <;> done) | (simp [HH1.out, HH4.out, HH5.out, HN.out] <;> done), (Below.refl _ _).drew⟩
          · have g4 : (x4 == R * 2 * 2) = false := by simpa using h4
            have HR : Hid (decide (x1 = 1 ∧ (((2 : Int)) = 1 ∨ ((2 : Int)) = 2) ∧ x4 = R * ((2 : Int)) * 2 ∧ x5 = ((2 : Int)) * 2 ∧ x6 = 16) = false) := decide_eq_false (fun h => h4 (by have := h.2.2.1; omega))
            have HN := Lib.hid h4
            clear h4
            go_wp2_with (go_at_call 20; (first | with_reducible refine (M3.out _).mono ?_ | with_reducible refine (M4.out _).mono ?_ | with_reducible refine (M5.out _).mono ?_ | with_reducible refine (M6.out _).mono ?_); rintro e w2 ⟨rfl, rfl⟩)
            exact bodyPost_ret (v := .tuple #[.int .i64 ((2 : Int)), .int .i64 R, .bool false]) (by simp [results, Try.results22, go_sem]) rfl ⟨by first | (rw [HR.out] <;> done) | (simp [HN.out] <;> done) | (simp [HH1.out, HH4.out, HH5.out, HN.out] <;> done), (Below.refl _ _).drew⟩
      · have g2 : (N == 1) = false := by simpa using fun e => h2 (.inl e)
        have g3 : (N == 2) = false := by simpa using fun e => h2 (.inr e)
        have HR : Hid (decide (x1 = 1 ∧ (N = 1 ∨ N = 2) ∧ x4 = R * N * 2 ∧ x5 = N * 2 ∧ x6 = 16) = false) := decide_eq_false (fun h => h2 h.2.1)
        have HN := Lib.hid h2
        clear h2
        go_wp2_with (go_at_call 20; (first | with_reducible refine (M3.out _).mono ?_ | with_reducible refine (M4.out _).mono ?_ | with_reducible refine (M5.out _).mono ?_ | with_reducible refine (M6.out _).mono ?_); rintro e w2 ⟨rfl, rfl⟩)
        exact bodyPost_ret (v := .tuple #[.int .i64 N, .int .i64 R, .bool false]) (by simp [results, Try.results22, go_sem]) rfl ⟨by first | (rw [HR.out] <;> done) | (simp [HN.out] <;> done) | (simp [HH1.out, HH4.out, HH5.out, HN.out] <;> done), (Below.refl _ _).drew⟩
    · have g1 : (x1 == 1) = false := by simpa using h1
      have HR : Hid (decide (x1 = 1 ∧ (N = 1 ∨ N = 2) ∧ x4 = R * N * 2 ∧ x5 = N * 2 ∧ x6 = 16) = false) := decide_eq_false (fun h => h1 h.1)
      have HN := Lib.hid h1
      clear h1
      go_wp2_with (go_at_call 20; (first | with_reducible refine (M3.out _).mono ?_ | with_reducible refine (M4.out _).mono ?_ | with_reducible refine (M5.out _).mono ?_ | with_reducible refine (M6.out _).mono ?_); rintro e w2 ⟨rfl, rfl⟩)
      exact bodyPost_ret (v := .tuple #[.int .i64 N, .int .i64 R, .bool false]) (by simp [results, Try.results22, go_sem]) rfl ⟨by first | (rw [HR.out] <;> done) | (simp [HN.out] <;> done) | (simp [HH1.out, HH4.out, HH5.out, HN.out] <;> done), (Below.refl _ _).drew⟩
end Go.Proofs.Ytpbeehfafbgphaa
