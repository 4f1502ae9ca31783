/- The walk of the statement SayNumbers. -/
import Derived.Test.YtflpblggpbgeiaaDoorAwk
namespace Go.Proofs.YtflpblggpbgeiaaDoor
open Go Go.RowKit Go.Calli
set_option linter.unusedVariables false
set_option linter.unusedSimpArgs false
attribute [local irreducible] wpStill wpAnyH wpAnyS wpList Code.wp
theorem numD_len (n : Int) (h1 : -9223372036854775808 ≤ n) (h2 : n < 9223372036854775808) : (numD n).length ≤ 20 := by
  have := digL_len n.natAbs (by omega)
  unfold numD
  split
  · simp only [List.length_cons]; omega
  · omega
set_option maxRecDepth 100000 in
set_option maxHeartbeats 4000000 in
theorem snumbers_any (n : Int) (h1 : -9223372036854775808 ≤ n) (h2 : n < 9223372036854775808) (l : List Int) (hb : Byt l) (hl : l.length ≤ maxLen) (w : World) (hm : HasM w) : Calls Tryd.prog 5 #[.int .i64 n, .string (strOfNums l)] w (TrueP w) := by
  have CU := Lib.hid (cut_any l hl)
  have hSb := hb.take 200
  have hSl : (l.take 200).length ≤ 200 := by rw [List.length_take]; omega
  generalize l.take 200 = S at *
  have NU : Hid (∀ w, Calls Tryd.prog 18 #[.int .i64 n] w (StrP (numD n) w)) := fun w => number_any n h1 h2 w
  have LN : Hid (∀ w, Calls Tryd.prog 19 #[.int .i64 n] w (StrP (numD n) w)) := fun w => lnumber_any n h1 h2 w
  have RN : Hid (∀ w, Calls Tryd.prog 17 #[.string (strOfNums (numD n))] w fun e w' => e = .returned (.tuple #[.int .i64 n, .bool true]) ∧ w = w') := fun w => by
    have := readNumber_any (numD n) (numD_byt n) (by have := numD_len n h1 h2; unfold maxLen; omega) w
    rw [read_num h1 h2] at this
    exact this
  have RS : Hid (∀ w, Calls Tryd.prog 17 #[.string (strOfNums S)] w (RdP (readN S) w)) := fun w => readNumber_any S hSb (by unfold maxLen; omega) w
  have gS : ((strOfNums (numD n)).toList != (strOfNums (numD n)).toList) = false := by simp
  cases hr : readN S with
  | none =>
    have hne : S ≠ numD n := fun e => by rw [e, read_num h1 h2] at hr; cases hr
    have g1 := str_ne hSb (numD_byt n) hne
    have g2 : ((strOfNums S).toList != (strOfNums (numD n)).toList) = true := by rw [bne, g1]; rfl
    rw [hr] at RS
    have RS2 : Hid (∀ w, Calls Tryd.prog 17 #[.string (strOfNums S)] w fun e w' => e = .returned (.tuple #[.int .i64 0, .bool false]) ∧ w = w') := RS
    clear RS hr hne hSb hSl
    unfold StrP at NU LN
    generalize strOfNums (numD n) = sn at *
    generalize strOfNums S = sS at *
    go_enter Tryd.func5, Tryd.ntmps5
    go_upto_region 3 with (first | (go_at_call 9; refine (CU.out _).mono ?_; rintro e w1 ⟨rfl, rfl⟩) | (go_at_call 18; refine (NU.out _).mono ?_; rintro e w1 ⟨rfl, hb1⟩) | (go_at_call 17; (with_reducible refine (RN.out _).mono ?_); rintro e w2 ⟨rfl, rfl⟩))
    go_upto_region 5 with (first | (go_at_call 18; refine (NU.out _).mono ?_; rintro e w3 ⟨rfl, hb3⟩) | (go_at_call 19; refine (LN.out _).mono ?_; rintro e w4 ⟨rfl, hb4⟩))
    have hb5 := bstep (bstep hb1 hb3) hb4
    go_upto_region 7 with (go_at_call 17; (with_reducible refine (RS2.out _).mono ?_); rintro e w2 ⟨rfl, rfl⟩)
    repeat (first | (go_at_call 19; refine (LN.out _).mono ?_; rintro e w6 ⟨rfl, hb6⟩; have hb7 := bstep hb5 hb6; dsimp only) | (go_at_call 12; refine (awake_any _ (hm.keep0 (by assumption))).mono ?_; rintro e w7 ⟨rfl, hb8⟩; have hb9 := bstep (by assumption) hb8; dsimp only) | go_guarded | go_step | go_upon)
    go_ret
    exact ⟨rfl, hb9⟩
  | some y =>
    obtain ⟨hy, hy1, hy2⟩ := num_read hr
    have LY : Hid (∀ w, Calls Tryd.prog 19 #[.int .i64 y] w (StrP S w)) := fun w => by
      have := lnumber_any y hy1 hy2 w
      rw [hy] at this
      exact this
    have g1 : ((strOfNums S).toList == (strOfNums S).toList) = true := by simp
    rw [hr] at RS
    have RS2 : Hid (∀ w, Calls Tryd.prog 17 #[.string (strOfNums S)] w fun e w' => e = .returned (.tuple #[.int .i64 y, .bool true]) ∧ w = w') := RS
    clear RS hr hSb hSl hy
    unfold StrP at NU LN LY
    generalize strOfNums (numD n) = sn at *
    generalize strOfNums S = sS at *
    go_enter Tryd.func5, Tryd.ntmps5
    go_upto_region 3 with (first | (go_at_call 9; refine (CU.out _).mono ?_; rintro e w1 ⟨rfl, rfl⟩) | (go_at_call 18; refine (NU.out _).mono ?_; rintro e w1 ⟨rfl, hb1⟩) | (go_at_call 17; (with_reducible refine (RN.out _).mono ?_); rintro e w2 ⟨rfl, rfl⟩))
    go_upto_region 5 with (first | (go_at_call 18; refine (NU.out _).mono ?_; rintro e w3 ⟨rfl, hb3⟩) | (go_at_call 19; refine (LN.out _).mono ?_; rintro e w4 ⟨rfl, hb4⟩))
    have hb5 := bstep (bstep hb1 hb3) hb4
    go_upto_region 8 with (go_at_call 17; (with_reducible refine (RS2.out _).mono ?_); rintro e w2 ⟨rfl, rfl⟩)
    repeat (first | (go_at_call 19; refine (LY.out _).mono ?_; rintro e w6 ⟨rfl, hb6⟩; have hb7 := bstep hb5 hb6; dsimp only) | (go_at_call 12; refine (awake_any _ (hm.keep0 (by assumption))).mono ?_; rintro e w7 ⟨rfl, hb8⟩; have hb9 := bstep (by assumption) hb8; dsimp only) | go_guarded | go_step | go_upon)
    go_ret
    exact ⟨rfl, hb9⟩
end Go.Proofs.YtflpblggpbgeiaaDoor
