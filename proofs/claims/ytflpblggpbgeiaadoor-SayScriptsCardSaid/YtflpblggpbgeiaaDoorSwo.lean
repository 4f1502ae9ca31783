/- The walk of the statement SayWords. -/
import Derived.Test.YtflpblggpbgeiaaDoorAwk
import Derived.Test.YtflpblggpbgeiaaDoorLwd
namespace Go.Proofs.YtflpblggpbgeiaaDoor
open Go Go.RowKit Go.Calli
set_option linter.unusedVariables false
set_option linter.unusedSimpArgs false
attribute [local irreducible] wpStill wpAnyH wpAnyS wpList Code.wp
theorem wordL_len (l : List Int) : (wordL l).length ≤ 1 + 3 * l.length := by
  have := encW_len l
  unfold wordL
  rw [List.length_cons]; omega
set_option maxRecDepth 100000 in
set_option maxHeartbeats 4000000 in
theorem swords_any (l0 l1 : List Int) (hb0 : Byt l0) (hl0 : l0.length ≤ maxLen) (hb1 : Byt l1) (hl1 : l1.length ≤ maxLen) (w : World) (hm : HasM w) : Calls Tryd.prog 4 #[.string (strOfNums l0), .string (strOfNums l1)] w (TrueP w) := by
  have CU0 := Lib.hid (cut_any l0 hl0)
  have CU1 := Lib.hid (cut_any l1 hl1)
  have hSb := hb0.take 200
  have hSl : (l0.take 200).length ≤ 200 := by rw [List.length_take]; omega
  have hTb := hb1.take 200
  have hTl : (l1.take 200).length ≤ 200 := by rw [List.length_take]; omega
  generalize l0.take 200 = S at *
  generalize l1.take 200 = T at *
  have hwl := wordL_len S
  have NU : Hid (∀ w, Calls Tryd.prog 15 #[.string (strOfNums S)] w (StrP (wordL S) w)) := fun w => word_any S hSb (by omega) w
  have LN : Hid (∀ w, Calls Tryd.prog 16 #[.string (strOfNums S)] w (StrP (wordL S) w)) := fun w => lword_any S hSb (by omega) w
  have RN : Hid (∀ w, Calls Tryd.prog 14 #[.string (strOfNums (wordL S))] w fun e w' => e = .returned (.tuple #[.string (strOfNums S), .bool true]) ∧ Below w.heap.size w w') := fun w => by
    have := readWord_any (wordL S) (wordL_byt hSb) (by omega) w
    rw [read_word hSb] at this
    exact this
  have RS : Hid (∀ w, Calls Tryd.prog 14 #[.string (strOfNums T)] w (RwP (readW T) w)) := fun w => readWord_any T hTb (by omega) w
  have gS : ((strOfNums (wordL S)).toList != (strOfNums (wordL S)).toList) = false := by simp
  have gX : ((strOfNums S).toList != (strOfNums S).toList) = false := by simp
  cases hr : readW T with
  | none =>
    have hne : T ≠ wordL S := fun e => by rw [e, read_word hSb] at hr; cases hr
    have g1 := str_ne hTb (wordL_byt hSb) hne
    have g2 : ((strOfNums T).toList != (strOfNums (wordL S)).toList) = true := by rw [bne, g1]; rfl
    rw [hr] at RS
    have RS2 : Hid (∀ w, Calls Tryd.prog 14 #[.string (strOfNums T)] w fun e w' => e = .returned (.tuple #[.string (ByteArray.mk #[]), .bool false]) ∧ Below w.heap.size w w') := RS
    clear RS hr hne hSb hSl hTb hTl hwl
    unfold StrP at NU LN
    generalize strOfNums (wordL S) = sn at *
    generalize strOfNums S = sS at *
    generalize strOfNums T = sT at *
    go_enter Tryd.func4, Tryd.ntmps4
    go_upto_region 4 with (first | (go_at_call 9; (first | with_reducible refine (CU0.out _).mono ?_ | with_reducible refine (CU1.out _).mono ?_); rintro e w1 ⟨rfl, rfl⟩) | (go_at_call 15; refine (NU.out _).mono ?_; rintro e w1 ⟨rfl, hb1⟩) | (go_at_call 14; (with_reducible refine (RN.out _).mono ?_); rintro e w2 ⟨rfl, hb2⟩))
    go_upto_region 6 with (first | (go_at_call 15; refine (NU.out _).mono ?_; rintro e w3 ⟨rfl, hb3⟩) | (go_at_call 16; refine (LN.out _).mono ?_; rintro e w4 ⟨rfl, hb4⟩))
    have hb5 := bstep (bstep (bstep hb1 hb2) hb3) hb4
    go_upto_region 8 with (go_at_call 14; (with_reducible refine (RS2.out _).mono ?_); rintro e w5 ⟨rfl, hb6⟩)
    have hb7 := bstep hb5 hb6
    clear hb1 hb2 hb3 hb4 hb5 hb6
    repeat (first | (go_at_call 16; refine (LN.out _).mono ?_; rintro e w6 ⟨rfl, hb8⟩; have hb9 := bstep hb7 hb8; dsimp only) | (go_at_call 12; refine (awake_any _ (hm.keep0 (by assumption))).mono ?_; rintro e w7 ⟨rfl, hb8⟩; have hbL := bstep (by assumption) hb8; dsimp only) | go_guarded | go_step | go_upon)
    go_ret
    exact ⟨rfl, hbL⟩
  | some y =>
    obtain ⟨hy, hyb⟩ := word_read hTb hr
    have hyl : y.length ≤ 1000000 := by
      have h1 : (encB 0).length ≤ 3 := encB_len 0
      have : y.length ≤ (wordL y).length := by
        unfold wordL encW
        rw [List.length_cons, List.length_flatMap]
        have hs : ∀ m : List Int, m.length ≤ (m.map fun c => (encB c).length).sum := by
          intro m
          induction m with
          | nil => simp
          | cons c r ih =>
            have : 1 ≤ (encB c).length := by unfold encB; split <;> simp
            simp only [List.map_cons, List.sum_cons, List.length_cons]; omega
        have := hs y
        omega
      rw [hy] at this; omega
    have LY : Hid (∀ w, Calls Tryd.prog 16 #[.string (strOfNums y)] w (StrP T w)) := fun w => by
      have := lword_any y hyb hyl w
      rw [hy] at this
      exact this
    have g1 : ((strOfNums T).toList == (strOfNums T).toList) = true := by simp
    rw [hr] at RS
    have RS2 : Hid (∀ w, Calls Tryd.prog 14 #[.string (strOfNums T)] w fun e w' => e = .returned (.tuple #[.string (strOfNums y), .bool true]) ∧ Below w.heap.size w w') := RS
    clear RS hr hSb hSl hTb hTl hwl hy hyb hyl
    unfold StrP at NU LN LY
    generalize strOfNums (wordL S) = sn at *
    generalize strOfNums S = sS at *
    generalize strOfNums T = sT at *
    generalize strOfNums y = sy at *
    go_enter Tryd.func4, Tryd.ntmps4
    go_upto_region 4 with (first | (go_at_call 9; (first | with_reducible refine (CU0.out _).mono ?_ | with_reducible refine (CU1.out _).mono ?_); rintro e w1 ⟨rfl, rfl⟩) | (go_at_call 15; refine (NU.out _).mono ?_; rintro e w1 ⟨rfl, hb1⟩) | (go_at_call 14; (with_reducible refine (RN.out _).mono ?_); rintro e w2 ⟨rfl, hb2⟩))
    go_upto_region 6 with (first | (go_at_call 15; refine (NU.out _).mono ?_; rintro e w3 ⟨rfl, hb3⟩) | (go_at_call 16; refine (LN.out _).mono ?_; rintro e w4 ⟨rfl, hb4⟩))
    have hb5 := bstep (bstep (bstep hb1 hb2) hb3) hb4
    go_upto_region 9 with (go_at_call 14; (with_reducible refine (RS2.out _).mono ?_); rintro e w5 ⟨rfl, hb6⟩)
    have hb7 := bstep hb5 hb6
    clear hb1 hb2 hb3 hb4 hb5 hb6
    repeat (first | (go_at_call 16; (with_reducible refine (LY.out _).mono ?_); rintro e w6 ⟨rfl, hb8⟩; have hb9 := bstep hb7 hb8; dsimp only) | (go_at_call 12; refine (awake_any _ (hm.keep0 (by assumption))).mono ?_; rintro e w7 ⟨rfl, hb8⟩; have hbL := bstep (by assumption) hb8; dsimp only) | go_guarded | go_step | go_upon)
    go_ret
    exact ⟨rfl, hbL⟩
end Go.Proofs.YtflpblggpbgeiaaDoor
