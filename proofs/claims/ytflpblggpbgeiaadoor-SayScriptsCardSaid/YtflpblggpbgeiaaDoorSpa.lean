/- The walk of the statement SayParses. -/
import Derived.Test.YtflpblggpbgeiaaDoorLin
import Derived.Test.YtflpblggpbgeiaaDoorCln
namespace Go.Proofs.YtflpblggpbgeiaaDoor
open Go Go.RowKit Go.Calli
set_option linter.unusedVariables false
set_option linter.unusedSimpArgs false
attribute [local irreducible] wpStill wpAnyH wpAnyS wpList Code.wp
set_option maxRecDepth 100000 in
set_option maxHeartbeats 8000000 in
theorem sparses_any (l : List Int) (hb : Byt l) (hl : l.length ≤ maxLen) (ak av : Int) (anm : List Int) (an am ap ax : Int) (hnb : Byt anm) (hnl : anm.length ≤ maxLen) (hv : i64 av) (hn : i64 an) (hmm : i64 am) (hp : i64 ap) (hx : i64 ax) (w : World) (hm : HasM w) : Calls Tryd.prog 3 #[.string (strOfNums l), .agg #[.int .i64 ak, .int .i64 av, .string (strOfNums anm), .int .i64 an, .int .i64 am, .int .i64 ap, .int .i64 ax]] w (TrueP w) := by
  have CU := Lib.hid (cut_any l hl)
  have CN := Lib.hid (cut_any anm hnl)
  have hSb := hb.take 200
  have hSl : (l.take 200).length ≤ 200 := by rw [List.length_take]; omega
  have hNb := hnb.take 200
  have hNl : (anm.take 200).length ≤ 200 := by rw [List.length_take]; omega
  have hk0 := below_alloc w (.cells #[.int .i64 ak, .int .i64 av, .string (strOfNums anm), .int .i64 an, .int .i64 am, .int .i64 ap, .int .i64 ax] 23)
  have hz0 := heap_alloc_new w (.cells #[.int .i64 ak, .int .i64 av, .string (strOfNums anm), .int .i64 an, .int .i64 am, .int .i64 ap, .int .i64 ax] 23)
  generalize l.take 200 = S at *
  generalize hn2 : anm.take 200 = nm2 at *
  have hok : OkA ⟨ak, av, nm2, an, am, ap, ax⟩ := ⟨hNb, by simp only; omega, hv, hn, hmm, hp, hx⟩
  have LA := Lib.hid (fun w => lline_any ak av nm2 an am ap ax hok w)
  unfold StrP at LA
  have hpl := fun hk => parse_line hok hk
  have hlo := fun hk => line_out (a := ⟨ak, av, nm2, an, am, ap, ax⟩) hk
  have hLb : Byt (lineL ⟨ak, av, nm2, an, am, ap, ax⟩) := (vW_byt _).app (fun z hz => by
    obtain ⟨f, hf, hz⟩ := List.mem_flatMap.1 hz
    rcases List.mem_cons.1 hz with rfl | hz
    · omega
    · exact putL_byt _ _ hok z hz)
  generalize lineL ⟨ak, av, nm2, an, am, ap, ax⟩ = LN at *
  have PA : Hid (∀ w, HasM w → Calls Tryd.prog 10 #[.string (strOfNums S)] w (ParP (parseL S) w)) := fun w h => parse_any S hSb (by omega) w h
  have hem := nums_empty S
  have HOK := Lib.hid hok
  clear hb hl hnb hnl hv hn hmm hp hx hn2 hNb hNl hok
  go_enter Tryd.func3, Tryd.ntmps3
  go_upto_region 1 with fail
  generalize w.alloc (.cells #[.int .i64 ak, .int .i64 av, .string (strOfNums anm), .int .i64 an, .int .i64 am, .int .i64 ap, .int .i64 ax] 23) = W at *
  have HZ0 := Lib.hid hz0
  obtain ⟨⟨c0, c1, c2, c3, c4, c5, c6⟩, f0, f1, f2, f3, f4, f5, f6⟩ := seven_cells hz0
  go_upto_region 3 with (go_at_call 9; (first | with_reducible refine (CU.out _).mono ?_ | with_reducible refine (CN.out _).mono ?_); rintro e w1 ⟨rfl, rfl⟩)
  have hz2 : (W.setCell ⟨w.heap.size, 2, none⟩ (.string (strOfNums nm2))).heap[w.heap.size]? = some (.cells #[.int .i64 ak, .int .i64 av, .string (strOfNums nm2), .int .i64 an, .int .i64 am, .int .i64 ap, .int .i64 ax] 23 (0, 0)) := heap_setCell_same _ _ _ _ _ _ hz0
  have hb2 := hk0.setCell (p := ⟨w.heap.size, 2, none⟩) (Nat.le_refl _) (.string (strOfNums nm2))
  clear c0 c1 c2 c3 c4 c5 c6 f0 f1 f2 f3 f4 f5 f6 hz0 hk0 HZ0 CU CN
  generalize W.setCell ⟨w.heap.size, 2, none⟩ (.string (strOfNums nm2)) = W2 at *
  have hm2 := hm.keep0 hb2
  have PA2 := Lib.hid (PA.out W2 hm2)
  cases hr : parseL S with
  | none =>
    rw [hr] at PA2
    have PA3 : Hid (Calls Tryd.prog 10 #[.string (strOfNums S)] W2 (fun e w' => e = .returned (.tuple #[.agg #[.int .i64 0, .int .i64 0, .string (ByteArray.mk #[]), .int .i64 0, .int .i64 0, .int .i64 0, .int .i64 0], .int .i64 4]) ∧ Below W2.heap.size W2 w')) := PA2
    clear PA PA2
    go_upto_region 4 with (go_at_call 10; refine PA3.out.mono ?_; rintro e w3 ⟨rfl, hb3⟩)
    have hy4 := heap_alloc_new w3 (.cells #[.int .i64 0, .int .i64 0, .string (ByteArray.mk #[]), .int .i64 0, .int .i64 0, .int .i64 0, .int .i64 0] 23)
    have hba := below_alloc w3 (.cells #[.int .i64 0, .int .i64 0, .string (ByteArray.mk #[]), .int .i64 0, .int .i64 0, .int .i64 0, .int .i64 0] 23)
    have hb4 := (hb2.trans (hb3.mono hb2.size)).trans (hba.mono (hb2.trans (hb3.mono hb2.size)).size)
    have hz4 := (hba.block _ (lt_of_block ((hb3.block _ (lt_of_block hz2)).trans hz2))).trans ((hb3.block _ (lt_of_block hz2)).trans hz2)
    clear hba hb3 hb2 hz2 PA3 hm2
    generalize w3.alloc (.cells #[.int .i64 0, .int .i64 0, .string (ByteArray.mk #[]), .int .i64 0, .int .i64 0, .int .i64 0, .int .i64 0] 23) = W4 at *
    generalize w3.heap.size = xb at *
    have hm4 := hm.keep0 hb4
    obtain ⟨⟨c0, c1, c2, c3, c4, c5, c6⟩, -⟩ := seven_cells hz4
    obtain ⟨⟨d0, d1, d2, d3, d4, d5, d6⟩, -⟩ := seven_cells hy4
    clear hz4 hy4
    have AW : Hid (∀ w', Below W4.heap.size W4 w' → Calls Tryd.prog 12 #[] w' (TrueP w')) := fun w' h => awake_any w' (hm4.keep0 h)
    by_cases hSL : S = LN
    · have hS0 : S = [] := by
        by_cases hk : 1 ≤ ak ∧ ak ≤ 12
        · have := hpl hk
          rw [← hSL, hr] at this
          cases this
        · rw [hSL]; exact hlo hk
      have hL0 : LN = [] := hSL.symm.trans hS0
      subst hL0
      subst hS0
      have hem2 : (strOfNums []).toList.isEmpty = true := hem
      clear hem hpl hlo hr hSL
      repeat (first | (go_at_call 11; refine (LA.out _).mono ?_; rintro e w5 ⟨rfl, hb5⟩; have hbW := bstep (Below.refl W4.heap.size W4) hb5; dsimp only) | (go_at_call 12; refine (AW.out _ (by assumption)).mono ?_; rintro e w7 ⟨rfl, hb8⟩; have hbL := bstep (by assumption) hb8; dsimp only) | go_guarded | go_step | go_upon)
      go_ret
      exact ⟨rfl, hb4.trans (hbL.mono hb4.size)⟩
    · have g1 := str_ne hSb hLb hSL
      have g2 : ((strOfNums S).toList != (strOfNums LN).toList) = true := by rw [bne, g1]; rfl
      clear hem hpl hlo hr hSL hSb hLb
      generalize strOfNums S = s1 at *
      generalize strOfNums LN = s2 at *
      repeat (first | (go_at_call 11; refine (LA.out _).mono ?_; rintro e w5 ⟨rfl, hb5⟩; have hbW := bstep (Below.refl W4.heap.size W4) hb5; dsimp only) | (go_at_call 12; refine (AW.out _ (by assumption)).mono ?_; rintro e w7 ⟨rfl, hb8⟩; have hbL := bstep (by assumption) hb8; dsimp only) | go_guarded | go_step | go_upon)
      go_ret
      exact ⟨rfl, hb4.trans (hbL.mono hb4.size)⟩
  | some x =>
    obtain ⟨hxl, hxc, hxo, hxk⟩ := line_parse hSb (by omega) hr
    have hS0 : S.length ≠ 0 := fun e => by
      have := line_in hxk
      rw [hxl] at this
      exact this (List.eq_nil_of_length_eq_zero e)
    obtain ⟨xk, xv, xnm, xn, xm, xp, xx⟩ := x
    rw [hr] at PA2
    have PA3 : Hid (Calls Tryd.prog 10 #[.string (strOfNums S)] W2 (fun e w' => e = .returned (.tuple #[.agg #[.int .i64 xk, .int .i64 xv, .string (strOfNums xnm), .int .i64 xn, .int .i64 xm, .int .i64 xp, .int .i64 xx], .int .i64 0]) ∧ Below W2.heap.size W2 w')) := PA2
    have LXX : Hid (∀ w, Calls Tryd.prog 11 #[.agg #[.int .i64 xk, .int .i64 xv, .string (strOfNums xnm), .int .i64 xn, .int .i64 xm, .int .i64 xp, .int .i64 xx]] w (fun e w' => e = .returned (.string (strOfNums S)) ∧ Below w.heap.size w w')) := fun w => by
      have := lline_any xk xv xnm xn xm xp xx hxo w
      unfold StrP at this
      rw [hxl] at this
      exact this
    have CX : Hid (∀ w, Calls Tryd.prog 13 #[.agg #[.int .i64 xk, .int .i64 xv, .string (strOfNums xnm), .int .i64 xn, .int .i64 xm, .int .i64 xp, .int .i64 xx]] w (fun e w' => e = .returned (.agg #[.int .i64 xk, .int .i64 xv, .string (strOfNums xnm), .int .i64 xn, .int .i64 xm, .int .i64 xp, .int .i64 xx]) ∧ Below w.heap.size w w')) := fun w => by
      have := lclean_any xk xv xnm xn xm xp xx w
      unfold ClnP at this
      rw [hxc] at this
      exact this
    have hem2 : (strOfNums S).toList.isEmpty = false := by rw [hem]; simpa using hS0
    have g1 : ((strOfNums S).toList == []) = false := by rw [← hem2]; cases (strOfNums S).toList <;> rfl
    have g2 : ((strOfNums S).toList != []) = true := by rw [bne, g1]; rfl
    have g3 : ((strOfNums S).toList == (strOfNums S).toList) = true := by simp
    clear PA PA2 hpl hlo hr hxl hxc hxo hxk hem hS0 hSb hSl LA
    go_upto_region 6 with (go_at_call 10; refine PA3.out.mono ?_; rintro e w3 ⟨rfl, hb3⟩)
    have hy4 := heap_alloc_new w3 (.cells #[.int .i64 xk, .int .i64 xv, .string (strOfNums xnm), .int .i64 xn, .int .i64 xm, .int .i64 xp, .int .i64 xx] 23)
    have hba := below_alloc w3 (.cells #[.int .i64 xk, .int .i64 xv, .string (strOfNums xnm), .int .i64 xn, .int .i64 xm, .int .i64 xp, .int .i64 xx] 23)
    have hb4 := (hb2.trans (hb3.mono hb2.size)).trans (hba.mono (hb2.trans (hb3.mono hb2.size)).size)
    clear hba hb3 hb2 hz2 PA3 hm2
    generalize w3.alloc (.cells #[.int .i64 xk, .int .i64 xv, .string (strOfNums xnm), .int .i64 xn, .int .i64 xm, .int .i64 xp, .int .i64 xx] 23) = W4 at *
    generalize w3.heap.size = xb at *
    have hm4 := hm.keep0 hb4
    have HY4 := Lib.hid hy4
    obtain ⟨⟨c0, c1, c2, c3, c4, c5, c6⟩, -⟩ := seven_cells hy4
    clear hy4
    generalize strOfNums S = s1 at *
    have AW : Hid (∀ w', Below W4.heap.size W4 w' → Calls Tryd.prog 12 #[] w' (TrueP w')) := fun w' h => awake_any w' (hm4.keep0 h)
    go_region_held3 (fun w' => w'.cell? ⟨xb, 0, none⟩ = some (.int .i64 xk) ∧ w'.cell? ⟨xb, 1, none⟩ = some (.int .i64 xv) ∧ w'.cell? ⟨xb, 2, none⟩ = some (.string (strOfNums xnm)) ∧ w'.cell? ⟨xb, 3, none⟩ = some (.int .i64 xn) ∧ w'.cell? ⟨xb, 4, none⟩ = some (.int .i64 xm) ∧ w'.cell? ⟨xb, 5, none⟩ = some (.int .i64 xp) ∧ w'.cell? ⟨xb, 6, none⟩ = some (.int .i64 xx)) (go_keep) (first | (go_at_call 11; refine (LXX.out _).mono ?_; rintro e w5 ⟨rfl, hb5⟩; have hbW := bstep (a := W4) (by first | assumption | exact (Below.refl _ _).drew) hb5; have hy5 := (hbW.block _ (lt_of_block HY4.out)).trans HY4.out; obtain ⟨⟨c0, c1, c2, c3, c4, c5, c6⟩, -⟩ := seven_cells hy5) | (go_at_call 13; refine (CX.out _).mono ?_; rintro e w5 ⟨rfl, hb5⟩; have hbW := bstep (a := W4) (by first | assumption | exact (Below.refl _ _).drew) hb5; have hy5 := (hbW.block _ (lt_of_block HY4.out)).trans HY4.out; obtain ⟨⟨c0, c1, c2, c3, c4, c5, c6⟩, -⟩ := seven_cells hy5) | (go_at_call 12; refine (AW.out _ (by assumption)).mono ?_; rintro e w5 ⟨rfl, hb5⟩; have hbW := bstep (a := W4) (by first | assumption | exact (Below.refl _ _).drew) hb5; have hy5 := (hbW.block _ (lt_of_block HY4.out)).trans HY4.out; obtain ⟨⟨c0, c1, c2, c3, c4, c5, c6⟩, -⟩ := seven_cells hy5))
    repeat (first | go_guarded | go_step | go_upon)
    go_ret
    exact ⟨rfl, hb4.trans (Below.mono (by assumption) hb4.size)⟩
end Go.Proofs.YtflpblggpbgeiaaDoor
