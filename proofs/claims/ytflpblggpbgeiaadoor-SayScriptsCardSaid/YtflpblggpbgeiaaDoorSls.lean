/- The walk of the statement SayLines. -/
import Derived.Test.YtflpblggpbgeiaaDoorScl
namespace Go.Proofs.YtflpblggpbgeiaaDoor
open Go Go.RowKit Go.Calli
set_option linter.unusedVariables false
set_option linter.unusedSimpArgs false
attribute [local irreducible] wpStill wpAnyH wpAnyS wpList Code.wp
theorem flat_len (g : Int → List Int) (B : Nat) (fs : List Int) (h : ∀ f ∈ fs, (g f).length ≤ B) : (fs.flatMap g).length ≤ fs.length * B := by
  induction fs with
  | nil => simp
  | cons f r ih =>
    have h1 := ih (fun f hf => h f (by simp [hf]))
    have h2 := h f (by simp)
    rw [List.flatMap_cons, List.length_append, List.length_cons, Nat.add_mul]
    omega
theorem lineL_len (a : Ac) (h : OkA a) (hn : a.nm.length ≤ 200) : (lineL a).length ≤ 2000 := by
  have hp : ∀ f, (32 :: putL a f).length ≤ 602 := by
    intro f
    have hw := wordL_len a.nm
    rw [List.length_cons]
    unfold putL
    split
    · omega
    · repeat' split
      · have := numD_le20 a.v h.v.1 h.v.2; omega
      · have := numD_le20 a.n h.n.1 h.n.2; omega
      · have := numD_le20 a.m h.m.1 h.m.2; omega
      · have := numD_le20 a.x h.x.1 h.x.2; omega
      · have := numD_le20 a.p h.p.1 h.p.2; omega
  have h1 := flat_len (fun f => 32 :: putL a f) 602 (vF a.k) (fun f _ => hp f)
  have h2 := (vF_rng a.k).2
  have h3 := vW_len a.k
  unfold lineL
  rw [List.length_append]
  have : (vF a.k).length * 602 ≤ 3 * 602 := Nat.mul_le_mul_right _ h2
  omega
theorem lineL_byt (a : Ac) (h : OkA a) : Byt (lineL a) := (vW_byt _).app (fun z hz => by
    obtain ⟨f, hf, hz⟩ := List.mem_flatMap.1 hz
    rcases List.mem_cons.1 hz with rfl | hz
    · omega
    · exact putL_byt _ _ h z hz)
theorem cleanL_k (a : Ac) : (cleanL a).k = a.k := by
  unfold cleanL
  have : ∀ (fs : List Int) (b : Ac), (fs.foldl (fun b f => setF b a f) b).k = b.k := by
    intro fs
    induction fs with
    | nil => intro b; rfl
    | cons f r ih => intro b; rw [List.foldl_cons, ih]; unfold setF; (repeat' split) <;> rfl
  exact this _ _
set_option maxRecDepth 100000 in
set_option maxHeartbeats 8000000 in
theorem slines_any (ak av : Int) (anm : List Int) (an am ap ax : Int) (hnb : Byt anm) (hnl : anm.length ≤ maxLen) (hv : i64 av) (hn : i64 an) (hmm : i64 am) (hp : i64 ap) (hx : i64 ax) (w : World) (hm : HasM w) : Calls Tryd.prog 7 #[.agg #[.int .i64 ak, .int .i64 av, .string (strOfNums anm), .int .i64 an, .int .i64 am, .int .i64 ap, .int .i64 ax]] w (TrueP w) := by
  have CN := Lib.hid (cut_any anm hnl)
  have hNb := hnb.take 200
  have hNl : (anm.take 200).length ≤ 200 := by rw [List.length_take]; omega
  have hk0 := below_alloc w (.cells #[.int .i64 ak, .int .i64 av, .string (strOfNums anm), .int .i64 an, .int .i64 am, .int .i64 ap, .int .i64 ax] 23)
  have hz0 := heap_alloc_new w (.cells #[.int .i64 ak, .int .i64 av, .string (strOfNums anm), .int .i64 an, .int .i64 am, .int .i64 ap, .int .i64 ax] 23)
  generalize hn2 : anm.take 200 = nm2 at *
  have hok : OkA ⟨ak, av, nm2, an, am, ap, ax⟩ := ⟨hNb, by simp only; omega, hv, hn, hmm, hp, hx⟩
  have hLl := lineL_len _ hok hNl
  have hLb := lineL_byt _ hok
  have LA := Lib.hid (fun w => lline_any ak av nm2 an am ap ax hok w)
  have SA := Lib.hid (fun w => sline_any ak av nm2 an am ap ax hok w)
  have LC := Lib.hid (fun w => lclean_any ak av nm2 an am ap ax w)
  have SC := Lib.hid (fun w => sclean_any ak av nm2 an am ap ax w)
  unfold StrP at LA SA
  unfold ClnP at LC SC
  have hpl := fun hk => parse_line hok hk
  have hlo := fun hk => line_out (a := ⟨ak, av, nm2, an, am, ap, ax⟩) hk
  have hli := fun hk => line_in (a := ⟨ak, av, nm2, an, am, ap, ax⟩) hk
  generalize lineL ⟨ak, av, nm2, an, am, ap, ax⟩ = LN at *
  generalize cleanL ⟨ak, av, nm2, an, am, ap, ax⟩ = CL at *
  have PA : Hid (∀ w, HasM w → Calls Tryd.prog 10 #[.string (strOfNums LN)] w (ParP (parseL LN) w)) := fun w h => parse_any LN hLb (by omega) w h
  have hem := nums_empty LN
  clear hnb hnl hv hn hmm hp hx hn2 hNb hNl hok
  go_enter Tryd.func7, Tryd.ntmps7
  go_upto_region 1 with fail
  generalize w.alloc (.cells #[.int .i64 ak, .int .i64 av, .string (strOfNums anm), .int .i64 an, .int .i64 am, .int .i64 ap, .int .i64 ax] 23) = W at *
  have HZ0 := Lib.hid hz0
  obtain ⟨⟨c0, c1, c2, c3, c4, c5, c6⟩, f0, f1, f2, f3, f4, f5, f6⟩ := seven_cells hz0
  go_upto_region 2 with (go_at_call 9; refine (CN.out _).mono ?_; rintro e w1 ⟨rfl, rfl⟩)
  have hz2 : (W.setCell ⟨w.heap.size, 2, none⟩ (.string (strOfNums nm2))).heap[w.heap.size]? = some (.cells #[.int .i64 ak, .int .i64 av, .string (strOfNums nm2), .int .i64 an, .int .i64 am, .int .i64 ap, .int .i64 ax] 23 (0, 0)) := heap_setCell_same _ _ _ _ _ _ hz0
  have hb2 := hk0.setCell (p := ⟨w.heap.size, 2, none⟩) (Nat.le_refl _) (.string (strOfNums nm2))
  clear c0 c1 c2 c3 c4 c5 c6 f0 f1 f2 f3 f4 f5 f6 hz0 hk0 HZ0 CN
  generalize W.setCell ⟨w.heap.size, 2, none⟩ (.string (strOfNums nm2)) = W2 at *
  have HZ2 := Lib.hid hz2
  obtain ⟨⟨c0, c1, c2, c3, c4, c5, c6⟩, -⟩ := seven_cells hz2
  clear hz2
  go_upto_region 3 with (go_at_call 21; refine (SA.out _).mono ?_; rintro e w3 ⟨rfl, hb3⟩)
  have hz3 := (hb3.block _ (lt_of_block HZ2.out)).trans HZ2.out
  have HZ3 := Lib.hid hz3
  have hB3 := hb2.trans (hb3.mono hb2.size)
  clear c0 c1 c2 c3 c4 c5 c6 HZ2 hb3 hb2 SA
  obtain ⟨⟨c0, c1, c2, c3, c4, c5, c6⟩, -⟩ := seven_cells hz3
  clear hz3
  obtain ⟨ck, cv, cnm, cn, cm, cp, cx⟩ := CL
  have LC2 : Hid (∀ w, Calls Tryd.prog 13 #[.agg #[.int .i64 ak, .int .i64 av, .string (strOfNums nm2), .int .i64 an, .int .i64 am, .int .i64 ap, .int .i64 ax]] w (fun e w' => e = .returned (.agg #[.int .i64 ck, .int .i64 cv, .string (strOfNums cnm), .int .i64 cn, .int .i64 cm, .int .i64 cp, .int .i64 cx]) ∧ Below w.heap.size w w')) := LC
  have SC2 : Hid (∀ w, Calls Tryd.prog 22 #[.agg #[.int .i64 ak, .int .i64 av, .string (strOfNums nm2), .int .i64 an, .int .i64 am, .int .i64 ap, .int .i64 ax]] w (fun e w' => e = .returned (.agg #[.int .i64 ck, .int .i64 cv, .string (strOfNums cnm), .int .i64 cn, .int .i64 cm, .int .i64 cp, .int .i64 cx]) ∧ Below w.heap.size w w')) := SC
  clear LC SC
  have HY := HZ3
  clear HZ3
  have g3 : ((strOfNums LN).toList == (strOfNums LN).toList) = true := by simp
  have g4 : ((strOfNums cnm).toList == (strOfNums cnm).toList) = true := by simp
  go_cut [22] (fun v22 wx => v22 = .bool false ∧ ∃ Wx, Wx = wx ∧ Below w3.heap.size w3 Wx)
  case first =>
    clear PA hem hpl hlo hli hLb hLl hB3
    generalize strOfNums LN = s1 at *
    generalize strOfNums cnm = s2 at *
    go_region_held3 (fun w' => w'.cell? ⟨w.heap.size, 0, none⟩ = some (.int .i64 ak) ∧ w'.cell? ⟨w.heap.size, 1, none⟩ = some (.int .i64 av) ∧ w'.cell? ⟨w.heap.size, 2, none⟩ = some (.string (strOfNums nm2)) ∧ w'.cell? ⟨w.heap.size, 3, none⟩ = some (.int .i64 an) ∧ w'.cell? ⟨w.heap.size, 4, none⟩ = some (.int .i64 am) ∧ w'.cell? ⟨w.heap.size, 5, none⟩ = some (.int .i64 ap) ∧ w'.cell? ⟨w.heap.size, 6, none⟩ = some (.int .i64 ax)) (go_keep) (first | (go_at_call 11; refine (LA.out _).mono ?_; rintro e w5 ⟨rfl, hb5⟩; have hbW := bstep (a := w3) (by first | assumption | exact (Below.refl _ _).drew) hb5; have hy5 := (hbW.block _ (lt_of_block HY.out)).trans HY.out; obtain ⟨⟨c0, c1, c2, c3, c4, c5, c6⟩, -⟩ := seven_cells hy5) | (go_at_call 22; refine (SC2.out _).mono ?_; rintro e w5 ⟨rfl, hb5⟩; have hbW := bstep (a := w3) (by first | assumption | exact (Below.refl _ _).drew) hb5; have hy5 := (hbW.block _ (lt_of_block HY.out)).trans HY.out; obtain ⟨⟨c0, c1, c2, c3, c4, c5, c6⟩, -⟩ := seven_cells hy5) | (go_at_call 13; refine (LC2.out _).mono ?_; rintro e w5 ⟨rfl, hb5⟩; have hbW := bstep (a := w3) (by first | assumption | exact (Below.refl _ _).drew) hb5; have hy5 := (hbW.block _ (lt_of_block HY.out)).trans HY.out; obtain ⟨⟨c0, c1, c2, c3, c4, c5, c6⟩, -⟩ := seven_cells hy5))
    go_wp2_with fail
    go_meet
    exact ⟨rfl, _, rfl, by assumption⟩
  case rest =>
    obtain ⟨rfl, wx, rfl, hbx⟩ := hcut
    have hzx := (hbx.block _ (lt_of_block HY.out)).trans HY.out
    have hBx := hB3.trans (hbx.mono hB3.size)
    clear hbx hB3 c0 c1 c2 c3 c4 c5 c6 LA SC2 HY
    have hmx := hm.keep0 hBx
    have PA2 := Lib.hid (PA.out wx hmx)
    clear PA hmx
    by_cases hk : 1 ≤ ak ∧ ak ≤ 12
    · rw [hpl hk] at PA2
      have PA3 : Hid (Calls Tryd.prog 10 #[.string (strOfNums LN)] wx (fun e w' => e = .returned (.tuple #[.agg #[.int .i64 ck, .int .i64 cv, .string (strOfNums cnm), .int .i64 cn, .int .i64 cm, .int .i64 cp, .int .i64 cx], .int .i64 0]) ∧ Below wx.heap.size wx w')) := PA2
      have hS0 : LN.length ≠ 0 := fun e => hli hk (List.eq_nil_of_length_eq_zero e)
      have hem2 : (strOfNums LN).toList.isEmpty = false := by rw [hem]; simpa using hS0
      have g1 : ((strOfNums LN).toList == []) = false := by rw [← hem2]; cases (strOfNums LN).toList <;> rfl
      clear PA2 hpl hlo hli hk hem hS0 hLb hLl
      generalize strOfNums LN = s1 at *
      generalize strOfNums cnm = cs at *
      go_upto_region 6 with (go_at_call 10; refine PA3.out.mono ?_; rintro e w4 ⟨rfl, hb4⟩)
      have hy4 := heap_alloc_new w4 (.cells #[.int .i64 ck, .int .i64 cv, .string cs, .int .i64 cn, .int .i64 cm, .int .i64 cp, .int .i64 cx] 23)
      have hba := below_alloc w4 (.cells #[.int .i64 ck, .int .i64 cv, .string cs, .int .i64 cn, .int .i64 cm, .int .i64 cp, .int .i64 cx] 23)
      have hz4 := (hba.block _ (lt_of_block ((hb4.block _ (lt_of_block hzx)).trans hzx))).trans ((hb4.block _ (lt_of_block hzx)).trans hzx)
      have hb5 := (hBx.trans (hb4.mono hBx.size)).trans (hba.mono (hBx.trans (hb4.mono hBx.size)).size)
      clear hba hb4 hzx PA3
      generalize w4.alloc (.cells #[.int .i64 ck, .int .i64 cv, .string cs, .int .i64 cn, .int .i64 cm, .int .i64 cp, .int .i64 cx] 23) = W4 at *
      generalize w4.heap.size = xb at *
      have HY4 := Lib.hid hy4
      have HZ4 := Lib.hid hz4
      obtain ⟨⟨c0, c1, c2, c3, c4, c5, c6⟩, -⟩ := seven_cells hz4
      obtain ⟨⟨d0, d1, d2, d3, d4, d5, d6⟩, -⟩ := seven_cells hy4
      clear hz4 hy4
      have hm4 := hm.keep0 hb5
      have AW : Hid (∀ w', Below W4.heap.size W4 w' → Calls Tryd.prog 12 #[] w' (TrueP w')) := fun w' h => awake_any w' (hm4.keep0 h)

      go_upto_region 8 with fail
      go_region_held3 (fun w' => w'.cell? ⟨w.heap.size, 0, none⟩ = some (.int .i64 ak) ∧ w'.cell? ⟨w.heap.size, 1, none⟩ = some (.int .i64 av) ∧ w'.cell? ⟨w.heap.size, 2, none⟩ = some (.string (strOfNums nm2)) ∧ w'.cell? ⟨w.heap.size, 3, none⟩ = some (.int .i64 an) ∧ w'.cell? ⟨w.heap.size, 4, none⟩ = some (.int .i64 am) ∧ w'.cell? ⟨w.heap.size, 5, none⟩ = some (.int .i64 ap) ∧ w'.cell? ⟨w.heap.size, 6, none⟩ = some (.int .i64 ax) ∧ w'.cell? ⟨xb, 0, none⟩ = some (.int .i64 ck) ∧ w'.cell? ⟨xb, 1, none⟩ = some (.int .i64 cv) ∧ w'.cell? ⟨xb, 2, none⟩ = some (.string cs) ∧ w'.cell? ⟨xb, 3, none⟩ = some (.int .i64 cn) ∧ w'.cell? ⟨xb, 4, none⟩ = some (.int .i64 cm) ∧ w'.cell? ⟨xb, 5, none⟩ = some (.int .i64 cp) ∧ w'.cell? ⟨xb, 6, none⟩ = some (.int .i64 cx)) (go_keep) (first | (go_at_call 13; refine (LC2.out _).mono ?_; rintro e w6 ⟨rfl, hb6⟩; have hbW := bstep (a := W4) (by first | assumption | exact (Below.refl _ _) | exact (Below.refl _ _).drew) hb6; have hy5 := (hbW.block _ (lt_of_block HY4.out)).trans HY4.out; have hz5 := (hbW.block _ (lt_of_block HZ4.out)).trans HZ4.out; obtain ⟨⟨c0, c1, c2, c3, c4, c5, c6⟩, -⟩ := seven_cells hz5; obtain ⟨⟨d0, d1, d2, d3, d4, d5, d6⟩, -⟩ := seven_cells hy5) | (go_at_call 12; refine (AW.out _ (by assumption)).mono ?_; rintro e w6 ⟨rfl, hb6⟩; have hbW := bstep (a := W4) (by first | assumption | exact (Below.refl _ _) | exact (Below.refl _ _).drew) hb6; have hy5 := (hbW.block _ (lt_of_block HY4.out)).trans HY4.out; have hz5 := (hbW.block _ (lt_of_block HZ4.out)).trans HZ4.out; obtain ⟨⟨c0, c1, c2, c3, c4, c5, c6⟩, -⟩ := seven_cells hz5; obtain ⟨⟨d0, d1, d2, d3, d4, d5, d6⟩, -⟩ := seven_cells hy5))
      repeat (first | go_guarded | go_step | go_upon)
      go_ret
      exact ⟨rfl, hb5.trans (Below.mono (by assumption) hb5.size)⟩
    · have hL0 := hlo hk
      subst hL0
      have PA3 : Hid (Calls Tryd.prog 10 #[.string (strOfNums [])] wx (fun e w' => e = .returned (.tuple #[.agg #[.int .i64 0, .int .i64 0, .string (ByteArray.mk #[]), .int .i64 0, .int .i64 0, .int .i64 0, .int .i64 0], .int .i64 4]) ∧ Below wx.heap.size wx w')) := by
        have := PA2.out
        rw [show parseL [] = none by kernel_rfl] at this
        exact this
      have hem2 : (strOfNums []).toList.isEmpty = true := hem
      clear PA2 hpl hlo hli hk hem hLb hLl LC2
      go_upto_region 6 with (go_at_call 10; refine PA3.out.mono ?_; rintro e w4 ⟨rfl, hb4⟩)
      have hy4 := heap_alloc_new w4 (.cells #[.int .i64 0, .int .i64 0, .string (ByteArray.mk #[]), .int .i64 0, .int .i64 0, .int .i64 0, .int .i64 0] 23)
      have hba := below_alloc w4 (.cells #[.int .i64 0, .int .i64 0, .string (ByteArray.mk #[]), .int .i64 0, .int .i64 0, .int .i64 0, .int .i64 0] 23)
      have hz4 := (hba.block _ (lt_of_block ((hb4.block _ (lt_of_block hzx)).trans hzx))).trans ((hb4.block _ (lt_of_block hzx)).trans hzx)
      have hb5 := (hBx.trans (hb4.mono hBx.size)).trans (hba.mono (hBx.trans (hb4.mono hBx.size)).size)
      clear hba hb4 hzx PA3
      generalize w4.alloc (.cells #[.int .i64 0, .int .i64 0, .string (ByteArray.mk #[]), .int .i64 0, .int .i64 0, .int .i64 0, .int .i64 0] 23) = W4 at *
      generalize w4.heap.size = xb at *
      have HY4 := Lib.hid hy4
      have HZ4 := Lib.hid hz4
      obtain ⟨⟨c0, c1, c2, c3, c4, c5, c6⟩, -⟩ := seven_cells hz4
      obtain ⟨⟨d0, d1, d2, d3, d4, d5, d6⟩, -⟩ := seven_cells hy4
      clear hz4 hy4
      have hm4 := hm.keep0 hb5
      have AW : Hid (∀ w', Below W4.heap.size W4 w' → Calls Tryd.prog 12 #[] w' (TrueP w')) := fun w' h => awake_any w' (hm4.keep0 h)

      repeat (first | (go_at_call 12; refine (AW.out _ (by first | assumption | exact (Below.refl _ _) | exact (Below.refl _ _).drew)).mono ?_; rintro e w6 ⟨rfl, hb6⟩; have hbL := bstep (a := W4) (by first | assumption | exact (Below.refl _ _) | exact (Below.refl _ _).drew) hb6; dsimp only) | go_guarded | go_step | go_upon)
      go_ret
      exact ⟨rfl, hb5.trans (hbL.mono hb5.size)⟩
end Go.Proofs.YtflpblggpbgeiaaDoor
