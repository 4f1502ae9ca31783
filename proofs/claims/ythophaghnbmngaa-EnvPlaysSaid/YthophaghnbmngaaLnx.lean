/- The walk of the document's Next. -/
import Derived.Test.YthophaghnbmngaaNxt
namespace Go.Proofs.Ythophaghnbmngaa
open Go.RowKit Go.Calli Go.Envp
set_option linter.unusedVariables false
set_option maxRecDepth 100000 in
set_option maxHeartbeats 8000000 in
theorem lnext_any (b : Nat) (x : Sh) (t L : Int) (hx : x.Ok) (hs : St (t, L)) (w : World) (h : Sx 33 w b x (t, L)) : Calls Try.prog 12 #[.pointer (some ⟨b, 0, none⟩)] w (NxtPost 33 b x (t, L) w) := by
  have hlo := low_bd hx
  have hlow : low x = x.s * 65536 := rfl
  rw [hlow] at hlo
  clear hlow
  have hxx := hx
  unfold Sh.Ok at hxx
  have HO := Lib.hid hx
  clear hx
  obtain ⟨c0, c1, c2, c3, c4, c5, f4, f5⟩ := six_cells h
  have HX := Lib.hid h
  clear h
  go_enter Try.func12, Try.ntmps12
  go_upto_region 2 with fail
  go_cut [23] (fun v wx => v = .bool (tst t 0 x.a) ∧ w = wx)
  case first =>
    by_cases h1 : t = 0
    · have hb1 : (t == 0) = true := by simpa using h1
      by_cases h2 : x.a = 0
      · have hb2 : (x.a == 0) = true := by simpa using h2
        have e := Lib.hid (tst_yes ⟨h1, h2⟩)
        clear h1 h2
        go_wp2_with fail
        go_meet
        exact ⟨by rw [e.out], rfl⟩
      · have hb2 : (x.a == 0) = false := by simpa using h2
        have e := Lib.hid (tst_no (fun h => h2 h.2) : tst t 0 x.a = false)
        clear h1 h2
        go_wp2_with fail
        go_meet
        exact ⟨by rw [e.out], rfl⟩
    · have hb1 : (t == 0) = false := by simpa using h1
      have e := Lib.hid (tst_no (fun h => h1 h.1) : tst t 0 x.a = false)
      clear h1
      go_wp2_with fail
      go_meet
      exact ⟨by rw [e.out], rfl⟩
  case rest =>
  obtain ⟨rfl, rfl⟩ := hcut
  go_upto_if 23 with fail
  go_cut [] (fun wx => ∃ t' L', Hid (z0 x t L = (t', L')) ∧ Sx 33 wx b x (t', L') ∧ Keeps (fun k => k = b) w wx)
  case first =>
    have hz := z0_eq x t L
    cases hd : tst t 0 x.a with
    | true =>
      rw [hd, if_pos rfl] at hz
      have HZ := Lib.hid hz
      clear hz
      go_wp2_with fail
      go_meet
      exact ⟨_, _, HZ.out, (HX.out.level _).stage _, ((Keeps.refl (fun k => k = b) w).setCell (p := ⟨b, 5, none⟩) (.inr rfl) _).setCell (p := ⟨b, 4, none⟩) (.inr rfl) _⟩
    | false =>
      rw [hd, if_neg (by decide)] at hz
      have HZ := Lib.hid hz
      clear hz
      go_wp2_with fail
      go_meet
      exact ⟨_, _, HZ.out, HX.out, Keeps.refl _ _⟩
  case rest =>
  clear c0 c1 c2 c3 c4 c5 f4 f5 HX
  obtain ⟨w1, rfl⟩ : ∃ w', w' = wc := ⟨_, rfl⟩
  obtain ⟨t1, L1, hz1, hX, hk1⟩ := hcut
  obtain ⟨c0, c1, c2, c3, c4, c5, f4, f5⟩ := six_cells hX
  have HX := Lib.hid hX
  clear hX
  have hs1 := z0_st (x := x) hs
  rw [hz1.out] at hs1
  go_upto_region 5 with fail
  go_cut [42] (fun v wx => v = .bool (tst t1 1 x.d) ∧ w1 = wx)
  case first =>
    by_cases h1 : t1 = 1
    · have hb1 : (t1 == 1) = true := by simpa using h1
      by_cases h2 : x.d = 0
      · have hb2 : (x.d == 0) = true := by simpa using h2
        have e := Lib.hid (tst_yes ⟨h1, h2⟩)
        clear h1 h2
        go_wp2_with fail
        go_meet
        exact ⟨by rw [e.out], rfl⟩
      · have hb2 : (x.d == 0) = false := by simpa using h2
        have e := Lib.hid (tst_no (fun h => h2 h.2) : tst t1 1 x.d = false)
        clear h1 h2
        go_wp2_with fail
        go_meet
        exact ⟨by rw [e.out], rfl⟩
    · have hb1 : (t1 == 1) = false := by simpa using h1
      have e := Lib.hid (tst_no (fun h => h1 h.1) : tst t1 1 x.d = false)
      clear h1
      go_wp2_with fail
      go_meet
      exact ⟨by rw [e.out], rfl⟩
  case rest =>
  obtain ⟨rfl, rfl⟩ := hcut
  go_upto_if 42 with fail
  go_cut [] (fun wx => ∃ t' L', Hid (z1 x t1 L1 = (t', L')) ∧ Sx 33 wx b x (t', L') ∧ Keeps (fun k => k = b) w1 wx)
  case first =>
    have hz := z1_eq x t1 L1
    cases hd : tst t1 1 x.d with
    | true =>
      rw [hd, if_pos rfl] at hz
      have HZ := Lib.hid hz
      clear hz
      go_wp2_with fail
      go_meet
      exact ⟨_, _, HZ.out, (HX.out.level _).stage _, ((Keeps.refl (fun k => k = b) w1).setCell (p := ⟨b, 5, none⟩) (.inr rfl) _).setCell (p := ⟨b, 4, none⟩) (.inr rfl) _⟩
    | false =>
      rw [hd, if_neg (by decide)] at hz
      have HZ := Lib.hid hz
      clear hz
      go_wp2_with fail
      go_meet
      exact ⟨_, _, HZ.out, HX.out, Keeps.refl _ _⟩
  case rest =>
  clear c0 c1 c2 c3 c4 c5 f4 f5 HX
  obtain ⟨w2, rfl⟩ : ∃ w', w' = wc := ⟨_, rfl⟩
  obtain ⟨t2, L2, hz2, hX, hk2⟩ := hcut
  obtain ⟨c0, c1, c2, c3, c4, c5, f4, f5⟩ := six_cells hX
  have HX := Lib.hid hX
  clear hX
  have hs2 := z1_st HO.out hs1
  rw [hz2.out] at hs2
  go_upto_region 8 with fail
  go_cut [62] (fun v wx => v = .bool (tst t2 3 x.r) ∧ w2 = wx)
  case first =>
    by_cases h1 : t2 = 3
    · have hb1 : (t2 == 3) = true := by simpa using h1
      by_cases h2 : x.r = 0
      · have hb2 : (x.r == 0) = true := by simpa using h2
        have e := Lib.hid (tst_yes ⟨h1, h2⟩)
        clear h1 h2
        go_wp2_with fail
        go_meet
        exact ⟨by rw [e.out], rfl⟩
      · have hb2 : (x.r == 0) = false := by simpa using h2
        have e := Lib.hid (tst_no (fun h => h2 h.2) : tst t2 3 x.r = false)
        clear h1 h2
        go_wp2_with fail
        go_meet
        exact ⟨by rw [e.out], rfl⟩
    · have hb1 : (t2 == 3) = false := by simpa using h1
      have e := Lib.hid (tst_no (fun h => h1 h.1) : tst t2 3 x.r = false)
      clear h1
      go_wp2_with fail
      go_meet
      exact ⟨by rw [e.out], rfl⟩
  case rest =>
  obtain ⟨rfl, rfl⟩ := hcut
  go_upto_if 62 with fail
  go_cut [] (fun wx => ∃ t' L', Hid (z3 x t2 L2 = (t', L')) ∧ Sx 33 wx b x (t', L') ∧ Keeps (fun k => k = b) w2 wx)
  case first =>
    have hz := z3_eq x t2 L2
    cases hd : tst t2 3 x.r with
    | true =>
      rw [hd, if_pos rfl] at hz
      have HZ := Lib.hid hz
      clear hz
      go_wp2_with fail
      go_meet
      exact ⟨_, _, HZ.out, (HX.out.level _).stage _, ((Keeps.refl (fun k => k = b) w2).setCell (p := ⟨b, 5, none⟩) (.inr rfl) _).setCell (p := ⟨b, 4, none⟩) (.inr rfl) _⟩
    | false =>
      rw [hd, if_neg (by decide)] at hz
      have HZ := Lib.hid hz
      clear hz
      go_wp2_with fail
      go_meet
      exact ⟨_, _, HZ.out, HX.out, Keeps.refl _ _⟩
  case rest =>
  clear c0 c1 c2 c3 c4 c5 f4 f5 HX
  obtain ⟨w3, rfl⟩ : ∃ w', w' = wc := ⟨_, rfl⟩
  obtain ⟨t3, L3, hz3, hX, hk3⟩ := hcut
  obtain ⟨c0, c1, c2, c3, c4, c5, f4, f5⟩ := six_cells hX
  have HX := Lib.hid hX
  clear hX
  have hs3 := z3_st (x := x) hs2
  rw [hz3.out] at hs3
  have hzz : zz x t L = (t3, L3) := by
    show z3 x (z1 x (z0 x t L).1 (z0 x t L).2).1 (z1 x (z0 x t L).1 (z0 x t L).2).2 = _
    rw [hz1.out]; show z3 x (z1 x t1 L1).1 (z1 x t1 L1).2 = _
    rw [hz2.out]; exact hz3.out
  have hv : vl x (t, L) = val L3 := by show val (zz x t L).2 = _; rw [hzz]
  have hn : nx x (t, L) = mv x t3 L3 := by show mv x (zz x t L).1 (zz x t L).2 = _; rw [hzz]
  have HV := Lib.hid hv
  have HN := Lib.hid hn
  obtain ⟨hb1, hb2, hb3, hb4⟩ := hs3
  simp only at hb1 hb2 hb3 hb4
  have hk := (hk1.trans hk2).trans hk3
  have hvb : -1000000 ≤ val L3 ∧ val L3 ≤ 1000000 := by unfold val; omega
  clear hzz hv hn hs1 hs2 hk1 hk2 hk3 hz1 hz2 hz3
  by_cases e0 : t3 = 0
  · subst e0
    have hsl := slp_bd (16777216) x.a (by have := low_bd HO.out; omega) (by have := low_bd HO.out; omega)
    have hS := fun w => lslope_any (16777216) x.a (by have := low_bd HO.out; omega) (by have := low_bd HO.out; omega) (by omega) w
    have HM := Lib.hid (show mv x 0 L3 = if 16777216 ≤ L3 + slp 16777216 x.a then (1, 16777216) else (0, L3 + slp 16777216 x.a) from rfl)
    by_cases hge : 16777216 ≤ L3 + slp 16777216 x.a
    · rw [if_pos hge] at HM
      go_upto_region 14 with fail
      go_still_tail 14, (by kernel_rfl)
      still_call (flip (hS _))
      repeat still_step
      refine wpStill_nil ?_
      change wpList _ _ _ _ _ w3.drew
      go_wp2_with fail
      go_ret
      exact ⟨ret_int (by rw [HV.out]; unfold val; omega), by rw [HN.out, HM.out]; exact (((HX.out.level _).level _).stage _).cast (by first | rfl | omega), hk.trans ((((Keeps.refl (fun k => k = b) w3).setCell (p := ⟨b, 5, none⟩) (.inr rfl) _).setCell (p := ⟨b, 5, none⟩) (.inr rfl) _).setCell (p := ⟨b, 4, none⟩) (.inr rfl) _).drew⟩
    · rw [if_neg hge] at HM
      go_upto_region 14 with fail
      go_still_tail 14, (by kernel_rfl)
      still_call (flip (hS _))
      repeat still_step
      refine wpStill_nil ?_
      change wpList _ _ _ _ _ w3.drew
      go_wp2_with fail
      go_ret
      exact ⟨ret_int (by rw [HV.out]; unfold val; omega), by rw [HN.out, HM.out]; exact (HX.out.level _).cast (by first | rfl | omega), hk.trans ((Keeps.refl (fun k => k = b) w3).setCell (p := ⟨b, 5, none⟩) (.inr rfl) _).drew⟩
  · have n0 : (t3 == 0) = false := by simpa using e0
    by_cases e1' : t3 = 1
    · subst e1'
      clear n0 e0
      have hsl := slp_bd (16777216 - low x) x.d (by have := low_bd HO.out; omega) (by have := low_bd HO.out; omega)
      have hS := fun w => lslope_any (16777216 - low x) x.d (by have := low_bd HO.out; omega) (by have := low_bd HO.out; omega) (by omega) w
      have HM := Lib.hid (show mv x 1 L3 = if L3 - slp (16777216 - low x) x.d ≤ low x then (2, low x) else (1, L3 - slp (16777216 - low x) x.d) from rfl)
      have hlow : low x = x.s * 65536 := rfl
      rw [hlow] at hS hsl HM
      clear hlow
      have e1 : IntKind.i64.wrap (16777216 - x.s * 65536) = 16777216 - x.s * 65536 := IntWalk.i64_in _ (by omega)
      by_cases hge : L3 - slp (16777216 - x.s * 65536) x.d ≤ x.s * 65536
      · rw [if_pos hge] at HM
        go_upto_region 19 with fail
        go_still_tail 16, (by kernel_rfl)
        still_call (flip (hS _))
        repeat still_step
        refine wpStill_nil ?_
        change wpList _ _ _ _ _ w3.drew
        go_wp2_with fail
        go_ret
        exact ⟨ret_int (by rw [HV.out]; unfold val; omega), by rw [HN.out, HM.out]; exact (((HX.out.level _).level _).stage _).cast (by first | rfl | omega), hk.trans ((((Keeps.refl (fun k => k = b) w3).setCell (p := ⟨b, 5, none⟩) (.inr rfl) _).setCell (p := ⟨b, 5, none⟩) (.inr rfl) _).setCell (p := ⟨b, 4, none⟩) (.inr rfl) _).drew⟩
      · rw [if_neg hge] at HM
        go_upto_region 19 with fail
        go_still_tail 16, (by kernel_rfl)
        still_call (flip (hS _))
        repeat still_step
        refine wpStill_nil ?_
        change wpList _ _ _ _ _ w3.drew
        go_wp2_with fail
        go_ret
        exact ⟨ret_int (by rw [HV.out]; unfold val; omega), by rw [HN.out, HM.out]; exact (HX.out.level _).cast (by first | rfl | omega), hk.trans ((Keeps.refl (fun k => k = b) w3).setCell (p := ⟨b, 5, none⟩) (.inr rfl) _).drew⟩
    · have n1 : (t3 == 1) = false := by simpa using e1'
      by_cases e3 : t3 = 3
      · subst e3
        clear n0 n1 e0 e1'
        have hsl := slp_bd (16777216) x.r (by have := low_bd HO.out; omega) (by have := low_bd HO.out; omega)
        have hS := fun w => lslope_any (16777216) x.r (by have := low_bd HO.out; omega) (by have := low_bd HO.out; omega) (by omega) w
        have HM := Lib.hid (show mv x 3 L3 = if L3 - slp 16777216 x.r ≤ 0 then (4, 0) else (3, L3 - slp 16777216 x.r) from rfl)
        by_cases hge : L3 - slp 16777216 x.r ≤ 0
        · rw [if_pos hge] at HM
          go_upto_region 24 with fail
          go_still_tail 14, (by kernel_rfl)
          still_call (flip (hS _))
          repeat still_step
          refine wpStill_nil ?_
          change wpList _ _ _ _ _ w3.drew
          go_wp2_with fail
          go_ret
          exact ⟨ret_int (by rw [HV.out]; unfold val; omega), by rw [HN.out, HM.out]; exact (((HX.out.level _).level _).stage _).cast (by first | rfl | omega), hk.trans ((((Keeps.refl (fun k => k = b) w3).setCell (p := ⟨b, 5, none⟩) (.inr rfl) _).setCell (p := ⟨b, 5, none⟩) (.inr rfl) _).setCell (p := ⟨b, 4, none⟩) (.inr rfl) _).drew⟩
        · rw [if_neg hge] at HM
          go_upto_region 24 with fail
          go_still_tail 14, (by kernel_rfl)
          still_call (flip (hS _))
          repeat still_step
          refine wpStill_nil ?_
          change wpList _ _ _ _ _ w3.drew
          go_wp2_with fail
          go_ret
          exact ⟨ret_int (by rw [HV.out]; unfold val; omega), by rw [HN.out, HM.out]; exact (HX.out.level _).cast (by first | rfl | omega), hk.trans ((Keeps.refl (fun k => k = b) w3).setCell (p := ⟨b, 5, none⟩) (.inr rfl) _).drew⟩
      · have n3 : (t3 == 3) = false := by simpa using e3
        have HM := Lib.hid (show mv x t3 L3 = (t3, L3) by unfold mv; rw [if_neg e0, if_neg e1', if_neg e3])
        clear e0 e1' e3
        go_wp2_with fail
        go_ret
        exact ⟨ret_int (by rw [HV.out]; unfold val; omega), by rw [HN.out, HM.out]; exact HX.out, hk⟩
end Go.Proofs.Ythophaghnbmngaa
