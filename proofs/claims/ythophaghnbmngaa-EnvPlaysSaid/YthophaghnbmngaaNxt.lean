/- The walks of env's Next and of what stands ahead of it. -/
import Derived.Test.YthophaghnbmngaaEnv
namespace Go.Proofs.Ythophaghnbmngaa
open Go.RowKit Go.Calli Go.Envp
set_option linter.unusedVariables false
set_option maxRecDepth 100000 in
set_option maxHeartbeats 1000000 in
theorem move_else (b : Nat) (x : Sh) (t L : Int) (ht : t = 2 ∨ t = 4) (hx : x.Ok) (w : World) (h : Sx 41 w b x (t, L)) : Calls Try.prog 18 #[.pointer (some ⟨b, 0, none⟩)] w (MovPost 41 b x (mv x t L) w) := by
  obtain ⟨c0, c1, c2, c3, c4, c5, f4, f5⟩ := six_cells h
  have hlo := low_bd hx
  have HM := Lib.hid (show mv x t L = (t, L) by rcases ht with rfl | rfl <;> simp [mv])
  have HX := Lib.hid h
  have hlow : low x = x.s * 65536 := rfl
  rw [hlow] at hlo
  clear hlow h
  unfold Sh.Ok at hx
  rcases ht with rfl | rfl
  all_goals
    go_enter Try.func18, Try.ntmps18
    go_wp2_with fail
    go_end0
    exact ⟨rfl, by rw [HM.out]; exact HX.out, Keeps.refl _ _⟩
theorem move_any (b : Nat) (x : Sh) (t L : Int) (hx : x.Ok) (hs : St (t, L)) (w : World) (h : Sx 41 w b x (t, L)) : Calls Try.prog 18 #[.pointer (some ⟨b, 0, none⟩)] w (MovPost 41 b x (mv x t L) w) := by
  obtain ⟨h1, h2, h3, h4⟩ := hs
  simp only at h1 h2 h3 h4
  by_cases e0 : t = 0
  · subst e0; exact move_0 b x L hx h3 h4 w h
  · by_cases e1 : t = 1
    · subst e1; exact move_1 b x L hx h3 h4 w h
    · by_cases e3 : t = 3
      · subst e3; exact move_3 b x L hx h3 h4 w h
      · exact move_else b x t L (by omega) hx w h
def NxtPost (T : Nat) (b : Nat) (x : Sh) (p : Int × Int) (w : World) (e : Ending) (w' : World) : Prop := e = .returned (.int .i64 (vl x p)) ∧ Sx T w' b x (nx x p) ∧ Keeps (fun k => k = b) w w'
/-- The three tests ahead of a sample. -/
def tst (t k n : Int) : Bool := decide (t = k ∧ n = 0)
theorem tst_no {t k n : Int} (h : ¬ (t = k ∧ n = 0)) : tst t k n = false := decide_eq_false h
theorem tst_yes {t k n : Int} (h : t = k ∧ n = 0) : tst t k n = true := decide_eq_true h
theorem z0_eq (x : Sh) (t L : Int) : z0 x t L = if tst t 0 x.a = true then (1, 16777216) else (t, L) := by unfold z0 tst; simp
theorem z1_eq (x : Sh) (t L : Int) : z1 x t L = if tst t 1 x.d = true then (2, low x) else (t, L) := by unfold z1 tst; simp
theorem z3_eq (x : Sh) (t L : Int) : z3 x t L = if tst t 3 x.r = true then (4, 0) else (t, L) := by unfold z3 tst; simp
theorem z0_st {x : Sh} {t L : Int} (hs : St (t, L)) : St (z0 x t L) := by unfold z0; split <;> simp_all [St]
theorem z1_st {x : Sh} (h : x.Ok) {t L : Int} (hs : St (t, L)) : St (z1 x t L) := by have := low_bd h; unfold z1; split <;> simp_all [St]
theorem z3_st {x : Sh} {t L : Int} (hs : St (t, L)) : St (z3 x t L) := by unfold z3; split <;> simp_all [St]
set_option maxRecDepth 100000 in
set_option maxHeartbeats 4000000 in
theorem next_any (b : Nat) (x : Sh) (t L : Int) (hx : x.Ok) (hs : St (t, L)) (w : World) (h : Sx 41 w b x (t, L)) : Calls Try.prog 11 #[.pointer (some ⟨b, 0, none⟩)] w (NxtPost 41 b x (t, L) w) := by
  have hlo := low_bd hx
  have hlow : low x = x.s * 65536 := rfl
  rw [hlow] at hlo
  clear hlow
  have hxx := hx
  unfold Sh.Ok at hxx
  have HO := Lib.hid hx
  clear hx
  obtain ⟨c0, c1, c2, c3, c4, c5, f4, f5⟩ := six_cells h
  have HX := Lib.hid h
  clear h
  go_enter Try.func11, Try.ntmps11
  go_upto_region 3 with fail
  go_cut [18] (fun v wx => v = .bool (tst t 0 x.a) ∧ w = wx)
  case first =>
    by_cases h1 : t = 0
    · have hb1 : (t == 0) = true := by simpa using h1
      by_cases h2 : x.a = 0
      · have hb2 : (x.a == 0) = true := by simpa using h2
        have e := Lib.hid (tst_yes ⟨h1, h2⟩)
        clear h1 h2
        go_wp2_with fail
        go_meet
        exact ⟨by rw [e.out], rfl⟩
      · have hb2 : (x.a == 0) = false := by simpa using h2
        have e := Lib.hid (tst_no (fun h => h2 h.2) : tst t 0 x.a = false)
        clear h1 h2
        go_wp2_with fail
        go_meet
        exact ⟨by rw [e.out], rfl⟩
    · have hb1 : (t == 0) = false := by simpa using h1
      have e := Lib.hid (tst_no (fun h => h1 h.1) : tst t 0 x.a = false)
      clear h1
      go_wp2_with fail
      go_meet
      exact ⟨by rw [e.out], rfl⟩
  case rest =>
  obtain ⟨rfl, rfl⟩ := hcut
  go_upto_if 18 with fail
  go_cut [] (fun wx => ∃ t' L', Hid (z0 x t L = (t', L')) ∧ Sx 41 wx b x (t', L') ∧ Keeps (fun k => k = b) w wx)
  case first =>
    have hz := z0_eq x t L
    cases hd : tst t 0 x.a with
    | true =>
      rw [hd, if_pos rfl] at hz
      have HZ := Lib.hid hz
      clear hz
      go_wp2_with fail
      go_meet
      exact ⟨_, _, HZ.out, (HX.out.level _).stage _, ((Keeps.refl (fun k => k = b) w).setCell (p := ⟨b, 5, none⟩) (.inr rfl) _).setCell (p := ⟨b, 4, none⟩) (.inr rfl) _⟩
    | false =>
      rw [hd, if_neg (by decide)] at hz
      have HZ := Lib.hid hz
      clear hz
      go_wp2_with fail
      go_meet
      exact ⟨_, _, HZ.out, HX.out, Keeps.refl _ _⟩
  case rest =>
  clear c0 c1 c2 c3 c4 c5 f4 f5 HX
  obtain ⟨w1, rfl⟩ : ∃ w', w' = wc := ⟨_, rfl⟩
  obtain ⟨t1, L1, hz1, hX, hk1⟩ := hcut
  obtain ⟨c0, c1, c2, c3, c4, c5, f4, f5⟩ := six_cells hX
  have HX := Lib.hid hX
  clear hX
  have hs1 := z0_st (x := x) hs
  rw [hz1.out] at hs1
  go_upto_region 5 with fail
  go_cut [37] (fun v wx => v = .bool (tst t1 1 x.d) ∧ w1 = wx)
  case first =>
    by_cases h1 : t1 = 1
    · have hb1 : (t1 == 1) = true := by simpa using h1
      by_cases h2 : x.d = 0
      · have hb2 : (x.d == 0) = true := by simpa using h2
        have e := Lib.hid (tst_yes ⟨h1, h2⟩)
        clear h1 h2
        go_wp2_with fail
        go_meet
        exact ⟨by rw [e.out], rfl⟩
      · have hb2 : (x.d == 0) = false := by simpa using h2
        have e := Lib.hid (tst_no (fun h => h2 h.2) : tst t1 1 x.d = false)
        clear h1 h2
        go_wp2_with fail
        go_meet
        exact ⟨by rw [e.out], rfl⟩
    · have hb1 : (t1 == 1) = false := by simpa using h1
      have e := Lib.hid (tst_no (fun h => h1 h.1) : tst t1 1 x.d = false)
      clear h1
      go_wp2_with fail
      go_meet
      exact ⟨by rw [e.out], rfl⟩
  case rest =>
  obtain ⟨rfl, rfl⟩ := hcut
  go_upto_if 37 with fail
  go_cut [] (fun wx => ∃ t' L', Hid (z1 x t1 L1 = (t', L')) ∧ Sx 41 wx b x (t', L') ∧ Keeps (fun k => k = b) w1 wx)
  case first =>
    have hz := z1_eq x t1 L1
    cases hd : tst t1 1 x.d with
    | true =>
      rw [hd, if_pos rfl] at hz
      have HZ := Lib.hid hz
      clear hz
      go_wp2_with fail
      go_meet
      exact ⟨_, _, HZ.out, (HX.out.level _).stage _, ((Keeps.refl (fun k => k = b) w1).setCell (p := ⟨b, 5, none⟩) (.inr rfl) _).setCell (p := ⟨b, 4, none⟩) (.inr rfl) _⟩
    | false =>
      rw [hd, if_neg (by decide)] at hz
      have HZ := Lib.hid hz
      clear hz
      go_wp2_with fail
      go_meet
      exact ⟨_, _, HZ.out, HX.out, Keeps.refl _ _⟩
  case rest =>
  clear c0 c1 c2 c3 c4 c5 f4 f5 HX
  obtain ⟨w2, rfl⟩ : ∃ w', w' = wc := ⟨_, rfl⟩
  obtain ⟨t2, L2, hz2, hX, hk2⟩ := hcut
  obtain ⟨c0, c1, c2, c3, c4, c5, f4, f5⟩ := six_cells hX
  have HX := Lib.hid hX
  clear hX
  have hs2 := z1_st HO.out hs1
  rw [hz2.out] at hs2
  go_upto_region 7 with fail
  go_cut [62] (fun v wx => v = .bool (tst t2 3 x.r) ∧ w2 = wx)
  case first =>
    by_cases h1 : t2 = 3
    · have hb1 : (t2 == 3) = true := by simpa using h1
      by_cases h2 : x.r = 0
      · have hb2 : (x.r == 0) = true := by simpa using h2
        have e := Lib.hid (tst_yes ⟨h1, h2⟩)
        clear h1 h2
        go_wp2_with fail
        go_meet
        exact ⟨by rw [e.out], rfl⟩
      · have hb2 : (x.r == 0) = false := by simpa using h2
        have e := Lib.hid (tst_no (fun h => h2 h.2) : tst t2 3 x.r = false)
        clear h1 h2
        go_wp2_with fail
        go_meet
        exact ⟨by rw [e.out], rfl⟩
    · have hb1 : (t2 == 3) = false := by simpa using h1
      have e := Lib.hid (tst_no (fun h => h1 h.1) : tst t2 3 x.r = false)
      clear h1
      go_wp2_with fail
      go_meet
      exact ⟨by rw [e.out], rfl⟩
  case rest =>
  obtain ⟨rfl, rfl⟩ := hcut
  go_upto_if 62 with fail
  go_cut [] (fun wx => ∃ t' L', Hid (z3 x t2 L2 = (t', L')) ∧ Sx 41 wx b x (t', L') ∧ Keeps (fun k => k = b) w2 wx)
  case first =>
    have hz := z3_eq x t2 L2
    cases hd : tst t2 3 x.r with
    | true =>
      rw [hd, if_pos rfl] at hz
      have HZ := Lib.hid hz
      clear hz
      go_wp2_with fail
      go_meet
      exact ⟨_, _, HZ.out, (HX.out.level _).stage _, ((Keeps.refl (fun k => k = b) w2).setCell (p := ⟨b, 5, none⟩) (.inr rfl) _).setCell (p := ⟨b, 4, none⟩) (.inr rfl) _⟩
    | false =>
      rw [hd, if_neg (by decide)] at hz
      have HZ := Lib.hid hz
      clear hz
      go_wp2_with fail
      go_meet
      exact ⟨_, _, HZ.out, HX.out, Keeps.refl _ _⟩
  case rest =>
  clear c0 c1 c2 c3 c4 c5 f4 f5 HX
  obtain ⟨w3, rfl⟩ : ∃ w', w' = wc := ⟨_, rfl⟩
  obtain ⟨t3, L3, hz3, hX, hk3⟩ := hcut
  obtain ⟨c0, c1, c2, c3, c4, c5, f4, f5⟩ := six_cells hX
  have HX := Lib.hid hX
  clear hX
  have hs3 := z3_st (x := x) hs2
  rw [hz3.out] at hs3
  have hzz : zz x t L = (t3, L3) := by
    show z3 x (z1 x (z0 x t L).1 (z0 x t L).2).1 (z1 x (z0 x t L).1 (z0 x t L).2).2 = _
    rw [hz1.out]; show z3 x (z1 x t1 L1).1 (z1 x t1 L1).2 = _
    rw [hz2.out]; exact hz3.out
  have hv : vl x (t, L) = val L3 := by show val (zz x t L).2 = _; rw [hzz]
  have hn : nx x (t, L) = mv x t3 L3 := by show mv x (zz x t L).1 (zz x t L).2 = _; rw [hzz]
  have HV := Lib.hid hv
  have HN := Lib.hid hn
  have hb := hs3.2.2
  simp only at hb
  have hk := (hk1.trans hk2).trans hk3
  have HS := Lib.hid hs3
  have hvb : -1000000 ≤ val L3 ∧ val L3 ≤ 1000000 := by unfold val; omega
  clear hzz hv hn hs1 hs2 hs3 hk1 hk2 hk3 hz1 hz2 hz3 c0 c1 c2 c3 f4 f5 c4
  go_wp2_with (first | (go_at_call 17; refine (round_any L3 hb.1 hb.2 _).mono ?_; rintro e w4 ⟨rfl, nq, rfl⟩) | (go_at_call 18; refine (move_any b x t3 L3 HO.out HS.out _ (HX.out.drewN nq)).mono ?_; rintro e w5 ⟨rfl, hX5, hk5⟩))
  go_ret
  exact ⟨ret_int HV.out.symm, by rw [HN.out]; exact hX5, (hk.drewN nq).trans hk5⟩
end Go.Proofs.Ythophaghnbmngaa
