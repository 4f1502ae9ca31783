/- The statement EnvPlays. -/
import Derived.Test.YthophaghnbmngaaRus
import Derived.Test.YthophaghnbmngaaLnx
namespace Go.Proofs.Ythophaghnbmngaa
open Go.RowKit Go.Calli Go.Envp
set_option linter.unusedVariables false
theorem lnext_p (b : Nat) (x : Sh) (p : Int × Int) (hx : x.Ok) (hs : St p) (w : World) (h : Sx 33 w b x p) : Calls Try.prog 12 #[.pointer (some ⟨b, 0, none⟩)] w (NxtPost 33 b x p w) := by
  obtain ⟨t, L⟩ := p
  exact lnext_any b x t L hx hs w h
/-- The bools of a slice. -/
structure Bools (w : World) (ao : Option Addr) (len : Nat) (bs : List Bool) : Prop where
  lim : len ≤ maxLen
  cell : ∀ i, i < len → ∃ a, ao = some a ∧ w.cell? (a.add i) = some (.bool (bs.getD i false))
theorem Bools.keep0 {w w' : World} {ao : Option Addr} {len : Nat} {bs : List Bool} (h : Bools w ao len bs) (hb : Below w.heap.size w w') : Bools w' ao len bs :=
  ⟨h.lim, fun i hi => by
    obtain ⟨a, ha, hc⟩ := h.cell i hi
    exact ⟨a, ha, by rw [hb.cell (World.block_lt_of_cell? w _ hc)]; exact hc⟩⟩
def CellS (w' : World) (b : Nat) (x : Sh) : Prop := w'.cell? ⟨b, 0, none⟩ = some (.int .i64 x.a) ∧ w'.cell? ⟨b, 1, none⟩ = some (.int .i64 x.d) ∧ w'.cell? ⟨b, 2, none⟩ = some (.int .i64 x.s) ∧ w'.cell? ⟨b, 3, none⟩ = some (.int .i64 x.r)
def PlaRel (x : Sh) (len b P : Nat) (w : World) (v8 : Value) (wr : World) : Prop := ∃ (k : Nat) (p : Int × Int), k ≤ len ∧ k ≤ 200 ∧ v8 = .int .i64 k ∧ St p ∧ Sx 41 wr b x p ∧ Sx 33 wr P x p ∧ Below w.heap.size w wr
set_option maxRecDepth 100000 in
set_option maxHeartbeats 4000000 in
theorem envPlays_any (x : Sh) (ao : Option Addr) (len cap : Nat) (bs : List Bool) (w : World) (hbs : Bools w ao len bs) : Calls Try.prog 3 #[.agg #[.int .i64 x.a, .int .i64 x.d, .int .i64 x.s, .int .i64 x.r], .slice ao len cap] w (TruePost w) := by
  have hlim := hbs.lim
  unfold maxLen at hlim
  have H7 := Lib.hid (fun w => right_any x w)
  have H8 := Lib.hid (fun w => lright_any x w)
  have HBS := Lib.hid hbs
  clear hbs
  have hal : Shp (w.alloc (.cells #[.int .i64 x.a, .int .i64 x.d, .int .i64 x.s, .int .i64 x.r] 23)) w.heap.size x := heap_alloc_new _ _
  have hbw := below_alloc w (.cells #[.int .i64 x.a, .int .i64 x.d, .int .i64 x.s, .int .i64 x.r] 23)
  go_enter Try.func3, Try.ntmps3
  go_upto_region 1 with fail
  generalize w.alloc (.cells #[.int .i64 x.a, .int .i64 x.d, .int .i64 x.s, .int .i64 x.r] 23) = W at *
  obtain ⟨c0, c1, c2, c3⟩ := shp_cells hal
  have HS := Lib.hid hal
  have hsz := lt_of_block hal
  clear hal
  by_cases hok : x.Ok
  · have hNew := Lib.hid (fun w => new_yes x hok w)
    have HK := Lib.hid ((okB_iff x).2 hok)
    have HO := Lib.hid hok
    clear hok
    go_upto_region 2 with (go_at_call 6; refine (hNew.out _).mono ?_; rintro e w1 ⟨b, rfl, hbb, hX, hb1⟩)
    have hS1 := HS.out.keep0 hb1
    have hB1 := bstep hbw hb1
    have hbw2 : w.heap.size < b := by omega
    clear c0 c1 c2 c3 HS hb1 hbw hbb hsz
    obtain ⟨c0, c1, c2, c3⟩ := shp_cells hS1
    have HS1 := Lib.hid hS1
    clear hS1
    go_cut [18] (fun v wx => v = .bool false ∧ Below w1.heap.size w1 wx)
    case first =>
      go_region_held3 (fun w' => w'.cell? ⟨w.heap.size, 0, none⟩ = some (.int .i64 x.a) ∧ w'.cell? ⟨w.heap.size, 1, none⟩ = some (.int .i64 x.d) ∧ w'.cell? ⟨w.heap.size, 2, none⟩ = some (.int .i64 x.s) ∧ w'.cell? ⟨w.heap.size, 3, none⟩ = some (.int .i64 x.r)) (go_keep) (first | (go_at_call 7; refine (H7.out _).mono ?_; rintro e w3 ⟨rfl, hb3⟩; have k0 : w3.cell? ⟨w.heap.size, 0, none⟩ = some (.int .i64 x.a) := cell_later hb3 (by assumption); have k1 : w3.cell? ⟨w.heap.size, 1, none⟩ = some (.int .i64 x.d) := cell_later hb3 (by assumption); have k2 : w3.cell? ⟨w.heap.size, 2, none⟩ = some (.int .i64 x.s) := cell_later hb3 (by assumption); have k3 : w3.cell? ⟨w.heap.size, 3, none⟩ = some (.int .i64 x.r) := cell_later hb3 (by assumption)) | (go_at_call 8; refine (H8.out _).mono ?_; rintro e w4 ⟨rfl, hb4⟩; have m0 : w4.cell? ⟨w.heap.size, 0, none⟩ = some (.int .i64 x.a) := cell_later hb4 (by assumption); have m1 : w4.cell? ⟨w.heap.size, 1, none⟩ = some (.int .i64 x.d) := cell_later hb4 (by assumption); have m2 : w4.cell? ⟨w.heap.size, 2, none⟩ = some (.int .i64 x.s) := cell_later hb4 (by assumption); have m3 : w4.cell? ⟨w.heap.size, 3, none⟩ = some (.int .i64 x.r) := cell_later hb4 (by assumption)))
      go_wp2_with fail
      go_meet
      exact ⟨by simp, (((Below.refl _ _).drew).trans (hb3.mono (by simp))).trans (hb4.mono (by have := hb3.size; simp at this; omega))⟩
    case rest =>
      obtain ⟨rfl, hbx⟩ := hcut
      have hS2 := HS1.out.keep0 hbx
      have hX2 := hX.keep0 hbx
      have hB2 := bstep hB1 hbx
      clear c0 c1 c2 c3 hX hB1 hbx HS1
      obtain ⟨w2, rfl⟩ : ∃ w', w' = wc := ⟨_, rfl⟩
      obtain ⟨c0, c1, c2, c3⟩ := shp_cells hS2
      have HS2 := Lib.hid hS2
      clear hS2
      go_upto_region 8 with (go_at_call 8; refine (H8.out _).mono ?_; rintro e w3 ⟨rfl, hb3⟩; rw [HK.out])
      have hS3 := HS2.out.keep0 hb3
      have hX3 := hX2.keep0 hb3
      have hB3 := bstep hB2 hb3
      clear c0 c1 c2 c3 hX2 hB2 hb3 HS2
      obtain ⟨c0, c1, c2, c3⟩ := shp_cells hS3
      have hbP := lt_of_block hX3
      have hP : Sx 33 (w3.alloc (.cells #[.int .i64 x.a, .int .i64 x.d, .int .i64 x.s, .int .i64 x.r, .int .i64 0, .int .i64 0] 33)) w3.heap.size x (0, 0) := heap_alloc_new _ _
      have hX4 := hX3.keep0 (below_alloc w3 (.cells #[.int .i64 x.a, .int .i64 x.d, .int .i64 x.s, .int .i64 x.r, .int .i64 0, .int .i64 0] 33))
      have hB4 := balloc hB3 (.cells #[.int .i64 x.a, .int .i64 x.d, .int .i64 x.s, .int .i64 x.r, .int .i64 0, .int .i64 0] 33)
      clear hS3 hX3
      go_wp2_with fail
      go_loopw [8] (fun v8 wr => PlaRel x len b w3.heap.size w v8 wr) (fun v8 _ => (200 - intOf v8).toNat)
      case atStart => exact ⟨0, (0, 0), by omega, by omega, rfl, by unfold St; decide, hX4, hP, hB4⟩
      case round =>
        clear hX4 hP hB4 c0 c1 c2 c3
        obtain ⟨k, p, hk, hk2, rfl, hst, hX, hP, hB⟩ := hrel
        generalize hPP : w3.heap.size = P at *
        clear hPP
        have HST := Lib.hid hst
        clear hst
        by_cases hlt : k < len ∧ k < 200
        · obtain ⟨hl1, hl2⟩ := hlt
          obtain ⟨a, rfl, hcell⟩ := (HBS.out.keep0 hB).cell k hl1
          generalize bs.getD k false = bk at hcell
          go_upto_if 53 with fail
          go_cut [] (fun wx => ∃ q, St q ∧ Sx 41 wx b x q ∧ Sx 33 wx P x q ∧ Below w.heap.size w wx)
          case first =>
            cases bk with
            | true =>
              obtain ⟨t, L⟩ := p
              have HRL := Lib.hid (fun w (h : Sx 41 w b x (t, L)) => rel_any b x t L w h)
              have HX := Lib.hid hX
              have HPP := Lib.hid hP
              by_cases h4 : t = 4
              · subst h4
                have hr := Lib.hid (show rel (4, L) = (4, L) from rfl)
                go_wp2_with (go_at_call 10; refine (HRL.out _ (by exact HX.out)).mono ?_; rintro e w5 ⟨rfl, hX5, hk5⟩; rw [hr.out] at hX5; have hP5 := HPP.out.kept hk5 (by omega); obtain ⟨q0, q1, q2, q3, q4, q5, qf4, qf5⟩ := six_cells hP5)
                go_meet
                exact ⟨(4, L), HST.out, hX5, HPP.out.kept hk5 (by omega), kept_below hB (by omega) hk5⟩
              · have hb4 : (t == 4) = false := by simpa using h4
                have hr := Lib.hid (show rel (t, L) = (3, L) by unfold rel; rw [if_neg h4])
                clear h4
                go_wp2_with (go_at_call 10; refine (HRL.out _ (by exact HX.out)).mono ?_; rintro e w5 ⟨rfl, hX5, hk5⟩; rw [hr.out] at hX5; have hP5 := HPP.out.kept hk5 (by omega); obtain ⟨q0, q1, q2, q3, q4, q5, qf4, qf5⟩ := six_cells hP5)
                go_meet
                have hk6 : Keeps (fun k => k = P) w5 (w5.setCell ⟨P, 4, none⟩ (.int .i64 3)) := (Keeps.refl (fun k => k = P) w5).setCell (p := ⟨P, 4, none⟩) (.inr rfl) _
                exact ⟨(3, L), by have := rel_st HST.out; rw [hr.out] at this; exact this, hX5.kept hk6 (by omega), (HPP.out.kept hk5 (by omega)).stage _, kept_below (kept_below hB (by omega) hk5) (by omega) hk6⟩
            | false =>
              have HX := Lib.hid hX
              have HPP := Lib.hid hP
              go_wp2_with fail
              go_meet
              exact ⟨p, HST.out, HX.out, HPP.out, hB⟩
          case rest =>
            obtain ⟨q, hq, hXq, hPq, hBq⟩ := hcut
            have HQ := Lib.hid hq
            have hn := nx_st HO.out hq
            have HNX := Lib.hid (fun w (h : Sx 41 w b x q) => next_p b x q HO.out HQ.out w h)
            have HLN := Lib.hid (fun w (h : Sx 33 w P x q) => lnext_p P x q HO.out HQ.out w h)
            obtain ⟨t1, L1, e⟩ : ∃ t' L', nx x q = (t', L') := ⟨_, _, rfl⟩
            rw [e] at hn
            have HE := Lib.hid e
            have HN := Lib.hid hn
            have HSG := Lib.hid (fun w (h : Sx 41 w b x (t1, L1)) => stage_any b x t1 L1 w h)
            have HLV := Lib.hid (fun w (h : Sx 41 w b x (t1, L1)) => level_any b x t1 L1 w h)
            have HXQ := Lib.hid hXq
            have HPQ := Lib.hid hPq
            clear hcell hX hP hB hq e hn hXq hPq
            go_upto_region 16 with fail
            go_cut [86] (fun v wx => v = .bool false ∧ Sx 41 wx b x (t1, L1) ∧ Sx 33 wx P x (t1, L1) ∧ Below w.heap.size w wx)
            case first =>
              go_region_with (first | (go_at_call 11; refine (HNX.out _ (by exact HXQ.out)).mono ?_; rintro e w5 ⟨rfl, hX5, hk5⟩; rw [HE.out] at hX5; have hP5 := HPQ.out.kept (((Keeps.refl (fun k => k = b) wc).drew).trans hk5) (by omega)) | (go_at_call 12; refine (HLN.out _ (by exact hP5)).mono ?_; rintro e w6 ⟨rfl, hP6, hk6⟩; rw [HE.out] at hP6; have hX6 := hX5.kept hk6 (by omega); obtain ⟨q0, q1, q2, q3, q4, q5, qf4, qf5⟩ := six_cells hP6) | (go_at_call 13; refine (HSG.out _ hX6).mono ?_; rintro e w7 ⟨rfl, rfl⟩) | (go_at_call 14; refine (HLV.out _ hX6).mono ?_; rintro e w7 ⟨rfl, rfl⟩))

              all_goals go_wp2_with fail
              all_goals go_meet
              all_goals exact ⟨by simp, hX6, hP6, kept_below (kept_below hBq (by omega) (((Keeps.refl (fun k => k = b) wc).drew).trans hk5)) (by omega) hk6⟩
            case rest =>
              obtain ⟨rfl, hX7, hP7, hB7⟩ := hcut
              go_wp2_with fail
              go_roundw
              case rel => exact ⟨k + 1, (t1, L1), by omega, by omega, by go_num, HN.out, hX7, hP7, hB7⟩
              case measure => simp [intOf]; omega
        · by_cases hl : k < len
          all_goals
            go_wp2_with (go_at_call 9; refine (awake_any _).mono ?_; rintro e w7 ⟨rfl, hb7⟩)
            go_ret
            exact ⟨rfl, bstep hB hb7⟩
  · have hNew := Lib.hid (fun w => new_no x hok w)
    have HK := Lib.hid (show okB x = false by rw [← Bool.not_eq_true, okB_iff]; exact hok)
    clear hok
    go_upto_region 2 with (go_at_call 6; refine (hNew.out _).mono ?_; rintro e w1 ⟨rfl, hb1⟩)
    have hS1 := HS.out.keep0 hb1
    have hB1 := bstep hbw hb1
    clear c0 c1 c2 c3 HS hb1 hbw hsz
    obtain ⟨c0, c1, c2, c3⟩ := shp_cells hS1
    have HS1 := Lib.hid hS1
    clear hS1
    go_cut [18] (fun v wx => v = .bool false ∧ Below w1.heap.size w1 wx)
    case first =>
      go_region_held3 (fun w' => w'.cell? ⟨w.heap.size, 0, none⟩ = some (.int .i64 x.a) ∧ w'.cell? ⟨w.heap.size, 1, none⟩ = some (.int .i64 x.d) ∧ w'.cell? ⟨w.heap.size, 2, none⟩ = some (.int .i64 x.s) ∧ w'.cell? ⟨w.heap.size, 3, none⟩ = some (.int .i64 x.r)) (go_keep) (first | (go_at_call 7; refine (H7.out _).mono ?_; rintro e w3 ⟨rfl, hb3⟩; have k0 : w3.cell? ⟨w.heap.size, 0, none⟩ = some (.int .i64 x.a) := cell_later hb3 (by assumption); have k1 : w3.cell? ⟨w.heap.size, 1, none⟩ = some (.int .i64 x.d) := cell_later hb3 (by assumption); have k2 : w3.cell? ⟨w.heap.size, 2, none⟩ = some (.int .i64 x.s) := cell_later hb3 (by assumption); have k3 : w3.cell? ⟨w.heap.size, 3, none⟩ = some (.int .i64 x.r) := cell_later hb3 (by assumption)) | (go_at_call 8; refine (H8.out _).mono ?_; rintro e w4 ⟨rfl, hb4⟩; have m0 : w4.cell? ⟨w.heap.size, 0, none⟩ = some (.int .i64 x.a) := cell_later hb4 (by assumption); have m1 : w4.cell? ⟨w.heap.size, 1, none⟩ = some (.int .i64 x.d) := cell_later hb4 (by assumption); have m2 : w4.cell? ⟨w.heap.size, 2, none⟩ = some (.int .i64 x.s) := cell_later hb4 (by assumption); have m3 : w4.cell? ⟨w.heap.size, 3, none⟩ = some (.int .i64 x.r) := cell_later hb4 (by assumption)))
      go_wp2_with fail
      go_meet
      exact ⟨by simp, (((Below.refl _ _).drew).trans (hb3.mono (by simp))).trans (hb4.mono (by have := hb3.size; simp at this; omega))⟩
    case rest =>
      obtain ⟨rfl, hbx⟩ := hcut
      have hS2 := HS1.out.keep0 hbx
      have hB2 := bstep hB1 hbx
      clear c0 c1 c2 c3 hB1 hbx HS1
      obtain ⟨c0, c1, c2, c3⟩ := shp_cells hS2
      clear hS2
      go_wp2_with (first | (go_at_call 8; refine (H8.out _).mono ?_; rintro e w3 ⟨rfl, hb3⟩; rw [HK.out]) | (go_at_call 9; refine (awake_any _).mono ?_; rintro e w7 ⟨rfl, hb7⟩))
      go_ret
      exact ⟨rfl, bstep (bstep hB2 hb3) hb7⟩
end Go.Proofs.Ythophaghnbmngaa
