/- The statement EnvBounds. -/
import Derived.Test.YthophaghnbmngaaRig
namespace Go.Proofs.Ythophaghnbmngaa
open Go.RowKit Go.Calli Go.Envp
set_option linter.unusedVariables false
/-- A shape, or a length, that the statement leaves out. -/
def badB (x : Sh) (h : Int) : Bool := decide (okB x = false ∨ 100 < x.a ∨ 100 < x.d ∨ 100 < x.r ∨ h < 0 ∨ 300 < h)
def Shp (w : World) (b : Nat) (x : Sh) : Prop := w.heap[b]? = some (.cells #[.int .i64 x.a, .int .i64 x.d, .int .i64 x.s, .int .i64 x.r] 23 (0, 0))
theorem shp_cells {w : World} {b : Nat} {x : Sh} (h : Shp w b x) : w.cell? ⟨b, 0, none⟩ = some (.int .i64 x.a) ∧ w.cell? ⟨b, 1, none⟩ = some (.int .i64 x.d) ∧ w.cell? ⟨b, 2, none⟩ = some (.int .i64 x.s) ∧ w.cell? ⟨b, 3, none⟩ = some (.int .i64 x.r) :=
  ⟨(cell_of_row _ _ _ _ _ _ h).trans rfl, (cell_of_row _ _ _ _ _ _ h).trans rfl, (cell_of_row _ _ _ _ _ _ h).trans rfl, (cell_of_row _ _ _ _ _ _ h).trans rfl⟩
theorem Shp.keep0 {w w' : World} {b : Nat} {x : Sh} (h : Shp w b x) (hb : Below w.heap.size w w') : Shp w' b x := (hb.block _ (lt_of_block h)).trans h
theorem Shp.kept {w w' : World} {b c : Nat} {x : Sh} (h : Shp w b x) (hk : Keeps (fun k => k = c) w w') (hn : b ≠ c) : Shp w' b x := hk.heap h hn
/-- Does it rise? -/
def riseB (t a : Int) : Bool := decide (t = 0 ∧ 0 < a)
def BndRel (x : Sh) (N b : Nat) (w : World) (v7 v8 : Value) (wr : World) : Prop := ∃ (k : Nat) (t L last : Int), k ≤ N ∧ v8 = .int .i64 k ∧ v7 = .int .i64 last ∧ Sx 41 wr b x (t, L) ∧ Held x k (t, L) last ∧ 0 ≤ last ∧ last ≤ 256 ∧ Shp wr w.heap.size x ∧ Below w.heap.size w wr
def BndRel2 (x : Sh) (R b : Nat) (w : World) (v11 : Value) (wr : World) : Prop := ∃ (k : Nat) (t L : Int), k ≤ R + 1 ∧ v11 = .int .i64 k ∧ Sx 41 wr b x (t, L) ∧ Gone x k (t, L) ∧ Shp wr w.heap.size x ∧ Below w.heap.size w wr
set_option maxRecDepth 100000 in
set_option maxHeartbeats 4000000 in
theorem envBounds_any (x : Sh) (hold : Int) (w : World) : Calls Try.prog 4 #[.agg #[.int .i64 x.a, .int .i64 x.d, .int .i64 x.s, .int .i64 x.r], .int .i64 hold] w (TruePost w) := by
  have hR := Lib.hid (fun w => lright_any x w)
  have hal : Shp (w.alloc (.cells #[.int .i64 x.a, .int .i64 x.d, .int .i64 x.s, .int .i64 x.r] 23)) w.heap.size x := heap_alloc_new _ _
  have hbw := below_alloc w (.cells #[.int .i64 x.a, .int .i64 x.d, .int .i64 x.s, .int .i64 x.r] 23)
  go_enter Try.func4, Try.ntmps4
  go_upto_region 1 with fail
  generalize w.alloc (.cells #[.int .i64 x.a, .int .i64 x.d, .int .i64 x.s, .int .i64 x.r] 23) = W at *
  obtain ⟨c0, c1, c2, c3⟩ := shp_cells hal
  have hsz := lt_of_block hal
  have HS := Lib.hid hal
  clear hal
  go_cut [37] (fun v wx => v = .bool (badB x hold) ∧ Shp wx w.heap.size x ∧ Below w.heap.size w wx)
  case first =>
    cases hk : okB x with
    | false =>
      have HK := Lib.hid hk
      clear hk
      go_wp2_with (go_at_call 8; refine (hR.out _).mono ?_; rintro e w1 ⟨rfl, hb1⟩; rw [HK.out])
      go_meet
      exact ⟨by simp [badB, HK.out], HS.out.keep0 hb1, bstep hbw hb1⟩
    | true =>
      have HK := Lib.hid hk
      clear hk
      go_wp2_with (go_at_call 8; refine (hR.out _).mono ?_; rintro e w1 ⟨rfl, hb1⟩; rw [HK.out]; obtain ⟨d0, d1, d2, d3⟩ := shp_cells (HS.out.keep0 hb1))
      all_goals go_meet
      all_goals exact ⟨congrArg Value.bool (by rw [Bool.eq_iff_iff]; simp [badB, HK.out] <;> omega), HS.out.keep0 hb1, bstep hbw hb1⟩
  case rest =>
    obtain ⟨rfl, hS, hb⟩ := hcut
    clear c0 c1 c2 c3 HS hbw hR
    obtain ⟨w1, rfl⟩ : ∃ w', w' = wc := ⟨_, rfl⟩
    cases hbd : badB x hold with
    | true =>
      have HB := Lib.hid hbd
      clear hbd
      go_wp2_with (go_at_call 9; refine (awake_any _).mono ?_; rintro e w6 ⟨rfl, hb6⟩)
      go_ret
      exact ⟨rfl, bstep hb hb6⟩
    | false =>
      have hgood := of_decide_eq_false hbd
      have hok : x.Ok := (okB_iff x).1 (by cases h : okB x with
        | true => rfl
        | false => exact absurd (.inl h) hgood)
      have HK := Lib.hid hok
      have hA : x.a ≤ 100 := by omega
      have hD : x.d ≤ 100 := by omega
      have hRR : x.r ≤ 100 := by omega
      obtain ⟨N, rfl⟩ : ∃ N : Nat, hold = N := ⟨hold.toNat, by omega⟩
      have hN : N ≤ 300 := by omega
      have hx := hok
      unfold Sh.Ok at hx
      clear hbd hgood hok
      obtain ⟨c0, c1, c2, c3⟩ := shp_cells hS
      have hNew := Lib.hid (fun w => new_yes x HK.out w)
      have HS := Lib.hid hS
      clear hS
      go_upto_region 4 with (go_at_call 6; refine (hNew.out _).mono ?_; rintro e w2 ⟨b, rfl, hbb, hX, hb2⟩)
      have hbw : w.heap.size < b := by have := lt_of_block HS.out; omega
      have hS2 := HS.out.keep0 hb2
      have hB := bstep hb hb2
      clear c0 c1 c2 c3 HS hb hb2 hbb hNew
      go_wp2_with fail
      go_loopw [7, 8] (fun v7 v8 wr => BndRel x N b w v7 v8 wr) (fun _ v8 _ => (N - intOf v8).toNat)
      case atStart => exact ⟨0, 0, 0, 0, by omega, rfl, rfl, hX, held_zero HK.out, by omega, by omega, hS2, hB⟩
      case round =>
        clear hX hS2 hB
        obtain ⟨k, t, L, last, hk, rfl, rfl, hX, hH, hl0, hl1, hS, hB⟩ := hrel
        obtain ⟨c0, c1, c2, c3⟩ := shp_cells hS
        have HS := Lib.hid hS
        have HH := Lib.hid hH
        have hst := hH.1
        clear hS hH
        by_cases hlt : k < N
        · obtain ⟨hv1, hv2, hv3⟩ := held_vl HK.out HH.out
          simp only at hv1 hv2 hv3
          have hvb := vl_bd HK.out hst
          have hn := held_next HK.out HH.out
          have hsn := nx_st HK.out hst
          have hstage := fun w (h : Sx 41 w b x (t, L)) => stage_any b x t L w h
          have hnext := fun w (h : Sx 41 w b x (t, L)) => next_any b x t L HK.out hst w h
          have HP := Lib.hid hst
          obtain ⟨t', L', e⟩ : ∃ t' L', nx x (t, L) = (t', L') := ⟨_, _, rfl⟩
          rw [e] at hv3 hn hsn
          have HE := Lib.hid e
          have HN := Lib.hid hn
          have hL' : L' ≤ 16777216 := hsn.2.2.2
          obtain ⟨v, hv⟩ : ∃ v, vl x (t, L) = v := ⟨_, rfl⟩
          rw [hv] at hv1 hv2 hvb
          rw [hv] at HN
          have HV := Lib.hid hv
          obtain ⟨hvb1, hvb2⟩ := hvb
          have HV1 := Lib.hid hv1
          have HV3 := Lib.hid hv3
          have HST := Lib.hid hstage
          have HNX := Lib.hid hnext
          have hbs := hbw
          clear e hn hv hst hsn hv1 hv3 hstage hnext
          go_upto_region 10 with fail
          go_cut [9] (fun v wx => v = .bool (riseB t x.a) ∧ wr = wx)
          case first =>
            by_cases ht : t = 0
            · have hb1 : (t == 0) = true := by simpa using ht
              have e := Lib.hid (show riseB t x.a = decide (0 < x.a) by unfold riseB; rw [decide_eq_decide]; omega)
              clear ht
              go_wp2_with (go_at_call 13; refine (HST.out _ hX).mono ?_; rintro e w5 ⟨rfl, rfl⟩)
              all_goals go_meet
              all_goals exact ⟨congrArg Value.bool (by rw [e.out]; try rfl), rfl⟩
            · have hb1 : (t == 0) = false := by simpa using ht
              have e := Lib.hid (show riseB t x.a = false from decide_eq_false fun h => ht h.1)
              clear ht
              go_wp2_with (go_at_call 13; refine (HST.out _ hX).mono ?_; rintro e w5 ⟨rfl, rfl⟩)
              go_meet
              exact ⟨by rw [e.out], rfl⟩
          case rest =>
            obtain ⟨rfl, rfl⟩ := hcut
            generalize hrb : riseB t x.a = rb
            have HRB := Lib.hid hrb
            clear hrb
            go_upto_region 12 with (go_at_call 11; refine (HNX.out _ hX).mono ?_; rintro e w5 ⟨rfl, hX5, hk5⟩; rw [HV.out])
            rw [HE.out] at hX5
            have hS5 := HS.out.kept hk5 (by omega)
            have hB5 := kept_below hB (by omega) hk5
            obtain ⟨d0, d1, d2, d3⟩ := shp_cells hS5
            have HS5 := Lib.hid hS5
            clear hX hk5 hB HS c0 c1 c2 c3 HST HNX hS5
            have HLV := Lib.hid (fun w (h : Sx 41 w b x (t', L')) => level_any b x t' L' w h)
            have HST := Lib.hid (fun w (h : Sx 41 w b x (t', L')) => stage_any b x t' L' w h)
            go_cut [94] (fun v wx => v = .bool false ∧ w5 = wx)
            case first =>
              cases rb with
              | true =>
                have h1 := of_decide_eq_true HRB.out
                have h2 := HV1.out h1.1 h1.2
                clear h1
                by_cases hk0 : x.a < (k : Int)
                · have h3 := hv2 hk0
                  clear hv2
                  go_wp2_with (go_at_call 14; refine (HLV.out _ hX5).mono ?_; rintro e w6 ⟨rfl, rfl⟩)
                  all_goals go_meet
                  all_goals exact ⟨by simp <;> omega, rfl⟩
                · clear hv2
                  go_wp2_with (go_at_call 14; refine (HLV.out _ hX5).mono ?_; rintro e w6 ⟨rfl, rfl⟩)
                  all_goals go_meet
                  all_goals exact ⟨by simp <;> omega, rfl⟩
              | false =>
                by_cases hk0 : x.a < (k : Int)
                · have h3 := hv2 hk0
                  clear hv2
                  go_wp2_with (go_at_call 14; refine (HLV.out _ hX5).mono ?_; rintro e w6 ⟨rfl, rfl⟩)
                  all_goals go_meet
                  all_goals exact ⟨by simp <;> omega, rfl⟩
                · clear hv2
                  go_wp2_with (go_at_call 14; refine (HLV.out _ hX5).mono ?_; rintro e w6 ⟨rfl, rfl⟩)
                  all_goals go_meet
                  all_goals exact ⟨by simp <;> omega, rfl⟩
            case rest =>
              obtain ⟨rfl, rfl⟩ := hcut
              clear hv2
              go_upto_region 14 with fail
              go_cut [103] (fun v wx => v = .bool false ∧ w5 = wx)
              case first =>
                by_cases hk0 : x.a ≤ (k : Int)
                · have h3 := HV3.out hk0
                  have hb1 : (t' == 0) = false := by simpa using h3
                  clear h3
                  go_wp2_with (go_at_call 13; refine (HST.out _ hX5).mono ?_; rintro e w6 ⟨rfl, rfl⟩)
                  all_goals go_meet
                  all_goals exact ⟨by simp <;> omega, rfl⟩
                · go_wp2_with fail
                  all_goals go_meet
                  all_goals exact ⟨by simp <;> omega, rfl⟩
              case rest =>
                obtain ⟨rfl, rfl⟩ := hcut
                go_wp2_with fail
                go_roundw
                case rel => exact ⟨k + 1, t', L', v, by omega, by go_num, rfl, hX5, HN.out, hvb1, hvb2, HS5.out, hB5⟩
                case measure => simp [intOf]; omega
        · obtain rfl : k = N := by omega
          have hr4 : t ≠ 4 := by have := held_stage HH.out; simp only at this; omega
          have hg := gone_zero (x := x) hst hr4
          obtain ⟨t1, L1, e⟩ : ∃ t' L', rel (t, L) = (t', L') := ⟨_, _, rfl⟩
          rw [e] at hg
          have HE := Lib.hid e
          have HG := Lib.hid hg
          have HRL := Lib.hid (fun w (h : Sx 41 w b x (t, L)) => rel_any b x t L w h)
          obtain ⟨R, hR⟩ : ∃ R : Nat, x.r = R := ⟨x.r.toNat, by omega⟩
          have hRb : R ≤ 100 := by omega
          have HRR := Lib.hid hR
          have hbs := hbw
          clear hst hr4 e hg hR
          go_upto_region 18 with (go_at_call 10; refine (HRL.out _ hX).mono ?_; rintro e w5 ⟨rfl, hX5, hk5⟩)
          rw [HE.out] at hX5
          have hS5 := HS.out.kept hk5 (by omega)
          have hB5 := kept_below hB (by omega) hk5
          clear hX hk5 hB HS c0 c1 c2 c3 HRL
          go_wp2_with fail
          go_loopw [11] (fun v11 wr => BndRel2 x R b w v11 wr) (fun v11 _ => (R + 1 - intOf v11).toNat)
          case atStart => exact ⟨0, t1, L1, by omega, rfl, hX5, HG.out, hS5, hB5⟩
          case round =>
            clear hX5 hS5 hB5
            obtain ⟨j, t2, L2, hj, rfl, hX, hG, hS, hB⟩ := hrel
            obtain ⟨c0, c1, c2, c3⟩ := shp_cells hS
            rw [HRR.out] at c3
            have HS := Lib.hid hS
            have HGG := Lib.hid hG
            clear hS hG
            by_cases hjl : j ≤ R
            · have hst := HGG.out.1
              have HNX := Lib.hid (fun w (h : Sx 41 w b x (t2, L2)) => next_any b x t2 L2 HK.out hst w h)
              have hg := gone_next HK.out HGG.out
              obtain ⟨t3, L3, e⟩ : ∃ t' L', nx x (t2, L2) = (t', L') := ⟨_, _, rfl⟩
              rw [e] at hg
              have HE2 := Lib.hid e
              have HG2 := Lib.hid hg
              clear hst e hg
              go_wp2_with (go_at_call 11; refine (HNX.out _ hX).mono ?_; rintro e w6 ⟨rfl, hX6, hk6⟩)
              rw [HE2.out] at hX6
              have hS6 := HS.out.kept hk6 (by omega)
              have hB6 := kept_below hB (by omega) hk6
              clear hX hk6 hB HS c0 c1 c2 c3 HNX
              go_roundw
              case rel => exact ⟨j + 1, t3, L3, by omega, by go_num, hX6, HG2.out, hS6, hB6⟩
              case measure => simp [intOf]; omega
            · have he := gone_end HK.out HGG.out (by rw [HRR.out]; omega)
              have e1 : t2 = 4 := congrArg Prod.fst he
              have e2 : L2 = 0 := congrArg Prod.snd he
              subst e1
              subst e2
              clear he
              have HNX := Lib.hid (fun w (h : Sx 41 w b x (4, 0)) => next_any b x 4 0 HK.out HGG.out.1 w h)
              have HV := Lib.hid (over_vl x)
              have HN := Lib.hid (over_nx x)
              have HST := Lib.hid (fun w (h : Sx 41 w b x (4, 0)) => stage_any b x 4 0 w h)
              go_wp2_with (first | (go_at_call 11; refine (HNX.out _ hX).mono ?_; rintro e w6 ⟨rfl, hX6, hk6⟩; rw [HV.out]; rw [HN.out] at hX6) | (go_at_call 13; refine (HST.out _ hX6).mono ?_; rintro e w7 ⟨rfl, rfl⟩) | (go_at_call 9; refine (awake_any _).mono ?_; rintro e w8 ⟨rfl, hb8⟩))
              go_ret
              exact ⟨rfl, bstep (kept_below hB (by omega) hk6) hb8⟩
end Go.Proofs.Ythophaghnbmngaa
