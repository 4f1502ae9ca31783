/- The statement EnvRuns. -/
import Derived.Test.YthophaghnbmngaaRun
import Derived.Test.YthophaghnbmngaaBnd
namespace Go.Proofs.Ythophaghnbmngaa
open Go.RowKit Go.Calli Go.Envp
set_option linter.unusedVariables false
theorem Sx.keep0 {T : Nat} {w w' : World} {b : Nat} {x : Sh} {p : Int × Int} (h : Sx T w b x p) (hb : Below w.heap.size w w') : Sx T w' b x p := (hb.block _ (lt_of_block h)).trans h
theorem Sx.kept {T : Nat} {w w' : World} {b c : Nat} {x : Sh} {p : Int × Int} (h : Sx T w b x p) (hk : Keeps (fun k => k = c) w w') (hn : b ≠ c) : Sx T w' b x p := hk.heap h hn
set_option maxRecDepth 100000 in
set_option maxHeartbeats 2000000 in
theorem envRuns_no (x : Sh) (n : Int) (h : ¬ x.Ok) (w : World) : Calls Try.prog 5 #[.agg #[.int .i64 x.a, .int .i64 x.d, .int .i64 x.s, .int .i64 x.r], .int .i64 n] w (TruePost w) := by
  have hNew := Lib.hid (fun w => new_no x h w)
  have hR := Lib.hid (fun w => lright_any x w)
  have hK := Lib.hid (show okB x = false by rw [← Bool.not_eq_true, okB_iff]; exact h)
  have hal : Shp (w.alloc (.cells #[.int .i64 x.a, .int .i64 x.d, .int .i64 x.s, .int .i64 x.r] 23)) w.heap.size x := heap_alloc_new _ _
  have hbw := below_alloc w (.cells #[.int .i64 x.a, .int .i64 x.d, .int .i64 x.s, .int .i64 x.r] 23)
  clear h
  go_enter Try.func5, Try.ntmps5
  go_upto_if 13 with fail
  generalize w.alloc (.cells #[.int .i64 x.a, .int .i64 x.d, .int .i64 x.s, .int .i64 x.r] 23) = W at *
  go_cut [1] (fun v wx => ∃ n' : Int, v = .int .i64 n' ∧ n' ≤ 200 ∧ W = wx)
  case first =>
    by_cases h3 : 200 < n
    all_goals
      go_wp2_with fail
      go_meet
      exact ⟨_, rfl, by omega, rfl⟩
  case rest =>
    obtain ⟨n', rfl, hn, rfl⟩ := hcut
    obtain ⟨c0, c1, c2, c3⟩ := shp_cells hal
    have HS := Lib.hid hal
    clear hal
    go_upto_region 4 with (go_at_call 6; refine (hNew.out _).mono ?_; rintro e w1 ⟨rfl, hb1⟩)
    have HS1 := Lib.hid (HS.out.keep0 hb1)
    have hB1 := bstep hbw hb1
    clear c0 c1 c2 c3 HS hb1 hbw
    obtain ⟨c0, c1, c2, c3⟩ := shp_cells HS1.out
    go_upto_region 5 with (go_at_call 6; refine (hNew.out _).mono ?_; rintro e w2 ⟨rfl, hb2⟩)
    have HS2 := Lib.hid (HS1.out.keep0 hb2)
    have hB2 := bstep hB1 hb2
    clear c0 c1 c2 c3 HS1 hb2 hB1
    obtain ⟨c0, c1, c2, c3⟩ := shp_cells HS2.out
    go_wp2_with (first | (go_at_call 10; refine (rel_nil _).mono ?_; rintro e w5 ⟨rfl, rfl⟩) | (go_at_call 11; refine (next_nil _).mono ?_; rintro e w5 ⟨rfl, rfl⟩) | (go_at_call 13; refine (stage_nil _).mono ?_; rintro e w5 ⟨rfl, rfl⟩) | (go_at_call 14; refine (level_nil _).mono ?_; rintro e w5 ⟨rfl, rfl⟩) | (go_at_call 8; refine (hR.out _).mono ?_; rintro e w6 ⟨rfl, hb6⟩; rw [hK.out]) | (go_at_call 9; refine (awake_any _).mono ?_; rintro e w7 ⟨rfl, hb7⟩))
    go_ret
    exact ⟨rfl, bstep (bstep hB2 hb6) hb7⟩
def RunsRel (x : Sh) (ao : Option Addr) (N b c : Nat) (w w5 : World) (v11 : Value) (wr : World) : Prop := ∃ k : Nat, k ≤ N ∧ v11 = .int .i64 k ∧ Sx 41 wr c x (go x (0, 0) k) ∧ Sx 41 wr b x (go x (0, 0) N) ∧ Ints .i64 wr ao N (vals x (0, 0) N) ∧ Below w.heap.size w wr
set_option maxRecDepth 100000 in
set_option maxHeartbeats 4000000 in
theorem envRuns_yes (x : Sh) (n : Int) (h : x.Ok) (w : World) : Calls Try.prog 5 #[.agg #[.int .i64 x.a, .int .i64 x.d, .int .i64 x.s, .int .i64 x.r], .int .i64 n] w (TruePost w) := by
  have hNew := Lib.hid (fun w => new_yes x h w)
  have HO := Lib.hid h
  have hal : Shp (w.alloc (.cells #[.int .i64 x.a, .int .i64 x.d, .int .i64 x.s, .int .i64 x.r] 23)) w.heap.size x := heap_alloc_new _ _
  have hbw := below_alloc w (.cells #[.int .i64 x.a, .int .i64 x.d, .int .i64 x.s, .int .i64 x.r] 23)
  clear h
  go_enter Try.func5, Try.ntmps5
  go_upto_if 13 with fail
  generalize w.alloc (.cells #[.int .i64 x.a, .int .i64 x.d, .int .i64 x.s, .int .i64 x.r] 23) = W at *
  go_cut [1] (fun v wx => ∃ n' : Int, v = .int .i64 n' ∧ n' ≤ 200 ∧ W = wx)
  case first =>
    by_cases h3 : 200 < n
    all_goals
      go_wp2_with fail
      go_meet
      exact ⟨_, rfl, by omega, rfl⟩
  case rest =>
    obtain ⟨n', rfl, hn, rfl⟩ := hcut
    obtain ⟨c0, c1, c2, c3⟩ := shp_cells hal
    have HS := Lib.hid hal
    have hsz := lt_of_block hal
    clear hal
    go_upto_region 4 with (go_at_call 6; refine (hNew.out _).mono ?_; rintro e w1 ⟨b, rfl, hbb, hXb, hb1⟩)
    have HS1 := Lib.hid (HS.out.keep0 hb1)
    have hB1 := bstep hbw hb1
    clear c0 c1 c2 c3 HS hb1 hbw
    obtain ⟨c0, c1, c2, c3⟩ := shp_cells HS1.out
    go_upto_region 5 with (go_at_call 6; refine (hNew.out _).mono ?_; rintro e w2 ⟨c, rfl, hcc, hXc, hb2⟩)
    have hXb2 := hXb.keep0 hb2
    have hbc : b < c := Nat.lt_of_lt_of_le (lt_of_block hXb) hcc
    have hbw : w.heap.size < b := by omega
    have hB2 := bstep hB1 hb2
    clear c0 c1 c2 c3 HS1 hb2 hB1 hXb hbb hcc hsz
    have hs0 : St (0, 0) := by unfold St; decide
    by_cases hn0 : n' < 0
    · go_wp2_with (first | (go_at_call 10; refine (rel_nil _).mono ?_; rintro e w5 ⟨rfl, rfl⟩) | (go_at_call 11; refine (next_nil _).mono ?_; rintro e w5 ⟨rfl, rfl⟩) | (go_at_call 13; refine (stage_nil _).mono ?_; rintro e w5 ⟨rfl, rfl⟩) | (go_at_call_of 14 (Value.pointer none); refine (level_nil _).mono ?_; rintro e w5 ⟨rfl, rfl⟩) | (go_at_call 15; refine (run_neg _ _ hn0 _).mono ?_; rintro e w6 ⟨rfl, rfl⟩))
      refine wp_loop_once ?_
      go_wp2_with fail
      refine (level_any b x 0 0 _ hXb2).mono ?_
      rintro e w5 ⟨rfl, rfl⟩
      go_wp2_with fail
      refine (level_any c x 0 0 _ hXc).mono ?_
      rintro e w5 ⟨rfl, rfl⟩
      go_wp2_with (go_at_call 9; refine (awake_any _).mono ?_; rintro e w7 ⟨rfl, hb7⟩)
      go_ret
      exact ⟨rfl, bstep hB2 hb7⟩
    · obtain ⟨N, rfl⟩ : ∃ N : Nat, n' = N := ⟨n'.toNat, by omega⟩
      have hN : N ≤ 200 := by omega
      have HRN := Lib.hid (fun w (h : Sx 41 w b x (0, 0)) => run_any b x (0, 0) N hN HO.out hs0 w h)
      go_upto_region 14 with (first | (go_at_call 10; refine (rel_nil _).mono ?_; rintro e w5 ⟨rfl, rfl⟩) | (go_at_call 11; refine (next_nil _).mono ?_; rintro e w5 ⟨rfl, rfl⟩) | (go_at_call 13; refine (stage_nil _).mono ?_; rintro e w5 ⟨rfl, rfl⟩) | (go_at_call_of 14 (Value.pointer none); refine (level_nil _).mono ?_; rintro e w5 ⟨rfl, rfl⟩) | (go_at_call 15; refine (HRN.out _ hXb2).mono ?_; rintro e w6 ⟨ao, lc, rfl, hlc, hl, hlb, hXb6, hk6⟩))
      have hXc6 := hXc.kept hk6 (by omega)
      have hB6 := kept_below hB2 (by omega) hk6
      have hlb' : ∀ a, ao = some a → a.block ≠ c := fun a ha e => by have := hlb a ha; have := lt_of_block hXc; omega
      have HLB := Lib.hid hlb'
      clear hlb hlb' hk6 hB2 hXc hXb2 HRN
      go_wp2_with fail
      go_loopw [11] (fun v11 wr => RunsRel x ao N b c w w6 v11 wr) (fun v11 _ => (N - intOf v11).toNat)
      case atStart => exact ⟨0, by omega, rfl, hXc6, hXb6, hl, hB6⟩
      case round =>
        clear hXc6 hXb6 hl hB6
        obtain ⟨k, hk, rfl, hXc, hXb, hl, hB⟩ := hrel
        by_cases hlt : k < N
        · obtain ⟨a, rfl, hcell⟩ := hl.some (by omega)
          have hck := hcell k hlt
          have hbd := vl_bd HO.out (go_st HO.out hs0 k)
          have hvk := vals_get x (0, 0) N k hlt
          rw [hvk] at hck
          have hst := go_st HO.out hs0 k
          have HNX := Lib.hid (fun w (h : Sx 41 w c x (go x (0, 0) k)) => next_p c x (go x (0, 0) k) HO.out hst w h)
          have hnc := HLB.out a rfl
          have HXc := Lib.hid hXc
          have HXb := Lib.hid hXb
          have HL := Lib.hid hl
          have hk1 : (0 : Int) ≤ (k : Int) := by omega
          have hk2 : (k : Int) < (N : Int) := by omega
          clear hcell hvk hst hXc hXb hl
          go_upto_region 19 with fail
          go_cut [79] (fun v wx => v = .bool false ∧ Sx 41 wx c x (go x (0, 0) (k + 1)) ∧ Keeps (fun k => k = c) wr wx)
          case first =>
            go_region_held3 (fun w' => w'.cell? (a.add k) = some (.int .i64 (vl x (go x (0, 0) k)))) (go_keep) ((go_at_call 11; refine (HNX.out _ (by exact HXc.out)).mono ?_; rintro e w7 ⟨rfl, hX7, hk7⟩; have hc7 : w7.cell? (a.add k) = some (.int .i64 (vl x (go x (0, 0) k))) := hk7.cell hck (by rw [Addr.add_block]; exact hnc)))
            all_goals go_wp2_with fail
            all_goals go_meet
            all_goals exact ⟨by simp, hX7, ((Keeps.refl (fun k => k = c) wr).drew).trans hk7⟩
          case rest =>
            obtain ⟨rfl, hX7, hk7⟩ := hcut
            have hXb7 := HXb.out.kept hk7 (by omega)
            have hl7 := HL.out.kept hk7 (fun a' ha' e => by cases ha'; exact hnc e)
            have hB7 := kept_below hB (by omega) hk7
            clear hck HL HXb HXc hB hk7
            go_wp2_with fail
            go_roundw
            case rel => exact ⟨k + 1, by omega, by go_num, hX7, hXb7, hl7, hB7⟩
            case measure => simp [intOf]; omega
        · obtain rfl : k = N := by omega
          have HLV := Lib.hid (fun w (h : Sx 41 w b x (go x (0, 0) k)) => level_p b x (go x (0, 0) k) w h)
          have HLW := Lib.hid (fun w (h : Sx 41 w c x (go x (0, 0) k)) => level_p c x (go x (0, 0) k) w h)
          go_wp2_with fail
          refine (HLV.out _ hXb).mono ?_
          rintro e w5 ⟨rfl, rfl⟩
          go_wp2_with fail
          refine (HLW.out _ hXc).mono ?_
          rintro e w5 ⟨rfl, rfl⟩
          go_wp2_with (go_at_call 9; refine (awake_any _).mono ?_; rintro e w7 ⟨rfl, hb7⟩)
          go_ret
          exact ⟨rfl, bstep hB hb7⟩
theorem envRuns_any (x : Sh) (n : Int) (w : World) : Calls Try.prog 5 #[.agg #[.int .i64 x.a, .int .i64 x.d, .int .i64 x.s, .int .i64 x.r], .int .i64 n] w (TruePost w) := by
  by_cases h : x.Ok
  · exact envRuns_yes x n h w
  · exact envRuns_no x n h w
end Go.Proofs.Ythophaghnbmngaa
