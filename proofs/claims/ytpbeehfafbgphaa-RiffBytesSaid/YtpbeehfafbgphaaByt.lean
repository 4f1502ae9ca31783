/- The walk of riff.Bytes. -/
import Derived.Test.YtpbeehfafbgphaaGro
namespace Go.Proofs.Ytpbeehfafbgphaa
open Go Go.RowKit Go.Calli
set_option linter.unusedVariables false
set_option linter.unusedSimpArgs false
attribute [local irreducible] wpStill wpAnyH wpAnyS wpList Code.wp
theorem wave_old {w : World} {b : Nat} {f : Nat × Nat} (h : w.heap[b]? = some (.cells #[.int .u8 87, .int .u8 65, .int .u8 86, .int .u8 69] 5 f)) : ∀ j v, (nWAVE.map (Value.int .u8))[j]? = some v → w.cell? ((⟨b, 0, none⟩ : Addr).add j) = some v := fun j v hj => by
  rw [add0]
  exact (cell_of_row _ _ _ _ _ _ h).trans (by rw [← hj, Nat.zero_add, List.getElem?_toArray]; rfl)
def Col (W : World) (n : Nat) (l : List Ch) (v : Value) (wx : World) : Prop := ∃ ms, OwnC wx W.heap.size v n ms l ∧ Dats wx n ms ∧ Below W.heap.size W wx
def BytP (F : List Int) (w : World) (e : Ending) (w' : World) : Prop := ∃ (ro : Option Addr) (rn rc : Nat), e = .returned (.tuple #[.slice ro rn rc, .int .i64 0]) ∧ rn ≤ rc ∧ rc ≤ maxLen ∧ Ints .u8 w' ro rn F ∧ Below w.heap.size w w'
set_option maxRecDepth 100000 in
set_option maxHeartbeats 4000000 in
theorem bytes_bad (nm : List Int) (rate : Int) (lp : Bool) (a b : Int) (d : List (List Int)) (so : Option Addr) (sn sc : Nat) (w : World) (h : SmIs w ⟨nm, rate, lp, a, b, d⟩ ⟨so, sn, sc⟩) (C : Int) (hC : chk ⟨nm, rate, lp, a, b, d⟩ = C) (hC0 : C ≠ 0) : Calls Try.prog 17 #[.agg #[.string (strOfNums nm), .int .i64 rate, .bool lp, .int .i64 a, .int .i64 b, .slice so sn sc]] w (fun e w' => e = .returned (.tuple #[.slice none 0 0, .int .i64 C]) ∧ Below w.heap.size w w') := by
  have hk0 := below_alloc w (.cells #[.string (strOfNums nm), .int .i64 rate, .bool lp, .int .i64 a, .int .i64 b, .slice so sn sc] 37)
  have hz0 := heap_alloc_new w (.cells #[.string (strOfNums nm), .int .i64 rate, .bool lp, .int .i64 a, .int .i64 b, .slice so sn sc] 37)
  have hs := h.keep0 hk0
  have g1 : (C == 0) = false := by simpa using hC0
  have g2 : (C != 0) = true := by simpa using hC0
  go_enter Try.func17, Try.ntmps17
  go_upto_region 1 with fail
  generalize w.alloc (.cells #[.string (strOfNums nm), .int .i64 rate, .bool lp, .int .i64 a, .int .i64 b, .slice so sn sc] 37) = W at *
  have HCK : Hid (Calls Try.prog 14 #[.agg #[.string (strOfNums nm), .int .i64 rate, .bool lp, .int .i64 a, .int .i64 b, .slice so sn sc]] W (fun e w2 => e = .returned (.int .i64 C) ∧ Below W.heap.size W w2)) := by
    have := check_any _ _ W hs
    rw [hC] at this
    exact this
  obtain ⟨c0, c1, c2, c3, c4, c5⟩ := six_cells hz0
  clear hs h hC
  go_wp2_with (go_at_call 14; refine HCK.out.mono ?_; rintro e w1 ⟨rfl, hb1⟩)
  go_ret2
  exact ⟨rfl, hk0.trans (hb1.mono hk0.size)⟩
set_option maxRecDepth 100000 in
set_option maxHeartbeats 4000000 in
theorem bytes_good (nm : List Int) (rate : Int) (lp : Bool) (a b : Int) (d : List (List Int)) (so : Option Addr) (sn sc : Nat) (w : World) (h : SmIs w ⟨nm, rate, lp, a, b, d⟩ ⟨so, sn, sc⟩) (hg : Good ⟨nm, rate, lp, a, b, d⟩) (hl : lenS ⟨nm, rate, lp, a, b, d⟩ ≤ 150) : Calls Try.prog 17 #[.agg #[.string (strOfNums nm), .int .i64 rate, .bool lp, .int .i64 a, .int .i64 b, .slice so sn sc]] w (BytP (fileL ⟨nm, rate, lp, a, b, d⟩) w) := by
  have hk0 := below_alloc w (.cells #[.string (strOfNums nm), .int .i64 rate, .bool lp, .int .i64 a, .int .i64 b, .slice so sn sc] 37)
  have hz0 := heap_alloc_new w (.cells #[.string (strOfNums nm), .int .i64 rate, .bool lp, .int .i64 a, .int .i64 b, .slice so sn sc] 37)
  have hs := h.keep0 hk0
  have hdl : d.length = sn := h.rows.hlen
  have hn12 : 1 ≤ sn ∧ sn ≤ 2 := by have := hg.n; simp only at this; omega
  have hloop := hg.loop
  simp only at hloop
  have hnmb := nm_byt hg.nm
  have hnml := nm_len hg.nm
  simp only at hnmb hnml
  have HFM : Hid (∀ w, Calls Try.prog 28 #[.agg #[.string (strOfNums nm), .int .i64 rate, .bool lp, .int .i64 a, .int .i64 b, .slice so sn sc]] w (ChkM ⟨nFmt, fmtL d.length rate⟩ w)) := fun w => by
    rw [hdl]
    exact format_any nm rate lp a b so sn sc hn12 hg.rate h.le w
  have HRI : Hid (∀ w, Calls Try.prog 29 #[.agg #[.string (strOfNums nm), .int .i64 rate, .bool lp, .int .i64 a, .int .i64 b, .slice so sn sc]] w (ChkM ⟨nLoop, ringL a b⟩ w)) := fun w => ring_any nm rate lp a b so sn sc hloop.1 (by omega) hloop.2.2.1 (by omega) w
  have hCL : chunksL ⟨nm, rate, lp, a, b, d⟩ = [⟨nFmt, fmtL d.length rate⟩, ⟨nName, nm⟩] ++ (if lp then [⟨nLoop, ringL a b⟩] else []) ++ [⟨nData, bodyL d (lenS ⟨nm, rate, lp, a, b, d⟩)⟩] := rfl
  have HCL := Lib.hid hCL
  have HG := Lib.hid hg
  go_enter Try.func17, Try.ntmps17
  go_upto_region 1 with fail
  generalize w.alloc (.cells #[.string (strOfNums nm), .int .i64 rate, .bool lp, .int .i64 a, .int .i64 b, .slice so sn sc] 37) = W at *
  have HS := Lib.hid hs
  have HZ0 := Lib.hid hz0
  have HCK : Hid (Calls Try.prog 14 #[.agg #[.string (strOfNums nm), .int .i64 rate, .bool lp, .int .i64 a, .int .i64 b, .slice so sn sc]] W (fun e w2 => e = .returned (.int .i64 0) ∧ Below W.heap.size W w2)) := by
    have := check_any _ _ W hs
    rw [(chk_zero _).2 hg] at this
    exact this
  have HBO : Hid (∀ w', Below W.heap.size W w' → Calls Try.prog 30 #[.agg #[.string (strOfNums nm), .int .i64 rate, .bool lp, .int .i64 a, .int .i64 b, .slice so sn sc]] w' (ChkM ⟨nData, bodyL d (lenS ⟨nm, rate, lp, a, b, d⟩)⟩ w')) := fun w' hb => body_any _ _ _ _ _ _ _ _ _ w' (HS.out.keep0 hb) HG.out
  obtain ⟨c0, c1, c2, c3, c4, c5⟩ := six_cells hz0
  clear hs h hg hz0 hCL
  go_upto_region 4 with (go_at_call 14; refine HCK.out.mono ?_; rintro e w1 ⟨rfl, hb1⟩)
  clear c0 c1 c2 c3 c4 c5 HCK
  have hbd : Below W.heap.size W w1.drew := bstep hb1 (Below.refl _ w1).drew
  have hbe : Below W.heap.size W (cvW w1.drew nm) := bstep hbd (cv_below nm _)
  have hzd := (hbd.block _ (lt_of_block HZ0.out)).trans HZ0.out
  have hze := (hbe.block _ (lt_of_block HZ0.out)).trans HZ0.out
  have hcv := cv_run nm
  go_cut [5] (fun v5 wx => Col W 2 [⟨nFmt, fmtL d.length rate⟩, ⟨nName, nm⟩] v5 wx)
  case first =>
    obtain ⟨c0, c1, c2, c3, c4, c5⟩ := six_cells hzd
    obtain ⟨e0, e1, e2, e3, e4, e5⟩ := six_cells hze
    go_region_with (first | (go_at_call 28; refine (HFM.out _).mono ?_; rintro e w2 ⟨m1, rfl, hm1, hd1, hb2⟩; have hb3 := bstep (by first | exact hbd | exact hbe) hb2; have hz3 := (hb3.block _ (lt_of_block HZ0.out)).trans HZ0.out; have hb4 := bstep hb3 (cv_below nm w2); have hz4 := (hb4.block _ (lt_of_block HZ0.out)).trans HZ0.out; obtain ⟨p0, p1, p2, p3, p4, p5⟩ := six_cells hz3; obtain ⟨q0, q1, q2, q3, q4, q5⟩ := six_cells hz4))
    all_goals
      simp only [Act.put, List.getElem_toArray, List.getElem_cons_succ, List.getElem_cons_zero, List.setIfInBounds_toArray, List.set_cons_zero, List.set_cons_succ]
      go_wp2_with fail
      go_meet
      first
        | exact ⟨_, OwnC.mk2 m1 ⟨nName, some ⟨w2.heap.size, 0, none⟩, nm.length, cvC w2 nm⟩ (hm1.keep0 (cv_below nm w2)) (cv_is nm w2 hnmb (by unfold maxLen; omega)).1 hb4.size, dats2 ((hd1.keep0 (cv_below nm w2)).keep0 (below_alloc _ _)) ((cv_is nm w2 hnmb (by unfold maxLen; omega)).2.keep0 (below_alloc _ _)), hb4.alloc hb4.size _⟩
        | exact ⟨_, OwnC.mk2 m1 ⟨nName, some ⟨w1.drew.heap.size, 0, none⟩, nm.length, cvC w1.drew nm⟩ hm1 ((cv_is nm w1.drew hnmb (by unfold maxLen; omega)).1.keep0 hb2) hb3.size, dats2 (hd1.keep0 (below_alloc _ _)) (((cv_is nm w1.drew hnmb (by unfold maxLen; omega)).2.keep0 hb2).keep0 (below_alloc _ _)), hb3.alloc hb3.size _⟩
  case rest =>
    obtain ⟨ms, hO, hD, hb⟩ := hcut
    clear hbd hbe hzd hze hcv hb1
    have hz1 := (hb.block _ (lt_of_block HZ0.out)).trans HZ0.out
    obtain ⟨c0, c1, c2, c3, c4, c5⟩ := six_cells hz1
    clear hz1 hloop
    go_upto_if 19 with fail
    go_cut [5] (fun v5 wx => ∃ n, n ≤ 3 ∧ Col W n ([⟨nFmt, fmtL d.length rate⟩, ⟨nName, nm⟩] ++ (if lp then [⟨nLoop, ringL a b⟩] else [])) v5 wx)
    case first =>
      cases lp with
      | false =>
        have HX := Lib.hid hO
        clear hO
        go_wp2_with fail
        go_meet
        exact ⟨2, by omega, ms, HX.out, hD, hb⟩
      | true =>
        have HX := Lib.hid hO
        clear hO
        go_upto_region 6 with fail
        go_wp2_with (first | (go_at_call 29; refine (HRI.out _).mono ?_; rintro e w2 ⟨m, rfl, hm, hd, hb2⟩; have hO2 := HX.out.keep0 hb2; have hD2 := hD.keep0 hb2; have hb3 := bstep hb hb2) | (at_builtin; refine wpList_append_rec rfl (.tmp 20) (.tmp 23) 22 27 2 rfl Try.underlying22 infoChunk rfl (by decide) W.heap.size _ _ _ rfl hO2.own (valsC m) rfl rfl (valsC_one _) ?_ ?_ ?_ ?_))
        case refine_1 => omega
        case refine_2 => unfold maxLen; omega
        case refine_3 => exact hb3.size
        intro v' w3 hown hk3
        have HR := Lib.hid (hO2.snoc2 hD2 m _ hown hk3 hm hd)
        have hb4 := hb3.trans (owns_below hO2.own hk3 hb3.size)
        clear hown hk3 hO2 hD2 hm hd
        go_wp2_with fail
        go_meet
        exact ⟨3, by omega, _, HR.out.1, HR.out.2, hb4⟩
    case rest =>
      clear c0 c1 c2 c3 c4 c5 hO hD hb
      obtain ⟨n, hn3, ms, hO, hD, hb⟩ := hcut
      have hz1 := (hb.block _ (lt_of_block HZ0.out)).trans HZ0.out
      obtain ⟨c0, c1, c2, c3, c4, c5⟩ := six_cells hz1
      have HX := Lib.hid hO
      clear hO hz1
      go_wp2_with (first | (go_at_call 30; refine (HBO.out _ hb).mono ?_; rintro e w2 ⟨m, rfl, hm, hd, hb2⟩; have hO2 := HX.out.keep0 hb2; have hD2 := hD.keep0 hb2; have hb3 := bstep hb hb2) | (at_builtin; refine wpList_append_rec rfl (.tmp 25) (.tmp 28) 22 27 2 rfl Try.underlying22 infoChunk rfl (by decide) W.heap.size _ _ _ rfl hO2.own (valsC m) rfl rfl (valsC_one _) ?_ ?_ ?_ ?_))
      case refine_1 => omega
      case refine_2 => unfold maxLen; omega
      case refine_3 => exact hb3.size
      intro v' w3 hown hk3
      have hO4 := (hO2.snoc2 hD2 m _ hown hk3 hm hd).1
      have hb4 := hb3.trans (owns_below hO2.own hk3 hb3.size)
      rw [← HCL.out] at hO4
      obtain ⟨hsm, hct⟩ := chunks_few HG.out hl
      have hfew := inner_few HG.out hl
      have HFJ := Lib.hid (fileL_join ⟨nm, rate, lp, a, b, d⟩)
      have HCB := Lib.hid (joinL_byt (chunks_byt HG.out))
      obtain ⟨ao, cap, rfl, hcap, hC⟩ := hO4.chs
      clear hown hk3 hO2 hD2 hm hd hO4 HX hD hb2 hb3 hb c0 c1 c2 c3 c4 c5 HBO HRI HFM
      generalize chunksL ⟨nm, rate, lp, a, b, d⟩ = L at *
      have hn4 : n + 1 ≤ 100 := by omega
      have HJ : Hid (∀ w', Below w3.heap.size w3 w' → Calls Try.prog 9 #[.slice ao (n + 1) cap] w' fun e w2 => ∃ ro rn rc, e = .returned (.slice ro rn rc) ∧ rn ≤ rc ∧ rc ≤ maxLen ∧ Ints .u8 w2 ro rn (joinL L) ∧ Below w'.heap.size w' w2) := fun w' hb => join_any ao (n + 1) cap L hn4 hsm w' (hC.keep0 hb)
      generalize n + 1 = n1 at *
      clear hC hcap
      have kc : (convert 25 25 (.slice (some ⟨w3.heap.size, 0, none⟩) 4 4)).run Try.prog (w3.alloc (.cells #[.int .u8 87, .int .u8 65, .int .u8 86, .int .u8 69] 5)) = .ok (.slice (some ⟨w3.heap.size, 0, none⟩) 4 4) (w3.alloc (.cells #[.int .u8 87, .int .u8 65, .int .u8 86, .int .u8 69] 5 (4, 5))) := Lib.run_convert_bytes_const (P := Try.prog) w3 25 5 #[.int .u8 87, .int .u8 65, .int .u8 86, .int .u8 69] 4 4 Try.underlying25 Try.underlying5
      have hbw := below_alloc w3 (.cells #[.int .u8 87, .int .u8 65, .int .u8 86, .int .u8 69] 5 (4, 5))
      have hWb := heap_alloc_new w3 (.cells #[.int .u8 87, .int .u8 65, .int .u8 86, .int .u8 69] 5 (4, 5))
      have hb5 := hb4.alloc hb4.size (.cells #[.int .u8 87, .int .u8 65, .int .u8 86, .int .u8 69] 5 (4, 5))
      have hJ0 : joinL L ≠ [] := fun e => by
        have h1 := congrArg List.length HCL.out
        have h2 : L ≠ [] := fun e' => by rw [e'] at h1; simp at h1
        cases L with
        | nil => exact h2 rfl
        | cons c r =>
          have : (joinL (c :: r)).length = (encC c).length + (joinL r).length := by simp [joinL]
          rw [e, encC_len] at this
          simp at this
          omega
      have HSM1 : Hid (∀ (X : World) (m : ChM), m.Is X ⟨nRIFF, nWAVE ++ joinL L⟩ → Calls Try.prog 9 #[.slice (some ⟨X.heap.size, 0, none⟩) 1 1] (X.alloc (.cells #[.string (strOfNums m.s), .slice m.ao m.n m.cap] 27)) fun e w2 => ∃ ro rn rc, e = .returned (.slice ro rn rc) ∧ rn ≤ rc ∧ rc ≤ maxLen ∧ Ints .u8 w2 ro rn (joinL [⟨nRIFF, nWAVE ++ joinL L⟩]) ∧ Below (X.alloc (.cells #[.string (strOfNums m.s), .slice m.ao m.n m.cap] 27)).heap.size (X.alloc (.cells #[.string (strOfNums m.s), .slice m.ao m.n m.cap] 27)) w2) := fun X m hm => by
        obtain ⟨o, c, he, hc, hC⟩ := (OwnC.mk1 (B := 0) m hm (Nat.zero_le _)).chs
        cases he
        exact join_any _ 1 1 _ (by omega) (fun c hc => by
          rcases List.mem_singleton.1 hc with rfl
          refine ⟨(show nRIFF.length ≤ 1000 by decide), ?_⟩
          simp only [List.length_append]
          have : nWAVE.length = 4 := rfl
          omega) _ hC
      go_wp2_with (first | (go_at_call 9; refine (HJ.out _ hbw).mono ?_; rintro e w4 ⟨jo, jn, jc, rfl, hj1, hj2, hjI, hj3⟩; have hW4 := (hj3.block _ (lt_of_block hWb)).trans hWb; have hb6 := hb5.trans (hj3.mono hb5.size); have hold := wave_old hW4; have hjl := hjI.hlen) | (at_builtin; refine wpList_append_full rfl (.tmp 31) (.tmp 33) rfl ⟨w3.heap.size, 0, none⟩ 4 (nWAVE.map (Value.int .u8)) rfl rfl hold jo jn jc ((joinL L).map (Value.int .u8)) rfl hjI.row ?_ ?_ ?_))
      case refine_1 => exact Nat.pos_of_ne_zero (fun e => hJ0 (List.eq_nil_of_length_eq_zero (hjl.trans e)))
      case refine_2 => omega
      intro cp5 w5 hcp5 hrow5 hk5
      have hb7 := hb6.trans (hk5.mono hb6.size)
      rw [← List.map_append] at hrow5
      have hI5 := hrow5.ints (by unfold maxLen; omega) (wf_of (byt_app (byt_of_small (l := nWAVE) (by decide)) HCB.out))
      generalize 4 + jn = k5 at *
      generalize w4.heap.size = o5b at *
      have HSM2 : Hid (Calls Try.prog 9 #[.slice (some ⟨w5.heap.size, 0, none⟩) 1 1] (w5.alloc (.cells #[.string (ByteArray.mk #[82, 73, 70, 70]), .slice (some ⟨o5b, 0, none⟩) k5 cp5] 27)) fun e w2 => ∃ ro rn rc, e = .returned (.slice ro rn rc) ∧ rn ≤ rc ∧ rc ≤ maxLen ∧ Ints .u8 w2 ro rn (fileL ⟨nm, rate, lp, a, b, d⟩) ∧ Below (w5.alloc (.cells #[.string (ByteArray.mk #[82, 73, 70, 70]), .slice (some ⟨o5b, 0, none⟩) k5 cp5] 27)).heap.size (w5.alloc (.cells #[.string (ByteArray.mk #[82, 73, 70, 70]), .slice (some ⟨o5b, 0, none⟩) k5 cp5] 27)) w2) := by
        have := HSM1.out w5 ⟨nRIFF, some ⟨o5b, 0, none⟩, k5, cp5⟩ ⟨rfl, (byt_of_small (l := nRIFF) (by decide)), hcp5, hI5⟩
        rw [HFJ.out] at this
        exact this
      have hb8 := hb7.alloc hb7.size (.cells #[.string (ByteArray.mk #[82, 73, 70, 70]), .slice (some ⟨o5b, 0, none⟩) k5 cp5] 27)
      clear hk5 hrow5 hI5 hWb hb5 hb6 hbw HJ HSM1 hjI hj3 hW4 kc hJ0
      go_wp2_with (go_at_call 9; refine HSM2.out.mono ?_; rintro e w6 ⟨ro, rn, rc, rfl, hr1, hr2, hrI, hr3⟩)
      go_ret2
      exact ⟨ro, rn, rc, rfl, hr1, hr2, hrI, hk0.trans ((hb8.trans (hr3.mono hb8.size)).mono hk0.size)⟩
end Go.Proofs.Ytpbeehfafbgphaa
