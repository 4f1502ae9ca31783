/- chapter 14's Few, told so that it stands when older blocks are written. -/
import Derived.Test.YtpbeehfafbgphaaFsm
namespace Go.Proofs.Ytpbeehfafbgphaa
open Go Go.RowKit Go.Calli
set_option linter.unusedVariables false
set_option linter.unusedSimpArgs false
attribute [local irreducible] wpStill wpAnyH wpAnyS wpList Code.wp
def FwRel (s : Sm) (m : SmM) (wo w : World) (v3 v4 : Value) (wr : World) : Prop := ∃ (k : Nat) (ms : List RwM), k ≤ m.n ∧ k ≤ 4 ∧ v4 = .int .i64 k ∧ OwnR wo w.heap.size v3 k ms ((s.d.take k).map (fun r => r.take 150)) wr ∧ Below w.heap.size w wr ∧ wr.heap[w.heap.size]? = some (.cells #[.string (strOfNums (s.nm.take 100)), .int .i64 s.rate, .bool s.lp, .int .i64 s.a, .int .i64 s.b, .slice m.ao m.n m.cap] 37 (0, 0)) ∧ wr.heap[w.heap.size + 1]? = some (.cells #[.string (ByteArray.mk #[]), .int .i64 0, .bool false, .int .i64 0, .int .i64 0, .slice none 0 0] 37 (0, 0))
set_option maxRecDepth 100000 in
set_option maxHeartbeats 4000000 in
theorem fews_wide (s : Sm) (m : SmM) (wo w : World) (h : SmIs wo s m) (hbo : Below wo.heap.size wo w) : Calls Try.prog 12 #[.agg (cellsS s m)] w fun e w' => ∃ m', e = .returned (.agg (cellsS (fewS s) m')) ∧ (∀ w2, Keeps (fun k => k < w.heap.size) w' w2 → Below wo.heap.size wo w2 → SmIs w2 (fewS s) m') ∧ Below w.heap.size w w' := by
  have hk0 := balloc (below_alloc w (.cells (cellsS s m) 37)) (.cells #[.string (ByteArray.mk #[]), .int .i64 0, .bool false, .int .i64 0, .int .i64 0, .slice none 0 0] 37)
  have hz0 := ((below_alloc (w.alloc (.cells (cellsS s m) 37)) (.cells #[.string (ByteArray.mk #[]), .int .i64 0, .bool false, .int .i64 0, .int .i64 0, .slice none 0 0] 37)).block w.heap.size (by simp)).trans (heap_alloc_new w _)
  have hz1 := heap_alloc_new (w.alloc (.cells (cellsS s m) 37)) (.cells #[.string (ByteArray.mk #[]), .int .i64 0, .bool false, .int .i64 0, .int .i64 0, .slice none 0 0] 37)
  rw [World.size_alloc] at hz1
  have hfx : (fewS s) = ⟨s.nm.take 100, s.rate, s.lp, s.a, s.b, fewR s.d⟩ := rfl
  rw [hfx]
  clear hfx
  obtain ⟨hby, hnl, hle, hR⟩ := h
  have HL := Lib.hid hR.hlen
  have hsz : (strOfNums s.nm).size = s.nm.length := strOfNums_size _
  have hlim := hR.lim
  unfold maxLen at hlim hnl
  obtain ⟨nm, rate, lp, a, b, d⟩ := s
  obtain ⟨ao, n, cap⟩ := m
  simp only at hle hR HL hby hnl hsz hlim
  have hex : (strOfNums nm).extract 0 100 = strOfNums (nm.take 100) := by rw [strOfNums_extract, List.drop_zero]
  unfold cellsS at *
  simp only at hz0 hz1 hk0
  go_enter Try.func12, Try.ntmps12
  go_upto_region 1 with fail
  generalize (w.alloc (.cells #[.string (strOfNums nm), .int .i64 rate, .bool lp, .int .i64 a, .int .i64 b, .slice ao n cap] 37)).alloc (.cells #[.string (ByteArray.mk #[]), .int .i64 0, .bool false, .int .i64 0, .int .i64 0, .slice none 0 0] 37) = W at *
  obtain ⟨c0, c1, c2, c3, c4, c5⟩ := six_cells hz0
  go_upto_if 9 with fail
  go_cut [] (fun wx => Below w.heap.size w wx ∧ wx.heap[w.heap.size]? = some (.cells #[.string (strOfNums (nm.take 100)), .int .i64 rate, .bool lp, .int .i64 a, .int .i64 b, .slice ao n cap] 37 (0, 0)) ∧ wx.heap[w.heap.size + 1]? = some (.cells #[.string (ByteArray.mk #[]), .int .i64 0, .bool false, .int .i64 0, .int .i64 0, .slice none 0 0] 37 (0, 0)))
  case first =>
    by_cases h100 : 100 < nm.length
    · have fz : W.frozen? ⟨w.heap.size, 0, none⟩ = false := frozen_of_row _ _ _ _ _ hz0
      go_wp2_with fail
      go_meet
      exact ⟨hk0.setCell (p := ⟨w.heap.size, 0, none⟩) (Nat.le_refl _) _, heap_setCell_same _ _ _ _ _ _ hz0, (heap_setCell_other _ _ _ _ (by show w.heap.size + 1 ≠ w.heap.size; omega)).trans hz1⟩
    · go_wp2_with fail
      go_meet
      exact ⟨hk0, by rw [List.take_of_length_le (by omega)]; exact hz0, hz1⟩
  case rest =>
    clear c0 c1 c2 c3 c4 c5 hz0 hz1 hk0
    obtain ⟨hk0, hz0, hz1⟩ := hcut
    go_wp2_with fail
    go_loopw [3, 4] (fun v3 v4 wr => FwRel ⟨nm, rate, lp, a, b, d⟩ ⟨ao, n, cap⟩ wo w v3 v4 wr) (fun _ v4 _ => (4 - (intOf v4).toNat))
    case atStart => exact ⟨0, [], by omega, by omega, rfl, ⟨World.ownsRow_nil _ _ _ _, by simp, fun i hi => by omega⟩, hk0, hz0, hz1⟩
    case round =>
      clear hz0 hz1 hk0
      obtain ⟨k, ms, hkn, hk4, rfl, hO, hb, hz0, hz1⟩ := hrel
      simp only at hkn hO hz0
      obtain ⟨c0, c1, c2, c3, c4, c5⟩ := six_cells hz0
      by_cases hlt : k < n ∧ k < 4
      · obtain ⟨hl1, hl2⟩ := hlt
        obtain ⟨p, ro, rn, rc, rfl, hc, hrc, hI⟩ := hR.cell k hl1
        have hsn := fewR_snoc d k (by rw [HL.out]; exact hl1) hl2
        generalize d.getD k [] = r at *
        have hc2 := ((hbo.trans (hb.mono hbo.size)).cell (World.block_lt_of_cell? wo _ hc)).trans hc
        have hIm := hI.lim
        unfold maxLen at hIm
        have HSN := Lib.hid hsn
        clear hsn hc
        have HI : Hid (∃ r2, r2 = r.take 150 ∧ Ints .i64 wo ro (min rn 150) r2) := ⟨_, rfl, by
          rcases Nat.lt_or_ge 150 rn with h | h
          · rw [Nat.min_eq_right (by omega)]; exact hI.take (by omega)
          · rw [Nat.min_eq_left h, List.take_of_length_le (by rw [hI.hlen]; exact h)]; exact hI⟩
        have hso : Hid (150 < rn → ∃ q, ro = some q) := fun h => by obtain ⟨q, hq, _⟩ := hI.some (by omega); exact ⟨q, hq⟩
        clear hI
        go_upto_if 32 with fail
        go_cut [5] (fun v5 wx => v5 = .slice ro (min rn 150) rc ∧ wr = wx)
        case first =>
          by_cases h150 : 150 < rn
          · obtain ⟨q, rfl⟩ := hso.out h150
            have hm : min rn 150 = 150 := by omega
            clear HI hso
            go_wp2_with fail
            go_meet
            exact ⟨by rw [hm], rfl⟩
          · have hm : min rn 150 = rn := by omega
            clear HI hso
            go_wp2_with fail
            go_meet
            exact ⟨by rw [hm], rfl⟩
        case rest =>
          obtain ⟨rfl, rfl⟩ := hcut
          have hmn : min rn 150 ≤ rc := by omega
          generalize min rn 150 = q at *
          go_wp2_with (at_builtin; refine wpList_append_one rfl (.tmp 35) (.tmp 37) 35 52 rfl Try.underlying35 infoRow rfl w.heap.size _ _ _ rfl hO.own (valR ⟨ro, q, rc⟩) rfl rfl ?_ ?_ ?_ ?_)
          case refine_1 => omega
          case refine_2 => unfold maxLen; omega
          case refine_3 => exact hb.size
          intro v' w' hown hk'
          have HR : Hid (FwRel ⟨nm, rate, lp, a, b, d⟩ ⟨some p, n, cap⟩ wo w v' (.int .i64 ((k : Int) + 1)) w') := by
            obtain ⟨r2, hr2, hI2⟩ := HI.out
            refine ⟨k + 1, ms ++ [⟨ro, q, rc⟩], by simp only; omega, by omega, by go_num, ?_, hb.trans (owns_below hO.own hk' hb.size), ?_, ?_⟩
            · simp only
              rw [HSN.out, ← hr2]
              exact hO.snoc ⟨ro, q, rc⟩ r2 hown hmn hI2
            · exact hk'.heap hz0 (fun e => by obtain ⟨cs, hcs⟩ := own_block_type hO.own e; exact block_ne hz0 hcs (by decide) rfl)
            · exact hk'.heap hz1 (fun e => by obtain ⟨cs, hcs⟩ := own_block_type hO.own e; exact block_ne hz1 hcs (by decide) rfl)
          clear hown hk'
          go_wp2_with fail
          refine ⟨HR.out, ?_⟩
          simp [intOf]; omega
      · have hE : (d.take k).map (fun r => r.take 150) = fewR d := by
          unfold fewR
          by_cases hk : k = 4
          · rw [hk]
          · rw [List.take_of_length_le (by rw [HL.out]; omega), List.take_of_length_le (by rw [HL.out]; omega)]
        rw [hE] at hO
        obtain ⟨ao2, cap2, rfl, hc2, _⟩ := hO.rows (hbo.trans (hb.mono hbo.size))
        have fz : wr.frozen? ⟨w.heap.size, 5, none⟩ = false := frozen_of_row _ _ _ _ _ hz0
        have hy0 : (wr.setCell ⟨w.heap.size, 5, none⟩ (.slice ao2 k cap2)).heap[w.heap.size]? = some (.cells #[.string (strOfNums (nm.take 100)), .int .i64 rate, .bool lp, .int .i64 a, .int .i64 b, .slice ao2 k cap2] 37 (0, 0)) := heap_setCell_same _ _ _ _ _ _ hz0
        have hy1 : (wr.setCell ⟨w.heap.size, 5, none⟩ (.slice ao2 k cap2)).heap[w.heap.size + 1]? = _ := (heap_setCell_other _ _ _ _ (by simp)).trans hz1
        have hky : Keeps (fun b => b = w.heap.size ∨ b = w.heap.size + 1) wr (wr.setCell ⟨w.heap.size, 5, none⟩ (.slice ao2 k cap2)) := (Keeps.refl _ wr).setCell (p := ⟨w.heap.size, 5, none⟩) (.inr (.inl rfl)) _
        have hoff : ∀ b, (Value.slice ao2 k cap2).ownBlock = some b → ¬ (b = w.heap.size ∨ b = w.heap.size + 1) := by
          rintro b e (rfl | rfl)
          · obtain ⟨cs, hcs⟩ := own_block_type hO.own e; exact block_ne hz0 hcs (by decide) rfl
          · obtain ⟨cs, hcs⟩ := own_block_type hO.own e; exact block_ne hz1 hcs (by decide) rfl
        have hk6 := six_keeps hky (b := w.heap.size + 1) (.inr rfl) (.string (strOfNums (nm.take 100))) (.int .i64 rate) (.bool lp) (.int .i64 a) (.int .i64 b) (.slice ao2 k cap2)
        have hs6 := six_set hy1 (.string (strOfNums (nm.take 100))) (.int .i64 rate) (.bool lp) (.int .i64 a) (.int .i64 b) (.slice ao2 k cap2)
        have hO6 := hO.kept hk6 hoff
        have hb6 := hb.trans (hk6.toBelow hb.size (fun k hk h => by omega))
        clear hky hE hO
        have HK6 := Lib.hid hk6
        have HS6 := Lib.hid hs6
        have HO6 := Lib.hid hO6
        have HB6 := Lib.hid hb6
        clear hk6 hs6 hO6 hb6
        rcases (show (k = n) ∨ (k < n ∧ k = 4) by omega) with rfl | ⟨hkn, hk44⟩
        · go_upto_region 12 with fail
          generalize wr.setCell ⟨w.heap.size, 5, none⟩ (.slice ao2 k cap2) = W5 at *
          clear c0 c1 c2 c3 c4 c5 hz0 hz1
          obtain ⟨c0, c1, c2, c3, c4, c5⟩ := six_cells hy0
          obtain ⟨e0, e1, e2, e3, e4, e5⟩ := six_cells hy1
          obtain ⟨g0, g1, g2, g3, g4, g5⟩ := six_frozen hy1
          go_wp2_with fail
          refine bodyPost_ret (results_cell_row rfl _ _ _ _ _ _ _ rfl HS6.out Try.underlying37 rfl info37) rfl ⟨⟨ao2, k, cap2⟩, rfl, fun w2 hk2 hb2 => ?_, HB6.out⟩
          obtain ⟨ao3, cap3, he3, hc3, hR3⟩ := (HO6.out.kept hk2 (fun b e hb => Nat.not_lt.2 ((HO6.out.own.lt b e).1) hb)).rows hb2
          cases he3
          exact ⟨fun z hz => hby z (List.mem_of_mem_take hz), by simp only; rw [List.length_take]; unfold maxLen; omega, hc3, hR3⟩
        · have hk45 : ¬ ((k : Int) < 4) := by omega
          clear hk44 hlt hk4
          go_upto_region 12 with fail
          generalize wr.setCell ⟨w.heap.size, 5, none⟩ (.slice ao2 k cap2) = W5 at *
          clear c0 c1 c2 c3 c4 c5 hz0 hz1
          obtain ⟨c0, c1, c2, c3, c4, c5⟩ := six_cells hy0
          obtain ⟨e0, e1, e2, e3, e4, e5⟩ := six_cells hy1
          obtain ⟨g0, g1, g2, g3, g4, g5⟩ := six_frozen hy1
          go_wp2_with fail
          refine bodyPost_ret (results_cell_row rfl _ _ _ _ _ _ _ rfl HS6.out Try.underlying37 rfl info37) rfl ⟨⟨ao2, k, cap2⟩, rfl, fun w2 hk2 hb2 => ?_, HB6.out⟩
          obtain ⟨ao3, cap3, he3, hc3, hR3⟩ := (HO6.out.kept hk2 (fun b e hb => Nat.not_lt.2 ((HO6.out.own.lt b e).1) hb)).rows hb2
          cases he3
          exact ⟨fun z hz => hby z (List.mem_of_mem_take hz), by simp only; rw [List.length_take]; unfold maxLen; omega, hc3, hR3⟩
end Go.Proofs.Ytpbeehfafbgphaa
