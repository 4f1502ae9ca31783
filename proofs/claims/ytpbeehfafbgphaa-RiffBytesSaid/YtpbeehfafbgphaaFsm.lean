/- The walk of chapter 14's Few: a sample, cut. -/
import Derived.Test.YtpbeehfafbgphaaChs
namespace Go.Proofs.Ytpbeehfafbgphaa
open Go Go.RowKit Go.Calli
set_option linter.unusedVariables false
set_option linter.unusedSimpArgs false
attribute [local irreducible] wpStill wpAnyH wpAnyS wpList Code.wp
def fewR (d : List (List Int)) : List (List Int) := (d.take 4).map (fun r => r.take 150)
def fewS (s : Sm) : Sm := ⟨s.nm.take 100, s.rate, s.lp, s.a, s.b, fewR s.d⟩
/-- A row's slice. -/
structure RwM where
  ao : Option Addr
  n : Nat
  cap : Nat
def rw0 : RwM := ⟨none, 0, 0⟩
def valR (m : RwM) : Value := .slice m.ao m.n m.cap
theorem infoRow : (Try.prog.info? 52).map (fun i => (i.zero, i.size, i.bytes)) = some (some (.slice none 0 0), 1, 24) := by kernel_rfl
theorem info37 : (Try.prog.info? 37).map (·.size) = some 6 := by kernel_rfl
/-- Rows that a call has collected; they lie where they lay in w. -/
structure OwnR (w : World) (B : Nat) (v : Value) (k : Nat) (ms : List RwM) (d : List (List Int)) (wr : World) : Prop where
  own : wr.ownsRow B 52 1 v k (ms.map valR)
  dl : d.length = k
  is : ∀ i, i < k → (ms.getD i rw0).n ≤ (ms.getD i rw0).cap ∧ Ints .i64 w (ms.getD i rw0).ao (ms.getD i rw0).n (d.getD i [])
theorem OwnR.mlen {w : World} {B : Nat} {v : Value} {k : Nat} {ms : List RwM} {d : List (List Int)} {wr : World} (h : OwnR w B v k ms d wr) : ms.length = k := by
  have := h.own.1
  simpa using this
theorem OwnR.snoc {w : World} {B : Nat} {v v' : Value} {k : Nat} {ms : List RwM} {d : List (List Int)} {wr w' : World} (h : OwnR w B v k ms d wr) (m : RwM) (r : List Int) (ho : w'.ownsRow B 52 1 v' (k + 1) (ms.map valR ++ [valR m])) (hle : m.n ≤ m.cap) (hI : Ints .i64 w m.ao m.n r) : OwnR w B v' (k + 1) (ms ++ [m]) (d ++ [r]) w' := by
  have hml := h.mlen
  have hdl := h.dl
  refine ⟨by rw [List.map_append]; exact ho, by rw [List.length_append, hdl]; rfl, fun i hi => ?_⟩
  by_cases hik : i < k
  · rw [show (ms ++ [m]).getD i rw0 = ms.getD i rw0 by simp [List.getD, List.getElem?_append_left, hml, hik], show (d ++ [r]).getD i [] = d.getD i [] by simp [List.getD, List.getElem?_append_left, hdl, hik]]
    exact h.is i hik
  · obtain rfl : i = k := by omega
    rw [show (ms ++ [m]).getD i rw0 = m by simp [List.getD, ← hml], show (d ++ [r]).getD i [] = r by simp [List.getD, ← hdl]]
    exact ⟨hle, hI⟩
theorem OwnR.rows {w : World} {B : Nat} {v : Value} {k : Nat} {ms : List RwM} {d : List (List Int)} {wr : World} (h : OwnR w B v k ms d wr) (hb : Below w.heap.size w wr) : ∃ ao cap, v = .slice ao k cap ∧ k ≤ cap ∧ Rows wr ao k d := by
  obtain ⟨ao, cap, rfl, hc, hrow, hl, _, _⟩ := own_slice h.own
  refine ⟨ao, cap, rfl, hc, h.dl, hl, fun i hi => ?_⟩
  obtain ⟨a, ha, hcell⟩ := hrow.cell i (valR (ms.getD i rw0)) (by have := h.mlen; simp [List.getD, show i < ms.length by omega])
  obtain ⟨h1, h2⟩ := h.is i hi
  exact ⟨a, _, _, _, ha, hcell, h1, h2.keep0 hb⟩
theorem fewR_snoc (d : List (List Int)) (k : Nat) (h1 : k < d.length) (h4 : k < 4) : ((d.take (k + 1)).map (fun r => r.take 150)) = (d.take k).map (fun r => r.take 150) ++ [(d.getD k []).take 150] := by
  rw [List.take_succ_eq_append_getElem h1, List.map_append]; simp [List.getD, h1]
theorem six_set {w : World} {b T : Nat} {e0 e1 e2 e3 e4 e5 : Value} (h : w.heap[b]? = some (.cells #[e0, e1, e2, e3, e4, e5] T (0, 0))) (v0 v1 v2 v3 v4 v5 : Value) : ((((((w.setCell ⟨b, 0, none⟩ v0).setCell ⟨b, 1, none⟩ v1).setCell ⟨b, 2, none⟩ v2).setCell ⟨b, 3, none⟩ v3).setCell ⟨b, 4, none⟩ v4).setCell ⟨b, 5, none⟩ v5).heap[b]? = some (.cells #[v0, v1, v2, v3, v4, v5] T (0, 0)) :=
  heap_setCell_same _ _ _ _ _ _ (heap_setCell_same _ _ _ _ _ _ (heap_setCell_same _ _ _ _ _ _ (heap_setCell_same _ _ _ _ _ _ (heap_setCell_same _ _ _ _ _ _ (heap_setCell_same _ _ _ _ _ _ h)))))
theorem six_keeps {S : Nat → Prop} {a w : World} (h : Keeps S a w) {b : Nat} (hb : S b) (v0 v1 v2 v3 v4 v5 : Value) : Keeps S a ((((((w.setCell ⟨b, 0, none⟩ v0).setCell ⟨b, 1, none⟩ v1).setCell ⟨b, 2, none⟩ v2).setCell ⟨b, 3, none⟩ v3).setCell ⟨b, 4, none⟩ v4).setCell ⟨b, 5, none⟩ v5) :=
  (((((h.setCell (p := ⟨b, 0, none⟩) (.inr hb) v0).setCell (p := ⟨b, 1, none⟩) (.inr hb) v1).setCell (p := ⟨b, 2, none⟩) (.inr hb) v2).setCell (p := ⟨b, 3, none⟩) (.inr hb) v3).setCell (p := ⟨b, 4, none⟩) (.inr hb) v4).setCell (p := ⟨b, 5, none⟩) (.inr hb) v5
theorem six_frozen {w : World} {b T : Nat} {cs : Array Value} (h : w.heap[b]? = some (.cells cs T (0, 0))) : w.frozen? ⟨b, 0, none⟩ = false ∧ w.frozen? ⟨b, 1, none⟩ = false ∧ w.frozen? ⟨b, 2, none⟩ = false ∧ w.frozen? ⟨b, 3, none⟩ = false ∧ w.frozen? ⟨b, 4, none⟩ = false ∧ w.frozen? ⟨b, 5, none⟩ = false :=
  ⟨frozen_of_row _ _ _ _ _ h, frozen_of_row _ _ _ _ _ h, frozen_of_row _ _ _ _ _ h, frozen_of_row _ _ _ _ _ h, frozen_of_row _ _ _ _ _ h, frozen_of_row _ _ _ _ _ h⟩
theorem OwnR.kept {S : Nat → Prop} {w : World} {B : Nat} {v : Value} {k : Nat} {ms : List RwM} {d : List (List Int)} {wr w' : World} (h : OwnR w B v k ms d wr) (hk : Keeps S wr w') (hS : ∀ b, v.ownBlock = some b → ¬ S b) : OwnR w B v k ms d w' := ⟨owns_kept h.own hk hS, h.dl, h.is⟩
def FsRel (s : Sm) (m : SmM) (w : World) (v3 v4 : Value) (wr : World) : Prop := ∃ (k : Nat) (ms : List RwM), k ≤ m.n ∧ k ≤ 4 ∧ v4 = .int .i64 k ∧ OwnR w w.heap.size v3 k ms ((s.d.take k).map (fun r => r.take 150)) wr ∧ Below w.heap.size w wr ∧ wr.heap[w.heap.size]? = some (.cells #[.string (strOfNums (s.nm.take 100)), .int .i64 s.rate, .bool s.lp, .int .i64 s.a, .int .i64 s.b, .slice m.ao m.n m.cap] 37 (0, 0)) ∧ wr.heap[w.heap.size + 1]? = some (.cells #[.string (ByteArray.mk #[]), .int .i64 0, .bool false, .int .i64 0, .int .i64 0, .slice none 0 0] 37 (0, 0))
set_option maxRecDepth 100000 in
set_option maxHeartbeats 4000000 in
theorem fews_any (s : Sm) (m : SmM) (w : World) (h : SmIs w s m) : Calls Try.prog 12 #[.agg (cellsS s m)] w fun e w' => ∃ m', e = .returned (.agg (cellsS (fewS s) m')) ∧ SmIs w' (fewS s) m' ∧ Below w.heap.size w w' := by
  have hk0 := balloc (below_alloc w (.cells (cellsS s m) 37)) (.cells #[.string (ByteArray.mk #[]), .int .i64 0, .bool false, .int .i64 0, .int .i64 0, .slice none 0 0] 37)
  have hz0 := ((below_alloc (w.alloc (.cells (cellsS s m) 37)) (.cells #[.string (ByteArray.mk #[]), .int .i64 0, .bool false, .int .i64 0, .int .i64 0, .slice none 0 0] 37)).block w.heap.size (by simp)).trans (heap_alloc_new w _)
  have hz1 := heap_alloc_new (w.alloc (.cells (cellsS s m) 37)) (.cells #[.string (ByteArray.mk #[]), .int .i64 0, .bool false, .int .i64 0, .int .i64 0, .slice none 0 0] 37)
  rw [World.size_alloc] at hz1
  have hfx : (fewS s) = ⟨s.nm.take 100, s.rate, s.lp, s.a, s.b, fewR s.d⟩ := rfl
  rw [hfx]
  clear hfx
  obtain ⟨hby, hnl, hle, hR⟩ := h
  have HL := Lib.hid hR.hlen
  have hsz : (strOfNums s.nm).size = s.nm.length := strOfNums_size _
  have hlim := hR.lim
  unfold maxLen at hlim hnl
  obtain ⟨nm, rate, lp, a, b, d⟩ := s
  obtain ⟨ao, n, cap⟩ := m
  simp only at hle hR HL hby hnl hsz hlim
  have hex : (strOfNums nm).extract 0 100 = strOfNums (nm.take 100) := by rw [strOfNums_extract, List.drop_zero]
  unfold cellsS at *
  simp only at hz0 hz1 hk0
  go_enter Try.func12, Try.ntmps12
  go_upto_region 1 with fail
  generalize (w.alloc (.cells #[.string (strOfNums nm), .int .i64 rate, .bool lp, .int .i64 a, .int .i64 b, .slice ao n cap] 37)).alloc (.cells #[.string (ByteArray.mk #[]), .int .i64 0, .bool false, .int .i64 0, .int .i64 0, .slice none 0 0] 37) = W at *
  obtain ⟨c0, c1, c2, c3, c4, c5⟩ := six_cells hz0
  go_upto_if 9 with fail
  go_cut [] (fun wx => Below w.heap.size w wx ∧ wx.heap[w.heap.size]? = some (.cells #[.string (strOfNums (nm.take 100)), .int .i64 rate, .bool lp, .int .i64 a, .int .i64 b, .slice ao n cap] 37 (0, 0)) ∧ wx.heap[w.heap.size + 1]? = some (.cells #[.string (ByteArray.mk #[]), .int .i64 0, .bool false, .int .i64 0, .int .i64 0, .slice none 0 0] 37 (0, 0)))
  case first =>
    by_cases h100 : 100 < nm.length
    · have fz : W.frozen? ⟨w.heap.size, 0, none⟩ = false := frozen_of_row _ _ _ _ _ hz0
      go_wp2_with fail
      go_meet
      exact ⟨hk0.setCell (p := ⟨w.heap.size, 0, none⟩) (Nat.le_refl _) _, heap_setCell_same _ _ _ _ _ _ hz0, (heap_setCell_other _ _ _ _ (by show w.heap.size + 1 ≠ w.heap.size; omega)).trans hz1⟩
    · go_wp2_with fail
      go_meet
      exact ⟨hk0, by rw [List.take_of_length_le (by omega)]; exact hz0, hz1⟩
  case rest =>
    clear c0 c1 c2 c3 c4 c5 hz0 hz1 hk0
    obtain ⟨hk0, hz0, hz1⟩ := hcut
    go_wp2_with fail
    go_loopw [3, 4] (fun v3 v4 wr => FsRel ⟨nm, rate, lp, a, b, d⟩ ⟨ao, n, cap⟩ w v3 v4 wr) (fun _ v4 _ => (4 - (intOf v4).toNat))
    case atStart => exact ⟨0, [], by omega, by omega, rfl, ⟨World.ownsRow_nil _ _ _ _, by simp, fun i hi => by omega⟩, hk0, hz0, hz1⟩
    case round =>
      clear hz0 hz1 hk0
      obtain ⟨k, ms, hkn, hk4, rfl, hO, hb, hz0, hz1⟩ := hrel
      simp only at hkn hO hz0
      obtain ⟨c0, c1, c2, c3, c4, c5⟩ := six_cells hz0
      by_cases hlt : k < n ∧ k < 4
      · obtain ⟨hl1, hl2⟩ := hlt
        obtain ⟨p, ro, rn, rc, rfl, hc, hrc, hI⟩ := hR.cell k hl1
        have hsn := fewR_snoc d k (by rw [HL.out]; exact hl1) hl2
        generalize d.getD k [] = r at *
        have hc2 := (hb.cell (World.block_lt_of_cell? w _ hc)).trans hc
        have hIm := hI.lim
        unfold maxLen at hIm
        have HSN := Lib.hid hsn
        clear hsn hc
        have HI : Hid (∃ r2, r2 = r.take 150 ∧ Ints .i64 w ro (min rn 150) r2) := ⟨_, rfl, by
          rcases Nat.lt_or_ge 150 rn with h | h
          · rw [Nat.min_eq_right (by omega)]; exact hI.take (by omega)
          · rw [Nat.min_eq_left h, List.take_of_length_le (by rw [hI.hlen]; exact h)]; exact hI⟩
        have hso : Hid (150 < rn → ∃ q, ro = some q) := fun h => by obtain ⟨q, hq, _⟩ := hI.some (by omega); exact ⟨q, hq⟩
        clear hI
        go_upto_if 32 with fail
        go_cut [5] (fun v5 wx => v5 = .slice ro (min rn 150) rc ∧ wr = wx)
        case first =>
          by_cases h150 : 150 < rn
          · obtain ⟨q, rfl⟩ := hso.out h150
            have hm : min rn 150 = 150 := by omega
            clear HI hso
            go_wp2_with fail
            go_meet
            exact ⟨by rw [hm], rfl⟩
          · have hm : min rn 150 = rn := by omega
            clear HI hso
            go_wp2_with fail
            go_meet
            exact ⟨by rw [hm], rfl⟩
        case rest =>
          obtain ⟨rfl, rfl⟩ := hcut
          have hmn : min rn 150 ≤ rc := by omega
          generalize min rn 150 = q at *
          go_wp2_with (at_builtin; refine wpList_append_one rfl (.tmp 35) (.tmp 37) 35 52 rfl Try.underlying35 infoRow rfl w.heap.size _ _ _ rfl hO.own (valR ⟨ro, q, rc⟩) rfl rfl ?_ ?_ ?_ ?_)
          case refine_1 => omega
          case refine_2 => unfold maxLen; omega
          case refine_3 => exact hb.size
          intro v' w' hown hk'
          have HR : Hid (FsRel ⟨nm, rate, lp, a, b, d⟩ ⟨some p, n, cap⟩ w v' (.int .i64 ((k : Int) + 1)) w') := by
            obtain ⟨r2, hr2, hI2⟩ := HI.out
            refine ⟨k + 1, ms ++ [⟨ro, q, rc⟩], by simp only; omega, by omega, by go_num, ?_, hb.trans (owns_below hO.own hk' hb.size), ?_, ?_⟩
            · simp only
              rw [HSN.out, ← hr2]
              exact hO.snoc ⟨ro, q, rc⟩ r2 hown hmn hI2
            · exact hk'.heap hz0 (fun e => by obtain ⟨cs, hcs⟩ := own_block_type hO.own e; exact block_ne hz0 hcs (by decide) rfl)
            · exact hk'.heap hz1 (fun e => by obtain ⟨cs, hcs⟩ := own_block_type hO.own e; exact block_ne hz1 hcs (by decide) rfl)
          clear hown hk'
          go_wp2_with fail
          refine ⟨HR.out, ?_⟩
          simp [intOf]; omega
      · have hE : (d.take k).map (fun r => r.take 150) = fewR d := by
          unfold fewR
          by_cases hk : k = 4
          · rw [hk]
          · rw [List.take_of_length_le (by rw [HL.out]; omega), List.take_of_length_le (by rw [HL.out]; omega)]
        rw [hE] at hO
        obtain ⟨ao2, cap2, rfl, hc2, _⟩ := hO.rows hb
        have fz : wr.frozen? ⟨w.heap.size, 5, none⟩ = false := frozen_of_row _ _ _ _ _ hz0
        have hy0 : (wr.setCell ⟨w.heap.size, 5, none⟩ (.slice ao2 k cap2)).heap[w.heap.size]? = some (.cells #[.string (strOfNums (nm.take 100)), .int .i64 rate, .bool lp, .int .i64 a, .int .i64 b, .slice ao2 k cap2] 37 (0, 0)) := heap_setCell_same _ _ _ _ _ _ hz0
        have hy1 : (wr.setCell ⟨w.heap.size, 5, none⟩ (.slice ao2 k cap2)).heap[w.heap.size + 1]? = _ := (heap_setCell_other _ _ _ _ (by simp)).trans hz1
        have hky : Keeps (fun b => b = w.heap.size ∨ b = w.heap.size + 1) wr (wr.setCell ⟨w.heap.size, 5, none⟩ (.slice ao2 k cap2)) := (Keeps.refl _ wr).setCell (p := ⟨w.heap.size, 5, none⟩) (.inr (.inl rfl)) _
        have hoff : ∀ b, (Value.slice ao2 k cap2).ownBlock = some b → ¬ (b = w.heap.size ∨ b = w.heap.size + 1) := by
          rintro b e (rfl | rfl)
          · obtain ⟨cs, hcs⟩ := own_block_type hO.own e; exact block_ne hz0 hcs (by decide) rfl
          · obtain ⟨cs, hcs⟩ := own_block_type hO.own e; exact block_ne hz1 hcs (by decide) rfl
        have hk6 := six_keeps hky (b := w.heap.size + 1) (.inr rfl) (.string (strOfNums (nm.take 100))) (.int .i64 rate) (.bool lp) (.int .i64 a) (.int .i64 b) (.slice ao2 k cap2)
        have hs6 := six_set hy1 (.string (strOfNums (nm.take 100))) (.int .i64 rate) (.bool lp) (.int .i64 a) (.int .i64 b) (.slice ao2 k cap2)
        have hO6 := hO.kept hk6 hoff
        have hb6 := hb.trans (hk6.toBelow hb.size (fun k hk h => by omega))
        clear hky hE hO
        have HK6 := Lib.hid hk6
        have HS6 := Lib.hid hs6
        have HO6 := Lib.hid hO6
        have HB6 := Lib.hid hb6
        clear hk6 hs6 hO6 hb6
        rcases (show (k = n) ∨ (k < n ∧ k = 4) by omega) with rfl | ⟨hkn, hk44⟩
        · go_upto_region 12 with fail
          generalize wr.setCell ⟨w.heap.size, 5, none⟩ (.slice ao2 k cap2) = W5 at *
          clear c0 c1 c2 c3 c4 c5 hz0 hz1
          obtain ⟨c0, c1, c2, c3, c4, c5⟩ := six_cells hy0
          obtain ⟨e0, e1, e2, e3, e4, e5⟩ := six_cells hy1
          obtain ⟨g0, g1, g2, g3, g4, g5⟩ := six_frozen hy1
          go_wp2_with fail
          obtain ⟨ao3, cap3, he3, hc3, hR3⟩ := HO6.out.rows HB6.out
          cases he3
          refine bodyPost_ret (results_cell_row rfl _ _ _ _ _ _ _ rfl HS6.out Try.underlying37 rfl info37) rfl ⟨⟨ao2, k, cap2⟩, rfl, ⟨fun z hz => hby z (List.mem_of_mem_take hz), by simp only; rw [List.length_take]; unfold maxLen; omega, hc3, hR3⟩, HB6.out⟩
        · have hk45 : ¬ ((k : Int) < 4) := by omega
          clear hk44 hlt hk4
          go_upto_region 12 with fail
          generalize wr.setCell ⟨w.heap.size, 5, none⟩ (.slice ao2 k cap2) = W5 at *
          clear c0 c1 c2 c3 c4 c5 hz0 hz1
          obtain ⟨c0, c1, c2, c3, c4, c5⟩ := six_cells hy0
          obtain ⟨e0, e1, e2, e3, e4, e5⟩ := six_cells hy1
          obtain ⟨g0, g1, g2, g3, g4, g5⟩ := six_frozen hy1
          go_wp2_with fail
          obtain ⟨ao3, cap3, he3, hc3, hR3⟩ := HO6.out.rows HB6.out
          cases he3
          refine bodyPost_ret (results_cell_row rfl _ _ _ _ _ _ _ rfl HS6.out Try.underlying37 rfl info37) rfl ⟨⟨ao2, k, cap2⟩, rfl, ⟨fun z hz => hby z (List.mem_of_mem_take hz), by simp only; rw [List.length_take]; unfold maxLen; omega, hc3, hR3⟩, HB6.out⟩
end Go.Proofs.Ytpbeehfafbgphaa
