/- The walk of the law's clean. -/
import Derived.Test.YtflpblggpbgeiaaDoorLpl
namespace Go.Proofs.YtflpblggpbgeiaaDoor
open Go Go.RowKit Go.Calli
set_option linter.unusedVariables false
set_option linter.unusedSimpArgs false
attribute [local irreducible] wpStill wpAnyH wpAnyS wpList Code.wp
def ClnP (a : Ac) (w : World) (e : Ending) (w' : World) : Prop := e = .returned (.agg (cellsA (cleanL a))) ∧ Below w.heap.size w w'
theorem three_mid (w : World) (o1 o3 : Obj) (o2 : Obj) : (((w.alloc o1).alloc o2).alloc o3).heap[w.heap.size + 1]? = some o2 ∧ Below w.heap.size w (((w.alloc o1).alloc o2).alloc o3) := by
  have h := heap_alloc_new (w.alloc o1) o2
  rw [World.size_alloc] at h
  have hb := below_alloc ((w.alloc o1).alloc o2) o3
  exact ⟨(hb.block _ (by simp)).trans h, balloc (balloc (below_alloc w o1) o2) o3⟩
set_option maxRecDepth 100000 in
set_option maxHeartbeats 4000000 in
theorem lclean_1 (av : Int) (anm : List Int) (an am ap ax : Int) (w : World) : Calls Tryd.prog 13 #[.agg #[.int .i64 1, .int .i64 av, .string (strOfNums anm), .int .i64 an, .int .i64 am, .int .i64 ap, .int .i64 ax]] w (ClnP ⟨1, av, anm, an, am, ap, ax⟩ w) := by
  have h := Lib.hid (three_mid w (.cells #[.int .i64 1, .int .i64 av, .string (strOfNums anm), .int .i64 an, .int .i64 am, .int .i64 ap, .int .i64 ax] 23) (.cells #[.int .i64 1, .int .i64 0, .string (strOfNums anm), .int .i64 0, .int .i64 0, .int .i64 0, .int .i64 0] 23) (.cells #[.int .i64 1, .int .i64 0, .string (strOfNums anm), .int .i64 0, .int .i64 0, .int .i64 0, .int .i64 0] 23))
  have hE : Hid (cellsA (cleanL ⟨1, av, anm, an, am, ap, ax⟩) = #[.int .i64 1, .int .i64 0, .string (strOfNums anm), .int .i64 0, .int .i64 0, .int .i64 0, .int .i64 0]) := rfl
  go_enter Tryd.func13, Tryd.ntmps13
  go_wp2_with fail
  exact bodyPost_ret (results_cell_row rfl _ _ _ _ _ _ _ rfl h.out.1 Tryd.underlying23 rfl info23) rfl ⟨by rw [hE.out], h.out.2⟩
set_option maxRecDepth 100000 in
set_option maxHeartbeats 4000000 in
theorem lclean_2 (av : Int) (anm : List Int) (an am ap ax : Int) (w : World) : Calls Tryd.prog 13 #[.agg #[.int .i64 2, .int .i64 av, .string (strOfNums anm), .int .i64 an, .int .i64 am, .int .i64 ap, .int .i64 ax]] w (ClnP ⟨2, av, anm, an, am, ap, ax⟩ w) := by
  have h := Lib.hid (three_mid w (.cells #[.int .i64 2, .int .i64 av, .string (strOfNums anm), .int .i64 an, .int .i64 am, .int .i64 ap, .int .i64 ax] 23) (.cells #[.int .i64 2, .int .i64 av, .string (ByteArray.mk #[]), .int .i64 0, .int .i64 0, .int .i64 0, .int .i64 0] 23) (.cells #[.int .i64 2, .int .i64 av, .string (ByteArray.mk #[]), .int .i64 0, .int .i64 0, .int .i64 0, .int .i64 0] 23))
  have hE : Hid (cellsA (cleanL ⟨2, av, anm, an, am, ap, ax⟩) = #[.int .i64 2, .int .i64 av, .string (ByteArray.mk #[]), .int .i64 0, .int .i64 0, .int .i64 0, .int .i64 0]) := rfl
  go_enter Tryd.func13, Tryd.ntmps13
  go_wp2_with fail
  exact bodyPost_ret (results_cell_row rfl _ _ _ _ _ _ _ rfl h.out.1 Tryd.underlying23 rfl info23) rfl ⟨by rw [hE.out], h.out.2⟩
set_option maxRecDepth 100000 in
set_option maxHeartbeats 4000000 in
theorem lclean_3 (av : Int) (anm : List Int) (an am ap ax : Int) (w : World) : Calls Tryd.prog 13 #[.agg #[.int .i64 3, .int .i64 av, .string (strOfNums anm), .int .i64 an, .int .i64 am, .int .i64 ap, .int .i64 ax]] w (ClnP ⟨3, av, anm, an, am, ap, ax⟩ w) := by
  have h := Lib.hid (three_mid w (.cells #[.int .i64 3, .int .i64 av, .string (strOfNums anm), .int .i64 an, .int .i64 am, .int .i64 ap, .int .i64 ax] 23) (.cells #[.int .i64 3, .int .i64 av, .string (ByteArray.mk #[]), .int .i64 an, .int .i64 0, .int .i64 0, .int .i64 0] 23) (.cells #[.int .i64 3, .int .i64 av, .string (ByteArray.mk #[]), .int .i64 an, .int .i64 0, .int .i64 0, .int .i64 0] 23))
  have hE : Hid (cellsA (cleanL ⟨3, av, anm, an, am, ap, ax⟩) = #[.int .i64 3, .int .i64 av, .string (ByteArray.mk #[]), .int .i64 an, .int .i64 0, .int .i64 0, .int .i64 0]) := rfl
  go_enter Tryd.func13, Tryd.ntmps13
  go_wp2_with fail
  exact bodyPost_ret (results_cell_row rfl _ _ _ _ _ _ _ rfl h.out.1 Tryd.underlying23 rfl info23) rfl ⟨by rw [hE.out], h.out.2⟩
set_option maxRecDepth 100000 in
set_option maxHeartbeats 4000000 in
theorem lclean_4 (av : Int) (anm : List Int) (an am ap ax : Int) (w : World) : Calls Tryd.prog 13 #[.agg #[.int .i64 4, .int .i64 av, .string (strOfNums anm), .int .i64 an, .int .i64 am, .int .i64 ap, .int .i64 ax]] w (ClnP ⟨4, av, anm, an, am, ap, ax⟩ w) := by
  have h := Lib.hid (three_mid w (.cells #[.int .i64 4, .int .i64 av, .string (strOfNums anm), .int .i64 an, .int .i64 am, .int .i64 ap, .int .i64 ax] 23) (.cells #[.int .i64 4, .int .i64 av, .string (ByteArray.mk #[]), .int .i64 0, .int .i64 0, .int .i64 ap, .int .i64 0] 23) (.cells #[.int .i64 4, .int .i64 av, .string (ByteArray.mk #[]), .int .i64 0, .int .i64 0, .int .i64 ap, .int .i64 0] 23))
  have hE : Hid (cellsA (cleanL ⟨4, av, anm, an, am, ap, ax⟩) = #[.int .i64 4, .int .i64 av, .string (ByteArray.mk #[]), .int .i64 0, .int .i64 0, .int .i64 ap, .int .i64 0]) := rfl
  go_enter Tryd.func13, Tryd.ntmps13
  go_wp2_with fail
  exact bodyPost_ret (results_cell_row rfl _ _ _ _ _ _ _ rfl h.out.1 Tryd.underlying23 rfl info23) rfl ⟨by rw [hE.out], h.out.2⟩
set_option maxRecDepth 100000 in
set_option maxHeartbeats 4000000 in
theorem lclean_5 (av : Int) (anm : List Int) (an am ap ax : Int) (w : World) : Calls Tryd.prog 13 #[.agg #[.int .i64 5, .int .i64 av, .string (strOfNums anm), .int .i64 an, .int .i64 am, .int .i64 ap, .int .i64 ax]] w (ClnP ⟨5, av, anm, an, am, ap, ax⟩ w) := by
  have h := Lib.hid (three_mid w (.cells #[.int .i64 5, .int .i64 av, .string (strOfNums anm), .int .i64 an, .int .i64 am, .int .i64 ap, .int .i64 ax] 23) (.cells #[.int .i64 5, .int .i64 av, .string (ByteArray.mk #[]), .int .i64 an, .int .i64 am, .int .i64 0, .int .i64 0] 23) (.cells #[.int .i64 5, .int .i64 av, .string (ByteArray.mk #[]), .int .i64 an, .int .i64 am, .int .i64 0, .int .i64 0] 23))
  have hE : Hid (cellsA (cleanL ⟨5, av, anm, an, am, ap, ax⟩) = #[.int .i64 5, .int .i64 av, .string (ByteArray.mk #[]), .int .i64 an, .int .i64 am, .int .i64 0, .int .i64 0]) := rfl
  go_enter Tryd.func13, Tryd.ntmps13
  go_wp2_with fail
  exact bodyPost_ret (results_cell_row rfl _ _ _ _ _ _ _ rfl h.out.1 Tryd.underlying23 rfl info23) rfl ⟨by rw [hE.out], h.out.2⟩
set_option maxRecDepth 100000 in
set_option maxHeartbeats 4000000 in
theorem lclean_6 (av : Int) (anm : List Int) (an am ap ax : Int) (w : World) : Calls Tryd.prog 13 #[.agg #[.int .i64 6, .int .i64 av, .string (strOfNums anm), .int .i64 an, .int .i64 am, .int .i64 ap, .int .i64 ax]] w (ClnP ⟨6, av, anm, an, am, ap, ax⟩ w) := by
  have h := Lib.hid (three_mid w (.cells #[.int .i64 6, .int .i64 av, .string (strOfNums anm), .int .i64 an, .int .i64 am, .int .i64 ap, .int .i64 ax] 23) (.cells #[.int .i64 6, .int .i64 0, .string (ByteArray.mk #[]), .int .i64 an, .int .i64 0, .int .i64 0, .int .i64 0] 23) (.cells #[.int .i64 6, .int .i64 0, .string (ByteArray.mk #[]), .int .i64 an, .int .i64 0, .int .i64 0, .int .i64 0] 23))
  have hE : Hid (cellsA (cleanL ⟨6, av, anm, an, am, ap, ax⟩) = #[.int .i64 6, .int .i64 0, .string (ByteArray.mk #[]), .int .i64 an, .int .i64 0, .int .i64 0, .int .i64 0]) := rfl
  go_enter Tryd.func13, Tryd.ntmps13
  go_wp2_with fail
  exact bodyPost_ret (results_cell_row rfl _ _ _ _ _ _ _ rfl h.out.1 Tryd.underlying23 rfl info23) rfl ⟨by rw [hE.out], h.out.2⟩
set_option maxRecDepth 100000 in
set_option maxHeartbeats 4000000 in
theorem lclean_7 (av : Int) (anm : List Int) (an am ap ax : Int) (w : World) : Calls Tryd.prog 13 #[.agg #[.int .i64 7, .int .i64 av, .string (strOfNums anm), .int .i64 an, .int .i64 am, .int .i64 ap, .int .i64 ax]] w (ClnP ⟨7, av, anm, an, am, ap, ax⟩ w) := by
  have h := Lib.hid (three_mid w (.cells #[.int .i64 7, .int .i64 av, .string (strOfNums anm), .int .i64 an, .int .i64 am, .int .i64 ap, .int .i64 ax] 23) (.cells #[.int .i64 7, .int .i64 0, .string (ByteArray.mk #[]), .int .i64 an, .int .i64 0, .int .i64 0, .int .i64 0] 23) (.cells #[.int .i64 7, .int .i64 0, .string (ByteArray.mk #[]), .int .i64 an, .int .i64 0, .int .i64 0, .int .i64 0] 23))
  have hE : Hid (cellsA (cleanL ⟨7, av, anm, an, am, ap, ax⟩) = #[.int .i64 7, .int .i64 0, .string (ByteArray.mk #[]), .int .i64 an, .int .i64 0, .int .i64 0, .int .i64 0]) := rfl
  go_enter Tryd.func13, Tryd.ntmps13
  go_wp2_with fail
  exact bodyPost_ret (results_cell_row rfl _ _ _ _ _ _ _ rfl h.out.1 Tryd.underlying23 rfl info23) rfl ⟨by rw [hE.out], h.out.2⟩
set_option maxRecDepth 100000 in
set_option maxHeartbeats 4000000 in
theorem lclean_8 (av : Int) (anm : List Int) (an am ap ax : Int) (w : World) : Calls Tryd.prog 13 #[.agg #[.int .i64 8, .int .i64 av, .string (strOfNums anm), .int .i64 an, .int .i64 am, .int .i64 ap, .int .i64 ax]] w (ClnP ⟨8, av, anm, an, am, ap, ax⟩ w) := by
  have h := Lib.hid (three_mid w (.cells #[.int .i64 8, .int .i64 av, .string (strOfNums anm), .int .i64 an, .int .i64 am, .int .i64 ap, .int .i64 ax] 23) (.cells #[.int .i64 8, .int .i64 0, .string (ByteArray.mk #[]), .int .i64 an, .int .i64 am, .int .i64 0, .int .i64 0] 23) (.cells #[.int .i64 8, .int .i64 0, .string (ByteArray.mk #[]), .int .i64 an, .int .i64 am, .int .i64 0, .int .i64 0] 23))
  have hE : Hid (cellsA (cleanL ⟨8, av, anm, an, am, ap, ax⟩) = #[.int .i64 8, .int .i64 0, .string (ByteArray.mk #[]), .int .i64 an, .int .i64 am, .int .i64 0, .int .i64 0]) := rfl
  go_enter Tryd.func13, Tryd.ntmps13
  go_wp2_with fail
  exact bodyPost_ret (results_cell_row rfl _ _ _ _ _ _ _ rfl h.out.1 Tryd.underlying23 rfl info23) rfl ⟨by rw [hE.out], h.out.2⟩
set_option maxRecDepth 100000 in
set_option maxHeartbeats 4000000 in
theorem lclean_9 (av : Int) (anm : List Int) (an am ap ax : Int) (w : World) : Calls Tryd.prog 13 #[.agg #[.int .i64 9, .int .i64 av, .string (strOfNums anm), .int .i64 an, .int .i64 am, .int .i64 ap, .int .i64 ax]] w (ClnP ⟨9, av, anm, an, am, ap, ax⟩ w) := by
  have h := Lib.hid (three_mid w (.cells #[.int .i64 9, .int .i64 av, .string (strOfNums anm), .int .i64 an, .int .i64 am, .int .i64 ap, .int .i64 ax] 23) (.cells #[.int .i64 9, .int .i64 0, .string (ByteArray.mk #[]), .int .i64 an, .int .i64 am, .int .i64 0, .int .i64 ax] 23) (.cells #[.int .i64 9, .int .i64 0, .string (ByteArray.mk #[]), .int .i64 an, .int .i64 am, .int .i64 0, .int .i64 ax] 23))
  have hE : Hid (cellsA (cleanL ⟨9, av, anm, an, am, ap, ax⟩) = #[.int .i64 9, .int .i64 0, .string (ByteArray.mk #[]), .int .i64 an, .int .i64 am, .int .i64 0, .int .i64 ax]) := rfl
  go_enter Tryd.func13, Tryd.ntmps13
  go_wp2_with fail
  exact bodyPost_ret (results_cell_row rfl _ _ _ _ _ _ _ rfl h.out.1 Tryd.underlying23 rfl info23) rfl ⟨by rw [hE.out], h.out.2⟩
set_option maxRecDepth 100000 in
set_option maxHeartbeats 4000000 in
theorem lclean_10 (av : Int) (anm : List Int) (an am ap ax : Int) (w : World) : Calls Tryd.prog 13 #[.agg #[.int .i64 10, .int .i64 av, .string (strOfNums anm), .int .i64 an, .int .i64 am, .int .i64 ap, .int .i64 ax]] w (ClnP ⟨10, av, anm, an, am, ap, ax⟩ w) := by
  have h := Lib.hid (three_mid w (.cells #[.int .i64 10, .int .i64 av, .string (strOfNums anm), .int .i64 an, .int .i64 am, .int .i64 ap, .int .i64 ax] 23) (.cells #[.int .i64 10, .int .i64 0, .string (ByteArray.mk #[]), .int .i64 an, .int .i64 0, .int .i64 0, .int .i64 0] 23) (.cells #[.int .i64 10, .int .i64 0, .string (ByteArray.mk #[]), .int .i64 an, .int .i64 0, .int .i64 0, .int .i64 0] 23))
  have hE : Hid (cellsA (cleanL ⟨10, av, anm, an, am, ap, ax⟩) = #[.int .i64 10, .int .i64 0, .string (ByteArray.mk #[]), .int .i64 an, .int .i64 0, .int .i64 0, .int .i64 0]) := rfl
  go_enter Tryd.func13, Tryd.ntmps13
  go_wp2_with fail
  exact bodyPost_ret (results_cell_row rfl _ _ _ _ _ _ _ rfl h.out.1 Tryd.underlying23 rfl info23) rfl ⟨by rw [hE.out], h.out.2⟩
set_option maxRecDepth 100000 in
set_option maxHeartbeats 4000000 in
theorem lclean_11 (av : Int) (anm : List Int) (an am ap ax : Int) (w : World) : Calls Tryd.prog 13 #[.agg #[.int .i64 11, .int .i64 av, .string (strOfNums anm), .int .i64 an, .int .i64 am, .int .i64 ap, .int .i64 ax]] w (ClnP ⟨11, av, anm, an, am, ap, ax⟩ w) := by
  have h := Lib.hid (three_mid w (.cells #[.int .i64 11, .int .i64 av, .string (strOfNums anm), .int .i64 an, .int .i64 am, .int .i64 ap, .int .i64 ax] 23) (.cells #[.int .i64 11, .int .i64 0, .string (ByteArray.mk #[]), .int .i64 an, .int .i64 am, .int .i64 0, .int .i64 ax] 23) (.cells #[.int .i64 11, .int .i64 0, .string (ByteArray.mk #[]), .int .i64 an, .int .i64 am, .int .i64 0, .int .i64 ax] 23))
  have hE : Hid (cellsA (cleanL ⟨11, av, anm, an, am, ap, ax⟩) = #[.int .i64 11, .int .i64 0, .string (ByteArray.mk #[]), .int .i64 an, .int .i64 am, .int .i64 0, .int .i64 ax]) := rfl
  go_enter Tryd.func13, Tryd.ntmps13
  go_wp2_with fail
  exact bodyPost_ret (results_cell_row rfl _ _ _ _ _ _ _ rfl h.out.1 Tryd.underlying23 rfl info23) rfl ⟨by rw [hE.out], h.out.2⟩
set_option maxRecDepth 100000 in
set_option maxHeartbeats 4000000 in
theorem lclean_12 (av : Int) (anm : List Int) (an am ap ax : Int) (w : World) : Calls Tryd.prog 13 #[.agg #[.int .i64 12, .int .i64 av, .string (strOfNums anm), .int .i64 an, .int .i64 am, .int .i64 ap, .int .i64 ax]] w (ClnP ⟨12, av, anm, an, am, ap, ax⟩ w) := by
  have h := Lib.hid (three_mid w (.cells #[.int .i64 12, .int .i64 av, .string (strOfNums anm), .int .i64 an, .int .i64 am, .int .i64 ap, .int .i64 ax] 23) (.cells #[.int .i64 12, .int .i64 av, .string (ByteArray.mk #[]), .int .i64 0, .int .i64 0, .int .i64 0, .int .i64 0] 23) (.cells #[.int .i64 12, .int .i64 av, .string (ByteArray.mk #[]), .int .i64 0, .int .i64 0, .int .i64 0, .int .i64 0] 23))
  have hE : Hid (cellsA (cleanL ⟨12, av, anm, an, am, ap, ax⟩) = #[.int .i64 12, .int .i64 av, .string (ByteArray.mk #[]), .int .i64 0, .int .i64 0, .int .i64 0, .int .i64 0]) := rfl
  go_enter Tryd.func13, Tryd.ntmps13
  go_wp2_with fail
  exact bodyPost_ret (results_cell_row rfl _ _ _ _ _ _ _ rfl h.out.1 Tryd.underlying23 rfl info23) rfl ⟨by rw [hE.out], h.out.2⟩
set_option maxRecDepth 100000 in
set_option maxHeartbeats 4000000 in
theorem lclean_0 (ak av : Int) (anm : List Int) (an am ap ax : Int) (hk : ¬ (1 ≤ ak ∧ ak ≤ 12)) (w : World) : Calls Tryd.prog 13 #[.agg #[.int .i64 ak, .int .i64 av, .string (strOfNums anm), .int .i64 an, .int .i64 am, .int .i64 ap, .int .i64 ax]] w (ClnP ⟨ak, av, anm, an, am, ap, ax⟩ w) := by
  have h := Lib.hid (three_mid w (.cells #[.int .i64 ak, .int .i64 av, .string (strOfNums anm), .int .i64 an, .int .i64 am, .int .i64 ap, .int .i64 ax] 23) (.cells #[.int .i64 ak, .int .i64 0, .string (ByteArray.mk #[]), .int .i64 0, .int .i64 0, .int .i64 0, .int .i64 0] 23) (.cells #[.int .i64 ak, .int .i64 0, .string (ByteArray.mk #[]), .int .i64 0, .int .i64 0, .int .i64 0, .int .i64 0] 23))
  have hE : Hid (cellsA (cleanL ⟨ak, av, anm, an, am, ap, ax⟩) = #[.int .i64 ak, .int .i64 0, .string (ByteArray.mk #[]), .int .i64 0, .int .i64 0, .int .i64 0, .int .i64 0]) := by unfold Hid cleanL; rw [(out_vW ak hk).2]; rfl
  have g1 : (ak == 1) = false := by simp; omega
  have g2 : (ak == 2) = false := by simp; omega
  have g3 : (ak == 3) = false := by simp; omega
  have g4 : (ak == 4) = false := by simp; omega
  have g5 : (ak == 5) = false := by simp; omega
  have g6 : (ak == 6) = false := by simp; omega
  have g7 : (ak == 7) = false := by simp; omega
  have g8 : (ak == 8) = false := by simp; omega
  have g9 : (ak == 9) = false := by simp; omega
  have g10 : (ak == 10) = false := by simp; omega
  have g11 : (ak == 11) = false := by simp; omega
  have g12 : (ak == 12) = false := by simp; omega
  clear hk
  go_enter Tryd.func13, Tryd.ntmps13
  go_wp2_with fail
  exact bodyPost_ret (results_cell_row rfl _ _ _ _ _ _ _ rfl h.out.1 Tryd.underlying23 rfl info23) rfl ⟨by rw [hE.out], h.out.2⟩
theorem lclean_any (ak av : Int) (anm : List Int) (an am ap ax : Int) (w : World) : Calls Tryd.prog 13 #[.agg #[.int .i64 ak, .int .i64 av, .string (strOfNums anm), .int .i64 an, .int .i64 am, .int .i64 ap, .int .i64 ax]] w (ClnP ⟨ak, av, anm, an, am, ap, ax⟩ w) := by
  by_cases hk : 1 ≤ ak ∧ ak ≤ 12
  · rcases (show ak = 1 ∨ ak = 2 ∨ ak = 3 ∨ ak = 4 ∨ ak = 5 ∨ ak = 6 ∨ ak = 7 ∨ ak = 8 ∨ ak = 9 ∨ ak = 10 ∨ ak = 11 ∨ ak = 12 by omega) with rfl | rfl | rfl | rfl | rfl | rfl | rfl | rfl | rfl | rfl | rfl | rfl
    · exact lclean_1 av anm an am ap ax w
    · exact lclean_2 av anm an am ap ax w
    · exact lclean_3 av anm an am ap ax w
    · exact lclean_4 av anm an am ap ax w
    · exact lclean_5 av anm an am ap ax w
    · exact lclean_6 av anm an am ap ax w
    · exact lclean_7 av anm an am ap ax w
    · exact lclean_8 av anm an am ap ax w
    · exact lclean_9 av anm an am ap ax w
    · exact lclean_10 av anm an am ap ax w
    · exact lclean_11 av anm an am ap ax w
    · exact lclean_12 av anm an am ap ax w
  · exact lclean_0 ak av anm an am ap ax hk w
end Go.Proofs.YtflpblggpbgeiaaDoor
