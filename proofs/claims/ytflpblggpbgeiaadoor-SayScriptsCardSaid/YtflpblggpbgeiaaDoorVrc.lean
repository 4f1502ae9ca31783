/- The walk of say.verbs again: its fields lie in a new block. -/
import Derived.Test.YtflpblggpbgeiaaDoorVrb
namespace Go.Proofs.YtflpblggpbgeiaaDoor
open Go Go.RowKit Go.Calli
set_option linter.unusedVariables false
set_option linter.unusedSimpArgs false
attribute [local irreducible] wpStill wpAnyH wpAnyS wpList Code.wp
def VercP (k : Int) (w : World) (e : Ending) (w' : World) : Prop := ∃ (ao : Option Addr) (n : Nat), e = .returned (.agg #[.string (strOfNums (vW k)), .slice ao n n]) ∧ Ints .i64 w' ao n (vF k) ∧ Below w.heap.size w w' ∧ (∀ a, ao = some a → w.heap.size ≤ a.block)
theorem verc_fin (k : Int) (w : World) (nm : ByteArray) (zs : List Int) (n : Nat) (cs : Array Value) (hcs : cs = (zs.map (Value.int .i64)).toArray) (hnm : nm = strOfNums (vW k)) (hz : vF k = zs) (hn : zs.length = n) (hw : ∀ z ∈ zs, 0 ≤ z ∧ z ≤ 5) (hm : n ≤ 3) :
    ((w.alloc (.cells #[.string nm, .slice (some ⟨w.heap.size + 1, 0, none⟩) n n] 51)).alloc (.cells cs 53)).heap[w.heap.size]? = some (.cells #[.string nm, .slice (some ⟨w.heap.size + 1, 0, none⟩) n n] 51 (0, 0)) ∧
    VercP k w (.returned (.agg #[.string nm, .slice (some ⟨w.heap.size + 1, 0, none⟩) n n])) ((w.alloc (.cells #[.string nm, .slice (some ⟨w.heap.size + 1, 0, none⟩) n n] 51)).alloc (.cells cs 53)) := by
  have hI := Ints.new .i64 (w.alloc (.cells #[.string nm, .slice (some ⟨w.heap.size + 1, 0, none⟩) n n] 51)) zs 53 (0, 0) cs hcs n hn (by unfold maxLen; omega) (fun z hz => by have := hw z hz; exact WalkArith.wf_i64 ⟨by omega, by omega⟩)
  rw [World.size_alloc] at hI
  refine ⟨((below_alloc _ _).block w.heap.size (by simp)).trans (heap_alloc_new w _), some ⟨w.heap.size + 1, 0, none⟩, n, by rw [hnm], by rw [hz]; exact hI, balloc (below_alloc w _) _, fun a ha => by cases ha; simp⟩
set_option maxRecDepth 100000 in
set_option maxHeartbeats 4000000 in
theorem vercs_1 (w : World) : Calls Tryd.prog 25 #[.int .i64 1] w (VercP 1 w) := by
  have h := Lib.hid (verc_fin 1 w (ByteArray.mk #[115, 116, 97, 114, 116]) [1] 1 #[.int .i64 1] rfl rfl rfl rfl (by decide) (by decide))
  go_enter Tryd.func25, Tryd.ntmps25
  go_wp2_with fail
  exact bodyPost_ret (results_cell_row rfl _ _ _ _ _ _ _ rfl h.out.1 Tryd.underlying51 rfl info51) rfl h.out.2
set_option maxRecDepth 100000 in
set_option maxHeartbeats 4000000 in
theorem vercs_2 (w : World) : Calls Tryd.prog 25 #[.int .i64 2] w (VercP 2 w) := by
  have h := Lib.hid (verc_fin 2 w (ByteArray.mk #[115, 116, 111, 112]) [0] 1 #[.int .i64 0] rfl rfl rfl rfl (by decide) (by decide))
  go_enter Tryd.func25, Tryd.ntmps25
  go_wp2_with fail
  exact bodyPost_ret (results_cell_row rfl _ _ _ _ _ _ _ rfl h.out.1 Tryd.underlying51 rfl info51) rfl h.out.2
set_option maxRecDepth 100000 in
set_option maxHeartbeats 4000000 in
theorem vercs_3 (w : World) : Calls Tryd.prog 25 #[.int .i64 3] w (VercP 3 w) := by
  have h := Lib.hid (verc_fin 3 w (ByteArray.mk #[115, 101, 101, 107]) [0, 2] 2 #[.int .i64 0, .int .i64 2] rfl rfl rfl rfl (by decide) (by decide))
  go_enter Tryd.func25, Tryd.ntmps25
  go_wp2_with fail
  exact bodyPost_ret (results_cell_row rfl _ _ _ _ _ _ _ rfl h.out.1 Tryd.underlying51 rfl info51) rfl h.out.2
set_option maxRecDepth 100000 in
set_option maxHeartbeats 4000000 in
theorem vercs_4 (w : World) : Calls Tryd.prog 25 #[.int .i64 4] w (VercP 4 w) := by
  have h := Lib.hid (verc_fin 4 w (ByteArray.mk #[112, 105, 116, 99, 104]) [0, 5] 2 #[.int .i64 0, .int .i64 5] rfl rfl rfl rfl (by decide) (by decide))
  go_enter Tryd.func25, Tryd.ntmps25
  go_wp2_with fail
  exact bodyPost_ret (results_cell_row rfl _ _ _ _ _ _ _ rfl h.out.1 Tryd.underlying51 rfl info51) rfl h.out.2
set_option maxRecDepth 100000 in
set_option maxHeartbeats 4000000 in
theorem vercs_5 (w : World) : Calls Tryd.prog 25 #[.int .i64 5] w (VercP 5 w) := by
  have h := Lib.hid (verc_fin 5 w (ByteArray.mk #[118, 111, 108, 117, 109, 101]) [0, 2, 3] 3 #[.int .i64 0, .int .i64 2, .int .i64 3] rfl rfl rfl rfl (by decide) (by decide))
  go_enter Tryd.func25, Tryd.ntmps25
  go_wp2_with fail
  exact bodyPost_ret (results_cell_row rfl _ _ _ _ _ _ _ rfl h.out.1 Tryd.underlying51 rfl info51) rfl h.out.2
set_option maxRecDepth 100000 in
set_option maxHeartbeats 4000000 in
theorem vercs_6 (w : World) : Calls Tryd.prog 25 #[.int .i64 6] w (VercP 6 w) := by
  have h := Lib.hid (verc_fin 6 w (ByteArray.mk #[114, 101, 110, 100, 101, 114]) [2] 1 #[.int .i64 2] rfl rfl rfl rfl (by decide) (by decide))
  go_enter Tryd.func25, Tryd.ntmps25
  go_wp2_with fail
  exact bodyPost_ret (results_cell_row rfl _ _ _ _ _ _ _ rfl h.out.1 Tryd.underlying51 rfl info51) rfl h.out.2
set_option maxRecDepth 100000 in
set_option maxHeartbeats 4000000 in
theorem vercs_7 (w : World) : Calls Tryd.prog 25 #[.int .i64 7] w (VercP 7 w) := by
  have h := Lib.hid (verc_fin 7 w (ByteArray.mk #[101, 118, 105, 99, 116]) [2] 1 #[.int .i64 2] rfl rfl rfl rfl (by decide) (by decide))
  go_enter Tryd.func25, Tryd.ntmps25
  go_wp2_with fail
  exact bodyPost_ret (results_cell_row rfl _ _ _ _ _ _ _ rfl h.out.1 Tryd.underlying51 rfl info51) rfl h.out.2
set_option maxRecDepth 100000 in
set_option maxHeartbeats 4000000 in
theorem vercs_8 (w : World) : Calls Tryd.prog 25 #[.int .i64 8] w (VercP 8 w) := by
  have h := Lib.hid (verc_fin 8 w (ByteArray.mk #[102, 97, 105, 108]) [2, 3] 2 #[.int .i64 2, .int .i64 3] rfl rfl rfl rfl (by decide) (by decide))
  go_enter Tryd.func25, Tryd.ntmps25
  go_wp2_with fail
  exact bodyPost_ret (results_cell_row rfl _ _ _ _ _ _ _ rfl h.out.1 Tryd.underlying51 rfl info51) rfl h.out.2
set_option maxRecDepth 100000 in
set_option maxHeartbeats 4000000 in
theorem vercs_9 (w : World) : Calls Tryd.prog 25 #[.int .i64 9] w (VercP 9 w) := by
  have h := Lib.hid (verc_fin 9 w (ByteArray.mk #[115, 112, 111, 105, 108]) [2, 3, 4] 3 #[.int .i64 2, .int .i64 3, .int .i64 4] rfl rfl rfl rfl (by decide) (by decide))
  go_enter Tryd.func25, Tryd.ntmps25
  go_wp2_with fail
  exact bodyPost_ret (results_cell_row rfl _ _ _ _ _ _ _ rfl h.out.1 Tryd.underlying51 rfl info51) rfl h.out.2
set_option maxRecDepth 100000 in
set_option maxHeartbeats 4000000 in
theorem vercs_10 (w : World) : Calls Tryd.prog 25 #[.int .i64 10] w (VercP 10 w) := by
  have h := Lib.hid (verc_fin 10 w (ByteArray.mk #[104, 101, 97, 108]) [2] 1 #[.int .i64 2] rfl rfl rfl rfl (by decide) (by decide))
  go_enter Tryd.func25, Tryd.ntmps25
  go_wp2_with fail
  exact bodyPost_ret (results_cell_row rfl _ _ _ _ _ _ _ rfl h.out.1 Tryd.underlying51 rfl info51) rfl h.out.2
set_option maxRecDepth 100000 in
set_option maxHeartbeats 4000000 in
theorem vercs_11 (w : World) : Calls Tryd.prog 25 #[.int .i64 11] w (VercP 11 w) := by
  have h := Lib.hid (verc_fin 11 w (ByteArray.mk #[107, 101, 121]) [2, 3, 4] 3 #[.int .i64 2, .int .i64 3, .int .i64 4] rfl rfl rfl rfl (by decide) (by decide))
  go_enter Tryd.func25, Tryd.ntmps25
  go_wp2_with fail
  exact bodyPost_ret (results_cell_row rfl _ _ _ _ _ _ _ rfl h.out.1 Tryd.underlying51 rfl info51) rfl h.out.2
set_option maxRecDepth 100000 in
set_option maxHeartbeats 4000000 in
theorem vercs_12 (w : World) : Calls Tryd.prog 25 #[.int .i64 12] w (VercP 12 w) := by
  have h := Lib.hid (verc_fin 12 w (ByteArray.mk #[103, 97, 116, 101]) [0] 1 #[.int .i64 0] rfl rfl rfl rfl (by decide) (by decide))
  go_enter Tryd.func25, Tryd.ntmps25
  go_wp2_with fail
  exact bodyPost_ret (results_cell_row rfl _ _ _ _ _ _ _ rfl h.out.1 Tryd.underlying51 rfl info51) rfl h.out.2
set_option maxRecDepth 100000 in
set_option maxHeartbeats 4000000 in
theorem vercs_0 (k : Int) (h1 : k ≠ 1) (h2 : k ≠ 2) (h3 : k ≠ 3) (h4 : k ≠ 4) (h5 : k ≠ 5) (h6 : k ≠ 6) (h7 : k ≠ 7) (h8 : k ≠ 8) (h9 : k ≠ 9) (h10 : k ≠ 10) (h11 : k ≠ 11) (h12 : k ≠ 12) (w : World) : Calls Tryd.prog 25 #[.int .i64 k] w (VercP k w) := by
  have g1 : (k == 1) = false := by simpa using h1
  have g2 : (k == 2) = false := by simpa using h2
  have g3 : (k == 3) = false := by simpa using h3
  have g4 : (k == 4) = false := by simpa using h4
  have g5 : (k == 5) = false := by simpa using h5
  have g6 : (k == 6) = false := by simpa using h6
  have g7 : (k == 7) = false := by simpa using h7
  have g8 : (k == 8) = false := by simpa using h8
  have g9 : (k == 9) = false := by simpa using h9
  have g10 : (k == 10) = false := by simpa using h10
  have g11 : (k == 11) = false := by simpa using h11
  have g12 : (k == 12) = false := by simpa using h12
  have hW : vW k = [] := by unfold vW; simp [*]
  have hF : vF k = [] := by unfold vF; simp [*]
  have hz := heap_alloc_new w (.cells #[.string (ByteArray.mk #[]), .slice none 0 0] 51)
  have HP : Hid (VercP k w (.returned (.agg #[.string (ByteArray.mk #[]), .slice none 0 0])) (w.alloc (.cells #[.string (ByteArray.mk #[]), .slice none 0 0] 51))) := ⟨none, 0, by rw [hW]; rfl, by rw [hF]; exact Ints.nil _ _ _, below_alloc _ _, fun a ha => by cases ha⟩
  clear hW hF
  go_enter Tryd.func25, Tryd.ntmps25
  go_wp2_with fail
  exact bodyPost_ret (results_cell_row rfl _ _ _ _ _ _ _ rfl hz Tryd.underlying51 rfl info51) rfl HP.out
theorem vercs_any (k : Int) (w : World) : Calls Tryd.prog 25 #[.int .i64 k] w (VercP k w) := by
  by_cases h1 : k = 1
  · subst h1; exact vercs_1 w
  by_cases h2 : k = 2
  · subst h2; exact vercs_2 w
  by_cases h3 : k = 3
  · subst h3; exact vercs_3 w
  by_cases h4 : k = 4
  · subst h4; exact vercs_4 w
  by_cases h5 : k = 5
  · subst h5; exact vercs_5 w
  by_cases h6 : k = 6
  · subst h6; exact vercs_6 w
  by_cases h7 : k = 7
  · subst h7; exact vercs_7 w
  by_cases h8 : k = 8
  · subst h8; exact vercs_8 w
  by_cases h9 : k = 9
  · subst h9; exact vercs_9 w
  by_cases h10 : k = 10
  · subst h10; exact vercs_10 w
  by_cases h11 : k = 11
  · subst h11; exact vercs_11 w
  by_cases h12 : k = 12
  · subst h12; exact vercs_12 w
  exact vercs_0 k h1 h2 h3 h4 h5 h6 h7 h8 h9 h10 h11 h12 w
end Go.Proofs.YtflpblggpbgeiaaDoor
