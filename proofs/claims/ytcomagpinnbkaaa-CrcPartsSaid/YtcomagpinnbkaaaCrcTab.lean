/- The walks of the Go functions of crc that hold its table: Table, New, State's methods, Parts. -/
import Derived.Test.YtcomagpinnbkaaaCrc
import Derived.Deep.RegionWith
import Derived.Deep.WholeRow
namespace Go.Proofs.Ytcomagpinnbkaaa
open Go.RowKit Go.Calli
def z256 : Array Value := Array.replicate 256 (.int .u32 0)
theorem zeroTab (w : World) : Sem.run Try.prog (zeroValue 27) w = .ok (.agg z256) w := by kernel_rfl
theorem infoTab : (Try.prog.info? 27).map (·.size) = some 256 := by kernel_rfl
/-- The table of n places, so far. -/
def tabN (n k : Nat) : Array Value := ((List.range k).map (fun c => Value.int .u32 (csteps 8 c : Nat)) ++ List.replicate (n - k) (Value.int .u32 0)).toArray
theorem tabN_size (n k : Nat) (h : k ≤ n) : (tabN n k).size = n := by simp [tabN]; omega
theorem tabN_zero (n : Nat) : tabN n 0 = Array.replicate n (.int .u32 0) := by simp [tabN]
theorem tabN_set (n k : Nat) (h : k < n) : (tabN n k).setIfInBounds k (.int .u32 (csteps 8 k : Nat)) = tabN n (k + 1) := by
  unfold tabN
  rw [List.setIfInBounds_toArray]
  congr 1
  rw [List.set_append_right _ _ (by simp), List.range_succ, List.map_append, List.append_assoc]
  congr 1
  rw [show n - k = (n - (k + 1)) + 1 by omega, List.replicate_succ]
  simp
theorem tabN_get (n k : Nat) (h : k < n) : (tabN n n)[k]? = some (.int .u32 (csteps 8 k : Nat)) := by
  simp [tabN, h]
theorem tabN_some (n k : Nat) (h : k < n) : ∃ v, (tabN n k)[k]? = some v := by
  have := tabN_size n k (by omega)
  exact ⟨_, Array.getElem?_eq_getElem (by omega)⟩
theorem tabN_oneCell (n : Nat) : ∀ v ∈ (tabN n n).toList, v.oneCell' = true := by
  intro v hv
  simp [tabN] at hv
  obtain ⟨c, _, rfl⟩ := hv
  rfl
def tabTo (k : Nat) : Array Value := tabN 256 k
theorem tabTo_size (k : Nat) (h : k ≤ 256) : (tabTo k).size = 256 := tabN_size _ _ h
theorem tabTo_zero : tabTo 0 = z256 := tabN_zero _
theorem tabTo_set (k : Nat) (h : k < 256) : (tabTo k).setIfInBounds k (.int .u32 (csteps 8 k : Nat)) = tabTo (k + 1) := tabN_set _ _ h
theorem tabTo_get (k : Nat) (h : k < 256) : (tabTo 256)[k]? = some (.int .u32 (csteps 8 k : Nat)) := tabN_get _ _ h
theorem tabTo_some (k : Nat) (h : k < 256) : ∃ v, (tabTo k)[k]? = some v := tabN_some _ _ h
theorem tab_oneCell : ∀ v ∈ (tabTo 256).toList, v.oneCell' = true := tabN_oneCell _
set_option maxRecDepth 10000 in
set_option maxHeartbeats 400000 in
theorem table_any (w : World) : Calls Try.prog 10 #[] w fun e w' => e = .returned (.agg (tabTo 256)) ∧ Below w.heap.size w w' := by
  have hz := zeroTab
  go_enter Try.func10, Try.ntmps10
  go_wp2
  go_loopw [3] (fun i wr => ∃ k : Nat, k ≤ 256 ∧ i = .int .i64 k ∧ wr.heap[w.heap.size]? = some (.cells z256 27 (0, 0)) ∧ wr.heap[w.heap.size + 1]? = some (.cells (tabTo k) 27 (0, 0)) ∧ Below w.heap.size w wr) (fun i _ => (256 - intOf i).toNat)
  case atStart => exact ⟨0, by omega, rfl, heap_alloc2_old _ _ _, by rw [tabTo_zero]; exact heap_alloc2_new _ _ _, (below_alloc _ _).alloc (by simp) _⟩
  case round =>
    obtain ⟨k, hk, rfl, h0, h1, hb⟩ := hrel
    by_cases hlt : k < 256
    · obtain ⟨v, hv⟩ := tabTo_some k hlt
      have hc : wr.cell? ⟨w.heap.size + 1, k, none⟩ = some v := by rw [cell_of_row _ _ _ _ _ _ h1]; exact hv
      have hf : wr.frozen? ⟨w.heap.size + 1, k, none⟩ = false := frozen_of_row _ _ _ _ _ h1
      have hs : (wr.setCell ⟨w.heap.size + 1, k, none⟩ (.int .u32 (csteps 8 k : Nat))).heap[w.heap.size + 1]? = some (.cells (tabTo (k + 1)) 27 (0, 0)) := by
        rw [heap_setCell_same _ _ _ _ _ _ h1, tabTo_set k hlt]
      have hs0 : (wr.setCell ⟨w.heap.size + 1, k, none⟩ (.int .u32 (csteps 8 k : Nat))).heap[w.heap.size]? = some (.cells z256 27 (0, 0)) := by
        rw [heap_setCell_other _ _ _ _ (by simp)]; exact h0
      have H1 := Lib.hid h1
      have H0 := Lib.hid h0
      have HS := Lib.hid hs
      have HS0 := Lib.hid hs0
      clear h1 h0 hs hs0 hv
      go_wp2_with (go_at_call 17; refine (entry_any _ hlt _).mono ?_; rintro e w' ⟨rfl, rfl⟩)
      go_roundw
      case rel => exact ⟨k+1, by omega, by go_num, HS0.out, HS.out, hb.setCell (by simp) _⟩
      case measure => simp [intOf]; omega
    · obtain rfl : k = 256 := by omega
      have hsz : (tabTo 256).size = 256 := tabTo_size _ (Nat.le_refl _)
      have hin : (Try.prog.info? 27).map (·.size) = some (tabTo 256).size := by rw [hsz]; exact infoTab
      have hth : wr.there w.heap.size 0 (tabTo 256).size := by
        intro j hj
        rw [hsz] at hj
        rw [cell_of_row _ _ _ _ _ _ h0, frozen_of_row _ _ _ _ _ h0]
        exact ⟨by simp [z256]; omega, rfl⟩
      have h0s : (wr.setCells w.heap.size 0 (tabTo 256).toList).heap[w.heap.size]? = some (.cells (tabTo 256) 27 (0, 0)) := by
        rw [setCells_block _ _ _ _ _ _ h0, spl_all _ _ (by simp [hsz, z256])]
      have H0 := Lib.hid h0
      have H1 := Lib.hid h1
      have HI := Lib.hid hin
      have HT := Lib.hid hth
      have HS := Lib.hid h0s
      clear h0 h1 hin hth h0s hsz
      go_wp2_with (first | (with_reducible refine wpList_load_row rfl 27 _ rfl (w.heap.size + 1) rfl 27 (tabTo 256) (0, 0) _ H1.out Try.underlying27 rfl HI.out ?_) | (with_reducible refine wpList_store_mid rfl 27 _ _ rfl w.heap.size 0 (tabTo 256) rfl rfl HT.out HI.out (all_oneCell_toArray tab_oneCell) ?_))
      refine bodyPost_ret (results_cell_row rfl _ _ _ _ _ _ _ rfl HS.out Try.underlying27 rfl HI.out) rfl ⟨rfl, Below_setCells _ hb (Nat.le_refl _) _⟩
set_option maxRecDepth 10000 in
set_option maxHeartbeats 400000 in
theorem crcTable_any (c : Nat) (hc : c < 256) (w : World) : Calls Try.prog 4 #[.int .u8 c] w fun e w' => e = .returned (.bool true) ∧ Below w.heap.size w w' := by
  have hz := zeroTab
  have hsz : (tabTo 256).size = 256 := tabTo_size _ (Nat.le_refl _)
  have hin : (Try.prog.info? 27).map (·.size) = some (tabTo 256).size := by rw [hsz]; exact infoTab
  have hst := fun (w : World) => run_storeCells_new (P := Try.prog) w 27 z256 (tabTo 256) hin (by rw [hsz]; simp [z256]) (all_oneCell_toArray tab_oneCell)
  have HI := Lib.hid hin
  have hcell : ∀ w : World, (w.alloc (.cells (tabTo 256) 27)).cell? ⟨w.heap.size, c, none⟩ = some (.int .u32 (csteps 8 c : Nat)) := fun w => by
    rw [cell_of_row _ _ _ _ _ _ (heap_alloc_new _ _)]; exact tabTo_get _ hc
  clear hsz hin
  have hw : IntKind.u32.wrap (c : Int) = c := by rw [IntKind.wrap_u32']; omega
  go_enter Try.func4, Try.ntmps4
  go_wp2_with (go_at_call 10; refine (table_any _).mono ?_; rintro e w1 ⟨rfl, hb1⟩)

  go_region_with (first | (go_at_call 11; refine (push_any _ (by omega) _).mono ?_; rintro e w' ⟨rfl, rfl⟩) | (go_at_call 9; refine (awake_any _).mono ?_; rintro e w' ⟨rfl, hb⟩))
  all_goals
    go_wp2
    go_ret
    exact ⟨rfl, ((hb1.alloc hb1.size _).drew).trans (hb.mono (by simp; have := hb1.size; omega))⟩
end Go.Proofs.Ytcomagpinnbkaaa
