/- The walk of cache's Pages. -/
import Derived.Test.YtbboljmmpbchgaaEvi
namespace Go.Proofs.Ytbboljmmpbchgaa
open Go Go.RowKit Go.Calli Go.Dskp Go.Maps
set_option linter.unusedVariables false
set_option linter.unusedSimpArgs false
attribute [local irreducible] wpStill wpAnyH wpAnyS wpList Code.wp
def PgsPost (L : List Int) (w : World) (e : Ending) (w' : World) : Prop := ∃ ro rc, e = .returned (.slice ro L.length rc) ∧ L.length ≤ rc ∧ Ints .i64 w' ro L.length L ∧ (∀ a, ro = some a → w.heap.size ≤ a.block) ∧ Below w.heap.size w w'
theorem infoI3 : (Try.prog.info? 3).map (fun i => (i.zero, i.size, i.bytes)) = some (some (.int .i64 0), 1, 8) := by kernel_rfl
theorem pgs_succ (c : Ca) (i : Nat) (hi : i < c.ss.length) (x : Int) (hx : (if (c.ss.getD i q0).f then (c.ss.getD i q0).p else -1) = x) : ((pgsC c).take (i + 1)).map (Value.int .i64) = ((pgsC c).take i).map (Value.int .i64) ++ [.int .i64 x] := by
  rw [take_succ_getD _ _ (by rw [pgsC, List.length_map]; exact hi), List.map_append]
  have : (pgsC c).getD i 0 = x := by
    rw [← hx]
    simp [pgsC, List.getD, hi]
  rw [this]
  rfl
set_option maxHeartbeats 1000000 in
theorem pages_of (A : Ad) (n : Nat) (hn1 : n ≤ 1024) (c : Ca) (hC : COk c) (w : World) (h : CaIs A w n c) : Calls Try.prog 11 #[.pointer (some ⟨A.cb, 0, none⟩)] w (PgsPost (pgsC c) w) := by
  have hN := cnone_any A n c w h
  obtain ⟨c0, c1, c2, c3, c4, c5, c6, c7⟩ := eight_cells h.row
  have hl := h.len
  have hll : (pgsC c).length = n := by rw [pgsC, List.length_map, hl]
  have HH := Lib.hid h
  clear h
  go_enter Try.func11, Try.ntmps11
  go_wp2_with (go_at_call 24; refine hN.mono ?_; rintro e w' ⟨rfl, rfl⟩)
  clear c0 c1 c2 c3 c4 c5 c6 c7 hN
  go_loopw [3, 13] (fun v3 v13 wr => ∃ (i : Nat), i ≤ n ∧ v13 = .int .i64 i ∧ wr.ownsRow w.heap.size 3 1 v3 i (((pgsC c).take i).map (Value.int .i64)) ∧ Below w.heap.size w wr) (fun _ v13 _ => n - (intOf v13).toNat)
  case atStart => exact ⟨0, by omega, rfl, World.ownsRow_nil _ _ _ _, Below.refl _ _⟩
  case round =>
    obtain ⟨i, hi, rfl, hown, hb⟩ := hrel
    by_cases hlt : i < n
    · have h1 := HH.out.keep0 hb
      obtain ⟨ms, hS, hM⟩ := h1.slots
      obtain ⟨s0, s1, s2, s3⟩ := hS.at_ i hlt
      have hsi := hM.is i (by rw [hl]; exact hlt)
      have e0 := hsi.p
      have e2 := hsi.f
      have HSU := Lib.hid (pgs_succ c i (by rw [hl]; exact hlt))
      rw [← e0, ← e2] at HSU
      clear hsi h1 hM
      generalize ms.getD i Slot.none = t at *
      obtain ⟨tp, tu, tf, tbo, tbn, tbc⟩ := t
      simp only at s0 s1 s2 s3 HSU
      clear e0 e2
      cases tf with
      | true =>
        have HX := Lib.hid (HSU.out tp rfl)
        clear HSU
        have hownA := hown.alloc (.cells #[.int .i64 tp, .bool tu, .bool true, .slice tbo tbn tbc] 67)
        have hbA : Below w.heap.size w (wr.alloc (.cells #[.int .i64 tp, .bool tu, .bool true, .slice tbo tbn tbc] 67)) := balloc hb _
        have hcA : (wr.alloc (.cells #[.int .i64 tp, .bool tu, .bool true, .slice tbo tbn tbc] 67)).cell? ⟨wr.heap.size, 0, none⟩ = some (.int .i64 tp) := (cell_of_row _ _ _ _ _ _ (MapKept.heap_alloc wr _).1).trans rfl
        go_upto_region 9 with fail
        clear s0 s1 s2 s3 hS hown
        generalize wr.alloc (.cells #[.int .i64 tp, .bool tu, .bool true, .slice tbo tbn tbc] 67) = W1 at *
        go_wp2_with (at_builtin; refine wpList_append_one rfl (.tmp 21) (.tmp 24) 32 3 rfl Try.underlying32 infoI3 rfl w.heap.size _ _ _ rfl hownA (.int .i64 _) rfl rfl ?_ ?_ ?_ ?_)
        · omega
        · unfold maxLen; omega
        · exact hbA.size
        · intro v' w2 hown2 hkp
          rw [← List.map_take, ← HX.out] at hown2
          have hb2 := hbA.trans (owns_below hownA hkp hbA.size)
          clear hownA hkp
          go_wp2_with fail
          go_roundw
          case rel => exact ⟨i + 1, by omega, by go_num, hown2, hb2⟩
          case measure => simp [intOf]; omega
      | false =>
        have HX := Lib.hid (HSU.out (-1) rfl)
        clear HSU
        have hownA := hown.alloc (.cells #[.int .i64 (-1), .bool tu, .bool false, .slice tbo tbn tbc] 67)
        have hbA : Below w.heap.size w (wr.alloc (.cells #[.int .i64 (-1), .bool tu, .bool false, .slice tbo tbn tbc] 67)) := balloc hb _
        have hcA : (wr.alloc (.cells #[.int .i64 (-1), .bool tu, .bool false, .slice tbo tbn tbc] 67)).cell? ⟨wr.heap.size, 0, none⟩ = some (.int .i64 (-1)) := (cell_of_row _ _ _ _ _ _ (MapKept.heap_alloc wr _).1).trans rfl
        go_upto_region 9 with fail
        clear s0 s1 s2 s3 hS hown
        generalize wr.alloc (.cells #[.int .i64 (-1), .bool tu, .bool false, .slice tbo tbn tbc] 67) = W1 at *
        go_wp2_with (at_builtin; refine wpList_append_one rfl (.tmp 21) (.tmp 24) 32 3 rfl Try.underlying32 infoI3 rfl w.heap.size _ _ _ rfl hownA (.int .i64 _) rfl rfl ?_ ?_ ?_ ?_)
        · omega
        · unfold maxLen; omega
        · exact hbA.size
        · intro v' w2 hown2 hkp
          rw [← List.map_take, ← HX.out] at hown2
          have hb2 := hbA.trans (owns_below hownA hkp hbA.size)
          clear hownA hkp
          go_wp2_with fail
          go_roundw
          case rel => exact ⟨i + 1, by omega, by go_num, hown2, hb2⟩
          case measure => simp [intOf]; omega
    · obtain rfl : i = n := by omega
      rw [List.take_of_length_le (by omega)] at hown
      obtain ⟨ro, rc, rfl, hic, hrow2, hlim, hund, hblk⟩ := own_slice hown
      have hI := hrow2.ints hlim (pgsC_wf hC)
      clear hown hrow2
      go_wp2_with fail
      go_ret
      exact ⟨ro, rc, by rw [hll] <;> rfl, by omega, by rw [hll]; exact hI, fun a ha => (hblk a ha).1, hb⟩
end Go.Proofs.Ytbboljmmpbchgaa
