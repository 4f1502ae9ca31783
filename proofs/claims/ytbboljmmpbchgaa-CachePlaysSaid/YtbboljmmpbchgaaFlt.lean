/- The walk of the law's fault. -/
import Derived.Test.YtbboljmmpbchgaaPlu
namespace Go.Proofs.Ytbboljmmpbchgaa
open Go Go.RowKit Go.Calli Go.Dskp Go.Maps
set_option linter.unusedVariables false
set_option linter.unusedSimpArgs false
attribute [local irreducible] wpStill wpAnyH wpAnyS wpList Code.wp
def ftD (d : Dk) (o : Opr) : Dk := if o.k = 5 then flS d o.p o.n else if o.k = 6 then spS d o.p o.n o.x else hlS d o.p
theorem ftD_ok {d : Dk} (hd : d.Ok) {o : Opr} (ho : o.wf) : (ftD d o).Ok ∧ (ftD d o).img = d.img ∧ (ftD d o).r = d.r := by
  obtain ⟨w1, w2, w3, w4⟩ := ho
  have hn := bounds_i64 w3
  have hx := bounds_u8 w4
  unfold ftD
  split
  · refine ⟨flS_ok hd _ _ (by omega), ?_, ?_⟩ <;> (unfold flS; split <;> rfl)
  · split
    · refine ⟨spS_ok hd _ _ _ (by omega) (by omega), ?_, ?_⟩
      · unfold spS; split; rfl; split <;> rfl
      · unfold spS; split; rfl; split <;> rfl
    · refine ⟨hlS_ok hd _, ?_, ?_⟩ <;> (unfold hlS; split <;> rfl)
def FtPost (b mb : Nat) (ib : Option Addr) (kap m : Nat) (d : Dk) (w : World) (e : Ending) (w' : World) : Prop := e = .returned (.tuple #[]) ∧ (∃ m', m' ≤ m + 1 ∧ Dsk w' b mb ib kap m' d) ∧ Keeps (fun k => k = b ∨ k = mb) w w'
theorem fault_any (b mb : Nat) (ib : Option Addr) (kap m : Nat) (s : Dk) (hs : s.Ok) (hm : m < 1000000000) (o : Opr) (ho : o.wf) (w : World) (h : Dsk w b mb ib kap m s) : Calls Try.prog 31 #[.pointer (some ⟨b, 0, none⟩), .agg #[.int .i64 o.k, .int .i64 o.p, .int .i64 o.n, .int .u8 o.x]] w (FtPost b mb ib kap m (ftD s o) w) := by
  obtain ⟨w1, w2, w3, w4⟩ := ho
  have hba := below_alloc w (.cells #[.int .i64 o.k, .int .i64 o.p, .int .i64 o.n, .int .u8 o.x] 41)
  have hD1 := h.keep0 hba
  obtain ⟨e0, e1, e2, e3, -, -⟩ := four_cells (MapKept.heap_alloc w (.cells #[.int .i64 o.k, .int .i64 o.p, .int .i64 o.n, .int .u8 o.x] 41)).1
  have hka : Keeps (fun k => k = b ∨ k = mb) w (w.alloc (.cells #[.int .i64 o.k, .int .i64 o.p, .int .i64 o.n, .int .u8 o.x] 41)) := Keeps.ofBelow hba (Nat.le_refl _)
  clear hba h
  by_cases h5 : o.k = 5
  · have hF := fail_any b mb ib kap m s hs hm o.p o.n w2 _ hD1
    have HX := Lib.hid (show ftD s o = flS s o.p o.n from if_pos h5)
    rw [h5] at e0 hF hka ⊢
    go_enter Try.func31, Try.ntmps31
    go_wp2_with (go_at_call 9; refine hF.mono ?_; rintro e w' ⟨rfl, hm', hk⟩)
    go_end0
    exact ⟨rfl, by rw [HX.out]; exact hm', hka.trans hk⟩
  · have hb5 : (o.k == 5) = false := by simpa using h5
    by_cases h6 : o.k = 6
    · have hF := spoil_any b mb ib kap m s hs hm o.p o.n o.x w2 _ hD1
      have HX := Lib.hid (show ftD s o = spS s o.p o.n o.x from (if_neg h5).trans (if_pos h6))
      rw [h6] at e0 hF hka ⊢
      go_enter Try.func31, Try.ntmps31
      go_wp2_with (go_at_call 36; refine hF.mono ?_; rintro e w' ⟨rfl, hm', hk⟩)
      go_end0
      exact ⟨rfl, by rw [HX.out]; exact hm', hka.trans hk⟩
    · have hb6 : (o.k == 6) = false := by simpa using h6
      have hF := heal_any b mb ib kap m s hs o.p w2 _ hD1
      have HX := Lib.hid (show ftD s o = hlS s o.p from (if_neg h5).trans (if_neg h6))
      go_enter Try.func31, Try.ntmps31
      go_wp2_with (go_at_call 37; refine hF.mono ?_; rintro e w' ⟨rfl, hm', hk⟩)
      go_end0
      exact ⟨rfl, by rw [HX.out]; exact hm', hka.trans hk⟩
end Go.Proofs.Ytbboljmmpbchgaa
