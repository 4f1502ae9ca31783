/- The walk of cache's find. -/
import Derived.Test.YtbboljmmpbchgaaSlo
import Derived.BigQuiet
namespace Go.Proofs.Ytbboljmmpbchgaa
open Go Go.RowKit Go.Calli Go.Dskp Go.Maps
set_option linter.unusedVariables false
set_option linter.unusedSimpArgs false
attribute [local irreducible] wpStill wpAnyH wpAnyS wpList Code.wp
def FindPost (ss : List Slot) (page : Int) (n : Nat) (w : World) (e : Ending) (w' : World) : Prop := e = .returned (.int .i64 (findS ss page n 0)) ∧ Below w.heap.size w w'
theorem find_any (cb sb n : Nat) (ss : List Slot) (page : Int) (v0 v1 v2 v3 v4 v6 v7 : Value) (hn : n ≤ 1024) (w : World) (hc : w.heap[cb]? = some (.cells #[v0, v1, v2, v3, v4, .slice (some ⟨sb, 0, none⟩) n n, v6, v7] 47 (0, 0))) (hS : Slots w sb n ss) : Calls Try.prog 26 #[.pointer (some ⟨cb, 0, none⟩), .int .i64 page] w (FindPost ss page n w) := by
  obtain ⟨c0, c1, c2, c3, c4, c5, c6, c7⟩ := eight_cells hc
  go_enter Try.func26, Try.ntmps26
  go_wp2_with fail
  go_loopw [5, 11] (fun v5 v11 wr => ∃ i : Nat, i ≤ n ∧ v11 = .int .i64 i ∧ Hid (findS ss page n 0 = findS ss page (n - i) i) ∧ Below w.heap.size w wr) (fun _ v11 _ => (n - (intOf v11).toNat))
  case atStart => exact ⟨0, by omega, rfl, rfl, Below.refl _ _⟩
  case round =>
    obtain ⟨i, hi, rfl, hf, hb⟩ := hrel
    by_cases hlt : i < n
    · have hk := Keeps.ofBelow (S := fun _ => False) hb (Nat.le_refl _)
      obtain ⟨s0, s1, s2, s3⟩ := (hS.kept hk id).at_ i hlt
      obtain ⟨c0, c1, c2, c3, c4, c5, c6, c7⟩ := eight_cells (hk.heap hc id)
      obtain ⟨j, hj⟩ : ∃ j, n - i = j + 1 := ⟨n - i - 1, by omega⟩
      have hstep : findS ss page (n - i) i = if (ss.getD i Slot.none).f = true ∧ (ss.getD i Slot.none).p = page then (i : Int) else findS ss page (n - (i + 1)) (i + 1) := by
        rw [hj, show n - (i + 1) = j by omega]; rfl
      generalize ss.getD i Slot.none = t at *
      by_cases hfl : t.f = true
      · rw [hfl] at s2
        by_cases hp : t.p = page
        · rw [hp] at s0
          have HST := Lib.hid (hstep.trans (if_pos ⟨hfl, hp⟩))
          clear hstep
          go_wp2_with fail
          go_ret
          exact ⟨by rw [hf.out, HST.out] <;> rfl, hb⟩
        · have HST := Lib.hid (hstep.trans (if_neg (fun e => hp e.2)))
          have hpb : (t.p == page) = false := by simpa using hp
          clear hstep
          go_wp2_with fail
          go_roundw
          case rel => exact ⟨i + 1, by omega, by go_num, hf.out.trans HST.out, hb⟩
          case measure => simp [intOf]; omega
      · have hfl2 : t.f = false := by simpa using hfl
        rw [hfl2] at s2
        have HST := Lib.hid (hstep.trans (if_neg (fun e => hfl e.1)))
        clear hstep
        go_wp2_with fail
        go_roundw
        case rel => exact ⟨i + 1, by omega, by go_num, hf.out.trans HST.out, hb⟩
        case measure => simp [intOf]; omega
    · obtain rfl : i = n := by omega
      have HE := Lib.hid (hf.out.trans (by rw [Nat.sub_self]; rfl : findS ss page (i - i) i = -1))
      go_wp2_with fail
      go_ret
      exact ⟨by rw [HE.out] <;> rfl, hb⟩
end Go.Proofs.Ytbboljmmpbchgaa
