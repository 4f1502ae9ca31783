/- The slot that is taken next: plain laws; a slot's bit written in memory. -/
import Derived.Test.YtbboljmmpbchgaaSlo
namespace Go.Proofs.Ytbboljmmpbchgaa
open Go Go.RowKit Go.Calli Go.Dskp Go.Maps
set_option linter.unusedVariables false
set_option linter.unusedSimpArgs false
def Slot.used (s : Slot) : Bool := s.f && s.u
def Slot.drop (s : Slot) : Slot := { s with u := false }
def cnt (ss : List Slot) : Nat := (ss.filter Slot.used).length
theorem cnt_set (ss : List Slot) : ∀ h, h < ss.length → (ss.getD h Slot.none).used = true → cnt (ss.set h (ss.getD h Slot.none).drop) + 1 = cnt ss := by
  have hd : ∀ s : Slot, s.drop.used = false := fun s => by simp [Slot.used, Slot.drop]
  induction ss with
  | nil => intro h hh; simp at hh
  | cons m r ih =>
    intro h hh hu
    cases h with
    | zero =>
      have hu' : m.used = true := hu
      show cnt (m.drop :: r) + 1 = cnt (m :: r)
      simp [cnt, List.filter_cons, hd, hu']
    | succ h =>
      have := ih h (by simpa using hh) hu
      show cnt (m :: r.set h (r.getD h Slot.none).drop) + 1 = cnt (m :: r)
      unfold cnt at this ⊢
      by_cases hm : m.used = true
      · rw [List.filter_cons_of_pos hm, List.filter_cons_of_pos hm, List.length_cons, List.length_cons]; omega
      · rw [List.filter_cons_of_neg hm, List.filter_cons_of_neg hm]; omega
/-- The hand goes round: which slot is taken, the slots behind it, the hand behind it. -/
def vic (n : Nat) : Nat → List Slot → Nat → Nat × List Slot × Nat
  | 0, ss, h => (h, ss, (h + 1) % n)
  | k + 1, ss, h => if (ss.getD h Slot.none).used = true then vic n k (ss.set h (ss.getD h Slot.none).drop) ((h + 1) % n) else (h, ss, (h + 1) % n)
theorem vic_step (n : Nat) (ss : List Slot) (h : Nat) (hh : h < ss.length) (hu : (ss.getD h Slot.none).used = true) : vic n (cnt ss) ss h = vic n (cnt (ss.set h (ss.getD h Slot.none).drop)) (ss.set h (ss.getD h Slot.none).drop) ((h + 1) % n) := by
  rw [← cnt_set ss h hh hu, vic, if_pos hu]
theorem vic_end (n k : Nat) (ss : List Slot) (h : Nat) (hu : (ss.getD h Slot.none).used = false) : vic n k ss h = (h, ss, (h + 1) % n) := by
  cases k with
  | zero => rfl
  | succ k => rw [vic, if_neg (by rw [hu]; decide)]
theorem flatS_set (ss : List Slot) : ∀ (h : Nat) (t : Slot), h < ss.length → t.p = (ss.getD h Slot.none).p → t.f = (ss.getD h Slot.none).f → t.bo = (ss.getD h Slot.none).bo → t.bn = (ss.getD h Slot.none).bn → t.bc = (ss.getD h Slot.none).bc → flatS (ss.set h t) = (flatS ss).set (h * 4 + 1) (.bool t.u) := by
  induction ss with
  | nil => intro h t hh; simp at hh
  | cons m r ih =>
    intro h t hh e1 e2 e3 e4 e5
    cases h with
    | zero =>
      have a1 : t.p = m.p := e1
      have a2 : t.f = m.f := e2
      have a3 : t.bo = m.bo := e3
      have a4 : t.bn = m.bn := e4
      have a5 : t.bc = m.bc := e5
      show svals t ++ flatS r = (svals m ++ flatS r).set 1 (.bool t.u)
      simp [svals, a1, a2, a3, a4, a5]
    | succ h =>
      show svals m ++ flatS (r.set h t) = (svals m ++ flatS r).set ((h + 1) * 4 + 1) (.bool t.u)
      rw [ih h t (by simpa using hh) e1 e2 e3 e4 e5, List.set_append_right _ _ (by simp [svals]; omega)]
      congr 2
      simp [svals]; omega
theorem Slots.setu {w : World} {sb n : Nat} {ss : List Slot} (h : Slots w sb n ss) (i : Nat) (hi : i < n) (u : Bool) : Slots (w.setCell ⟨sb, i * 4 + 1, none⟩ (.bool u)) sb n (ss.set i { ss.getD i Slot.none with u := u }) := by
  obtain ⟨hl, hh⟩ := h
  refine ⟨by rw [List.length_set]; exact hl, ?_⟩
  rw [heap_setCell_same _ _ _ _ _ _ hh, flatS_set ss i { ss.getD i Slot.none with u := u } (by omega) rfl rfl rfl rfl rfl]
  simp
end Go.Proofs.Ytbboljmmpbchgaa
