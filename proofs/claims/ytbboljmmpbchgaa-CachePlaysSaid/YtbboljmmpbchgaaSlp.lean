/- A whole slot written in memory. -/
import Derived.Test.YtbboljmmpbchgaaVpl
namespace Go.Proofs.Ytbboljmmpbchgaa
open Go Go.RowKit Go.Calli Go.Dskp Go.Maps
set_option linter.unusedVariables false
set_option linter.unusedSimpArgs false
theorem spl_list (vs : List Value) : ∀ (L : List Value) (o : Nat), (spl L.toArray o vs) = (vs.foldl (fun (q : List Value × Nat) v => (q.1.set q.2 v, q.2 + 1)) (L, o)).1.toArray := by
  induction vs with
  | nil => intro L o; rfl
  | cons v r ih => intro L o; rw [spl, List.foldl_cons, show L.toArray.setIfInBounds o v = (L.set o v).toArray by simp, ih]
theorem flatS_put (ss : List Slot) : ∀ (h : Nat) (t : Slot), h < ss.length → flatS (ss.set h t) = ((((flatS ss).set (h * 4) (.int .i64 t.p)).set (h * 4 + 1) (.bool t.u)).set (h * 4 + 2) (.bool t.f)).set (h * 4 + 3) (.slice t.bo t.bn t.bc) := by
  induction ss with
  | nil => intro h t hh; simp at hh
  | cons m r ih =>
    intro h t hh
    have hl : ∀ s, (svals s).length = 4 := fun s => rfl
    cases h with
    | zero =>
      show svals t ++ flatS r = ((((svals m ++ flatS r).set _ _).set _ _).set _ _).set _ _
      simp [svals]
    | succ h =>
      show svals m ++ flatS (r.set h t) = ((((svals m ++ flatS r).set _ _).set _ _).set _ _).set _ _
      rw [ih h t (by simpa using hh)]
      rw [List.set_append_right _ _ (by rw [hl]; omega), List.set_append_right _ _ (by rw [hl]; omega), List.set_append_right _ _ (by rw [hl]; omega), List.set_append_right _ _ (by rw [hl]; omega)]
      rw [hl, show (h + 1) * 4 - 4 = h * 4 by omega, show (h + 1) * 4 + 1 - 4 = h * 4 + 1 by omega, show (h + 1) * 4 + 2 - 4 = h * 4 + 2 by omega, show (h + 1) * 4 + 3 - 4 = h * 4 + 3 by omega]
theorem Slots.put {w : World} {sb n : Nat} {ss : List Slot} (h : Slots w sb n ss) (i : Nat) (hi : i < n) (t : Slot) : Slots (w.setCells sb (i * 4) (svals t)) sb n (ss.set i t) := by
  obtain ⟨hl, hh⟩ := h
  refine ⟨by rw [List.length_set]; exact hl, ?_⟩
  rw [setCells_block _ _ _ _ _ _ hh, spl_list, flatS_put ss i t (by omega)]
  rfl
end Go.Proofs.Ytbboljmmpbchgaa
