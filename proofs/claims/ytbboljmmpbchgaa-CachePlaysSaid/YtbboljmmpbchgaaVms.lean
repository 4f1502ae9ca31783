/- How many slots are full and used, as the world has it: the measure of victim's loop. -/
import Derived.Test.YtbboljmmpbchgaaVpl
namespace Go.Proofs.Ytbboljmmpbchgaa
open Go Go.RowKit Go.Calli Go.Dskp Go.Maps
set_option linter.unusedVariables false
theorem flatS_inj : ∀ (a b : List Slot), flatS a = flatS b → a = b
  | [], [], _ => rfl
  | [], y :: s, h => by simp [flatS, svals] at h
  | x :: r, [], h => by simp [flatS, svals] at h
  | x :: r, y :: s, h => by
    have h' : svals x ++ flatS r = svals y ++ flatS s := h
    simp only [svals, List.cons_append, List.nil_append, List.cons.injEq] at h'
    obtain ⟨h1, h2, h3, h4, h5⟩ := h'
    have := flatS_inj r s h5
    subst this
    cases x; cases y
    simp at h1 h2 h3 h4
    obtain ⟨e4, e5, e6⟩ := h4
    subst h1 h2 h3 e4 e5 e6
    rfl
open Classical in
noncomputable def mCnt (sb n : Nat) (w : World) : Nat := if h : ∃ ss, Slots w sb n ss then cnt h.choose else 0
theorem mCnt_eq {w : World} {sb n : Nat} {ss : List Slot} (h : Slots w sb n ss) : mCnt sb n w = cnt ss := by
  have hx : ∃ ss, Slots w sb n ss := ⟨ss, h⟩
  unfold mCnt
  rw [dif_pos hx]
  have h2 := hx.choose_spec
  congr 1
  apply flatS_inj
  have e := h2.2.symm.trans h.2
  simpa using e
end Go.Proofs.Ytbboljmmpbchgaa
