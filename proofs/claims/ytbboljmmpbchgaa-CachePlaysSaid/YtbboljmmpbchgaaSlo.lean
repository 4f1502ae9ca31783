/- The slots of a cache in memory. -/
import Derived.Test.YtbboljmmpbchgaaChn
namespace Go.Proofs.Ytbboljmmpbchgaa
open Go Go.RowKit Go.Calli Go.Dskp Go.Maps
set_option linter.unusedVariables false
set_option linter.unusedSimpArgs false
attribute [local irreducible] wpStill wpAnyH wpAnyS wpList Code.wp
structure Slot where
  p : Int
  u : Bool
  f : Bool
  bo : Option Addr
  bn : Nat
  bc : Nat
def Slot.none : Slot := ⟨0, false, false, .none, 0, 0⟩
def svals (s : Slot) : List Value := [.int .i64 s.p, .bool s.u, .bool s.f, .slice s.bo s.bn s.bc]
def flatS (ss : List Slot) : List Value := ss.flatMap svals
theorem flatS_len (ss : List Slot) : (flatS ss).length = ss.length * 4 := by
  induction ss with
  | nil => rfl
  | cons m r ih => simp only [flatS, List.flatMap_cons, List.length_append, List.length_cons] at *; rw [ih]; simp [svals]; omega
theorem flatS_get (ss : List Slot) : ∀ (i j : Nat), i < ss.length → j < 4 → (flatS ss)[i * 4 + j]? = (svals (ss.getD i Slot.none))[j]? := by
  induction ss with
  | nil => intro i j hi; simp at hi
  | cons m r ih =>
    intro i j hi hj
    have hl : (svals m).length = 4 := rfl
    show (svals m ++ flatS r)[i * 4 + j]? = _
    cases i with
    | zero =>
      rw [Nat.zero_mul, Nat.zero_add, List.getElem?_append_left (by omega)]
      simp
    | succ i =>
      rw [List.getElem?_append_right (by omega), hl, show (i + 1) * 4 + j - 4 = i * 4 + j by omega, ih i j (by simpa using hi) hj]
      simp
def Slots (w : World) (sb n : Nat) (ss : List Slot) : Prop := ss.length = n ∧ w.heap[sb]? = some (.cells (flatS ss).toArray 67 (0, 0))
theorem Slots.at_ {w : World} {sb n : Nat} {ss : List Slot} (h : Slots w sb n ss) (i : Nat) (hi : i < n) :
    w.cell? ⟨sb, i * 4, none⟩ = some (.int .i64 (ss.getD i Slot.none).p) ∧ w.cell? ⟨sb, i * 4 + 1, none⟩ = some (.bool (ss.getD i Slot.none).u) ∧ w.cell? ⟨sb, i * 4 + 2, none⟩ = some (.bool (ss.getD i Slot.none).f) ∧ w.cell? ⟨sb, i * 4 + 3, none⟩ = some (.slice (ss.getD i Slot.none).bo (ss.getD i Slot.none).bn (ss.getD i Slot.none).bc) := by
  obtain ⟨hl, hh⟩ := h
  have key : ∀ j, j < 4 → w.cell? ⟨sb, i * 4 + j, none⟩ = (svals (ss.getD i Slot.none))[j]? := fun j hj => by
    rw [cell_of_row _ _ _ _ _ _ hh, List.getElem?_toArray]
    exact flatS_get ss i j (by omega) hj
  exact ⟨key 0 (by omega), key 1 (by omega), key 2 (by omega), key 3 (by omega)⟩
theorem Slots.kept {w w' : World} {sb n : Nat} {ss : List Slot} (h : Slots w sb n ss) {S : Nat → Prop} (hk : Keeps S w w') (h0 : ¬ S sb) : Slots w' sb n ss := ⟨h.1, hk.heap h.2 h0⟩
/-- The slot of a page, from the place k on. -/
def findS (ss : List Slot) (page : Int) : Nat → Nat → Int
  | 0, _ => -1
  | k + 1, i => if (ss.getD i Slot.none).f = true ∧ (ss.getD i Slot.none).p = page then (i : Int) else findS ss page k (i + 1)
end Go.Proofs.Ytbboljmmpbchgaa
