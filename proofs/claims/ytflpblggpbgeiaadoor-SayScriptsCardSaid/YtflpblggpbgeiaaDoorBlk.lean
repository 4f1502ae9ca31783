/- A block of integers. No program in sight. -/
import Derived.Test.YtflpblggpbgeiaaDoorCommon
namespace Go.Calli
open Go.RowKit
/-- A block of integers. -/
def Blk (k : IntKind) (w : World) (b : Nat) (t : TypeId) (zs : List Int) : Prop := w.heap[b]? = some (.cells (zs.map (Value.int k)).toArray t (0, 0))
theorem Blk.lt {k : IntKind} {w : World} {b : Nat} {t : TypeId} {zs : List Int} (h : Blk k w b t zs) : b < w.heap.size := (Array.getElem?_eq_some_iff.1 h).1
theorem Blk.cell {k : IntKind} {w : World} {b : Nat} {t : TypeId} {zs : List Int} (h : Blk k w b t zs) {i : Nat} (hi : i < zs.length) : w.cell? ⟨b, i, none⟩ = some (.int k (zs.getD i 0)) := by
  rw [cell_of_row _ _ _ _ _ _ h]; simp [hi]
theorem Blk.frozen {k : IntKind} {w : World} {b : Nat} {t : TypeId} {zs : List Int} (h : Blk k w b t zs) (i : Nat) : w.frozen? ⟨b, i, none⟩ = false := frozen_of_row _ _ _ _ _ h
theorem Blk.set {k : IntKind} {w : World} {b : Nat} {t : TypeId} {zs : List Int} (h : Blk k w b t zs) (i : Nat) (x : Int) : Blk k (w.setCell ⟨b, i, none⟩ (.int k x)) b t (zs.set i x) := by
  unfold Blk
  rw [heap_setCell_same _ _ _ _ _ _ h]
  simp
theorem Blk.kept {k : IntKind} {w w' : World} {b : Nat} {t : TypeId} {zs : List Int} {S : Nat → Prop} (h : Blk k w b t zs) (hk : Keeps S w w') (hS : ¬ S b) : Blk k w' b t zs := hk.heap h hS
theorem Blk.keep0 {k : IntKind} {w w' : World} {b : Nat} {t : TypeId} {zs : List Int} (h : Blk k w b t zs) (hb : Below w.heap.size w w') : Blk k w' b t zs := (hb.block b h.lt).trans h
theorem Blk.other {k : IntKind} {w : World} {b : Nat} {t : TypeId} {zs : List Int} (h : Blk k w b t zs) (c o : Nat) (v : Value) (hc : b ≠ c) : Blk k (w.setCell ⟨c, o, none⟩ v) b t zs := (heap_setCell_other _ _ _ _ hc).trans h
theorem Blk.ints {k : IntKind} {w : World} {b : Nat} {t : TypeId} {zs : List Int} (h : Blk k w b t zs) (n : Nat) (hn : zs.length = n) (hm : n ≤ maxLen) (hw : ∀ z ∈ zs, (Lit.int k z).wf = true) : Ints k w (some ⟨b, 0, none⟩) n zs :=
  ⟨hn, hm, fun i hi => ⟨_, rfl, by rw [add0, Nat.zero_add]; exact h.cell (by omega)⟩, hw⟩
end Go.Calli
