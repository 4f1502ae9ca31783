/- The walk of say.take. -/
import Derived.Test.YtflpblggpbgeiaaDoorVrb
namespace Go.Proofs.YtflpblggpbgeiaaDoor
open Go Go.RowKit Go.Calli
set_option linter.unusedVariables false
set_option linter.unusedSimpArgs false
attribute [local irreducible] wpStill wpAnyH wpAnyS wpList Code.wp
/-- A step. -/
structure Ac where
  k : Int
  v : Int
  nm : List Int
  n : Int
  m : Int
  p : Int
  x : Int
def ac0 : Ac := ⟨0, 0, [], 0, 0, 0, 0⟩
def cellsA (a : Ac) : Array Value := #[.int .i64 a.k, .int .i64 a.v, .string (strOfNums a.nm), .int .i64 a.n, .int .i64 a.m, .int .i64 a.p, .int .i64 a.x]
def numOf (l : List Int) : Int := (readN l).getD 0
def takeA (a : Ac) (f : Int) (l : List Int) : Ac := if f = 1 then ⟨a.k, a.v, (readW l).getD [], a.n, a.m, a.p, a.x⟩ else if f = 0 then ⟨a.k, numOf l, a.nm, a.n, a.m, a.p, a.x⟩ else if f = 2 then ⟨a.k, a.v, a.nm, numOf l, a.m, a.p, a.x⟩ else if f = 3 then ⟨a.k, a.v, a.nm, a.n, numOf l, a.p, a.x⟩ else if f = 4 then ⟨a.k, a.v, a.nm, a.n, a.m, a.p, numOf l⟩ else if f = 5 then ⟨a.k, a.v, a.nm, a.n, a.m, numOf l, a.x⟩ else a
def okA (f : Int) (l : List Int) : Bool := if f = 1 then (readW l).isSome else (readN l).isSome
theorem seven_cells {w : World} {b T : Nat} {v0 v1 v2 v3 v4 v5 v6 : Value} (h : w.heap[b]? = some (.cells #[v0, v1, v2, v3, v4, v5, v6] T (0, 0))) : (w.cell? ⟨b, 0, none⟩ = some v0 ∧ w.cell? ⟨b, 1, none⟩ = some v1 ∧ w.cell? ⟨b, 2, none⟩ = some v2 ∧ w.cell? ⟨b, 3, none⟩ = some v3 ∧ w.cell? ⟨b, 4, none⟩ = some v4 ∧ w.cell? ⟨b, 5, none⟩ = some v5 ∧ w.cell? ⟨b, 6, none⟩ = some v6) ∧ w.frozen? ⟨b, 0, none⟩ = false ∧ w.frozen? ⟨b, 1, none⟩ = false ∧ w.frozen? ⟨b, 2, none⟩ = false ∧ w.frozen? ⟨b, 3, none⟩ = false ∧ w.frozen? ⟨b, 4, none⟩ = false ∧ w.frozen? ⟨b, 5, none⟩ = false ∧ w.frozen? ⟨b, 6, none⟩ = false :=
  ⟨⟨(cell_of_row _ _ _ _ _ _ h).trans rfl, (cell_of_row _ _ _ _ _ _ h).trans rfl, (cell_of_row _ _ _ _ _ _ h).trans rfl, (cell_of_row _ _ _ _ _ _ h).trans rfl, (cell_of_row _ _ _ _ _ _ h).trans rfl, (cell_of_row _ _ _ _ _ _ h).trans rfl, (cell_of_row _ _ _ _ _ _ h).trans rfl⟩, frozen_of_row _ _ _ _ _ h, frozen_of_row _ _ _ _ _ h, frozen_of_row _ _ _ _ _ h, frozen_of_row _ _ _ _ _ h, frozen_of_row _ _ _ _ _ h, frozen_of_row _ _ _ _ _ h, frozen_of_row _ _ _ _ _ h⟩
theorem lt_of_block {w : World} {b : Nat} {o : Obj} (h : w.heap[b]? = some o) : b < w.heap.size := (Array.getElem?_eq_some_iff.1 h).1
def TakP (b : Nat) (a : Ac) (f : Int) (l : List Int) (w : World) (e : Ending) (w' : World) : Prop := e = .returned (.bool (okA f l)) ∧ w'.heap[b]? = some (.cells (cellsA (takeA a f l)) 23 (0, 0)) ∧ Keeps (fun k => k = b) w w'
set_option maxRecDepth 100000 in
set_option maxHeartbeats 4000000 in
theorem take_1 (b : Nat) (a : Ac) (l : List Int) (hb : Byt l) (hl : l.length ≤ 1000000) (w : World) (h : w.heap[b]? = some (.cells (cellsA a) 23 (0, 0))) : Calls Tryd.prog 26 #[.pointer (some ⟨b, 0, none⟩), .int .i64 1, .string (strOfNums l)] w (TakP b a 1 l w) := by
  have hc := readWord_any l hb hl w
  have ht : takeA a 1 l = ⟨a.k, a.v, (readW l).getD [], a.n, a.m, a.p, a.x⟩ := rfl
  have ho : okA 1 l = (readW l).isSome := rfl
  unfold TakP
  rw [ht, ho]
  clear ht ho
  have HC := Lib.hid hc
  clear hc
  unfold RwP at HC
  generalize (readW l).isSome = ok at *
  generalize hq : (readW l).getD [] = nm at *
  obtain ⟨ak, av, anm, an, am, ap, ax⟩ := a
  unfold cellsA at *
  have H := Lib.hid h
  clear h hq hb
  go_enter Tryd.func26, Tryd.ntmps26
  go_wp2_with (go_at_call 14; refine HC.out.mono ?_; rintro e w1 ⟨rfl, hb1⟩; have h1 := (hb1.block _ (lt_of_block H.out)).trans H.out; obtain ⟨⟨c0, c1, c2, c3, c4, c5, c6⟩, f0, f1, f2, f3, f4, f5, f6⟩ := seven_cells h1)
  go_ret
  have hk : Keeps (fun k => k = b) w w1 := Keeps.ofBelow hb1 (Nat.le_refl _)
  exact ⟨by first | rfl | simp, heap_setCell_same _ _ _ _ _ _ h1, hk.setCell (p := ⟨b, 2, none⟩) (.inr rfl) _⟩
set_option maxRecDepth 100000 in
set_option maxHeartbeats 4000000 in
theorem take_0 (b : Nat) (a : Ac) (l : List Int) (hb : Byt l) (hl : l.length ≤ 1000000) (w : World) (h : w.heap[b]? = some (.cells (cellsA a) 23 (0, 0))) : Calls Tryd.prog 26 #[.pointer (some ⟨b, 0, none⟩), .int .i64 0, .string (strOfNums l)] w (TakP b a 0 l w) := by
  have hc := readNumber_any l hb (by unfold maxLen; omega) w
  have ht : takeA a 0 l = ⟨a.k, numOf l, a.nm, a.n, a.m, a.p, a.x⟩ := rfl
  have ho : okA 0 l = (readN l).isSome := rfl
  unfold TakP
  rw [ht, ho]
  clear ht ho
  have HC := Lib.hid hc
  clear hc
  unfold RdP at HC
  unfold numOf
  generalize (readN l).isSome = ok at *
  generalize (readN l).getD 0 = y at *
  obtain ⟨ak, av, anm, an, am, ap, ax⟩ := a
  unfold cellsA at *
  have H := Lib.hid h
  obtain ⟨⟨c0, c1, c2, c3, c4, c5, c6⟩, f0, f1, f2, f3, f4, f5, f6⟩ := seven_cells h
  clear h hb
  go_enter Tryd.func26, Tryd.ntmps26
  go_wp2_with (go_at_call 17; refine HC.out.mono ?_; rintro e w1 ⟨rfl, rfl⟩)
  go_ret
  exact ⟨by first | rfl | simp, heap_setCell_same _ _ _ _ _ _ H.out, (Keeps.refl (fun k => k = b) _).setCell (p := ⟨b, 1, none⟩) (.inr rfl) _⟩
set_option maxRecDepth 100000 in
set_option maxHeartbeats 4000000 in
theorem take_2 (b : Nat) (a : Ac) (l : List Int) (hb : Byt l) (hl : l.length ≤ 1000000) (w : World) (h : w.heap[b]? = some (.cells (cellsA a) 23 (0, 0))) : Calls Tryd.prog 26 #[.pointer (some ⟨b, 0, none⟩), .int .i64 2, .string (strOfNums l)] w (TakP b a 2 l w) := by
  have hc := readNumber_any l hb (by unfold maxLen; omega) w
  have ht : takeA a 2 l = ⟨a.k, a.v, a.nm, numOf l, a.m, a.p, a.x⟩ := rfl
  have ho : okA 2 l = (readN l).isSome := rfl
  unfold TakP
  rw [ht, ho]
  clear ht ho
  have HC := Lib.hid hc
  clear hc
  unfold RdP at HC
  unfold numOf
  generalize (readN l).isSome = ok at *
  generalize (readN l).getD 0 = y at *
  obtain ⟨ak, av, anm, an, am, ap, ax⟩ := a
  unfold cellsA at *
  have H := Lib.hid h
  obtain ⟨⟨c0, c1, c2, c3, c4, c5, c6⟩, f0, f1, f2, f3, f4, f5, f6⟩ := seven_cells h
  clear h hb
  go_enter Tryd.func26, Tryd.ntmps26
  go_wp2_with (go_at_call 17; refine HC.out.mono ?_; rintro e w1 ⟨rfl, rfl⟩)
  go_ret
  exact ⟨by first | rfl | simp, heap_setCell_same _ _ _ _ _ _ H.out, (Keeps.refl (fun k => k = b) _).setCell (p := ⟨b, 3, none⟩) (.inr rfl) _⟩
set_option maxRecDepth 100000 in
set_option maxHeartbeats 4000000 in
theorem take_3 (b : Nat) (a : Ac) (l : List Int) (hb : Byt l) (hl : l.length ≤ 1000000) (w : World) (h : w.heap[b]? = some (.cells (cellsA a) 23 (0, 0))) : Calls Tryd.prog 26 #[.pointer (some ⟨b, 0, none⟩), .int .i64 3, .string (strOfNums l)] w (TakP b a 3 l w) := by
  have hc := readNumber_any l hb (by unfold maxLen; omega) w
  have ht : takeA a 3 l = ⟨a.k, a.v, a.nm, a.n, numOf l, a.p, a.x⟩ := rfl
  have ho : okA 3 l = (readN l).isSome := rfl
  unfold TakP
  rw [ht, ho]
  clear ht ho
  have HC := Lib.hid hc
  clear hc
  unfold RdP at HC
  unfold numOf
  generalize (readN l).isSome = ok at *
  generalize (readN l).getD 0 = y at *
  obtain ⟨ak, av, anm, an, am, ap, ax⟩ := a
  unfold cellsA at *
  have H := Lib.hid h
  obtain ⟨⟨c0, c1, c2, c3, c4, c5, c6⟩, f0, f1, f2, f3, f4, f5, f6⟩ := seven_cells h
  clear h hb
  go_enter Tryd.func26, Tryd.ntmps26
  go_wp2_with (go_at_call 17; refine HC.out.mono ?_; rintro e w1 ⟨rfl, rfl⟩)
  go_ret
  exact ⟨by first | rfl | simp, heap_setCell_same _ _ _ _ _ _ H.out, (Keeps.refl (fun k => k = b) _).setCell (p := ⟨b, 4, none⟩) (.inr rfl) _⟩
set_option maxRecDepth 100000 in
set_option maxHeartbeats 4000000 in
theorem take_4 (b : Nat) (a : Ac) (l : List Int) (hb : Byt l) (hl : l.length ≤ 1000000) (w : World) (h : w.heap[b]? = some (.cells (cellsA a) 23 (0, 0))) : Calls Tryd.prog 26 #[.pointer (some ⟨b, 0, none⟩), .int .i64 4, .string (strOfNums l)] w (TakP b a 4 l w) := by
  have hc := readNumber_any l hb (by unfold maxLen; omega) w
  have ht : takeA a 4 l = ⟨a.k, a.v, a.nm, a.n, a.m, a.p, numOf l⟩ := rfl
  have ho : okA 4 l = (readN l).isSome := rfl
  unfold TakP
  rw [ht, ho]
  clear ht ho
  have HC := Lib.hid hc
  clear hc
  unfold RdP at HC
  unfold numOf
  generalize (readN l).isSome = ok at *
  generalize (readN l).getD 0 = y at *
  obtain ⟨ak, av, anm, an, am, ap, ax⟩ := a
  unfold cellsA at *
  have H := Lib.hid h
  obtain ⟨⟨c0, c1, c2, c3, c4, c5, c6⟩, f0, f1, f2, f3, f4, f5, f6⟩ := seven_cells h
  clear h hb
  go_enter Tryd.func26, Tryd.ntmps26
  go_wp2_with (go_at_call 17; refine HC.out.mono ?_; rintro e w1 ⟨rfl, rfl⟩)
  go_ret
  exact ⟨by first | rfl | simp, heap_setCell_same _ _ _ _ _ _ H.out, (Keeps.refl (fun k => k = b) _).setCell (p := ⟨b, 6, none⟩) (.inr rfl) _⟩
set_option maxRecDepth 100000 in
set_option maxHeartbeats 4000000 in
theorem take_5 (b : Nat) (a : Ac) (l : List Int) (hb : Byt l) (hl : l.length ≤ 1000000) (w : World) (h : w.heap[b]? = some (.cells (cellsA a) 23 (0, 0))) : Calls Tryd.prog 26 #[.pointer (some ⟨b, 0, none⟩), .int .i64 5, .string (strOfNums l)] w (TakP b a 5 l w) := by
  have hc := readNumber_any l hb (by unfold maxLen; omega) w
  have ht : takeA a 5 l = ⟨a.k, a.v, a.nm, a.n, a.m, numOf l, a.x⟩ := rfl
  have ho : okA 5 l = (readN l).isSome := rfl
  unfold TakP
  rw [ht, ho]
  clear ht ho
  have HC := Lib.hid hc
  clear hc
  unfold RdP at HC
  unfold numOf
  generalize (readN l).isSome = ok at *
  generalize (readN l).getD 0 = y at *
  obtain ⟨ak, av, anm, an, am, ap, ax⟩ := a
  unfold cellsA at *
  have H := Lib.hid h
  obtain ⟨⟨c0, c1, c2, c3, c4, c5, c6⟩, f0, f1, f2, f3, f4, f5, f6⟩ := seven_cells h
  clear h hb
  go_enter Tryd.func26, Tryd.ntmps26
  go_wp2_with (go_at_call 17; refine HC.out.mono ?_; rintro e w1 ⟨rfl, rfl⟩)
  go_ret
  exact ⟨by first | rfl | simp, heap_setCell_same _ _ _ _ _ _ H.out, (Keeps.refl (fun k => k = b) _).setCell (p := ⟨b, 5, none⟩) (.inr rfl) _⟩
theorem take_any (b : Nat) (a : Ac) (f : Int) (hf : 0 ≤ f ∧ f ≤ 5) (l : List Int) (hb : Byt l) (hl : l.length ≤ 1000000) (w : World) (h : w.heap[b]? = some (.cells (cellsA a) 23 (0, 0))) : Calls Tryd.prog 26 #[.pointer (some ⟨b, 0, none⟩), .int .i64 f, .string (strOfNums l)] w (TakP b a f l w) := by
  rcases (show f = 0 ∨ f = 1 ∨ f = 2 ∨ f = 3 ∨ f = 4 ∨ f = 5 by omega) with rfl | rfl | rfl | rfl | rfl | rfl
  · exact take_0 b a l hb hl w h
  · exact take_1 b a l hb hl w h
  · exact take_2 b a l hb hl w h
  · exact take_3 b a l hb hl w h
  · exact take_4 b a l hb hl w h
  · exact take_5 b a l hb hl w h
end Go.Proofs.YtflpblggpbgeiaaDoor
