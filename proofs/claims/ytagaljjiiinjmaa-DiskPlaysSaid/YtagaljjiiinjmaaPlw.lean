/- The walks of the law's own disk. -/
import Derived.Test.YtagaljjiiinjmaaPlp
import Derived.BigQuiet
namespace Go.Proofs.Ytagaljjiiinjmaa
open Go Go.RowKit Go.Calli Go.Dskp Go.Maps
set_option linter.unusedVariables false
set_option linter.unusedSimpArgs false
attribute [local irreducible] wpStill wpAnyH wpAnyS wpList Code.wp
/-- The law's disk in memory. -/
structure Pln (w : World) (pb fb ab xb : Nat) (io : Option Addr) (ik n : Nat) (q : Pl) : Prop where
  row : w.heap[pb]? = some (.cells #[.slice io (64 * n) ik, .slice (some ⟨fb, 0, none⟩) n n, .slice (some ⟨ab, 0, none⟩) n n, .slice (some ⟨xb, 0, none⟩) n n, .int .i64 q.r, .int .i64 q.g] 43 (0, 0))
  rf : w.heap[fb]? = some (.cells (q.fl.map (Value.int .i64)).toArray 3 (0, 0))
  ra : w.heap[ab]? = some (.cells (q.al.map (Value.int .i64)).toArray 3 (0, 0))
  rx : w.heap[xb]? = some (.cells (q.xl.map (Value.int .u8)).toArray 5 (0, 0))
  lf : q.fl.length = n
  la : q.al.length = n
  lx : q.xl.length = n
  img : Ints .u8 w io (64 * n) q.img
  cap : 64 * n ≤ ik
  n1 : fb ≠ ab
  n2 : fb ≠ xb
  n3 : ab ≠ xb
  n4 : pb ≠ fb
  n5 : pb ≠ ab
  n6 : pb ≠ xb
  n7 : ∀ a, io = some a → a.block ≠ pb ∧ a.block ≠ fb ∧ a.block ≠ ab ∧ a.block ≠ xb
theorem Pln.kept {w w' : World} {pb fb ab xb : Nat} {io : Option Addr} {ik n : Nat} {q : Pl} (h : Pln w pb fb ab xb io ik n q) {S : Nat → Prop} (hk : Keeps S w w') (h0 : ¬ S pb) (h1 : ¬ S fb) (h2 : ¬ S ab) (h3 : ¬ S xb) (h4 : ∀ a, io = some a → ¬ S a.block) : Pln w' pb fb ab xb io ik n q :=
  { h with row := hk.heap h.row h0, rf := hk.heap h.rf h1, ra := hk.heap h.ra h2, rx := hk.heap h.rx h3, img := h.img.kept hk h4 }
theorem Pln.keep0 {w w' : World} {pb fb ab xb : Nat} {io : Option Addr} {ik n : Nat} {q : Pl} (h : Pln w pb fb ab xb io ik n q) (hb : Below w.heap.size w w') : Pln w' pb fb ab xb io ik n q :=
  h.kept (S := fun _ => False) (Keeps.ofBelow hb (Nat.le_refl _)) id id id id (fun _ _ => id)
theorem six_cells {w : World} {b : Nat} {v0 v1 v2 v3 v4 v5 : Value} {T : Nat} (h : w.heap[b]? = some (.cells #[v0, v1, v2, v3, v4, v5] T (0, 0))) :
    w.cell? ⟨b, 0, none⟩ = some v0 ∧ w.cell? ⟨b, 1, none⟩ = some v1 ∧ w.cell? ⟨b, 2, none⟩ = some v2 ∧ w.cell? ⟨b, 3, none⟩ = some v3 ∧ w.cell? ⟨b, 4, none⟩ = some v4 ∧ w.cell? ⟨b, 5, none⟩ = some v5 ∧ w.frozen? ⟨b, 4, none⟩ = false ∧ w.frozen? ⟨b, 5, none⟩ = false :=
  ⟨(cell_of_row _ _ _ _ _ _ h).trans rfl, (cell_of_row _ _ _ _ _ _ h).trans rfl, (cell_of_row _ _ _ _ _ _ h).trans rfl, (cell_of_row _ _ _ _ _ _ h).trans rfl, (cell_of_row _ _ _ _ _ _ h).trans rfl, (cell_of_row _ _ _ _ _ _ h).trans rfl, frozen_of_row _ _ _ _ _ h, frozen_of_row _ _ _ _ _ h⟩
theorem Pln.setf {w : World} {pb fb ab xb : Nat} {io : Option Addr} {ik n : Nat} {q : Pl} (h : Pln w pb fb ab xb io ik n q) (i : Nat) (v : Int) : Pln (w.setCell ⟨fb, i, none⟩ (.int .i64 v)) pb fb ab xb io ik n { q with fl := q.fl.set i v } :=
  have hk : Keeps (fun k => k = fb) w (w.setCell ⟨fb, i, none⟩ (.int .i64 v)) := (Keeps.refl (fun k => k = fb) w).setCell (p := ⟨fb, i, none⟩) (.inr rfl) _
  { h with row := hk.heap h.row h.n4, rf := row_set h.rf i v, ra := hk.heap h.ra h.n1.symm, rx := hk.heap h.rx h.n2.symm, img := h.img.kept hk (fun a ha => (h.n7 a ha).2.1), lf := by show (q.fl.set i v).length = n; rw [List.length_set]; exact h.lf }
theorem Pln.seta {w : World} {pb fb ab xb : Nat} {io : Option Addr} {ik n : Nat} {q : Pl} (h : Pln w pb fb ab xb io ik n q) (i : Nat) (v : Int) : Pln (w.setCell ⟨ab, i, none⟩ (.int .i64 v)) pb fb ab xb io ik n { q with al := q.al.set i v } :=
  have hk : Keeps (fun k => k = ab) w (w.setCell ⟨ab, i, none⟩ (.int .i64 v)) := (Keeps.refl (fun k => k = ab) w).setCell (p := ⟨ab, i, none⟩) (.inr rfl) _
  { h with row := hk.heap h.row h.n5, rf := hk.heap h.rf h.n1, ra := row_set h.ra i v, rx := hk.heap h.rx h.n3.symm, img := h.img.kept hk (fun a ha => (h.n7 a ha).2.2.1), la := by show (q.al.set i v).length = n; rw [List.length_set]; exact h.la }
theorem Pln.setx {w : World} {pb fb ab xb : Nat} {io : Option Addr} {ik n : Nat} {q : Pl} (h : Pln w pb fb ab xb io ik n q) (i : Nat) (v : Int) : Pln (w.setCell ⟨xb, i, none⟩ (.int .u8 v)) pb fb ab xb io ik n { q with xl := q.xl.set i v } :=
  have hk : Keeps (fun k => k = xb) w (w.setCell ⟨xb, i, none⟩ (.int .u8 v)) := (Keeps.refl (fun k => k = xb) w).setCell (p := ⟨xb, i, none⟩) (.inr rfl) _
  { h with row := hk.heap h.row h.n6, rf := hk.heap h.rf h.n2, ra := hk.heap h.ra h.n3, rx := row_set h.rx i v, img := h.img.kept hk (fun a ha => (h.n7 a ha).2.2.2), lx := by show (q.xl.set i v).length = n; rw [List.length_set]; exact h.lx }
theorem Pln.setr {w : World} {pb fb ab xb : Nat} {io : Option Addr} {ik n : Nat} {q : Pl} (h : Pln w pb fb ab xb io ik n q) (v : Int) : Pln (w.setCell ⟨pb, 4, none⟩ (.int .i64 v)) pb fb ab xb io ik n { q with r := v } :=
  have hk : Keeps (fun k => k = pb) w (w.setCell ⟨pb, 4, none⟩ (.int .i64 v)) := (Keeps.refl (fun k => k = pb) w).setCell (p := ⟨pb, 4, none⟩) (.inr rfl) _
  { h with row := heap_setCell_same _ _ _ _ _ _ h.row, rf := hk.heap h.rf h.n4.symm, ra := hk.heap h.ra h.n5.symm, rx := hk.heap h.rx h.n6.symm, img := h.img.kept hk (fun a ha => (h.n7 a ha).1) }
theorem Pln.setg {w : World} {pb fb ab xb : Nat} {io : Option Addr} {ik n : Nat} {q : Pl} (h : Pln w pb fb ab xb io ik n q) (v : Int) : Pln (w.setCell ⟨pb, 5, none⟩ (.int .i64 v)) pb fb ab xb io ik n { q with g := v } :=
  have hk : Keeps (fun k => k = pb) w (w.setCell ⟨pb, 5, none⟩ (.int .i64 v)) := (Keeps.refl (fun k => k = pb) w).setCell (p := ⟨pb, 5, none⟩) (.inr rfl) _
  { h with row := heap_setCell_same _ _ _ _ _ _ h.row, rf := hk.heap h.rf h.n4.symm, ra := hk.heap h.ra h.n5.symm, rx := hk.heap h.rx h.n6.symm, img := h.img.kept hk (fun a ha => (h.n7 a ha).1) }
/-- The cells of one page. -/
theorem Pln.at_ {w : World} {pb fb ab xb : Nat} {io : Option Addr} {ik n : Nat} {q : Pl} (h : Pln w pb fb ab xb io ik n q) (p : Nat) (hp : p < n) :
    w.cell? ⟨fb, p, none⟩ = some (.int .i64 (q.fl.getD p 0)) ∧ w.cell? ⟨ab, p, none⟩ = some (.int .i64 (q.al.getD p 0)) ∧ w.cell? ⟨xb, p, none⟩ = some (.int .u8 (q.xl.getD p 0)) ∧ w.frozen? ⟨fb, p, none⟩ = false ∧ w.frozen? ⟨ab, p, none⟩ = false ∧ w.frozen? ⟨xb, p, none⟩ = false := by
  have lf := h.lf
  have la := h.la
  have lx := h.lx
  refine ⟨?_, ?_, ?_, frozen_of_row _ _ _ _ _ h.rf, frozen_of_row _ _ _ _ _ h.ra, frozen_of_row _ _ _ _ _ h.rx⟩
  · rw [cell_of_row _ _ _ _ _ _ h.rf]; simp [show p < q.fl.length by omega]
  · rw [cell_of_row _ _ _ _ _ _ h.ra]; simp [show p < q.al.length by omega]
  · rw [cell_of_row _ _ _ _ _ _ h.rx]; simp [show p < q.xl.length by omega]
def OthPost (pb fb ab xb : Nat) (io : Option Addr) (ik n : Nat) (q : Pl) (E : Int) (w : World) (e : Ending) (w' : World) : Prop := e = .returned (.int .i64 E) ∧ Pln w' pb fb ab xb io ik n q ∧ Keeps (fun k => k = fb ∨ k = ab ∨ k = xb) w w'
theorem new_op {pb fb ab xb : Nat} {io : Option Addr} {ik n : Nat} {q : Pl} (w : World) (h : Pln w pb fb ab xb io ik n q) (v0 v1 v2 v3 : Value) :
    ∀ W, W = w.alloc (.cells #[v0, v1, v2, v3] 37) → W.cell? ⟨w.heap.size, 0, none⟩ = some v0 ∧ W.cell? ⟨w.heap.size, 1, none⟩ = some v1 ∧ W.cell? ⟨w.heap.size, 2, none⟩ = some v2 ∧ W.cell? ⟨w.heap.size, 3, none⟩ = some v3 ∧ Pln W pb fb ab xb io ik n q ∧ Below w.heap.size w W ∧ w.heap.size ≠ fb ∧ w.heap.size ≠ ab ∧ w.heap.size ≠ xb := by
  rintro W rfl
  have hb : Below w.heap.size w (w.alloc (.cells #[v0, v1, v2, v3] 37)) := (Below.refl _ _).alloc (Nat.le_refl _) _
  obtain ⟨c0, c1, c2, c3, -, -⟩ := four_cells (MapKept.heap_alloc w (.cells #[v0, v1, v2, v3] 37)).1
  have a1 := (Array.getElem?_eq_some_iff.1 h.rf).1
  have a2 := (Array.getElem?_eq_some_iff.1 h.ra).1
  have a3 := (Array.getElem?_eq_some_iff.1 h.rx).1
  exact ⟨c0, c1, c2, c3, h.keep0 hb, hb, by omega, by omega, by omega⟩
/-- The law's disk, and the call's own copy of an Op. -/
structure St (w W : World) (pb fb ab xb : Nat) (io : Option Addr) (ik n : Nat) (q : Pl) (v0 v1 v2 v3 : Value) : Prop where
  P : Pln W pb fb ab xb io ik n q
  K : Keeps (fun k => k = fb ∨ k = ab ∨ k = xb) w W
  o0 : W.cell? ⟨w.heap.size, 0, none⟩ = some v0
  o1 : W.cell? ⟨w.heap.size, 1, none⟩ = some v1
  o2 : W.cell? ⟨w.heap.size, 2, none⟩ = some v2
  o3 : W.cell? ⟨w.heap.size, 3, none⟩ = some v3
  nf : w.heap.size ≠ fb
  na : w.heap.size ≠ ab
  nx : w.heap.size ≠ xb
section
variable {w W : World} {pb fb ab xb : Nat} {io : Option Addr} {ik n : Nat} {q : Pl} {v0 v1 v2 v3 : Value}
theorem St.new (w : World) (h : Pln w pb fb ab xb io ik n q) (v0 v1 v2 v3 : Value) : St w (w.alloc (.cells #[v0, v1, v2, v3] 37)) pb fb ab xb io ik n q v0 v1 v2 v3 := by
  obtain ⟨o0, o1, o2, o3, hP, hB, nf, na, nx⟩ := new_op w h v0 v1 v2 v3 _ rfl
  exact ⟨hP, Keeps.ofBelow hB (Nat.le_refl _), o0, o1, o2, o3, nf, na, nx⟩
theorem St.kept0 (h : St w W pb fb ab xb io ik n q v0 v1 v2 v3) {W' : World} (hb : Below W.heap.size W W') : St w W' pb fb ab xb io ik n q v0 v1 v2 v3 :=
  have hk := Keeps.ofBelow (S := fun _ => False) hb (Nat.le_refl _)
  { h with P := h.P.keep0 hb, K := h.K.below hb h.K.size, o0 := hk.cell h.o0 id, o1 := hk.cell h.o1 id, o2 := hk.cell h.o2 id, o3 := hk.cell h.o3 id }
theorem St.drew (h : St w W pb fb ab xb io ik n q v0 v1 v2 v3) : St w W.drew pb fb ab xb io ik n q v0 v1 v2 v3 := h.kept0 (Below.refl _ _).drew
theorem St.drewN (h : St w W pb fb ab xb io ik n q v0 v1 v2 v3) (k : Nat) : St w (W.drewN k) pb fb ab xb io ik n q v0 v1 v2 v3 := h.kept0 (below_drewN (Below.refl _ _) k)
theorem St.setf (h : St w W pb fb ab xb io ik n q v0 v1 v2 v3) (i : Nat) (v : Int) : St w (W.setCell ⟨fb, i, none⟩ (.int .i64 v)) pb fb ab xb io ik n { q with fl := q.fl.set i v } v0 v1 v2 v3 :=
  have hk : Keeps (fun k => k = fb) W (W.setCell ⟨fb, i, none⟩ (.int .i64 v)) := (Keeps.refl (fun k => k = fb) W).setCell (p := ⟨fb, i, none⟩) (.inr rfl) _
  { h with P := h.P.setf i v, K := h.K.setCell (p := ⟨fb, i, none⟩) (.inr (.inl rfl)) _, o0 := hk.cell h.o0 h.nf, o1 := hk.cell h.o1 h.nf, o2 := hk.cell h.o2 h.nf, o3 := hk.cell h.o3 h.nf }
theorem St.seta (h : St w W pb fb ab xb io ik n q v0 v1 v2 v3) (i : Nat) (v : Int) : St w (W.setCell ⟨ab, i, none⟩ (.int .i64 v)) pb fb ab xb io ik n { q with al := q.al.set i v } v0 v1 v2 v3 :=
  have hk : Keeps (fun k => k = ab) W (W.setCell ⟨ab, i, none⟩ (.int .i64 v)) := (Keeps.refl (fun k => k = ab) W).setCell (p := ⟨ab, i, none⟩) (.inr rfl) _
  { h with P := h.P.seta i v, K := h.K.setCell (p := ⟨ab, i, none⟩) (.inr (.inr (.inl rfl))) _, o0 := hk.cell h.o0 h.na, o1 := hk.cell h.o1 h.na, o2 := hk.cell h.o2 h.na, o3 := hk.cell h.o3 h.na }
theorem St.setx (h : St w W pb fb ab xb io ik n q v0 v1 v2 v3) (i : Nat) (v : Int) : St w (W.setCell ⟨xb, i, none⟩ (.int .u8 v)) pb fb ab xb io ik n { q with xl := q.xl.set i v } v0 v1 v2 v3 :=
  have hk : Keeps (fun k => k = xb) W (W.setCell ⟨xb, i, none⟩ (.int .u8 v)) := (Keeps.refl (fun k => k = xb) W).setCell (p := ⟨xb, i, none⟩) (.inr rfl) _
  { h with P := h.P.setx i v, K := h.K.setCell (p := ⟨xb, i, none⟩) (.inr (.inr (.inr rfl))) _, o0 := hk.cell h.o0 h.nx, o1 := hk.cell h.o1 h.nx, o2 := hk.cell h.o2 h.nx, o3 := hk.cell h.o3 h.nx }
end
set_option maxRecDepth 100000 in
theorem other_out (pb fb ab xb : Nat) (io : Option Addr) (ik n : Nat) (q : Pl) (k p m x : Int) (ho : q.out p) (w : World) (h : Pln w pb fb ab xb io ik n q) : Calls Try.prog 13 #[.pointer (some ⟨pb, 0, none⟩), .agg #[.int .i64 k, .int .i64 p, .int .i64 m, .int .u8 x]] w (OthPost pb fb ab xb io ik n (oS q k p m x) (oE q k p m) w) := by
  have e1 : oS q k p m x = q := if_pos ho
  have e2 : oE q k p m = 5 := if_pos ho
  rw [e1, e2]
  unfold Pl.out at ho
  rw [h.lf] at ho
  have ho2 : p < 0 ∨ (0 ≤ p ∧ (n : Int) ≤ p) := by omega
  have hS := St.new w h (.int .i64 k) (.int .i64 p) (.int .i64 m) (.int .u8 x)
  clear ho
  rcases ho2 with ho | ⟨ho, ho3⟩
  all_goals
    go_enter Try.func13, Try.ntmps13
    go_wp2_with fail
    generalize w.alloc _ = w1 at *
    have HS := Lib.hid hS
    obtain ⟨c0, c1, c2, c3, c4, c5, f4, f5⟩ := six_cells hS.P.row
    obtain ⟨-, -, o0, o1, o2, o3, -, -, -⟩ := hS
    go_quiet (fail)
    go_wp2_with fail
    all_goals go_ret
    all_goals exact ⟨rfl, (HS.out.drewN _).P, (HS.out.drewN _).K⟩
set_option maxRecDepth 100000 in
set_option maxHeartbeats 1000000 in
theorem other_3m (pb fb ab xb : Nat) (io : Option Addr) (ik n : Nat) (q : Pl) (k m x : Int) (p : Nat) (hn : n ≤ 100) (hp : p < n) (hk : k = 3) (hm : m < 0) (w : World) (h : Pln w pb fb ab xb io ik n q) : Calls Try.prog 13 #[.pointer (some ⟨pb, 0, none⟩), .agg #[.int .i64 k, .int .i64 p, .int .i64 m, .int .u8 x]] w (OthPost pb fb ab xb io ik n (oS q k p m x) (oE q k p m) w) := by
  have ho : ¬ q.out p := by unfold Pl.out; rw [h.lf]; omega
  have hS := St.new w h (.int .i64 k) (.int .i64 p) (.int .i64 m) (.int .u8 x)
  subst hk
  have e2 : oE q 3 p m = 0 := (if_neg ho).trans (if_neg (show ¬ (3 : Int) = 4 by decide))
  have e1 : oS q 3 p m x = { q with fl := q.fl.set p (-1) } := by
    refine ((if_neg ho).trans (if_pos rfl)).trans ?_
    rw [if_pos hm]; rfl
  rw [e1, e2]
  go_enter Try.func13, Try.ntmps13
  go_wp2_with fail
  generalize w.alloc _ = w1 at *
  have HS1 := Lib.hid hS
  obtain ⟨c0, c1, c2, c3, c4, c5, f4, f5⟩ := six_cells hS.P.row
  obtain ⟨d0, d1, d2, g0, g1, g2⟩ := hS.P.at_ p hp
  obtain ⟨-, -, o0, o1, o2, o3, nf, na, nx⟩ := hS
  go_quiet (fail)
  go_wp2_with fail
  have hS := HS1.out.drewN nq
  generalize w1.drewN _ = w2 at *
  clear c0 c1 c2 c3 c4 c5 f4 f5 d0 d1 d2 g0 g1 g2 o0 o1 o2 o3 nf na nx
  have HS2 := Lib.hid hS
  obtain ⟨c0, c1, c2, c3, c4, c5, f4, f5⟩ := six_cells hS.P.row
  obtain ⟨d0, d1, d2, g0, g1, g2⟩ := hS.P.at_ p hp
  obtain ⟨-, -, o0, o1, o2, o3, nf, na, nx⟩ := hS
  go_still_tail 9, (by kernel_rfl)
  repeat still_step
  try refine wpStill_nil ?_
  change wpList _ _ _ _ _ w2.drew
  go_wp2_with fail
  have hS := (HS2.out.setf p m).drew
  generalize World.drew _ = w3 at *
  clear c0 c1 c2 c3 c4 c5 f4 f5 d0 d1 d2 g0 g1 g2 o0 o1 o2 o3 nf na nx
  have HS3 := Lib.hid hS
  obtain ⟨c0, c1, c2, c3, c4, c5, f4, f5⟩ := six_cells hS.P.row
  obtain ⟨d0, d1, d2, g0, g1, g2⟩ := hS.P.at_ p hp
  obtain ⟨-, -, o0, o1, o2, o3, nf, na, nx⟩ := hS
  go_still_tail 7, (by kernel_rfl)
  repeat still_step
  try refine wpStill_nil ?_
  change wpList _ _ _ _ _ w3.drew
  go_wp2_with fail
  have hS := (HS3.out.setf p (-1)).drew
  generalize World.drew _ = w4 at *
  clear c0 c1 c2 c3 c4 c5 f4 f5 d0 d1 d2 g0 g1 g2 o0 o1 o2 o3 nf na nx
  have HS4 := Lib.hid hS
  obtain ⟨c0, c1, c2, c3, c4, c5, f4, f5⟩ := six_cells hS.P.row
  obtain ⟨d0, d1, d2, g0, g1, g2⟩ := hS.P.at_ p hp
  obtain ⟨-, -, o0, o1, o2, o3, nf, na, nx⟩ := hS
  go_ret
  have hP := HS4.out.P
  simp only [List.set_set] at hP
  exact ⟨rfl, hP, HS4.out.K⟩
set_option maxRecDepth 100000 in
set_option maxHeartbeats 1000000 in
theorem other_3p (pb fb ab xb : Nat) (io : Option Addr) (ik n : Nat) (q : Pl) (k m x : Int) (p : Nat) (hn : n ≤ 100) (hp : p < n) (hk : k = 3) (hm : 0 ≤ m) (w : World) (h : Pln w pb fb ab xb io ik n q) : Calls Try.prog 13 #[.pointer (some ⟨pb, 0, none⟩), .agg #[.int .i64 k, .int .i64 p, .int .i64 m, .int .u8 x]] w (OthPost pb fb ab xb io ik n (oS q k p m x) (oE q k p m) w) := by
  have ho : ¬ q.out p := by unfold Pl.out; rw [h.lf]; omega
  have hS := St.new w h (.int .i64 k) (.int .i64 p) (.int .i64 m) (.int .u8 x)
  subst hk
  have e2 : oE q 3 p m = 0 := (if_neg ho).trans (if_neg (show ¬ (3 : Int) = 4 by decide))
  have e1 : oS q 3 p m x = { q with fl := q.fl.set p m } := by
    refine ((if_neg ho).trans (if_pos rfl)).trans ?_
    rw [if_neg (by omega)]; rfl
  rw [e1, e2]
  go_enter Try.func13, Try.ntmps13
  go_wp2_with fail
  generalize w.alloc _ = w1 at *
  have HS1 := Lib.hid hS
  obtain ⟨c0, c1, c2, c3, c4, c5, f4, f5⟩ := six_cells hS.P.row
  obtain ⟨d0, d1, d2, g0, g1, g2⟩ := hS.P.at_ p hp
  obtain ⟨-, -, o0, o1, o2, o3, nf, na, nx⟩ := hS
  go_quiet (fail)
  go_wp2_with fail
  have hS := HS1.out.drewN nq
  generalize w1.drewN _ = w2 at *
  clear c0 c1 c2 c3 c4 c5 f4 f5 d0 d1 d2 g0 g1 g2 o0 o1 o2 o3 nf na nx
  have HS2 := Lib.hid hS
  obtain ⟨c0, c1, c2, c3, c4, c5, f4, f5⟩ := six_cells hS.P.row
  obtain ⟨d0, d1, d2, g0, g1, g2⟩ := hS.P.at_ p hp
  obtain ⟨-, -, o0, o1, o2, o3, nf, na, nx⟩ := hS
  go_still_tail 9, (by kernel_rfl)
  repeat still_step
  try refine wpStill_nil ?_
  change wpList _ _ _ _ _ w2.drew
  go_wp2_with fail
  have hS := (HS2.out.setf p m).drew
  generalize World.drew _ = w3 at *
  clear c0 c1 c2 c3 c4 c5 f4 f5 d0 d1 d2 g0 g1 g2 o0 o1 o2 o3 nf na nx
  have HS3 := Lib.hid hS
  obtain ⟨c0, c1, c2, c3, c4, c5, f4, f5⟩ := six_cells hS.P.row
  obtain ⟨d0, d1, d2, g0, g1, g2⟩ := hS.P.at_ p hp
  obtain ⟨-, -, o0, o1, o2, o3, nf, na, nx⟩ := hS
  go_ret
  exact ⟨rfl, HS3.out.P, HS3.out.K⟩
set_option maxRecDepth 100000 in
set_option maxHeartbeats 1000000 in
theorem other_4 (pb fb ab xb : Nat) (io : Option Addr) (ik n : Nat) (q : Pl) (k m x : Int) (p : Nat) (hn : n ≤ 100) (hp : p < n) (hk : k = 4) (hm : 0 ≤ m) (hm2 : m ≤ 63) (w : World) (h : Pln w pb fb ab xb io ik n q) : Calls Try.prog 13 #[.pointer (some ⟨pb, 0, none⟩), .agg #[.int .i64 k, .int .i64 p, .int .i64 m, .int .u8 x]] w (OthPost pb fb ab xb io ik n (oS q k p m x) (oE q k p m) w) := by
  have ho : ¬ q.out p := by unfold Pl.out; rw [h.lf]; omega
  have hS := St.new w h (.int .i64 k) (.int .i64 p) (.int .i64 m) (.int .u8 x)
  subst hk
  have e2 : oE q 4 p m = 0 := (if_neg ho).trans ((if_pos rfl).trans (if_neg (by omega)))
  have e1 : oS q 4 p m x = { q with al := q.al.set p m, xl := q.xl.set p x } := ((if_neg ho).trans (if_neg (show ¬ (4 : Int) = 3 by decide))).trans ((if_pos rfl).trans (if_neg (by omega)))
  rw [e1, e2]
  go_enter Try.func13, Try.ntmps13
  go_wp2_with fail
  generalize w.alloc _ = w1 at *
  have HS1 := Lib.hid hS
  obtain ⟨c0, c1, c2, c3, c4, c5, f4, f5⟩ := six_cells hS.P.row
  obtain ⟨d0, d1, d2, g0, g1, g2⟩ := hS.P.at_ p hp
  obtain ⟨-, -, o0, o1, o2, o3, nf, na, nx⟩ := hS
  go_quiet (fail)
  go_wp2_with fail
  have hS := HS1.out.drewN nq
  generalize w1.drewN _ = w2 at *
  clear c0 c1 c2 c3 c4 c5 f4 f5 d0 d1 d2 g0 g1 g2 o0 o1 o2 o3 nf na nx
  have HS2 := Lib.hid hS
  obtain ⟨c0, c1, c2, c3, c4, c5, f4, f5⟩ := six_cells hS.P.row
  obtain ⟨d0, d1, d2, g0, g1, g2⟩ := hS.P.at_ p hp
  obtain ⟨-, -, o0, o1, o2, o3, nf, na, nx⟩ := hS
  go_still_tail 9, (by kernel_rfl)
  repeat still_step
  try refine wpStill_nil ?_
  change wpList _ _ _ _ _ w2.drew
  go_wp2_with fail
  have hS := (HS2.out.seta p m).drew
  generalize World.drew _ = w3 at *
  clear c0 c1 c2 c3 c4 c5 f4 f5 d0 d1 d2 g0 g1 g2 o0 o1 o2 o3 nf na nx
  have HS3 := Lib.hid hS
  obtain ⟨c0, c1, c2, c3, c4, c5, f4, f5⟩ := six_cells hS.P.row
  obtain ⟨d0, d1, d2, g0, g1, g2⟩ := hS.P.at_ p hp
  obtain ⟨-, -, o0, o1, o2, o3, nf, na, nx⟩ := hS
  go_still_tail 9, (by kernel_rfl)
  repeat still_step
  try refine wpStill_nil ?_
  change wpList _ _ _ _ _ w3.drew
  go_wp2_with fail
  have hS := (HS3.out.setx p x).drew
  generalize World.drew _ = w4 at *
  clear c0 c1 c2 c3 c4 c5 f4 f5 d0 d1 d2 g0 g1 g2 o0 o1 o2 o3 nf na nx
  have HS4 := Lib.hid hS
  obtain ⟨c0, c1, c2, c3, c4, c5, f4, f5⟩ := six_cells hS.P.row
  obtain ⟨d0, d1, d2, g0, g1, g2⟩ := hS.P.at_ p hp
  obtain ⟨-, -, o0, o1, o2, o3, nf, na, nx⟩ := hS
  go_ret
  exact ⟨rfl, HS4.out.P, HS4.out.K⟩
set_option maxRecDepth 100000 in
set_option maxHeartbeats 1000000 in
theorem other_4b (pb fb ab xb : Nat) (io : Option Addr) (ik n : Nat) (q : Pl) (k m x : Int) (p : Nat) (hn : n ≤ 100) (hp : p < n) (hk : k = 4) (hm : m < 0 ∨ (0 ≤ m ∧ 63 < m)) (w : World) (h : Pln w pb fb ab xb io ik n q) : Calls Try.prog 13 #[.pointer (some ⟨pb, 0, none⟩), .agg #[.int .i64 k, .int .i64 p, .int .i64 m, .int .u8 x]] w (OthPost pb fb ab xb io ik n (oS q k p m x) (oE q k p m) w) := by
  have ho : ¬ q.out p := by unfold Pl.out; rw [h.lf]; omega
  have hS := St.new w h (.int .i64 k) (.int .i64 p) (.int .i64 m) (.int .u8 x)
  subst hk
  have e2 : oE q 4 p m = 1 := (if_neg ho).trans ((if_pos rfl).trans (if_pos (by omega)))
  have e1 : oS q 4 p m x = q := ((if_neg ho).trans (if_neg (show ¬ (4 : Int) = 3 by decide))).trans ((if_pos rfl).trans (if_pos (by omega)))
  rw [e1, e2]
  rcases hm with hm | ⟨hm, hm2⟩
  · go_enter Try.func13, Try.ntmps13
    go_wp2_with fail
    generalize w.alloc _ = w1 at *
    have HS1 := Lib.hid hS
    obtain ⟨c0, c1, c2, c3, c4, c5, f4, f5⟩ := six_cells hS.P.row
    obtain ⟨d0, d1, d2, g0, g1, g2⟩ := hS.P.at_ p hp
    obtain ⟨-, -, o0, o1, o2, o3, nf, na, nx⟩ := hS
    go_quiet (fail)
    go_wp2_with fail
    have hS := HS1.out.drewN nq
    generalize w1.drewN _ = w2 at *
    clear c0 c1 c2 c3 c4 c5 f4 f5 d0 d1 d2 g0 g1 g2 o0 o1 o2 o3 nf na nx
    have HS2 := Lib.hid hS
    obtain ⟨c0, c1, c2, c3, c4, c5, f4, f5⟩ := six_cells hS.P.row
    obtain ⟨d0, d1, d2, g0, g1, g2⟩ := hS.P.at_ p hp
    obtain ⟨-, -, o0, o1, o2, o3, nf, na, nx⟩ := hS
    go_wp2_with fail
    go_ret
    exact ⟨rfl, HS2.out.P, HS2.out.K⟩
  · go_enter Try.func13, Try.ntmps13
    go_wp2_with fail
    generalize w.alloc _ = w1 at *
    have HS1 := Lib.hid hS
    obtain ⟨c0, c1, c2, c3, c4, c5, f4, f5⟩ := six_cells hS.P.row
    obtain ⟨d0, d1, d2, g0, g1, g2⟩ := hS.P.at_ p hp
    obtain ⟨-, -, o0, o1, o2, o3, nf, na, nx⟩ := hS
    go_quiet (fail)
    go_wp2_with fail
    have hS := HS1.out.drewN nq
    generalize w1.drewN _ = w2 at *
    clear c0 c1 c2 c3 c4 c5 f4 f5 d0 d1 d2 g0 g1 g2 o0 o1 o2 o3 nf na nx
    have HS2 := Lib.hid hS
    obtain ⟨c0, c1, c2, c3, c4, c5, f4, f5⟩ := six_cells hS.P.row
    obtain ⟨d0, d1, d2, g0, g1, g2⟩ := hS.P.at_ p hp
    obtain ⟨-, -, o0, o1, o2, o3, nf, na, nx⟩ := hS
    go_wp2_with fail
    go_ret
    exact ⟨rfl, HS2.out.P, HS2.out.K⟩
set_option maxRecDepth 100000 in
set_option maxHeartbeats 1000000 in
theorem other_5 (pb fb ab xb : Nat) (io : Option Addr) (ik n : Nat) (q : Pl) (k m x : Int) (p : Nat) (hn : n ≤ 100) (hp : p < n) (hk3 : k ≠ 3) (hk4 : k ≠ 4) (w : World) (h : Pln w pb fb ab xb io ik n q) : Calls Try.prog 13 #[.pointer (some ⟨pb, 0, none⟩), .agg #[.int .i64 k, .int .i64 p, .int .i64 m, .int .u8 x]] w (OthPost pb fb ab xb io ik n (oS q k p m x) (oE q k p m) w) := by
  have ho : ¬ q.out p := by unfold Pl.out; rw [h.lf]; omega
  have hS := St.new w h (.int .i64 k) (.int .i64 p) (.int .i64 m) (.int .u8 x)
  have e2 : oE q k p m = 0 := (if_neg ho).trans (if_neg hk4)
  have e1 : oS q k p m x = { q with fl := q.fl.set p 0, xl := q.xl.set p 0 } := (if_neg ho).trans ((if_neg hk3).trans (if_neg hk4))
  rw [e1, e2]
  have hb3 : (k == 3) = false := by simpa using hk3
  have hb4 : (k == 4) = false := by simpa using hk4
  go_enter Try.func13, Try.ntmps13
  go_wp2_with fail
  generalize w.alloc _ = w1 at *
  have HS1 := Lib.hid hS
  obtain ⟨c0, c1, c2, c3, c4, c5, f4, f5⟩ := six_cells hS.P.row
  obtain ⟨d0, d1, d2, g0, g1, g2⟩ := hS.P.at_ p hp
  obtain ⟨-, -, o0, o1, o2, o3, nf, na, nx⟩ := hS
  go_quiet (fail)
  go_wp2_with fail
  have hS := HS1.out.drewN nq
  generalize w1.drewN _ = w2 at *
  clear c0 c1 c2 c3 c4 c5 f4 f5 d0 d1 d2 g0 g1 g2 o0 o1 o2 o3 nf na nx
  have HS2 := Lib.hid hS
  obtain ⟨c0, c1, c2, c3, c4, c5, f4, f5⟩ := six_cells hS.P.row
  obtain ⟨d0, d1, d2, g0, g1, g2⟩ := hS.P.at_ p hp
  obtain ⟨-, -, o0, o1, o2, o3, nf, na, nx⟩ := hS
  go_still_tail 7, (by kernel_rfl)
  repeat still_step
  try refine wpStill_nil ?_
  change wpList _ _ _ _ _ w2.drew
  go_wp2_with fail
  have hS := (HS2.out.setf p 0).drew
  generalize World.drew _ = w3 at *
  clear c0 c1 c2 c3 c4 c5 f4 f5 d0 d1 d2 g0 g1 g2 o0 o1 o2 o3 nf na nx
  have HS3 := Lib.hid hS
  obtain ⟨c0, c1, c2, c3, c4, c5, f4, f5⟩ := six_cells hS.P.row
  obtain ⟨d0, d1, d2, g0, g1, g2⟩ := hS.P.at_ p hp
  obtain ⟨-, -, o0, o1, o2, o3, nf, na, nx⟩ := hS
  go_still_tail 7, (by kernel_rfl)
  repeat still_step
  try refine wpStill_nil ?_
  change wpList _ _ _ _ _ w3.drew
  go_wp2_with fail
  have hS := (HS3.out.setx p 0).drew
  generalize World.drew _ = w4 at *
  clear c0 c1 c2 c3 c4 c5 f4 f5 d0 d1 d2 g0 g1 g2 o0 o1 o2 o3 nf na nx
  have HS4 := Lib.hid hS
  obtain ⟨c0, c1, c2, c3, c4, c5, f4, f5⟩ := six_cells hS.P.row
  obtain ⟨d0, d1, d2, g0, g1, g2⟩ := hS.P.at_ p hp
  obtain ⟨-, -, o0, o1, o2, o3, nf, na, nx⟩ := hS
  go_ret
  exact ⟨rfl, HS4.out.P, HS4.out.K⟩
end Go.Proofs.Ytagaljjiiinjmaa
