/- The law's own cache in memory. -/
import Derived.Test.YtbboljmmpbchgaaOpl
namespace Go.Proofs.Ytbboljmmpbchgaa
open Go Go.RowKit Go.Calli Go.Dskp Go.Maps
set_option linter.unusedVariables false
set_option linter.unusedSimpArgs false
/-- Where it lies. -/
structure Bd where
  pb : Nat
  gb : Nat
  kb : Nat
  db : Nat
  qb : Nat
  qm : Nat
  qi : Option Addr
  qk : Nat
  x : Nat → Prop
def Bd.S (B : Bd) (k : Nat) : Prop := k = B.pb ∨ k = B.gb ∨ k = B.kb ∨ k = B.db ∨ k = B.qb ∨ k = B.qm
def Bd.T (B : Bd) (k : Nat) : Prop := B.S k ∨ B.x k
/-- A page's bytes, as a slice. -/
structure Dv where
  a : Option Addr
  n : Nat
  c : Nat
def dv0 : Dv := ⟨none, 0, 0⟩
def Dv.v (d : Dv) : Value := .slice d.a d.n d.c
def prow (B : Bd) (n : Nat) (hd re h m t l : Int) : Array Value := #[.pointer (some ⟨B.qb, 0, none⟩), .slice (some ⟨B.gb, 0, none⟩) n n, .slice (some ⟨B.kb, 0, none⟩) n n, .slice (some ⟨B.db, 0, none⟩) n n, .int .i64 hd, .int .i64 re, .int .i64 h, .int .i64 m, .int .i64 t, .int .i64 l]
def Bw (B : Bd) (w : World) : Prop := (∀ a, B.qi = some a → a.block < w.heap.size ∧ a.block ≠ B.pb ∧ a.block ≠ B.gb ∧ a.block ≠ B.kb ∧ a.block ≠ B.db) ∧ ∀ k, B.x k → k < w.heap.size ∧ ¬ B.S k ∧ ∀ a, B.qi = some a → a.block ≠ k
theorem Bw.mono {B : Bd} {w w' : World} (h : Bw B w) (hs : w.heap.size ≤ w'.heap.size) : Bw B w' := ⟨fun a ha => ⟨Nat.lt_of_lt_of_le (h.1 a ha).1 hs, (h.1 a ha).2⟩, fun k hx => ⟨Nat.lt_of_lt_of_le (h.2 k hx).1 hs, (h.2 k hx).2⟩⟩
structure PlM (B : Bd) (w : World) (n : Nat) (pg : List Int) (mk : List Bool) (hd re h m t l : Int) (ds : List Dv) (d : Dk) (mx : Nat) : Prop where
  row : w.heap[B.pb]? = some (.cells (prow B n hd re h m t l) 57 (0, 0))
  pgc : w.heap[B.gb]? = some (.cells (pg.map (Value.int .i64)).toArray 3 (0, 0))
  mkc : w.heap[B.kb]? = some (.cells (mk.map Value.bool).toArray 4 (0, 0))
  dtc : w.heap[B.db]? = some (.cells (ds.map Dv.v).toArray 22 (0, 0))
  dsk : ∃ m, m ≤ mx ∧ Dsk w B.qb B.qm B.qi B.qk m d
  lp : pg.length = n
  lm : mk.length = n
  ld : ds.length = n
  ne : B.pb ≠ B.gb ∧ B.pb ≠ B.kb ∧ B.pb ≠ B.db ∧ B.pb ≠ B.qb ∧ B.pb ≠ B.qm ∧ B.gb ≠ B.kb ∧ B.gb ≠ B.db ∧ B.gb ≠ B.qb ∧ B.gb ≠ B.qm ∧ B.kb ≠ B.db ∧ B.kb ≠ B.qb ∧ B.kb ≠ B.qm ∧ B.db ≠ B.qb ∧ B.db ≠ B.qm
  away : Bw B w
variable {B : Bd} {w w' : World} {n : Nat} {pg : List Int} {mk : List Bool} {hd re h m t l : Int} {ds : List Dv} {d : Dk} {mx : Nat}
theorem PlM.kept1 (H : PlM B w n pg mk hd re h m t l ds d mx) {S : Nat → Prop} (hk : Keeps S w w') (h1 : ¬ S B.pb) (h2 : ¬ S B.gb) (h3 : ¬ S B.kb) (h4 : ¬ S B.db) (h5 : ¬ S B.qb) (h6 : ¬ S B.qm) (h7 : ∀ a, B.qi = some a → ¬ S a.block) : PlM B w' n pg mk hd re h m t l ds d mx := by
  obtain ⟨mm, hm, hD⟩ := H.dsk
  exact ⟨hk.heap H.row h1, hk.heap H.pgc h2, hk.heap H.mkc h3, hk.heap H.dtc h4, ⟨mm, hm, hD.kept hk h5 h6 h7⟩, H.lp, H.lm, H.ld, H.ne, H.away.mono hk.size⟩
theorem PlM.keptX (H : PlM B w n pg mk hd re h m t l ds d mx) (hk : Keeps B.x w w') : PlM B w' n pg mk hd re h m t l ds d mx := by
  have hx := H.away.2
  exact H.kept1 hk (fun e => (hx _ e).2.1 (.inl rfl)) (fun e => (hx _ e).2.1 (.inr (.inl rfl))) (fun e => (hx _ e).2.1 (.inr (.inr (.inl rfl)))) (fun e => (hx _ e).2.1 (.inr (.inr (.inr (.inl rfl))))) (fun e => (hx _ e).2.1 (.inr (.inr (.inr (.inr (.inl rfl)))))) (fun e => (hx _ e).2.1 (.inr (.inr (.inr (.inr (.inr rfl)))))) (fun a ha e => (hx _ e).2.2 a ha rfl)
theorem PlM.keep0 (H : PlM B w n pg mk hd re h m t l ds d mx) (hb : Below w.heap.size w w') : PlM B w' n pg mk hd re h m t l ds d mx := H.keptX (Keeps.ofBelow hb (Nat.le_refl _))
theorem PlM.inW (H : PlM B w n pg mk hd re h m t l ds d mx) : ∀ k, B.S k → k < w.heap.size := by
  obtain ⟨mm, hm, hD⟩ := H.dsk
  rintro k (rfl | rfl | rfl | rfl | rfl | rfl)
  · exact lt_of_block H.row
  · exact lt_of_block H.pgc
  · exact lt_of_block H.mkc
  · exact lt_of_block H.dtc
  · exact hD.lt
  · exact hD.2.2.2.1.lt
theorem row_setf {α : Type} (f : α → Value) {w : World} {g : Nat} {L : List α} {e : Nat} (h : w.heap[g]? = some (.cells (L.map f).toArray e (0, 0))) (i : Nat) (v : α) : (w.setCell ⟨g, i, none⟩ (f v)).heap[g]? = some (.cells ((L.set i v).map f).toArray e (0, 0)) := by
  rw [heap_setCell_same _ _ _ _ _ _ h]
  simp [List.map_set]
theorem keep_cell (w : World) (g i : Nat) (v : Value) : Keeps (fun k => k = g) w (w.setCell ⟨g, i, none⟩ v) := (Keeps.refl (fun k => k = g) w).setCell (p := ⟨g, i, none⟩) (.inr rfl) _
theorem PlM.own (H : PlM B w n pg mk hd re h m t l ds d mx) (o : Nat) (v : Value) {hd' re' h' m' t' l' : Int} (hc : (prow B n hd re h m t l).setIfInBounds o v = prow B n hd' re' h' m' t' l') : PlM B (w.setCell ⟨B.pb, o, none⟩ v) n pg mk hd' re' h' m' t' l' ds d mx := by
  have hk := keep_cell w B.pb o v
  obtain ⟨mm, hm, hD⟩ := H.dsk
  obtain ⟨n1, n2, n3, n4, n5, n6⟩ := H.ne
  exact ⟨by rw [heap_setCell_same _ _ _ _ _ _ H.row, hc], hk.heap H.pgc (fun e => n1 e.symm), hk.heap H.mkc (fun e => n2 e.symm), hk.heap H.dtc (fun e => n3 e.symm), ⟨mm, hm, hD.kept hk (fun e => n4 e.symm) (fun e => n5 e.symm) (fun a ha => (H.away.1 a ha).2.1)⟩, H.lp, H.lm, H.ld, H.ne, H.away.mono hk.size⟩
theorem PlM.setPg (H : PlM B w n pg mk hd re h m t l ds d mx) (i : Nat) (v : Int) : PlM B (w.setCell ⟨B.gb, i, none⟩ (.int .i64 v)) n (pg.set i v) mk hd re h m t l ds d mx := by
  have hk := keep_cell w B.gb i (.int .i64 v)
  obtain ⟨mm, hm, hD⟩ := H.dsk
  obtain ⟨n1, n2, n3, n4, n5, n6, n7, n8, n9, n10⟩ := H.ne
  exact ⟨hk.heap H.row n1, row_setf (Value.int .i64) H.pgc i v, hk.heap H.mkc (fun e => n6 e.symm), hk.heap H.dtc (fun e => n7 e.symm), ⟨mm, hm, hD.kept hk (fun e => n8 e.symm) (fun e => n9 e.symm) (fun a ha => (H.away.1 a ha).2.2.1)⟩, by rw [List.length_set]; exact H.lp, H.lm, H.ld, H.ne, H.away.mono hk.size⟩
theorem PlM.setMk (H : PlM B w n pg mk hd re h m t l ds d mx) (i : Nat) (v : Bool) : PlM B (w.setCell ⟨B.kb, i, none⟩ (.bool v)) n pg (mk.set i v) hd re h m t l ds d mx := by
  have hk := keep_cell w B.kb i (.bool v)
  obtain ⟨mm, hm, hD⟩ := H.dsk
  obtain ⟨n1, n2, n3, n4, n5, n6, n7, n8, n9, n10, n11, n12, n13⟩ := H.ne
  exact ⟨hk.heap H.row n2, hk.heap H.pgc n6, row_setf Value.bool H.mkc i v, hk.heap H.dtc (fun e => n10 e.symm), ⟨mm, hm, hD.kept hk (fun e => n11 e.symm) (fun e => n12 e.symm) (fun a ha => (H.away.1 a ha).2.2.2.1)⟩, H.lp, by rw [List.length_set]; exact H.lm, H.ld, H.ne, H.away.mono hk.size⟩
theorem PlM.setDt (H : PlM B w n pg mk hd re h m t l ds d mx) (i : Nat) (v : Dv) : PlM B (w.setCell ⟨B.db, i, none⟩ v.v) n pg mk hd re h m t l (ds.set i v) d mx := by
  have hk := keep_cell w B.db i v.v
  obtain ⟨mm, hm, hD⟩ := H.dsk
  obtain ⟨n1, n2, n3, n4, n5, n6, n7, n8, n9, n10, n11, n12, n13, n14⟩ := H.ne
  exact ⟨hk.heap H.row n3, hk.heap H.pgc n7, hk.heap H.mkc n10, row_setf Dv.v H.dtc i v, ⟨mm, hm, hD.kept hk (fun e => n13 e.symm) (fun e => n14 e.symm) (fun a ha => (H.away.1 a ha).2.2.2.2)⟩, H.lp, H.lm, by rw [List.length_set]; exact H.ld, H.ne, H.away.mono hk.size⟩
/-- Its disk is written. -/
theorem PlM.setDk (H : PlM B w n pg mk hd re h m t l ds d mx) {m0 m' mx' : Nat} {d' : Dk} (hD : Dsk w' B.qb B.qm B.qi B.qk m' d') (hm : m' ≤ mx') (hk : Keeps (fun k => k = B.qb ∨ k = B.qm) w w') : PlM B w' n pg mk hd re h m t l ds d' mx' := by
  obtain ⟨n1, n2, n3, n4, n5, n6, n7, n8, n9, n10, n11, n12, n13, n14⟩ := H.ne
  exact ⟨hk.heap H.row (fun e => e.elim n4 n5), hk.heap H.pgc (fun e => e.elim n8 n9), hk.heap H.mkc (fun e => e.elim n11 n12), hk.heap H.dtc (fun e => e.elim n13 n14), ⟨m', hm, hD⟩, H.lp, H.lm, H.ld, H.ne, H.away.mono hk.size⟩
theorem ten_cells {w : World} {b : Nat} {v0 v1 v2 v3 v4 v5 v6 v7 v8 v9 : Value} {T : Nat} (h : w.heap[b]? = some (.cells #[v0, v1, v2, v3, v4, v5, v6, v7, v8, v9] T (0, 0))) :
    w.cell? ⟨b, 0, none⟩ = some v0 ∧ w.cell? ⟨b, 1, none⟩ = some v1 ∧ w.cell? ⟨b, 2, none⟩ = some v2 ∧ w.cell? ⟨b, 3, none⟩ = some v3 ∧ w.cell? ⟨b, 4, none⟩ = some v4 ∧ w.cell? ⟨b, 5, none⟩ = some v5 ∧ w.cell? ⟨b, 6, none⟩ = some v6 ∧ w.cell? ⟨b, 7, none⟩ = some v7 ∧ w.cell? ⟨b, 8, none⟩ = some v8 ∧ w.cell? ⟨b, 9, none⟩ = some v9 :=
  ⟨(cell_of_row _ _ _ _ _ _ h).trans rfl, (cell_of_row _ _ _ _ _ _ h).trans rfl, (cell_of_row _ _ _ _ _ _ h).trans rfl, (cell_of_row _ _ _ _ _ _ h).trans rfl, (cell_of_row _ _ _ _ _ _ h).trans rfl, (cell_of_row _ _ _ _ _ _ h).trans rfl, (cell_of_row _ _ _ _ _ _ h).trans rfl, (cell_of_row _ _ _ _ _ _ h).trans rfl, (cell_of_row _ _ _ _ _ _ h).trans rfl, (cell_of_row _ _ _ _ _ _ h).trans rfl⟩
theorem row_at {α : Type} (f : α → Value) {w : World} {g : Nat} {L : List α} {e : Nat} (h : w.heap[g]? = some (.cells (L.map f).toArray e (0, 0))) (i : Nat) (hi : i < L.length) (z : α) : w.cell? ⟨g, i, none⟩ = some (f (L.getD i z)) := by
  rw [cell_of_row _ _ _ _ _ _ h, List.getElem?_toArray, List.getElem?_map]
  simp [List.getD, hi]
theorem PlM.cells (H : PlM B w n pg mk hd re h m t l ds d mx) : w.cell? ⟨B.pb, 0, none⟩ = some (.pointer (some ⟨B.qb, 0, none⟩)) ∧ w.cell? ⟨B.pb, 1, none⟩ = some (.slice (some ⟨B.gb, 0, none⟩) n n) ∧ w.cell? ⟨B.pb, 2, none⟩ = some (.slice (some ⟨B.kb, 0, none⟩) n n) ∧ w.cell? ⟨B.pb, 3, none⟩ = some (.slice (some ⟨B.db, 0, none⟩) n n) ∧ w.cell? ⟨B.pb, 4, none⟩ = some (.int .i64 hd) ∧ w.cell? ⟨B.pb, 5, none⟩ = some (.int .i64 re) ∧ w.cell? ⟨B.pb, 6, none⟩ = some (.int .i64 h) ∧ w.cell? ⟨B.pb, 7, none⟩ = some (.int .i64 m) ∧ w.cell? ⟨B.pb, 8, none⟩ = some (.int .i64 t) ∧ w.cell? ⟨B.pb, 9, none⟩ = some (.int .i64 l) := ten_cells H.row
theorem PlM.pgAt (H : PlM B w n pg mk hd re h m t l ds d mx) (i : Nat) (hi : i < n) : w.cell? ⟨B.gb, i, none⟩ = some (.int .i64 (pg.getD i 0)) := row_at (Value.int .i64) H.pgc i (by rw [H.lp]; exact hi) 0
theorem PlM.mkAt (H : PlM B w n pg mk hd re h m t l ds d mx) (i : Nat) (hi : i < n) : w.cell? ⟨B.kb, i, none⟩ = some (.bool (mk.getD i false)) := row_at Value.bool H.mkc i (by rw [H.lm]; exact hi) false
theorem PlM.dtAt (H : PlM B w n pg mk hd re h m t l ds d mx) (i : Nat) (hi : i < n) : w.cell? ⟨B.db, i, none⟩ = some (ds.getD i dv0).v := row_at Dv.v H.dtc i (by rw [H.ld]; exact hi) dv0
/-- The pages' bytes. -/
def DatOk (B : Bd) (w : World) (ds : List Dv) (qs : List PS) : Prop := ∀ i, i < qs.length → (qs.getD i q0).f = true → (ds.getD i dv0).n = (qs.getD i q0).bs.length ∧ (ds.getD i dv0).n ≤ (ds.getD i dv0).c ∧ Ints .u8 w (ds.getD i dv0).a (ds.getD i dv0).n (qs.getD i q0).bs ∧ ∀ a, (ds.getD i dv0).a = some a → ¬ B.T a.block
theorem DatOk.keptT {qs : List PS} (H : DatOk B w ds qs) (hk : Keeps B.T w w') : DatOk B w' ds qs := fun i hi hf => by
  obtain ⟨a1, a2, a3, a4⟩ := H i hi hf
  exact ⟨a1, a2, a3.kept hk a4, a4⟩
theorem DatOk.kept {qs : List PS} (H : DatOk B w ds qs) (hk : Keeps B.S w w') : DatOk B w' ds qs := H.keptT (hk.mono fun k _ h => .inl h)
theorem DatOk.set {qs : List PS} (H : DatOk B w ds qs) (hl : ds.length = qs.length) (i : Nat) {D : Dv} {q : PS} (hD : q.f = true → D.n = q.bs.length ∧ D.n ≤ D.c ∧ Ints .u8 w D.a D.n q.bs ∧ ∀ a, D.a = some a → ¬ B.T a.block) : DatOk B w (ds.set i D) (qs.set i q) := fun j hj hf => by
  rw [List.length_set] at hj
  by_cases e : j = i
  · subst e
    rw [show (ds.set j D).getD j dv0 = D by simp [List.getD, hl, hj], show (qs.set j q).getD j q0 = q by simp [List.getD, hj]] at *
    exact hD hf
  · rw [show (ds.set i D).getD j dv0 = ds.getD j dv0 by simp [List.getD, List.getElem?_set, Ne.symm e], show (qs.set i q).getD j q0 = qs.getD j q0 by simp [List.getD, List.getElem?_set, Ne.symm e]] at *
    exact H j hj hf
theorem DatOk.qset {qs : List PS} (H : DatOk B w ds qs) (i : Nat) {q : PS} (hf : q.f = true → (qs.getD i q0).f = true) (hb : q.f = true → q.bs = (qs.getD i q0).bs) : DatOk B w ds (qs.set i q) := fun j hj hff => by
  rw [List.length_set] at hj
  by_cases e : j = i
  · subst e
    rw [show (qs.set j q).getD j q0 = q by simp [List.getD, hj]] at *
    rw [hb hff]
    exact H j hj (hf hff)
  · rw [show (qs.set i q).getD j q0 = qs.getD j q0 by simp [List.getD, List.getElem?_set, Ne.symm e]] at *
    exact H j hj hff
/-- The whole state. -/
def pgOf (q : PS) : Int := if q.f then q.p else -1
structure PlSt (B : Bd) (w : World) (n : Nat) (c : Ca) (ds : List Dv) : Prop where
  m : PlM B w n (c.ss.map pgOf) (c.ss.map PS.u) c.hand c.retry c.h c.m c.t c.l ds c.d c.mx
  dat : DatOk B w ds c.ss
  len : c.ss.length = n
  hand : c.hand < n
theorem PlSt.keptX {c : Ca} (H : PlSt B w n c ds) (hk : Keeps B.x w w') : PlSt B w' n c ds := ⟨H.m.keptX hk, H.dat.keptT (hk.mono fun k _ h => .inr h), H.len, H.hand⟩
theorem PlSt.keep0 {c : Ca} (H : PlSt B w n c ds) (hb : Below w.heap.size w w') : PlSt B w' n c ds := H.keptX (Keeps.ofBelow hb (Nat.le_refl _))

open Classical in
noncomputable def kCnt (kb : Nat) (w : World) : Nat := if h : ∃ mk : List Bool, w.heap[kb]? = some (.cells (mk.map Value.bool).toArray 4 (0, 0)) then (h.choose.filter id).length else 0
theorem kCnt_eq {kb : Nat} {w : World} {mk : List Bool} (h : w.heap[kb]? = some (.cells (mk.map Value.bool).toArray 4 (0, 0))) : kCnt kb w = (mk.filter id).length := by
  have hx : ∃ mk : List Bool, w.heap[kb]? = some (.cells (mk.map Value.bool).toArray 4 (0, 0)) := ⟨mk, h⟩
  unfold kCnt
  rw [dif_pos hx]
  congr 2
  have e := hx.choose_spec.symm.trans h
  have e2 : hx.choose.map Value.bool = mk.map Value.bool := by simpa using e
  exact (List.map_inj_right (fun a b h => by cases h; rfl)).1 e2
theorem kcnt_set : ∀ (mk : List Bool) (i : Nat), mk.getD i false = true → ((mk.set i false).filter id).length + 1 = (mk.filter id).length := by
  intro mk
  induction mk with
  | nil => intro i h; simp at h
  | cons b r ih =>
    intro i h
    cases i with
    | zero =>
      obtain rfl : b = true := by simpa using h
      simp
    | succ i =>
      have := ih i (by simpa using h)
      cases b <;> simp [List.set_cons_succ] <;> omega
end Go.Proofs.Ytbboljmmpbchgaa
