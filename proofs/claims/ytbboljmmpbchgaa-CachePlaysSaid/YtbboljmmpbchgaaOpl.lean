/- A script of calls in memory. -/
import Derived.Test.YtbboljmmpbchgaaClp
import Derived.Test.YtbboljmmpbchgaaLegible
namespace Go.Proofs.Ytbboljmmpbchgaa
open Go Go.RowKit Go.Calli Go.Dskp Go.Maps
set_option linter.unusedVariables false
set_option linter.unusedSimpArgs false
/-- A call of the script. -/
structure Opr where
  k : Int
  p : Int
  n : Int
  x : Int
def o0 : Opr := ⟨0, 0, 0, 0⟩
def At4 (w : World) (A : Addr) (o : Opr) : Prop := w.cell? A = some (.int .i64 o.k) ∧ w.cell? ⟨A.block, A.off + 1, none⟩ = some (.int .i64 o.p) ∧ w.cell? ⟨A.block, A.off + 2, none⟩ = some (.int .i64 o.n) ∧ w.cell? ⟨A.block, A.off + 3, none⟩ = some (.int .u8 o.x)
def Opr.wf (o : Opr) : Prop := (Lit.int .i64 o.k).wf = true ∧ (Lit.int .i64 o.p).wf = true ∧ (Lit.int .i64 o.n).wf = true ∧ (Lit.int .u8 o.x).wf = true
structure Ops (w : World) (ao : Option Addr) (n : Nat) (os : List Opr) : Prop where
  hlen : os.length = n
  lim : n ≤ maxLen
  cell : ∀ i, i < n → ∃ a, ao = some a ∧ At4 w (a.add (i * 4)) (os.getD i o0)
  wf : ∀ i, i < n → (os.getD i o0).wf
theorem At4.keep0 {w w' : World} {A : Addr} {o : Opr} (h : At4 w A o) (hb : Below w.heap.size w w') : At4 w' A o := by
  have hl := World.block_lt_of_cell? w _ h.1
  obtain ⟨h0, h1, h2, h3⟩ := h
  exact ⟨(hb.cell hl).trans h0, (hb.cell (p := ⟨A.block, _, none⟩) hl).trans h1, (hb.cell (p := ⟨A.block, _, none⟩) hl).trans h2, (hb.cell (p := ⟨A.block, _, none⟩) hl).trans h3⟩
theorem Ops.keep0 {w w' : World} {ao : Option Addr} {n : Nat} {os : List Opr} (h : Ops w ao n os) (hb : Below w.heap.size w w') : Ops w' ao n os :=
  ⟨h.hlen, h.lim, fun i hi => by
    obtain ⟨a, ha, hc⟩ := h.cell i hi
    exact ⟨a, ha, hc.keep0 hb⟩, h.wf⟩
theorem op_of {w : World} {cs : List Value} (h : Legible Try.prog w 41 cs) : ∃ o : Opr, cs = [.int .i64 o.k, .int .i64 o.p, .int .i64 o.n, .int .u8 o.x] ∧ o.wf := by
  obtain ⟨hlen, hfs⟩ := h.struct Try.underlying41
  have c4 : Try.prog.cellsOf 41 = 4 := by kernel_rfl
  have c3 : Try.prog.cellsOf 3 = 1 := by kernel_rfl
  have c5 : Try.prog.cellsOf 5 = 1 := by kernel_rfl
  rw [c4] at hlen
  have h0 : Legible Try.prog w 3 ((cs.drop 0).take (Try.prog.cellsOf 3)) := hfs 0 _ rfl
  have h1 : Legible Try.prog w 3 ((cs.drop 1).take (Try.prog.cellsOf 3)) := hfs 1 _ rfl
  have h2 : Legible Try.prog w 3 ((cs.drop 2).take (Try.prog.cellsOf 3)) := hfs 2 _ rfl
  have h3 : Legible Try.prog w 5 ((cs.drop 3).take (Try.prog.cellsOf 5)) := hfs 3 _ rfl
  rw [c3] at h0 h1 h2
  rw [c5] at h3
  match cs, hlen with
  | [a, b, c, d], _ =>
    obtain ⟨k, e0, w0⟩ := h0.int Try.underlying3
    obtain ⟨p, e1, w1⟩ := h1.int Try.underlying3
    obtain ⟨n, e2, w2⟩ := h2.int Try.underlying3
    obtain ⟨x, e3, w3⟩ := h3.int Try.underlying5
    simp at e0 e1 e2 e3
    subst e0 e1 e2 e3
    exact ⟨⟨k, p, n, x⟩, rfl, w0, w1, w2, w3⟩
theorem at4_of {w : World} {A : Addr} {o : Opr} (h : ∀ j, j < 4 → w.cell? (A.add j) = [Value.int .i64 o.k, .int .i64 o.p, .int .i64 o.n, .int .u8 o.x][j]?) : At4 w A o := by
  have h0 := h 0 (by omega)
  have h1 := h 1 (by omega)
  have h2 := h 2 (by omega)
  have h3 := h 3 (by omega)
  simp [Addr.add] at h0 h1 h2 h3
  exact ⟨h0, h1, h2, h3⟩
theorem ops_of {w : World} {ao : Option Addr} {len cap : Nat} (h : Legible Try.prog w 39 [.slice ao len cap]) : ∃ os, Ops w ao len os := by
  rcases h.slice Try.underlying39 with h | ⟨a, l, c, h, hl, hm, hx⟩
  · simp at h; obtain ⟨rfl, rfl, rfl⟩ := h
    exact ⟨[], rfl, by unfold maxLen; omega, fun i hi => by omega, fun i hi => by omega⟩
  · simp at h; obtain ⟨rfl, rfl, rfl⟩ := h
    have c4 : Try.prog.cellsOf 41 = 4 := by kernel_rfl
    obtain ⟨os, hol, hos⟩ := choose_list (α := Opr) len (fun i o => At4 w (a.add (i * 4)) o ∧ o.wf) (fun i hi => by
      obtain ⟨ds, hd, hcell, hg⟩ := hx i hi
      obtain ⟨o, he, hw⟩ := op_of hg
      rw [c4] at hcell
      exact ⟨o, at4_of (fun j hj => by rw [hcell j hj, he]), hw⟩)
    have key : ∀ i, i < len → At4 w (a.add (i * 4)) (os.getD i o0) ∧ (os.getD i o0).wf := fun i hi => by
      have := hos i _ (List.getElem?_eq_getElem (show i < os.length by omega))
      simpa [List.getElem?_eq_getElem (show i < os.length by omega)] using this
    exact ⟨os, hol, by omega, fun i hi => ⟨a, rfl, (key i hi).1⟩, fun i hi => (key i hi).2⟩
end Go.Proofs.Ytbboljmmpbchgaa
