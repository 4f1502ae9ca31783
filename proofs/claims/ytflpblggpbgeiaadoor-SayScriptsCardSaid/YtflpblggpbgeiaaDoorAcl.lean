/- What an argument that is a step reads as. -/
import Derived.Test.YtflpblggpbgeiaaDoorSpa
import Derived.Test.YtflpblggpbgeiaaDoorLegible
namespace Go.Proofs.YtflpblggpbgeiaaDoor
open Go Go.RowKit Go.Calli
theorem act_of {w : World} {cs : List Value} (h : Legible Tryd.prog w 23 cs) : ∃ (k v : Int) (nm : List Int) (n m p x : Int), cs = [.int .i64 k, .int .i64 v, .string (strOfNums nm), .int .i64 n, .int .i64 m, .int .i64 p, .int .i64 x] ∧ Byt nm ∧ nm.length ≤ maxLen ∧ i64 v ∧ i64 n ∧ i64 m ∧ i64 p ∧ i64 x ∧ i64 k := by
  obtain ⟨hlen, hf⟩ := h.struct Tryd.underlying23
  rw [show Tryd.prog.cellsOf 23 = 7 by kernel_rfl] at hlen
  match cs, hlen with
  | [v0, v1, v2, v3, v4, v5, v6], _ =>
    have f0 := hf 0 _ rfl
    have f1 := hf 1 _ rfl
    have f2 := hf 2 _ rfl
    have f3 := hf 3 _ rfl
    have f4 := hf 4 _ rfl
    have f5 := hf 5 _ rfl
    have f6 := hf 6 _ rfl
    simp only [List.getElem_toArray, List.getElem_cons_succ, List.getElem_cons_zero] at f0 f1 f2 f3 f4 f5 f6
    rw [show Tryd.prog.cellsOf 9 = 1 by kernel_rfl] at f2
    rw [show Tryd.prog.cellsOf 3 = 1 by kernel_rfl] at f0 f1 f3 f4 f6
    rw [show Tryd.prog.cellsOf 2 = 1 by kernel_rfl] at f5
    simp only [List.drop_zero, List.take_succ_cons, List.take_zero, List.drop_succ_cons] at f0 f1 f2 f3 f4 f5 f6
    obtain ⟨k, hk, bk⟩ := f0.int Tryd.underlying3
    obtain ⟨v, hv, bv⟩ := f1.int Tryd.underlying3
    obtain ⟨s, hs, hsl⟩ := f2.string Tryd.underlying9
    obtain ⟨n, hn, bn⟩ := f3.int Tryd.underlying3
    obtain ⟨m, hm, bm⟩ := f4.int Tryd.underlying3
    obtain ⟨p, hp, bp⟩ := f5.int Tryd.underlying2
    obtain ⟨x, hx, bx⟩ := f6.int Tryd.underlying3
    simp at hk hv hs hn hm hp hx
    subst hk; subst hv; subst hs; subst hn; subst hm; subst hp; subst hx
    have e := strOfNums_size (numsOf s)
    rw [strOf_numsOf] at e
    have H : ∀ {z : Int}, (Lit.int IntKind.i64 z).wf = true → i64 z := fun h => by
      have := bounds_i64 h
      exact ⟨by omega, by omega⟩
    refine ⟨k, v, numsOf s, n, m, p, x, by rw [strOf_numsOf], numsOf_byt s, by omega, ?_, ?_, ?_, ?_, ?_, ?_⟩ <;> first | exact H bv | exact H bn | exact H bm | exact H bp | exact H bx | exact H bk
end Go.Proofs.YtflpblggpbgeiaaDoor
