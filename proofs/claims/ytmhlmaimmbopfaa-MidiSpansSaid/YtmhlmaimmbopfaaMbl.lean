/- What an argument that is a slice of messages reads as. -/
import Derived.Test.YtmhlmaimmbopfaaMsg
import Derived.Test.YtmhlmaimmbopfaaLegible
namespace Go.Proofs.Ytmhlmaimmbopfaa
open Go Go.RowKit Go.Calli
theorem at5_of {w : World} {A : Addr} {m : Msg} (h : ∀ j, j < 5 → w.cell? (A.add j) = (vals5 m)[j]?) : At5 w A m := by
  have h0 := h 0 (by omega)
  have h1 := h 1 (by omega)
  have h2 := h 2 (by omega)
  have h3 := h 3 (by omega)
  have h4 := h 4 (by omega)
  simp [Addr.add, vals5] at h0 h1 h2 h3 h4
  exact ⟨h0, h1, h2, h3, h4⟩
theorem msgs_of {w : World} {ao : Option Addr} {len cap : Nat} (h : Legible Try.prog w 29 [.slice ao len cap]) : len ≤ cap ∧ ∃ ms, Msgs w ao len ms := by
  rcases h.slice Try.underlying29 with h | ⟨a, l, c, h, hl, hm, hx⟩
  · simp at h; obtain ⟨rfl, rfl, rfl⟩ := h
    exact ⟨Nat.le_refl _, [], Msgs.nil _ _⟩
  · simp at h; obtain ⟨rfl, rfl, rfl⟩ := h
    refine ⟨hl, ?_⟩
    have hc5 : Try.prog.cellsOf 23 = 5 := by kernel_rfl
    obtain ⟨ms, hml, hms⟩ := choose_list (α := Msg) len (fun i m => At5 w (a.add (i * 5)) m) (fun i hi => by
      obtain ⟨ds, hd, hcell, hg⟩ := hx i hi
      obtain ⟨zs, hzl, he, _⟩ := hg.ints_struct Try.underlying23 hc5 (by kernel_rfl)
      rw [hc5] at hcell
      match zs, hzl with
      | [t, k, c, x, b], _ =>
        refine ⟨⟨t, k, c, x, b⟩, at5_of (fun j hj => ?_)⟩
        rw [hcell j hj, he]; rfl)
    refine ⟨ms, hml, by omega, fun i hi => ⟨a, rfl, ?_⟩⟩
    have := hms i _ (List.getElem?_eq_getElem (show i < ms.length by omega))
    simpa [List.getElem?_eq_getElem (show i < ms.length by omega)] using this
end Go.Proofs.Ytmhlmaimmbopfaa
