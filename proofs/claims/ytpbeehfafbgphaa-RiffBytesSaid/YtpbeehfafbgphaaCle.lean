/- What an argument that is a slice of chunks reads as. -/
import Derived.Test.YtpbeehfafbgphaaChm
import Derived.Test.YtpbeehfafbgphaaLegible
namespace Go.Proofs.Ytpbeehfafbgphaa
open Go Go.RowKit Go.Calli
theorem bytes_of {w : World} {v : Value} (h : Legible Try.prog w 25 [v]) : ∃ ao n cap zs, v = .slice ao n cap ∧ n ≤ cap ∧ cap ≤ maxLen ∧ Ints .u8 w ao n zs := by
  rcases h.slice Try.underlying25 with h1 | ⟨a, l, c, h1, hl, hm, hx⟩
  · simp at h1; subst h1
    obtain ⟨_, zs, hz⟩ := h.ints Try.underlying25 Try.underlying5 (by kernel_rfl)
    exact ⟨none, 0, 0, zs, rfl, Nat.le_refl _, by unfold maxLen; omega, hz⟩
  · simp at h1; subst h1
    obtain ⟨_, zs, hz⟩ := h.ints Try.underlying25 Try.underlying5 (by kernel_rfl)
    exact ⟨some a, l, c, zs, rfl, hl, hm, hz⟩
theorem chs_of {w : World} {ao : Option Addr} {len cap : Nat} (h : Legible Try.prog w 22 [.slice ao len cap]) : len ≤ cap ∧ ∃ l, Chs w ao len l := by
  rcases h.slice Try.underlying22 with h | ⟨a, l, c, h, hl, hm, hx⟩
  · simp at h; obtain ⟨rfl, rfl, rfl⟩ := h
    exact ⟨Nat.le_refl _, [], Chs.nil _ _⟩
  · simp at h; obtain ⟨rfl, rfl, rfl⟩ := h
    refine ⟨hl, ?_⟩
    have hc2 : Try.prog.cellsOf 27 = 2 := by kernel_rfl
    obtain ⟨ms, hml, hms⟩ := choose_list (α := Ch) len (fun i c => ∃ m : ChM, w.cell? (a.add (i * 2)) = some (.string (strOfNums m.s)) ∧ w.cell? ((a.add (i * 2)).add 1) = some (.slice m.ao m.n m.cap) ∧ m.Is w c) (fun i hi => by
      obtain ⟨ds, hd, hcell, hg⟩ := hx i hi
      obtain ⟨_, hf⟩ := hg.struct Try.underlying27
      rw [hc2] at hcell hd
      match ds, hd with
      | [u, v], _ =>
        have f0 := hf 0 _ rfl
        have f1 := hf 1 _ rfl
        simp only [List.getElem_toArray, List.getElem_cons_succ, List.getElem_cons_zero] at f0 f1
        rw [show Try.prog.cellsOf 9 = 1 by kernel_rfl] at f0
        rw [show Try.prog.cellsOf 25 = 1 by kernel_rfl] at f1
        simp only [List.drop_zero, List.take_succ_cons, List.take_zero, List.drop_succ_cons] at f0 f1
        obtain ⟨s, hs, _⟩ := f0.string Try.underlying9
        simp at hs; subst hs
        obtain ⟨o, n, k, zs, rfl, hnk, _, hz⟩ := bytes_of f1
        refine ⟨⟨numsOf s, zs⟩, ⟨numsOf s, o, n, k⟩, ?_, ?_, rfl, numsOf_byt s, hnk, hz⟩
        · have := hcell 0 (by omega)
          rw [strOf_numsOf]; simpa [Addr.add] using this
        · have := hcell 1 (by omega)
          simpa using this)
    refine ⟨ms, hml, by omega, fun i hi => ?_⟩
    obtain ⟨m, h1, h2, h3⟩ := hms i _ (List.getElem?_eq_getElem (show i < ms.length by omega))
    refine ⟨a, m, rfl, h1, h2, ?_⟩
    rwa [show ms.getD i c0 = ms[i] by simp [List.getD, show i < ms.length by omega]]
end Go.Proofs.Ytpbeehfafbgphaa
