/- What an argument that is a sample reads as. -/
import Derived.Test.YtpbeehfafbgphaaCle
import Derived.Test.YtpbeehfafbgphaaSam
namespace Go.Proofs.Ytpbeehfafbgphaa
open Go Go.RowKit Go.Calli
theorem row_of {w : World} {v : Value} (h : Legible Try.prog w 52 [v]) : ∃ ao n cap zs, v = .slice ao n cap ∧ n ≤ cap ∧ Ints .i64 w ao n zs := by
  rcases h.slice Try.underlying52 with h1 | ⟨a, l, c, h1, hl, hm, hx⟩
  · simp at h1; subst h1
    exact ⟨none, 0, 0, [], rfl, Nat.le_refl _, Ints.nil _ _ _⟩
  · simp at h1; subst h1
    obtain ⟨_, zs, hz⟩ := h.ints Try.underlying52 Try.underlying3 (by kernel_rfl)
    exact ⟨some a, l, c, zs, rfl, hl, hz⟩
theorem rows_of {w : World} {v : Value} (h : Legible Try.prog w 35 [v]) : ∃ ao n cap d, v = .slice ao n cap ∧ n ≤ cap ∧ Rows w ao n d := by
  rcases h.slice Try.underlying35 with h | ⟨a, l, c, h, hl, hm, hx⟩
  · simp at h; subst h
    exact ⟨none, 0, 0, [], rfl, Nat.le_refl _, Rows.nil _ _⟩
  · simp at h; subst h
    have hc2 : Try.prog.cellsOf 52 = 1 := by kernel_rfl
    obtain ⟨d, hdl, hd⟩ := choose_list (α := List Int) l (fun i r => ∃ ro rn rc, w.cell? (a.add i) = some (.slice ro rn rc) ∧ rn ≤ rc ∧ Ints .i64 w ro rn r) (fun i hi => by
      obtain ⟨ds, hd, hcell, hg⟩ := hx i hi
      rw [hc2] at hcell hd
      match ds, hd with
      | [u], _ =>
        obtain ⟨ro, rn, rc, zs, rfl, h1, h2⟩ := row_of hg
        have := hcell 0 (by omega)
        exact ⟨zs, ro, rn, rc, by simpa [Addr.add] using this, h1, h2⟩)
    refine ⟨some a, l, c, d, rfl, hl, hdl, by omega, fun i hi => ?_⟩
    obtain ⟨ro, rn, rc, h1, h2, h3⟩ := hd i _ (List.getElem?_eq_getElem (show i < d.length by omega))
    refine ⟨a, ro, rn, rc, rfl, h1, h2, ?_⟩
    rwa [show d.getD i [] = d[i] by simp [List.getD, show i < d.length by omega]]
theorem sm_of {w : World} {cs : List Value} (h : Legible Try.prog w 37 cs) : ∃ (s : Sm) (m : SmM), cs = (cellsS s m).toList ∧ SmIs w s m := by
  obtain ⟨hlen, hf⟩ := h.struct Try.underlying37
  rw [show Try.prog.cellsOf 37 = 6 by kernel_rfl] at hlen
  match cs, hlen with
  | [v0, v1, v2, v3, v4, v5], _ =>
    have f0 := hf 0 _ rfl
    have f1 := hf 1 _ rfl
    have f2 := hf 2 _ rfl
    have f3 := hf 3 _ rfl
    have f4 := hf 4 _ rfl
    have f5 := hf 5 _ rfl
    simp only [List.getElem_toArray, List.getElem_cons_succ, List.getElem_cons_zero] at f0 f1 f2 f3 f4 f5
    rw [show Try.prog.cellsOf 9 = 1 by kernel_rfl] at f0
    rw [show Try.prog.cellsOf 3 = 1 by kernel_rfl] at f1 f3 f4
    rw [show Try.prog.cellsOf 4 = 1 by kernel_rfl] at f2
    rw [show Try.prog.cellsOf 35 = 1 by kernel_rfl] at f5
    simp only [List.drop_zero, List.take_succ_cons, List.take_zero, List.drop_succ_cons] at f0 f1 f2 f3 f4 f5
    obtain ⟨s, hs, hsl⟩ := f0.string Try.underlying9
    obtain ⟨r, hr, _⟩ := f1.int Try.underlying3
    obtain ⟨l, hl⟩ := f2.bool Try.underlying4
    obtain ⟨a, ha, _⟩ := f3.int Try.underlying3
    obtain ⟨b, hb, _⟩ := f4.int Try.underlying3
    obtain ⟨ao, n, cap, d, rfl, hle, hR⟩ := rows_of f5
    simp at hs hr hl ha hb
    subst hs; subst hr; subst hl; subst ha; subst hb
    refine ⟨⟨numsOf s, r, l, a, b, d⟩, ⟨ao, n, cap⟩, ?_, numsOf_byt s, ?_, hle, hR⟩
    · unfold cellsS
      rw [strOf_numsOf]
    · have e := strOfNums_size (numsOf s)
      rw [strOf_numsOf] at e
      simp only
      omega
end Go.Proofs.Ytpbeehfafbgphaa
