/- What an argument that is a slice of reports reads as. -/
import Derived.Test.YtidjcbmdmecajaaTms
import Derived.Test.YtidjcbmdmecajaaLegible
namespace Go.Proofs.Ytidjcbmdmecajaa
open Go Go.RowKit Go.Calli
theorem some_of {w : World} {v : Value} (h : Legible Try.prog w 29 [v]) : ∃ o n c, v = .slice o n c ∧ n ≤ c ∧ c ≤ maxLen ∧ (n ≠ 0 → ∃ a, o = some a) := by
  rcases h.slice Try.underlying29 with h1 | ⟨a, l, c, h1, hl, hm, hx⟩
  · simp at h1; subst h1
    exact ⟨none, 0, 0, rfl, Nat.le_refl _, by unfold maxLen; omega, fun h => absurd rfl h⟩
  · simp at h1; subst h1
    exact ⟨some a, l, c, rfl, hl, hm, fun _ => ⟨a, rfl⟩⟩
theorem ints_of {w : World} {v : Value} (h : Legible Try.prog w 30 [v]) : ∃ o n c zs, v = .slice o n c ∧ n ≤ c ∧ c ≤ maxLen ∧ Ints .i64 w o n zs := by
  rcases h.slice Try.underlying30 with h1 | ⟨a, l, c, h1, hl, hm, hx⟩
  · simp at h1; subst h1
    obtain ⟨_, zs, hz⟩ := h.ints Try.underlying30 Try.underlying3 (by kernel_rfl)
    exact ⟨none, 0, 0, zs, rfl, Nat.le_refl _, by unfold maxLen; omega, hz⟩
  · simp at h1; subst h1
    obtain ⟨_, zs, hz⟩ := h.ints Try.underlying30 Try.underlying3 (by kernel_rfl)
    exact ⟨some a, l, c, zs, rfl, hl, hm, hz⟩
theorem loss_of {w : World} {v : Value} (h : Legible Try.prog w 27 [v]) : ∃ o n c ms, v = .slice o n c ∧ n ≤ c ∧ c ≤ maxLen ∧ Recs valsL 3 l0 w o n ms := by
  rcases h.slice Try.underlying27 with h1 | ⟨a, l, c, h1, hl, hm, hx⟩
  · simp at h1; subst h1
    exact ⟨none, 0, 0, [], rfl, Nat.le_refl _, by unfold maxLen; omega, Recs.nil _ _ _ _ _⟩
  · simp at h1; subst h1
    have hc3 : Try.prog.cellsOf 34 = 3 := by kernel_rfl
    obtain ⟨ms, hml, hms⟩ := choose_list (α := Ls) l (fun i x => ∀ j u, (valsL x)[j]? = some u → w.cell? ((a.add (i * 3)).add j) = some u) (fun i hi => by
      obtain ⟨ds, hd, hcell, hg⟩ := hx i hi
      obtain ⟨zs, hzl, hzs, _⟩ := hg.ints_struct (n := 3) Try.underlying34 hc3 (by kernel_rfl)
      rw [hc3] at hcell
      match zs, hzl with
      | [x, y, z], _ =>
        refine ⟨⟨x, y, z⟩, fun j u hu => ?_⟩
        have hj : j < 3 := (List.getElem?_eq_some_iff.1 hu).1
        rw [hcell j hj, hzs]
        exact hu)
    refine ⟨some a, l, c, ms, rfl, hl, hm, hml, by omega, fun i hi => ⟨a, rfl, ?_⟩⟩
    have := hms i _ (List.getElem?_eq_getElem (show i < ms.length by omega))
    rwa [show ms.getD i l0 = ms[i] by simp [List.getD, show i < ms.length by omega]]
theorem rps_of {w : World} {ao : Option Addr} {len cap : Nat} (h : Legible Try.prog w 22 [.slice ao len cap]) : len ≤ cap ∧ ∃ l, Rps w ao len l := by
  rcases h.slice Try.underlying22 with h | ⟨a, l, c, h, hl, hm, hx⟩
  · simp at h; obtain ⟨rfl, rfl, rfl⟩ := h
    exact ⟨Nat.le_refl _, [], Rps.nil _ _⟩
  · simp at h; obtain ⟨rfl, rfl, rfl⟩ := h
    refine ⟨hl, ?_⟩
    have hc5 : Try.prog.cellsOf 32 = 5 := by kernel_rfl
    obtain ⟨ms, hml, hms⟩ := choose_list (α := Rp) len (fun i r => ∃ m : RpM, (∀ j u, (valsR m r)[j]? = some u → w.cell? ((a.add (i * 5)).add j) = some u) ∧ m.Is w r) (fun i hi => by
      obtain ⟨ds, hd, hcell, hg⟩ := hx i hi
      obtain ⟨_, hf⟩ := hg.struct Try.underlying32
      rw [hc5] at hcell hd
      match ds, hd with
      | [u0, u1, u2, u3, u4], _ =>
        have f0 := hf 0 _ rfl
        have f1 := hf 1 _ rfl
        have f2 := hf 2 _ rfl
        have f3 := hf 3 _ rfl
        have f4 := hf 4 _ rfl
        simp only [List.getElem_toArray, List.getElem_cons_succ, List.getElem_cons_zero] at f0 f1 f2 f3 f4
        rw [show Try.prog.cellsOf 29 = 1 by kernel_rfl] at f0
        rw [show Try.prog.cellsOf 27 = 1 by kernel_rfl] at f1
        rw [show Try.prog.cellsOf 30 = 1 by kernel_rfl] at f2
        rw [show Try.prog.cellsOf 3 = 1 by kernel_rfl] at f3 f4
        simp only [List.drop_zero, List.take_succ_cons, List.take_zero, List.drop_succ_cons] at f0 f1 f2 f3 f4
        obtain ⟨o1, n1, c1, rfl, a1, a2, a3⟩ := some_of f0
        obtain ⟨o2, n2, c2, ls, rfl, b1, b2, b3⟩ := loss_of f1
        obtain ⟨o3, n3, c3, zs, rfl, d1, d2, d3⟩ := ints_of f2
        obtain ⟨x3, e3, _⟩ := f3.int Try.underlying3
        obtain ⟨x4, e4, _⟩ := f4.int Try.underlying3
        simp at e3 e4; subst e3; subst e4
        refine ⟨⟨n1, ls, zs, x3, x4⟩, ⟨o1, n1, c1, o2, n2, c2, o3, n3, c3⟩, fun j u hu => ?_, rfl, ⟨a2, b2, d2⟩, a1, b1, d1, a3, b3, d3⟩
        have hj : j < 5 := (List.getElem?_eq_some_iff.1 hu).1
        rw [hcell j hj]
        exact hu)
    refine ⟨ms, hml, by omega, fun i hi => ?_⟩
    obtain ⟨m, h1, h2⟩ := hms i _ (List.getElem?_eq_getElem (show i < ms.length by omega))
    rw [show ms.getD i r0 = ms[i] by simp [List.getD, show i < ms.length by omega]]
    exact ⟨a, m, rfl, h1, h2⟩
end Go.Proofs.Ytidjcbmdmecajaa
