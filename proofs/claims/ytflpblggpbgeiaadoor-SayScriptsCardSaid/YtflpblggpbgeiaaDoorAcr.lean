/- What an argument that is a slice of steps reads as; and the walk of SayScripts at such an argument. -/
import Derived.Test.YtflpblggpbgeiaaDoorSsc
import Derived.Test.YtflpblggpbgeiaaDoorAcl
namespace Go.Proofs.YtflpblggpbgeiaaDoor
open Go Go.RowKit Go.Calli
set_option linter.unusedVariables false
def OkN (a : Ac) : Prop := Byt a.nm ∧ a.nm.length ≤ maxLen ∧ i64 a.v ∧ i64 a.n ∧ i64 a.m ∧ i64 a.p ∧ i64 a.x
theorem acts_of {w : World} {ao : Option Addr} {len cap : Nat} (h : Legible Tryd.prog w 40 [.slice ao len cap]) : ∃ os, Recs vals7 7 ac0 w ao len os ∧ ∀ a ∈ os, OkN a := by
  rcases h.slice Tryd.underlying40 with h1 | ⟨a, l, c, h1, hl, hm, hx⟩
  · simp at h1; obtain ⟨rfl, rfl, rfl⟩ := h1
    exact ⟨[], Recs.nil _ _ _ _ _, by simp⟩
  · simp at h1; obtain ⟨rfl, rfl, rfl⟩ := h1
    have hc7 : Tryd.prog.cellsOf 23 = 7 := by kernel_rfl
    obtain ⟨ms, hml, hms⟩ := choose_list (α := Ac) len (fun i x => (∀ j u, (vals7 x)[j]? = some u → w.cell? ((a.add (i * 7)).add j) = some u) ∧ OkN x) (fun i hi => by
      obtain ⟨ds, hd, hcell, hg⟩ := hx i hi
      rw [hc7] at hcell
      obtain ⟨k, v, nm, n, m, p, x, rfl, hnb, hnl, iv, i_n, im, ip, ix, ik⟩ := act_of hg
      refine ⟨⟨k, v, nm, n, m, p, x⟩, fun j u hu => ?_, hnb, hnl, iv, i_n, im, ip, ix⟩
      have hj : j < 7 := (List.getElem?_eq_some_iff.1 hu).1
      rw [hcell j hj]
      exact hu)
    refine ⟨ms, ⟨hml, by omega, fun i hi => ⟨a, rfl, ?_⟩⟩, fun x hx => ?_⟩
    · have := (hms i _ (List.getElem?_eq_getElem (show i < ms.length by omega))).1
      rwa [show ms.getD i ac0 = ms[i] by simp [List.getD, show i < ms.length by omega]]
    · obtain ⟨i, hi, rfl⟩ := List.getElem_of_mem hx
      exact (hms i _ (List.getElem?_eq_getElem hi)).2
theorem sscr_of (ao : Option Addr) (n cap : Nat) (s : ByteArray) (w : World) (hm : HasM w) (g0 : Legible Tryd.prog w 40 [.slice ao n cap]) (hs : s.size ≤ maxLen) : Calls Tryd.prog 8 #[.slice ao n cap, .string s] w (TrueP w) := by
  obtain ⟨os, hR, hos⟩ := acts_of g0
  have := sscr_any ao n cap os (numsOf s) w hm hR hos (numsOf_byt s) (by rw [numsOf_len]; exact hs)
  rwa [strOf_numsOf] at this
end Go.Proofs.YtflpblggpbgeiaaDoor
