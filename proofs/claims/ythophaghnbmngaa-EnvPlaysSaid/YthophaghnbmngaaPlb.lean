/- What the argument of EnvPlays reads as. -/
import Derived.Test.YthophaghnbmngaaPla
namespace Go.Proofs.Ythophaghnbmngaa
open Go.RowKit Go.Calli Go.Envp
def boolOf : Value → Bool
  | .bool b => b
  | _ => false
theorem bools_of {w : World} {ao : Option Addr} {len : Nat} {vs : List Value} (hm : len ≤ maxLen) (hrow : Row w ao len vs) (hv : ∀ v ∈ vs, ∃ b, v = .bool b) : Bools w ao len (vs.map boolOf) := by
  refine ⟨hm, fun i hi => ?_⟩
  have hi' : i < vs.length := by rw [hrow.hlen]; exact hi
  obtain ⟨a, ha, hc⟩ := hrow.cell i vs[i] (List.getElem?_eq_getElem hi')
  obtain ⟨b, hb⟩ := hv vs[i] (List.getElem_mem hi')
  refine ⟨a, ha, ?_⟩
  rw [hc]
  simp [hi', hb, boolOf]
end Go.Proofs.Ythophaghnbmngaa
