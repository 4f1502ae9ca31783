/- A drawn region behind a call: what is left of it only computes, in whatever order. Plain laws over the kit's own. No program in sight. -/
import Derived.Test.YtpbeehfafbgphaaCommon
import Derived.Deep.RegionHeld3
import Derived.StillTailTactics
namespace Go.Calli
open Go
variable {P : Program} {md : Region.Mode} {w : World} {S : World → Prop} {Q : Exit → Act → World → Prop}
theorem wpAnyH_still {ops : Array Oper} {Q' : Act → Prop} (hS : S w) (hQ : ∀ a, Q' a → Q .normal a w) : ∀ (fuel : Nat) (listed : Array Bool) (a : Act),
    wpAnyS P md ops w Q' fuel listed a → wpAnyH P md ops Q S fuel listed a w
  | 0, _, _, h => ⟨h.1, hQ _ h.2⟩
  | fuel + 1, _, _, h => ⟨fun h0 => hQ _ (h.1 h0), fun i hi => wpOp_of_stOp (fun a' h' => ⟨hS, wpAnyH_still hS hQ fuel _ a' h'⟩) (h.2 i hi)⟩
/-- From the k-th operation on all that is left only computes. -/
theorem wpAnyH_rest {l : List Oper} (k : Nat) {fuel : Nat} {listed : Array Bool} {a : Act} (hs : Region.noSelect l.toArray = true) (hB : Region.lexFrom md l.toArray fuel k listed = true) (hf : (l.drop k).length = fuel) (hS : S w)
    (h : wpStill P l.toArray w (fun a' => Q .normal a' w) (l.drop k) a) : wpAnyH P md l.toArray Q S fuel listed a w := by
  subst hf
  exact wpAnyH_still hS (fun _ h => h) _ _ _ (wpAnyS_lex hs _ k listed a (fun j => by rw [List.getElem?_drop]; simp) hB h)
end Go.Calli
