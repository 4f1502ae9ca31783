/- The statement MidiReads: all. -/
import Derived.Test.YtmhlmaimmbopfaaMre
import Derived.Test.YtmhlmaimmbopfaaMrf
namespace Go.Proofs.Ytmhlmaimmbopfaa
open Go Go.RowKit Go.Calli
set_option linter.unusedVariables false
set_option linter.unusedSimpArgs false
attribute [local irreducible] wpStill wpAnyH wpAnyS wpList Code.wp
theorem midiReads_any (bo ao : Option Addr) (n0 kap m0' cap : Nat) (bs0 : List Int) (l0 : List Msg) (hb0 : n0 ≤ kap) (hc : m0' ≤ cap) (w : World) (hB0 : Ints .u8 w bo n0 bs0) (h0 : Msgs w ao m0' l0) : Calls Try.prog 6 #[.slice bo n0 kap, .slice ao m0' cap] w (TruePost w) := by
  rcases decL_err (min n0 200) 0 0 (bs0.take (min n0 200)) with h | h | h | h
  · exact midiReads_zero bo ao n0 kap m0' cap bs0 l0 (fun E xs e => by rw [e] at h; exact h) hb0 hc w hB0 h0
  · exact midiReads_2 bo ao n0 kap m0' cap bs0 l0 (fun E xs e => by rw [e] at h; exact h) hb0 hc w hB0 h0
  · exact midiReads_4 bo ao n0 kap m0' cap bs0 l0 (fun E xs e => by rw [e] at h; exact h) hb0 hc w hB0 h0
  · exact midiReads_5 bo ao n0 kap m0' cap bs0 l0 (fun E xs e => by rw [e] at h; exact h) hb0 hc w hB0 h0
end Go.Proofs.Ytmhlmaimmbopfaa
