/-
  No cell of these rows narrows 'for every input' (looked for: loops, veiled, ifaces, maps, wideKeys, modest, calm, conditions, laid).
  DERIVED. THE GIVEN ROWS OF THIS SEAT. 4 by the template 'for every input the law returns true; each argument reads behind the call as it read before'; 0 by the template 'total and deterministic' (their statements: YtmhlmaimmbopfaaTotals.lean).
  GIVEN WITH THE SEED: the statements are not yours to turn. If you find one false, say at which input.
  Laid BY PROGRAM, IN A SANDBOX (cutbox-rows.mjs): the forced cells as the released guide's own fill.sh prints them over the translation dab335881b75c2e3… (all of the seat's roots in one cut). By AI agents, Wed Nov 11 2026. No macro, syntax, notation, axiom, sorry.
-/
import Derived.Test.YtmhlmaimmbopfaaChecked
import GoSem.Claim
import GoSem.ClaimJoined
import GoSem.ClaimMapViews
import Derived.JoinedTies
import Derived.KernelRfl
namespace Go.Proofs.Ytmhlmaimmbopfaa
/- THE CELL 'sum', in the pinned program and in every row, IS THE sha256 OF THE DUMP (.gsa) THAT YtmhlmaimmbopfaaProg.lean LOADS. Nothing in Lean hashes anything: it is a label: what it is worth is what the hold of that sum in a sandbox is worth. -/
noncomputable def Try.pinned : Pinned := { name := "ytmhlmaimmbopfaa", sum := "dab335881b75c2e3fdcb039a5144abe4fdeee152f7ece5e687b8c7eaac75ab93", checked := Try.checked }
namespace Rows
def none {H : Type} : Left H := { results := [], args := [] }

/-- 'calliopelaw37.MidiNumbers': WHATEVER THE INPUT: true; the input reads as it did. -/
def midiNumbersSpec : ChangeSpec := { name := "midiNumbers", fn := fun _ => fun
  | [d1, d2] => { results := [.lit (.bool true)], args := [d1, d2] }
  | _ => none }
def midiNumbersRow : OpenClaim := { program := "ytmhlmaimmbopfaa", sum := "dab335881b75c2e3fdcb039a5144abe4fdeee152f7ece5e687b8c7eaac75ab93", func := "calliope/calliopelaw37.MidiNumbers", spec := "midiNumbers", apart := false }
def MidiNumbersSaid : Prop := midiNumbersRow.holds Try.pinned (OpenSpec.ofChange midiNumbersSpec)

/-- ITS FALSE NEIGHBOUR: 'it returns false'. Refute it at one input. -/
def midiNumbersWrong : ChangeSpec := { name := "midiNumbers", fn := fun _ => fun
  | [d1, d2] => { results := [.lit (.bool false)], args := [d1, d2] }
  | _ => none }
def MidiNumbersWrongFalsely : Prop := midiNumbersRow.holds Try.pinned (OpenSpec.ofChange midiNumbersWrong)

/-- 'calliopelaw37.MidiSpans': WHATEVER THE INPUT: true; the input reads as it did. -/
def midiSpansSpec : ChangeSpec := { name := "midiSpans", fn := fun _ => fun
  | [d] => { results := [.lit (.bool true)], args := [d] }
  | _ => none }
def midiSpansRow : OpenClaim := { program := "ytmhlmaimmbopfaa", sum := "dab335881b75c2e3fdcb039a5144abe4fdeee152f7ece5e687b8c7eaac75ab93", func := "calliope/calliopelaw37.MidiSpans", spec := "midiSpans", unfollowed := true, recurses := true, apart := false }
def MidiSpansSaid : Prop := midiSpansRow.holds Try.pinned (OpenSpec.ofChange midiSpansSpec)

/-- ITS FALSE NEIGHBOUR: 'it returns false'. Refute it at one input. -/
def midiSpansWrong : ChangeSpec := { name := "midiSpans", fn := fun _ => fun
  | [d] => { results := [.lit (.bool false)], args := [d] }
  | _ => none }
def MidiSpansWrongFalsely : Prop := midiSpansRow.holds Try.pinned (OpenSpec.ofChange midiSpansWrong)

/-- 'calliopelaw37.MidiBytes': WHATEVER THE INPUT: true; the input reads as it did. -/
def midiBytesSpec : ChangeSpec := { name := "midiBytes", fn := fun _ => fun
  | [d] => { results := [.lit (.bool true)], args := [d] }
  | _ => none }
def midiBytesRow : OpenClaim := { program := "ytmhlmaimmbopfaa", sum := "dab335881b75c2e3fdcb039a5144abe4fdeee152f7ece5e687b8c7eaac75ab93", func := "calliope/calliopelaw37.MidiBytes", spec := "midiBytes", apart := false }
def MidiBytesSaid : Prop := midiBytesRow.holds Try.pinned (OpenSpec.ofChange midiBytesSpec)

/-- ITS FALSE NEIGHBOUR: 'it returns false'. Refute it at one input. -/
def midiBytesWrong : ChangeSpec := { name := "midiBytes", fn := fun _ => fun
  | [d] => { results := [.lit (.bool false)], args := [d] }
  | _ => none }
def MidiBytesWrongFalsely : Prop := midiBytesRow.holds Try.pinned (OpenSpec.ofChange midiBytesWrong)

/-- 'calliopelaw37.MidiReads': WHATEVER THE INPUT: true; the input reads as it did. -/
def midiReadsSpec : ChangeSpec := { name := "midiReads", fn := fun _ => fun
  | [d1, d2] => { results := [.lit (.bool true)], args := [d1, d2] }
  | _ => none }
def midiReadsRow : OpenClaim := { program := "ytmhlmaimmbopfaa", sum := "dab335881b75c2e3fdcb039a5144abe4fdeee152f7ece5e687b8c7eaac75ab93", func := "calliope/calliopelaw37.MidiReads", spec := "midiReads", apart := false }
def MidiReadsSaid : Prop := midiReadsRow.holds Try.pinned (OpenSpec.ofChange midiReadsSpec)

/-- ITS FALSE NEIGHBOUR: 'it returns false'. Refute it at one input. -/
def midiReadsWrong : ChangeSpec := { name := "midiReads", fn := fun _ => fun
  | [d1, d2] => { results := [.lit (.bool false)], args := [d1, d2] }
  | _ => none }
def MidiReadsWrongFalsely : Prop := midiReadsRow.holds Try.pinned (OpenSpec.ofChange midiReadsWrong)

/- THE SECOND FORM. 'bulk': how many values and letters a reading holds, each counted each time it is reached (what is shared counts as often as it is met; a slice's spare places count too). A statement '..UptoSaid' is the law's where the arguments, and the package variables that the reading takes, are together of bulk at most 1048576: NARROWER than '..Said'. Prove '..Said' where nothing that the law and all that it calls make is longer than what came in: it says more and counts as full. Else prove '..UptoSaid'. A law counts once. -/
mutual
def uptoBulk {H : Type} : DataW H → Nat
  | .lit (.string bytes) => bytes.length + 1
  | .lit _ => 1
  | .nil => 1
  | .ptr d => uptoBulk d + 1
  | .slice elems spare => uptoBulkAll elems + uptoBulkAll spare + 1
  | .agg parts => uptoBulkAll parts + 1
  | .iface _ d => uptoBulk d + 1
  | .map entries => uptoBulkEntries entries + 1
  | .held _ => 1
def uptoBulkAll {H : Type} : List (DataW H) → Nat
  | [] => 0
  | d :: r => uptoBulk d + uptoBulkAll r
def uptoBulkEntries {H : Type} : List (Lit × DataW H) → Nat
  | [] => 0
  | x :: r => uptoBulkEntry x + uptoBulkEntries r
def uptoBulkEntry {H : Type} : Lit × DataW H → Nat
  | (.string bytes, d) => bytes.length + uptoBulk d + 1
  | (_, d) => uptoBulk d + 1
 end
def uptoSmall : (H : Type) → List (DataW H) → Bool := fun _ ds => decide (uptoBulkAll ds ≤ 1048576)
def OpenSpec.upto (s : _root_.Go.ChangeSpec) : _root_.Go.OpenSpec := { _root_.Go.OpenSpec.ofChange s with cond := some uptoSmall }

/-- 'calliopelaw37.MidiNumbers', WHERE WHAT IT READS IS OF BULK AT MOST 1048576: true; the input reads as it did. -/
def midiNumbersUptoRow : OpenClaim := { program := "ytmhlmaimmbopfaa", sum := "dab335881b75c2e3fdcb039a5144abe4fdeee152f7ece5e687b8c7eaac75ab93", func := "calliope/calliopelaw37.MidiNumbers", spec := "midiNumbers", apart := false, narrowed := true }
def MidiNumbersUptoSaid : Prop := midiNumbersUptoRow.holds Try.pinned (OpenSpec.upto midiNumbersSpec)

/-- 'calliopelaw37.MidiSpans', WHERE WHAT IT READS IS OF BULK AT MOST 1048576: true; the input reads as it did. -/
def midiSpansUptoRow : OpenClaim := { program := "ytmhlmaimmbopfaa", sum := "dab335881b75c2e3fdcb039a5144abe4fdeee152f7ece5e687b8c7eaac75ab93", func := "calliope/calliopelaw37.MidiSpans", spec := "midiSpans", unfollowed := true, recurses := true, apart := false, narrowed := true }
def MidiSpansUptoSaid : Prop := midiSpansUptoRow.holds Try.pinned (OpenSpec.upto midiSpansSpec)

/-- 'calliopelaw37.MidiBytes', WHERE WHAT IT READS IS OF BULK AT MOST 1048576: true; the input reads as it did. -/
def midiBytesUptoRow : OpenClaim := { program := "ytmhlmaimmbopfaa", sum := "dab335881b75c2e3fdcb039a5144abe4fdeee152f7ece5e687b8c7eaac75ab93", func := "calliope/calliopelaw37.MidiBytes", spec := "midiBytes", apart := false, narrowed := true }
def MidiBytesUptoSaid : Prop := midiBytesUptoRow.holds Try.pinned (OpenSpec.upto midiBytesSpec)

/-- 'calliopelaw37.MidiReads', WHERE WHAT IT READS IS OF BULK AT MOST 1048576: true; the input reads as it did. -/
def midiReadsUptoRow : OpenClaim := { program := "ytmhlmaimmbopfaa", sum := "dab335881b75c2e3fdcb039a5144abe4fdeee152f7ece5e687b8c7eaac75ab93", func := "calliope/calliopelaw37.MidiReads", spec := "midiReads", apart := false, narrowed := true }
def MidiReadsUptoSaid : Prop := midiReadsUptoRow.holds Try.pinned (OpenSpec.upto midiReadsSpec)

end Rows
end Go.Proofs.Ytmhlmaimmbopfaa
