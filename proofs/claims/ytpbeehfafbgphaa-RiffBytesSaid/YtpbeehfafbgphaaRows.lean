/-
  No cell of these rows narrows 'for every input' (looked for: loops, veiled, ifaces, maps, wideKeys, modest, calm, conditions, laid).
  DERIVED. THE GIVEN ROWS OF THIS SEAT. 4 by the template 'for every input the law returns true; each argument reads behind the call as it read before'; 0 by the template 'total and deterministic' (their statements: YtpbeehfafbgphaaTotals.lean).
  GIVEN WITH THE SEED: the statements are not yours to turn. If you find one false, say at which input.
  Laid BY PROGRAM, IN A SANDBOX (cutbox-rows.mjs): the forced cells as the released guide's own fill.sh prints them over the translation 3eaaeb4a09ac1bfc… (all of the seat's roots in one cut). By AI agents, Wed Nov 11 2026. No macro, syntax, notation, axiom, sorry.
-/
import Derived.Test.YtpbeehfafbgphaaChecked
import GoSem.Claim
import GoSem.ClaimJoined
import GoSem.ClaimMapViews
import Derived.JoinedTies
import Derived.KernelRfl
namespace Go.Proofs.Ytpbeehfafbgphaa
/- THE CELL 'sum', in the pinned program and in every row, IS THE sha256 OF THE DUMP (.gsa) THAT YtpbeehfafbgphaaProg.lean LOADS. Nothing in Lean hashes anything: it is a label: what it is worth is what the hold of that sum in a sandbox is worth. -/
noncomputable def Try.pinned : Pinned := { name := "ytpbeehfafbgphaa", sum := "3eaaeb4a09ac1bfc8839e1554e1587f7867aa66e7c75283586f294c7fd5487ec", checked := Try.checked }
namespace Rows
def none {H : Type} : Left H := { results := [], args := [] }

/-- 'calliopelaw28.RiffChunks': WHATEVER THE INPUT: true; the input reads as it did. -/
def riffChunksSpec : ChangeSpec := { name := "riffChunks", fn := fun _ => fun
  | [d] => { results := [.lit (.bool true)], args := [d] }
  | _ => none }
def riffChunksRow : OpenClaim := { program := "ytpbeehfafbgphaa", sum := "3eaaeb4a09ac1bfc8839e1554e1587f7867aa66e7c75283586f294c7fd5487ec", func := "calliope/calliopelaw28.RiffChunks", spec := "riffChunks", apart := false }
def RiffChunksSaid : Prop := riffChunksRow.holds Try.pinned (OpenSpec.ofChange riffChunksSpec)

/-- ITS FALSE NEIGHBOUR: 'it returns false'. Refute it at one input. -/
def riffChunksWrong : ChangeSpec := { name := "riffChunks", fn := fun _ => fun
  | [d] => { results := [.lit (.bool false)], args := [d] }
  | _ => none }
def RiffChunksWrongFalsely : Prop := riffChunksRow.holds Try.pinned (OpenSpec.ofChange riffChunksWrong)

/-- 'calliopelaw28.RiffSplits': WHATEVER THE INPUT: true; the input reads as it did. -/
def riffSplitsSpec : ChangeSpec := { name := "riffSplits", fn := fun _ => fun
  | [d] => { results := [.lit (.bool true)], args := [d] }
  | _ => none }
def riffSplitsRow : OpenClaim := { program := "ytpbeehfafbgphaa", sum := "3eaaeb4a09ac1bfc8839e1554e1587f7867aa66e7c75283586f294c7fd5487ec", func := "calliope/calliopelaw28.RiffSplits", spec := "riffSplits", apart := false }
def RiffSplitsSaid : Prop := riffSplitsRow.holds Try.pinned (OpenSpec.ofChange riffSplitsSpec)

/-- ITS FALSE NEIGHBOUR: 'it returns false'. Refute it at one input. -/
def riffSplitsWrong : ChangeSpec := { name := "riffSplits", fn := fun _ => fun
  | [d] => { results := [.lit (.bool false)], args := [d] }
  | _ => none }
def RiffSplitsWrongFalsely : Prop := riffSplitsRow.holds Try.pinned (OpenSpec.ofChange riffSplitsWrong)

/-- 'calliopelaw28.RiffReads': WHATEVER THE INPUT: true; the input reads as it did. -/
def riffReadsSpec : ChangeSpec := { name := "riffReads", fn := fun _ => fun
  | [d1, d2] => { results := [.lit (.bool true)], args := [d1, d2] }
  | _ => none }
def riffReadsRow : OpenClaim := { program := "ytpbeehfafbgphaa", sum := "3eaaeb4a09ac1bfc8839e1554e1587f7867aa66e7c75283586f294c7fd5487ec", func := "calliope/calliopelaw28.RiffReads", spec := "riffReads", apart := false }
def RiffReadsSaid : Prop := riffReadsRow.holds Try.pinned (OpenSpec.ofChange riffReadsSpec)

/-- ITS FALSE NEIGHBOUR: 'it returns false'. Refute it at one input. -/
def riffReadsWrong : ChangeSpec := { name := "riffReads", fn := fun _ => fun
  | [d1, d2] => { results := [.lit (.bool false)], args := [d1, d2] }
  | _ => none }
def RiffReadsWrongFalsely : Prop := riffReadsRow.holds Try.pinned (OpenSpec.ofChange riffReadsWrong)

/-- 'calliopelaw28.RiffBytes': WHATEVER THE INPUT: true; the input reads as it did. -/
def riffBytesSpec : ChangeSpec := { name := "riffBytes", fn := fun _ => fun
  | [d] => { results := [.lit (.bool true)], args := [d] }
  | _ => none }
def riffBytesRow : OpenClaim := { program := "ytpbeehfafbgphaa", sum := "3eaaeb4a09ac1bfc8839e1554e1587f7867aa66e7c75283586f294c7fd5487ec", func := "calliope/calliopelaw28.RiffBytes", spec := "riffBytes", apart := false }
def RiffBytesSaid : Prop := riffBytesRow.holds Try.pinned (OpenSpec.ofChange riffBytesSpec)

/-- ITS FALSE NEIGHBOUR: 'it returns false'. Refute it at one input. -/
def riffBytesWrong : ChangeSpec := { name := "riffBytes", fn := fun _ => fun
  | [d] => { results := [.lit (.bool false)], args := [d] }
  | _ => none }
def RiffBytesWrongFalsely : Prop := riffBytesRow.holds Try.pinned (OpenSpec.ofChange riffBytesWrong)

/- THE SECOND FORM. 'bulk': how many values and letters a reading holds, each counted each time it is reached (what is shared counts as often as it is met; a slice's spare places count too). A statement '..UptoSaid' is the law's where the arguments, and the package variables that the reading takes, are together of bulk at most 1048576: NARROWER than '..Said'. Prove '..Said' where nothing that the law and all that it calls make is longer than what came in: it says more and counts as full. Else prove '..UptoSaid'. A law counts once. -/
mutual
def uptoBulk {H : Type} : DataW H → Nat
  | .lit (.string bytes) => bytes.length + 1
  | .lit _ => 1
  | .nil => 1
  | .ptr d => uptoBulk d + 1
  | .slice elems spare => uptoBulkAll elems + uptoBulkAll spare + 1
  | .agg parts => uptoBulkAll parts + 1
  | .iface _ d => uptoBulk d + 1
  | .map entries => uptoBulkEntries entries + 1
  | .held _ => 1
def uptoBulkAll {H : Type} : List (DataW H) → Nat
  | [] => 0
  | d :: r => uptoBulk d + uptoBulkAll r
def uptoBulkEntries {H : Type} : List (Lit × DataW H) → Nat
  | [] => 0
  | x :: r => uptoBulkEntry x + uptoBulkEntries r
def uptoBulkEntry {H : Type} : Lit × DataW H → Nat
  | (.string bytes, d) => bytes.length + uptoBulk d + 1
  | (_, d) => uptoBulk d + 1
 end
def uptoSmall : (H : Type) → List (DataW H) → Bool := fun _ ds => decide (uptoBulkAll ds ≤ 1048576)
def OpenSpec.upto (s : _root_.Go.ChangeSpec) : _root_.Go.OpenSpec := { _root_.Go.OpenSpec.ofChange s with cond := some uptoSmall }

/-- 'calliopelaw28.RiffChunks', WHERE WHAT IT READS IS OF BULK AT MOST 1048576: true; the input reads as it did. -/
def riffChunksUptoRow : OpenClaim := { program := "ytpbeehfafbgphaa", sum := "3eaaeb4a09ac1bfc8839e1554e1587f7867aa66e7c75283586f294c7fd5487ec", func := "calliope/calliopelaw28.RiffChunks", spec := "riffChunks", apart := false, narrowed := true }
def RiffChunksUptoSaid : Prop := riffChunksUptoRow.holds Try.pinned (OpenSpec.upto riffChunksSpec)

/-- 'calliopelaw28.RiffSplits', WHERE WHAT IT READS IS OF BULK AT MOST 1048576: true; the input reads as it did. -/
def riffSplitsUptoRow : OpenClaim := { program := "ytpbeehfafbgphaa", sum := "3eaaeb4a09ac1bfc8839e1554e1587f7867aa66e7c75283586f294c7fd5487ec", func := "calliope/calliopelaw28.RiffSplits", spec := "riffSplits", apart := false, narrowed := true }
def RiffSplitsUptoSaid : Prop := riffSplitsUptoRow.holds Try.pinned (OpenSpec.upto riffSplitsSpec)

/-- 'calliopelaw28.RiffReads', WHERE WHAT IT READS IS OF BULK AT MOST 1048576: true; the input reads as it did. -/
def riffReadsUptoRow : OpenClaim := { program := "ytpbeehfafbgphaa", sum := "3eaaeb4a09ac1bfc8839e1554e1587f7867aa66e7c75283586f294c7fd5487ec", func := "calliope/calliopelaw28.RiffReads", spec := "riffReads", apart := false, narrowed := true }
def RiffReadsUptoSaid : Prop := riffReadsUptoRow.holds Try.pinned (OpenSpec.upto riffReadsSpec)

/-- 'calliopelaw28.RiffBytes', WHERE WHAT IT READS IS OF BULK AT MOST 1048576: true; the input reads as it did. -/
def riffBytesUptoRow : OpenClaim := { program := "ytpbeehfafbgphaa", sum := "3eaaeb4a09ac1bfc8839e1554e1587f7867aa66e7c75283586f294c7fd5487ec", func := "calliope/calliopelaw28.RiffBytes", spec := "riffBytes", apart := false, narrowed := true }
def RiffBytesUptoSaid : Prop := riffBytesUptoRow.holds Try.pinned (OpenSpec.upto riffBytesSpec)

end Rows
end Go.Proofs.Ytpbeehfafbgphaa
