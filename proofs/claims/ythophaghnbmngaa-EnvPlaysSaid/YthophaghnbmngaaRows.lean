/-
  No cell of these rows narrows 'for every input' (looked for: loops, veiled, ifaces, maps, wideKeys, modest, calm, conditions, laid).
  DERIVED. THE GIVEN ROWS OF THIS SEAT. 3 by the template 'for every input the law returns true; each argument reads behind the call as it read before'; 0 by the template 'total and deterministic' (their statements: YthophaghnbmngaaTotals.lean).
  GIVEN WITH THE SEED: the statements are not yours to turn. If you find one false, say at which input.
  Laid BY PROGRAM, IN A SANDBOX (cutbox-rows.mjs): the forced cells as the released guide's own fill.sh prints them over the translation 9c72525d566c9ca8… (all of the seat's roots in one cut). By AI agents, Wed Nov 11 2026. No macro, syntax, notation, axiom, sorry.
-/
import Derived.Test.YthophaghnbmngaaChecked
import GoSem.Claim
import GoSem.ClaimJoined
import GoSem.ClaimMapViews
import Derived.JoinedTies
import Derived.KernelRfl
namespace Go.Proofs.Ythophaghnbmngaa
/- THE CELL 'sum', in the pinned program and in every row, IS THE sha256 OF THE DUMP (.gsa) THAT YthophaghnbmngaaProg.lean LOADS. Nothing in Lean hashes anything: it is a label: what it is worth is what the hold of that sum in a sandbox is worth. -/
noncomputable def Try.pinned : Pinned := { name := "ythophaghnbmngaa", sum := "9c72525d566c9ca8201b368716e0ef117f0f341953a14a37de022ec70efd9e9d", checked := Try.checked }
namespace Rows
def none {H : Type} : Left H := { results := [], args := [] }

/-- 'calliopelaw22.EnvPlays': WHATEVER THE INPUT: true; the input reads as it did. -/
def envPlaysSpec : ChangeSpec := { name := "envPlays", fn := fun _ => fun
  | [d1, d2] => { results := [.lit (.bool true)], args := [d1, d2] }
  | _ => none }
def envPlaysRow : OpenClaim := { program := "ythophaghnbmngaa", sum := "9c72525d566c9ca8201b368716e0ef117f0f341953a14a37de022ec70efd9e9d", func := "calliope/calliopelaw22.EnvPlays", spec := "envPlays", apart := false }
def EnvPlaysSaid : Prop := envPlaysRow.holds Try.pinned (OpenSpec.ofChange envPlaysSpec)

/-- ITS FALSE NEIGHBOUR: 'it returns false'. Refute it at one input. -/
def envPlaysWrong : ChangeSpec := { name := "envPlays", fn := fun _ => fun
  | [d1, d2] => { results := [.lit (.bool false)], args := [d1, d2] }
  | _ => none }
def EnvPlaysWrongFalsely : Prop := envPlaysRow.holds Try.pinned (OpenSpec.ofChange envPlaysWrong)

/-- 'calliopelaw22.EnvBounds': WHATEVER THE INPUT: true; the input reads as it did. -/
def envBoundsSpec : ChangeSpec := { name := "envBounds", fn := fun _ => fun
  | [d1, d2] => { results := [.lit (.bool true)], args := [d1, d2] }
  | _ => none }
def envBoundsRow : OpenClaim := { program := "ythophaghnbmngaa", sum := "9c72525d566c9ca8201b368716e0ef117f0f341953a14a37de022ec70efd9e9d", func := "calliope/calliopelaw22.EnvBounds", spec := "envBounds", apart := false }
def EnvBoundsSaid : Prop := envBoundsRow.holds Try.pinned (OpenSpec.ofChange envBoundsSpec)

/-- ITS FALSE NEIGHBOUR: 'it returns false'. Refute it at one input. -/
def envBoundsWrong : ChangeSpec := { name := "envBounds", fn := fun _ => fun
  | [d1, d2] => { results := [.lit (.bool false)], args := [d1, d2] }
  | _ => none }
def EnvBoundsWrongFalsely : Prop := envBoundsRow.holds Try.pinned (OpenSpec.ofChange envBoundsWrong)

/-- 'calliopelaw22.EnvRuns': WHATEVER THE INPUT: true; the input reads as it did. -/
def envRunsSpec : ChangeSpec := { name := "envRuns", fn := fun _ => fun
  | [d1, d2] => { results := [.lit (.bool true)], args := [d1, d2] }
  | _ => none }
def envRunsRow : OpenClaim := { program := "ythophaghnbmngaa", sum := "9c72525d566c9ca8201b368716e0ef117f0f341953a14a37de022ec70efd9e9d", func := "calliope/calliopelaw22.EnvRuns", spec := "envRuns", apart := false }
def EnvRunsSaid : Prop := envRunsRow.holds Try.pinned (OpenSpec.ofChange envRunsSpec)

/-- ITS FALSE NEIGHBOUR: 'it returns false'. Refute it at one input. -/
def envRunsWrong : ChangeSpec := { name := "envRuns", fn := fun _ => fun
  | [d1, d2] => { results := [.lit (.bool false)], args := [d1, d2] }
  | _ => none }
def EnvRunsWrongFalsely : Prop := envRunsRow.holds Try.pinned (OpenSpec.ofChange envRunsWrong)

/- THE SECOND FORM. 'bulk': how many values and letters a reading holds, each counted each time it is reached (what is shared counts as often as it is met; a slice's spare places count too). A statement '..UptoSaid' is the law's where the arguments, and the package variables that the reading takes, are together of bulk at most 1048576: NARROWER than '..Said'. Prove '..Said' where nothing that the law and all that it calls make is longer than what came in: it says more and counts as full. Else prove '..UptoSaid'. A law counts once. -/
mutual
def uptoBulk {H : Type} : DataW H → Nat
  | .lit (.string bytes) => bytes.length + 1
  | .lit _ => 1
  | .nil => 1
  | .ptr d => uptoBulk d + 1
  | .slice elems spare => uptoBulkAll elems + uptoBulkAll spare + 1
  | .agg parts => uptoBulkAll parts + 1
  | .iface _ d => uptoBulk d + 1
  | .map entries => uptoBulkEntries entries + 1
  | .held _ => 1
def uptoBulkAll {H : Type} : List (DataW H) → Nat
  | [] => 0
  | d :: r => uptoBulk d + uptoBulkAll r
def uptoBulkEntries {H : Type} : List (Lit × DataW H) → Nat
  | [] => 0
  | x :: r => uptoBulkEntry x + uptoBulkEntries r
def uptoBulkEntry {H : Type} : Lit × DataW H → Nat
  | (.string bytes, d) => bytes.length + uptoBulk d + 1
  | (_, d) => uptoBulk d + 1
 end
def uptoSmall : (H : Type) → List (DataW H) → Bool := fun _ ds => decide (uptoBulkAll ds ≤ 1048576)
def OpenSpec.upto (s : _root_.Go.ChangeSpec) : _root_.Go.OpenSpec := { _root_.Go.OpenSpec.ofChange s with cond := some uptoSmall }

/-- 'calliopelaw22.EnvPlays', WHERE WHAT IT READS IS OF BULK AT MOST 1048576: true; the input reads as it did. -/
def envPlaysUptoRow : OpenClaim := { program := "ythophaghnbmngaa", sum := "9c72525d566c9ca8201b368716e0ef117f0f341953a14a37de022ec70efd9e9d", func := "calliope/calliopelaw22.EnvPlays", spec := "envPlays", apart := false, narrowed := true }
def EnvPlaysUptoSaid : Prop := envPlaysUptoRow.holds Try.pinned (OpenSpec.upto envPlaysSpec)

/-- 'calliopelaw22.EnvBounds', WHERE WHAT IT READS IS OF BULK AT MOST 1048576: true; the input reads as it did. -/
def envBoundsUptoRow : OpenClaim := { program := "ythophaghnbmngaa", sum := "9c72525d566c9ca8201b368716e0ef117f0f341953a14a37de022ec70efd9e9d", func := "calliope/calliopelaw22.EnvBounds", spec := "envBounds", apart := false, narrowed := true }
def EnvBoundsUptoSaid : Prop := envBoundsUptoRow.holds Try.pinned (OpenSpec.upto envBoundsSpec)

/-- 'calliopelaw22.EnvRuns', WHERE WHAT IT READS IS OF BULK AT MOST 1048576: true; the input reads as it did. -/
def envRunsUptoRow : OpenClaim := { program := "ythophaghnbmngaa", sum := "9c72525d566c9ca8201b368716e0ef117f0f341953a14a37de022ec70efd9e9d", func := "calliope/calliopelaw22.EnvRuns", spec := "envRuns", apart := false, narrowed := true }
def EnvRunsUptoSaid : Prop := envRunsUptoRow.holds Try.pinned (OpenSpec.upto envRunsSpec)

end Rows
end Go.Proofs.Ythophaghnbmngaa
