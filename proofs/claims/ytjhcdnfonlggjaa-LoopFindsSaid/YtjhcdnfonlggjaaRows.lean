/-
  No cell of these rows narrows 'for every input' (looked for: loops, veiled, ifaces, maps, wideKeys, modest, calm, conditions, laid).
  DERIVED. THE GIVEN ROWS OF THIS SEAT. 4 by the template 'for every input the law returns true; each argument reads behind the call as it read before'; 0 by the template 'total and deterministic' (their statements: YtjhcdnfonlggjaaTotals.lean).
  GIVEN WITH THE SEED: the statements are not yours to turn. If you find one false, say at which input.
  Laid BY PROGRAM, IN A SANDBOX (cutbox-rows.mjs): the forced cells as the released guide's own fill.sh prints them over the translation 09fa23839c90c9ec… (all of the seat's roots in one cut). By AI agents, Wed Nov 11 2026. No macro, syntax, notation, axiom, sorry.
-/
import Derived.Test.YtjhcdnfonlggjaaChecked
import GoSem.Claim
import GoSem.ClaimJoined
import GoSem.ClaimMapViews
import Derived.JoinedTies
import Derived.KernelRfl
namespace Go.Proofs.Ytjhcdnfonlggjaa
/- THE CELL 'sum', in the pinned program and in every row, IS THE sha256 OF THE DUMP (.gsa) THAT YtjhcdnfonlggjaaProg.lean LOADS. Nothing in Lean hashes anything: it is a label: what it is worth is what the hold of that sum in a sandbox is worth. -/
noncomputable def Try.pinned : Pinned := { name := "ytjhcdnfonlggjaa", sum := "09fa23839c90c9ec4d7b66af58bac22b426c030d852cc1489798aa45e64ca44d", checked := Try.checked }
namespace Rows
def none {H : Type} : Left H := { results := [], args := [] }

/-- 'calliopelaw30.LoopRounds': WHATEVER THE INPUT: true; the input reads as it did. -/
def loopRoundsSpec : ChangeSpec := { name := "loopRounds", fn := fun _ => fun
  | [d1, d2, d3, d4] => { results := [.lit (.bool true)], args := [d1, d2, d3, d4] }
  | _ => none }
def loopRoundsRow : OpenClaim := { program := "ytjhcdnfonlggjaa", sum := "09fa23839c90c9ec4d7b66af58bac22b426c030d852cc1489798aa45e64ca44d", func := "calliope/calliopelaw30.LoopRounds", spec := "loopRounds", apart := false }
def LoopRoundsSaid : Prop := loopRoundsRow.holds Try.pinned (OpenSpec.ofChange loopRoundsSpec)

/-- ITS FALSE NEIGHBOUR: 'it returns false'. Refute it at one input. -/
def loopRoundsWrong : ChangeSpec := { name := "loopRounds", fn := fun _ => fun
  | [d1, d2, d3, d4] => { results := [.lit (.bool false)], args := [d1, d2, d3, d4] }
  | _ => none }
def LoopRoundsWrongFalsely : Prop := loopRoundsRow.holds Try.pinned (OpenSpec.ofChange loopRoundsWrong)

/-- 'calliopelaw30.LoopSeams': WHATEVER THE INPUT: true; the input reads as it did. -/
def loopSeamsSpec : ChangeSpec := { name := "loopSeams", fn := fun _ => fun
  | [d1, d2, d3] => { results := [.lit (.bool true)], args := [d1, d2, d3] }
  | _ => none }
def loopSeamsRow : OpenClaim := { program := "ytjhcdnfonlggjaa", sum := "09fa23839c90c9ec4d7b66af58bac22b426c030d852cc1489798aa45e64ca44d", func := "calliope/calliopelaw30.LoopSeams", spec := "loopSeams", apart := false }
def LoopSeamsSaid : Prop := loopSeamsRow.holds Try.pinned (OpenSpec.ofChange loopSeamsSpec)

/-- ITS FALSE NEIGHBOUR: 'it returns false'. Refute it at one input. -/
def loopSeamsWrong : ChangeSpec := { name := "loopSeams", fn := fun _ => fun
  | [d1, d2, d3] => { results := [.lit (.bool false)], args := [d1, d2, d3] }
  | _ => none }
def LoopSeamsWrongFalsely : Prop := loopSeamsRow.holds Try.pinned (OpenSpec.ofChange loopSeamsWrong)

/-- 'calliopelaw30.LoopFades': WHATEVER THE INPUT: true; the input reads as it did. -/
def loopFadesSpec : ChangeSpec := { name := "loopFades", fn := fun _ => fun
  | [d1, d2, d3, d4] => { results := [.lit (.bool true)], args := [d1, d2, d3, d4] }
  | _ => none }
def loopFadesRow : OpenClaim := { program := "ytjhcdnfonlggjaa", sum := "09fa23839c90c9ec4d7b66af58bac22b426c030d852cc1489798aa45e64ca44d", func := "calliope/calliopelaw30.LoopFades", spec := "loopFades", apart := false }
def LoopFadesSaid : Prop := loopFadesRow.holds Try.pinned (OpenSpec.ofChange loopFadesSpec)

/-- ITS FALSE NEIGHBOUR: 'it returns false'. Refute it at one input. -/
def loopFadesWrong : ChangeSpec := { name := "loopFades", fn := fun _ => fun
  | [d1, d2, d3, d4] => { results := [.lit (.bool false)], args := [d1, d2, d3, d4] }
  | _ => none }
def LoopFadesWrongFalsely : Prop := loopFadesRow.holds Try.pinned (OpenSpec.ofChange loopFadesWrong)

/-- 'calliopelaw30.LoopFinds': WHATEVER THE INPUT: true; the input reads as it did. -/
def loopFindsSpec : ChangeSpec := { name := "loopFinds", fn := fun _ => fun
  | [d1, d2] => { results := [.lit (.bool true)], args := [d1, d2] }
  | _ => none }
def loopFindsRow : OpenClaim := { program := "ytjhcdnfonlggjaa", sum := "09fa23839c90c9ec4d7b66af58bac22b426c030d852cc1489798aa45e64ca44d", func := "calliope/calliopelaw30.LoopFinds", spec := "loopFinds", apart := false }
def LoopFindsSaid : Prop := loopFindsRow.holds Try.pinned (OpenSpec.ofChange loopFindsSpec)

/-- ITS FALSE NEIGHBOUR: 'it returns false'. Refute it at one input. -/
def loopFindsWrong : ChangeSpec := { name := "loopFinds", fn := fun _ => fun
  | [d1, d2] => { results := [.lit (.bool false)], args := [d1, d2] }
  | _ => none }
def LoopFindsWrongFalsely : Prop := loopFindsRow.holds Try.pinned (OpenSpec.ofChange loopFindsWrong)

/- THE SECOND FORM. 'bulk': how many values and letters a reading holds, each counted each time it is reached (what is shared counts as often as it is met; a slice's spare places count too). A statement '..UptoSaid' is the law's where the arguments, and the package variables that the reading takes, are together of bulk at most 1048576: NARROWER than '..Said'. Prove '..Said' where nothing that the law and all that it calls make is longer than what came in: it says more and counts as full. Else prove '..UptoSaid'. A law counts once. -/
mutual
def uptoBulk {H : Type} : DataW H → Nat
  | .lit (.string bytes) => bytes.length + 1
  | .lit _ => 1
  | .nil => 1
  | .ptr d => uptoBulk d + 1
  | .slice elems spare => uptoBulkAll elems + uptoBulkAll spare + 1
  | .agg parts => uptoBulkAll parts + 1
  | .iface _ d => uptoBulk d + 1
  | .map entries => uptoBulkEntries entries + 1
  | .held _ => 1
def uptoBulkAll {H : Type} : List (DataW H) → Nat
  | [] => 0
  | d :: r => uptoBulk d + uptoBulkAll r
def uptoBulkEntries {H : Type} : List (Lit × DataW H) → Nat
  | [] => 0
  | x :: r => uptoBulkEntry x + uptoBulkEntries r
def uptoBulkEntry {H : Type} : Lit × DataW H → Nat
  | (.string bytes, d) => bytes.length + uptoBulk d + 1
  | (_, d) => uptoBulk d + 1
 end
def uptoSmall : (H : Type) → List (DataW H) → Bool := fun _ ds => decide (uptoBulkAll ds ≤ 1048576)
def OpenSpec.upto (s : _root_.Go.ChangeSpec) : _root_.Go.OpenSpec := { _root_.Go.OpenSpec.ofChange s with cond := some uptoSmall }

/-- 'calliopelaw30.LoopRounds', WHERE WHAT IT READS IS OF BULK AT MOST 1048576: true; the input reads as it did. -/
def loopRoundsUptoRow : OpenClaim := { program := "ytjhcdnfonlggjaa", sum := "09fa23839c90c9ec4d7b66af58bac22b426c030d852cc1489798aa45e64ca44d", func := "calliope/calliopelaw30.LoopRounds", spec := "loopRounds", apart := false, narrowed := true }
def LoopRoundsUptoSaid : Prop := loopRoundsUptoRow.holds Try.pinned (OpenSpec.upto loopRoundsSpec)

/-- 'calliopelaw30.LoopSeams', WHERE WHAT IT READS IS OF BULK AT MOST 1048576: true; the input reads as it did. -/
def loopSeamsUptoRow : OpenClaim := { program := "ytjhcdnfonlggjaa", sum := "09fa23839c90c9ec4d7b66af58bac22b426c030d852cc1489798aa45e64ca44d", func := "calliope/calliopelaw30.LoopSeams", spec := "loopSeams", apart := false, narrowed := true }
def LoopSeamsUptoSaid : Prop := loopSeamsUptoRow.holds Try.pinned (OpenSpec.upto loopSeamsSpec)

/-- 'calliopelaw30.LoopFades', WHERE WHAT IT READS IS OF BULK AT MOST 1048576: true; the input reads as it did. -/
def loopFadesUptoRow : OpenClaim := { program := "ytjhcdnfonlggjaa", sum := "09fa23839c90c9ec4d7b66af58bac22b426c030d852cc1489798aa45e64ca44d", func := "calliope/calliopelaw30.LoopFades", spec := "loopFades", apart := false, narrowed := true }
def LoopFadesUptoSaid : Prop := loopFadesUptoRow.holds Try.pinned (OpenSpec.upto loopFadesSpec)

/-- 'calliopelaw30.LoopFinds', WHERE WHAT IT READS IS OF BULK AT MOST 1048576: true; the input reads as it did. -/
def loopFindsUptoRow : OpenClaim := { program := "ytjhcdnfonlggjaa", sum := "09fa23839c90c9ec4d7b66af58bac22b426c030d852cc1489798aa45e64ca44d", func := "calliope/calliopelaw30.LoopFinds", spec := "loopFinds", apart := false, narrowed := true }
def LoopFindsUptoSaid : Prop := loopFindsUptoRow.holds Try.pinned (OpenSpec.upto loopFindsSpec)

end Rows
end Go.Proofs.Ytjhcdnfonlggjaa
