/-
  No cell of these rows narrows 'for every input' (looked for: loops, veiled, ifaces, maps, wideKeys, modest, calm, conditions, laid).
  DERIVED. THE GIVEN ROWS OF THIS SEAT. 5 by the template 'for every input the law returns true; each argument reads behind the call as it read before'; 0 by the template 'total and deterministic' (their statements: YtbhopghfglgibaaTotals.lean).
  GIVEN WITH THE SEED: the statements are not yours to turn. If you find one false, say at which input.
  Laid BY PROGRAM, IN A SANDBOX (cutbox-rows.mjs): the forced cells as the released guide's own fill.sh prints them over the translation 752cfb6fae3b747b… (all of the seat's roots in one cut). By AI agents, Wed Nov 11 2026. No macro, syntax, notation, axiom, sorry.
-/
import Derived.Test.YtbhopghfglgibaaChecked
import GoSem.Claim
import GoSem.ClaimJoined
import GoSem.ClaimMapViews
import Derived.JoinedTies
import Derived.KernelRfl
namespace Go.Proofs.Ytbhopghfglgibaa
/- THE CELL 'sum', in the pinned program and in every row, IS THE sha256 OF THE DUMP (.gsa) THAT YtbhopghfglgibaaProg.lean LOADS. Nothing in Lean hashes anything: it is a label: what it is worth is what the hold of that sum in a sandbox is worth. -/
noncomputable def Try.pinned : Pinned := { name := "ytbhopghfglgibaa", sum := "752cfb6fae3b747bcc8b3d046aa8f62ad8086d272f4d51c804dde23ec77deb61", checked := Try.checked }
namespace Rows
def none {H : Type} : Left H := { results := [], args := [] }

/-- 'calliopelaw32.AdpcmCodes': WHATEVER THE INPUT: true; the input reads as it did. -/
def adpcmCodesSpec : ChangeSpec := { name := "adpcmCodes", fn := fun _ => fun
  | [d1, d2, d3] => { results := [.lit (.bool true)], args := [d1, d2, d3] }
  | _ => none }
def adpcmCodesRow : OpenClaim := { program := "ytbhopghfglgibaa", sum := "752cfb6fae3b747bcc8b3d046aa8f62ad8086d272f4d51c804dde23ec77deb61", func := "calliope/calliopelaw32.AdpcmCodes", spec := "adpcmCodes", apart := false }
def AdpcmCodesSaid : Prop := adpcmCodesRow.holds Try.pinned (OpenSpec.ofChange adpcmCodesSpec)

/-- ITS FALSE NEIGHBOUR: 'it returns false'. Refute it at one input. -/
def adpcmCodesWrong : ChangeSpec := { name := "adpcmCodes", fn := fun _ => fun
  | [d1, d2, d3] => { results := [.lit (.bool false)], args := [d1, d2, d3] }
  | _ => none }
def AdpcmCodesWrongFalsely : Prop := adpcmCodesRow.holds Try.pinned (OpenSpec.ofChange adpcmCodesWrong)

/-- 'calliopelaw32.AdpcmNearest': WHATEVER THE INPUT: true; the input reads as it did. -/
def adpcmNearestSpec : ChangeSpec := { name := "adpcmNearest", fn := fun _ => fun
  | [d1, d2] => { results := [.lit (.bool true)], args := [d1, d2] }
  | _ => none }
def adpcmNearestRow : OpenClaim := { program := "ytbhopghfglgibaa", sum := "752cfb6fae3b747bcc8b3d046aa8f62ad8086d272f4d51c804dde23ec77deb61", func := "calliope/calliopelaw32.AdpcmNearest", spec := "adpcmNearest", apart := false }
def AdpcmNearestSaid : Prop := adpcmNearestRow.holds Try.pinned (OpenSpec.ofChange adpcmNearestSpec)

/-- ITS FALSE NEIGHBOUR: 'it returns false'. Refute it at one input. -/
def adpcmNearestWrong : ChangeSpec := { name := "adpcmNearest", fn := fun _ => fun
  | [d1, d2] => { results := [.lit (.bool false)], args := [d1, d2] }
  | _ => none }
def AdpcmNearestWrongFalsely : Prop := adpcmNearestRow.holds Try.pinned (OpenSpec.ofChange adpcmNearestWrong)

/-- 'calliopelaw32.AdpcmUnpacks': WHATEVER THE INPUT: true; the input reads as it did. -/
def adpcmUnpacksSpec : ChangeSpec := { name := "adpcmUnpacks", fn := fun _ => fun
  | [d] => { results := [.lit (.bool true)], args := [d] }
  | _ => none }
def adpcmUnpacksRow : OpenClaim := { program := "ytbhopghfglgibaa", sum := "752cfb6fae3b747bcc8b3d046aa8f62ad8086d272f4d51c804dde23ec77deb61", func := "calliope/calliopelaw32.AdpcmUnpacks", spec := "adpcmUnpacks", apart := false }
def AdpcmUnpacksSaid : Prop := adpcmUnpacksRow.holds Try.pinned (OpenSpec.ofChange adpcmUnpacksSpec)

/-- ITS FALSE NEIGHBOUR: 'it returns false'. Refute it at one input. -/
def adpcmUnpacksWrong : ChangeSpec := { name := "adpcmUnpacks", fn := fun _ => fun
  | [d] => { results := [.lit (.bool false)], args := [d] }
  | _ => none }
def AdpcmUnpacksWrongFalsely : Prop := adpcmUnpacksRow.holds Try.pinned (OpenSpec.ofChange adpcmUnpacksWrong)

/-- 'calliopelaw32.AdpcmPacks': WHATEVER THE INPUT: true; the input reads as it did. -/
def adpcmPacksSpec : ChangeSpec := { name := "adpcmPacks", fn := fun _ => fun
  | [d1, d2] => { results := [.lit (.bool true)], args := [d1, d2] }
  | _ => none }
def adpcmPacksRow : OpenClaim := { program := "ytbhopghfglgibaa", sum := "752cfb6fae3b747bcc8b3d046aa8f62ad8086d272f4d51c804dde23ec77deb61", func := "calliope/calliopelaw32.AdpcmPacks", spec := "adpcmPacks", apart := false }
def AdpcmPacksSaid : Prop := adpcmPacksRow.holds Try.pinned (OpenSpec.ofChange adpcmPacksSpec)

/-- ITS FALSE NEIGHBOUR: 'it returns false'. Refute it at one input. -/
def adpcmPacksWrong : ChangeSpec := { name := "adpcmPacks", fn := fun _ => fun
  | [d1, d2] => { results := [.lit (.bool false)], args := [d1, d2] }
  | _ => none }
def AdpcmPacksWrongFalsely : Prop := adpcmPacksRow.holds Try.pinned (OpenSpec.ofChange adpcmPacksWrong)

/-- 'calliopelaw32.AdpcmWhole': WHATEVER THE INPUT: true; the input reads as it did. -/
def adpcmWholeSpec : ChangeSpec := { name := "adpcmWhole", fn := fun _ => fun
  | [d1, d2] => { results := [.lit (.bool true)], args := [d1, d2] }
  | _ => none }
def adpcmWholeRow : OpenClaim := { program := "ytbhopghfglgibaa", sum := "752cfb6fae3b747bcc8b3d046aa8f62ad8086d272f4d51c804dde23ec77deb61", func := "calliope/calliopelaw32.AdpcmWhole", spec := "adpcmWhole", apart := false }
def AdpcmWholeSaid : Prop := adpcmWholeRow.holds Try.pinned (OpenSpec.ofChange adpcmWholeSpec)

/-- ITS FALSE NEIGHBOUR: 'it returns false'. Refute it at one input. -/
def adpcmWholeWrong : ChangeSpec := { name := "adpcmWhole", fn := fun _ => fun
  | [d1, d2] => { results := [.lit (.bool false)], args := [d1, d2] }
  | _ => none }
def AdpcmWholeWrongFalsely : Prop := adpcmWholeRow.holds Try.pinned (OpenSpec.ofChange adpcmWholeWrong)

/- THE SECOND FORM. 'bulk': how many values and letters a reading holds, each counted each time it is reached (what is shared counts as often as it is met; a slice's spare places count too). A statement '..UptoSaid' is the law's where the arguments, and the package variables that the reading takes, are together of bulk at most 1048576: NARROWER than '..Said'. Prove '..Said' where nothing that the law and all that it calls make is longer than what came in: it says more and counts as full. Else prove '..UptoSaid'. A law counts once. -/
mutual
def uptoBulk {H : Type} : DataW H → Nat
  | .lit (.string bytes) => bytes.length + 1
  | .lit _ => 1
  | .nil => 1
  | .ptr d => uptoBulk d + 1
  | .slice elems spare => uptoBulkAll elems + uptoBulkAll spare + 1
  | .agg parts => uptoBulkAll parts + 1
  | .iface _ d => uptoBulk d + 1
  | .map entries => uptoBulkEntries entries + 1
  | .held _ => 1
def uptoBulkAll {H : Type} : List (DataW H) → Nat
  | [] => 0
  | d :: r => uptoBulk d + uptoBulkAll r
def uptoBulkEntries {H : Type} : List (Lit × DataW H) → Nat
  | [] => 0
  | x :: r => uptoBulkEntry x + uptoBulkEntries r
def uptoBulkEntry {H : Type} : Lit × DataW H → Nat
  | (.string bytes, d) => bytes.length + uptoBulk d + 1
  | (_, d) => uptoBulk d + 1
 end
def uptoSmall : (H : Type) → List (DataW H) → Bool := fun _ ds => decide (uptoBulkAll ds ≤ 1048576)
def OpenSpec.upto (s : _root_.Go.ChangeSpec) : _root_.Go.OpenSpec := { _root_.Go.OpenSpec.ofChange s with cond := some uptoSmall }

/-- 'calliopelaw32.AdpcmCodes', WHERE WHAT IT READS IS OF BULK AT MOST 1048576: true; the input reads as it did. -/
def adpcmCodesUptoRow : OpenClaim := { program := "ytbhopghfglgibaa", sum := "752cfb6fae3b747bcc8b3d046aa8f62ad8086d272f4d51c804dde23ec77deb61", func := "calliope/calliopelaw32.AdpcmCodes", spec := "adpcmCodes", apart := false, narrowed := true }
def AdpcmCodesUptoSaid : Prop := adpcmCodesUptoRow.holds Try.pinned (OpenSpec.upto adpcmCodesSpec)

/-- 'calliopelaw32.AdpcmNearest', WHERE WHAT IT READS IS OF BULK AT MOST 1048576: true; the input reads as it did. -/
def adpcmNearestUptoRow : OpenClaim := { program := "ytbhopghfglgibaa", sum := "752cfb6fae3b747bcc8b3d046aa8f62ad8086d272f4d51c804dde23ec77deb61", func := "calliope/calliopelaw32.AdpcmNearest", spec := "adpcmNearest", apart := false, narrowed := true }
def AdpcmNearestUptoSaid : Prop := adpcmNearestUptoRow.holds Try.pinned (OpenSpec.upto adpcmNearestSpec)

/-- 'calliopelaw32.AdpcmUnpacks', WHERE WHAT IT READS IS OF BULK AT MOST 1048576: true; the input reads as it did. -/
def adpcmUnpacksUptoRow : OpenClaim := { program := "ytbhopghfglgibaa", sum := "752cfb6fae3b747bcc8b3d046aa8f62ad8086d272f4d51c804dde23ec77deb61", func := "calliope/calliopelaw32.AdpcmUnpacks", spec := "adpcmUnpacks", apart := false, narrowed := true }
def AdpcmUnpacksUptoSaid : Prop := adpcmUnpacksUptoRow.holds Try.pinned (OpenSpec.upto adpcmUnpacksSpec)

/-- 'calliopelaw32.AdpcmPacks', WHERE WHAT IT READS IS OF BULK AT MOST 1048576: true; the input reads as it did. -/
def adpcmPacksUptoRow : OpenClaim := { program := "ytbhopghfglgibaa", sum := "752cfb6fae3b747bcc8b3d046aa8f62ad8086d272f4d51c804dde23ec77deb61", func := "calliope/calliopelaw32.AdpcmPacks", spec := "adpcmPacks", apart := false, narrowed := true }
def AdpcmPacksUptoSaid : Prop := adpcmPacksUptoRow.holds Try.pinned (OpenSpec.upto adpcmPacksSpec)

/-- 'calliopelaw32.AdpcmWhole', WHERE WHAT IT READS IS OF BULK AT MOST 1048576: true; the input reads as it did. -/
def adpcmWholeUptoRow : OpenClaim := { program := "ytbhopghfglgibaa", sum := "752cfb6fae3b747bcc8b3d046aa8f62ad8086d272f4d51c804dde23ec77deb61", func := "calliope/calliopelaw32.AdpcmWhole", spec := "adpcmWhole", apart := false, narrowed := true }
def AdpcmWholeUptoSaid : Prop := adpcmWholeUptoRow.holds Try.pinned (OpenSpec.upto adpcmWholeSpec)

end Rows
end Go.Proofs.Ytbhopghfglgibaa
