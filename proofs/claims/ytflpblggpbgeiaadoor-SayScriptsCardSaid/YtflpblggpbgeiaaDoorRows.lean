/-
  NARROWER THAN 'FOR EVERY INPUT', by the rows' own cells (each row's printed sentence says how): SayParses: laid · SayWords: laid · SayNumbers: laid · SayLong: laid · SayLines: laid · SayScripts: laid.
  DERIVED. THE GIVEN ROWS OF THIS SEAT. 6 by the template 'for every input the law returns true; each argument reads behind the call as it read before'; 0 by the template 'total and deterministic' (their statements: YtflpblggpbgeiaaDoorTotals.lean).
  GIVEN WITH THE SEED: the statements are not yours to turn. If you find one false, say at which input.
  Laid BY PROGRAM, IN A SANDBOX (cutbox-rows.mjs): the forced cells as the released guide's own fill.sh prints them over the translation 6e36106154c93e0e… (all of the seat's roots in one cut). By AI agents, Wed Nov 11 2026. No macro, syntax, notation, axiom, sorry.
-/
import Derived.Test.YtflpblggpbgeiaaDoorChecked
import GoSem.PinnedTables
import GoSem.Claim
import GoSem.ClaimJoined
import GoSem.ClaimMapViews
import Derived.JoinedTies
import Derived.KernelRfl
namespace Go.Proofs.YtflpblggpbgeiaaDoor
/- THE CELL 'sum', in the pinned program and in every row, IS THE sha256 OF THE DUMP (.gsa) THAT YtflpblggpbgeiaaDoorProg.lean LOADS. Nothing in Lean hashes anything: it is a label: what it is worth is what the hold of that sum in a sandbox is worth. -/
noncomputable def Tryd.pinned : Pinned := { name := "ytflpblggpbgeiaadoor", sum := "6e36106154c93e0ed27c62b311cc722892fc4bb5cd220b0e8dbbf789143f9d3b", checked := Tryd.checked }
namespace Rows
def none {H : Type} : Left H := { results := [], args := [] }

/- WHAT THE LISTED PACKAGE-LEVEL VARIABLES READ AS WHEN THE CALL BEGINS. Each datum BY PROGRAM (the guide's laid-datum.mjs) off the statement by which the dump's own 'gosem.cut.vars' lays the variable. In a bare row this is a premise. The card (YtflpblggpbgeiaaDoorCards.lean) ties it to the program's text. -/
def laid_unicode_utf8_acceptRanges {H : Type} : DataW H := .agg [.agg [.lit (.int .u8 128), .lit (.int .u8 191)], .agg [.lit (.int .u8 160), .lit (.int .u8 191)], .agg [.lit (.int .u8 128), .lit (.int .u8 159)], .agg [.lit (.int .u8 144), .lit (.int .u8 191)], .agg [.lit (.int .u8 128), .lit (.int .u8 143)], .agg [.lit (.int .u8 0), .lit (.int .u8 0)], .agg [.lit (.int .u8 0), .lit (.int .u8 0)], .agg [.lit (.int .u8 0), .lit (.int .u8 0)], .agg [.lit (.int .u8 0), .lit (.int .u8 0)], .agg [.lit (.int .u8 0), .lit (.int .u8 0)], .agg [.lit (.int .u8 0), .lit (.int .u8 0)], .agg [.lit (.int .u8 0), .lit (.int .u8 0)], .agg [.lit (.int .u8 0), .lit (.int .u8 0)], .agg [.lit (.int .u8 0), .lit (.int .u8 0)], .agg [.lit (.int .u8 0), .lit (.int .u8 0)], .agg [.lit (.int .u8 0), .lit (.int .u8 0)]]
/-- One of Go's own tables, pinned by name: the form's constant. -/
def laid_unicode_utf8_first : DataW Unit := Go.Pinned.utf8First

/-- 'calliopelaw27.SayParses': WHATEVER THE INPUT: true; the input reads as it did. -/
def sayParsesSpec : ChangeSpec := { name := "sayParses", fn := fun _ => fun
  | [d1, d2] => { results := [.lit (.bool true)], args := [d1, d2] }
  | _ => none }
def sayParsesRow : OpenClaim := { program := "ytflpblggpbgeiaadoor", sum := "6e36106154c93e0ed27c62b311cc722892fc4bb5cd220b0e8dbbf789143f9d3b", func := "calliope/calliopelaw27.SayParses", spec := "sayParses", inPlace := ["internal/bytealg.CountString", "internal/bytealg.IndexByteString", "internal/bytealg.IndexString"], named := ["unicode/utf8.first", "unicode/utf8.acceptRanges", "internal/bytealg.MaxLen"], apart := false, laid := [("unicode/utf8.acceptRanges", laid_unicode_utf8_acceptRanges), ("unicode/utf8.first", laid_unicode_utf8_first)] }
def SayParsesSaid : Prop := sayParsesRow.holds Tryd.pinned (OpenSpec.ofChange sayParsesSpec)

/-- ITS FALSE NEIGHBOUR: 'it returns false'. Refute it at one input. -/
def sayParsesWrong : ChangeSpec := { name := "sayParses", fn := fun _ => fun
  | [d1, d2] => { results := [.lit (.bool false)], args := [d1, d2] }
  | _ => none }
def SayParsesWrongFalsely : Prop := sayParsesRow.holds Tryd.pinned (OpenSpec.ofChange sayParsesWrong)

/-- 'calliopelaw27.SayWords': WHATEVER THE INPUT: true; the input reads as it did. -/
def sayWordsSpec : ChangeSpec := { name := "sayWords", fn := fun _ => fun
  | [d1, d2] => { results := [.lit (.bool true)], args := [d1, d2] }
  | _ => none }
def sayWordsRow : OpenClaim := { program := "ytflpblggpbgeiaadoor", sum := "6e36106154c93e0ed27c62b311cc722892fc4bb5cd220b0e8dbbf789143f9d3b", func := "calliope/calliopelaw27.SayWords", spec := "sayWords", inPlace := ["internal/bytealg.CountString", "internal/bytealg.IndexByteString", "internal/bytealg.IndexString"], named := ["unicode/utf8.first", "unicode/utf8.acceptRanges", "internal/bytealg.MaxLen"], apart := false, laid := [("unicode/utf8.acceptRanges", laid_unicode_utf8_acceptRanges), ("unicode/utf8.first", laid_unicode_utf8_first)] }
def SayWordsSaid : Prop := sayWordsRow.holds Tryd.pinned (OpenSpec.ofChange sayWordsSpec)

/-- ITS FALSE NEIGHBOUR: 'it returns false'. Refute it at one input. -/
def sayWordsWrong : ChangeSpec := { name := "sayWords", fn := fun _ => fun
  | [d1, d2] => { results := [.lit (.bool false)], args := [d1, d2] }
  | _ => none }
def SayWordsWrongFalsely : Prop := sayWordsRow.holds Tryd.pinned (OpenSpec.ofChange sayWordsWrong)

/-- 'calliopelaw27.SayNumbers': WHATEVER THE INPUT: true; the input reads as it did. -/
def sayNumbersSpec : ChangeSpec := { name := "sayNumbers", fn := fun _ => fun
  | [d1, d2] => { results := [.lit (.bool true)], args := [d1, d2] }
  | _ => none }
def sayNumbersRow : OpenClaim := { program := "ytflpblggpbgeiaadoor", sum := "6e36106154c93e0ed27c62b311cc722892fc4bb5cd220b0e8dbbf789143f9d3b", func := "calliope/calliopelaw27.SayNumbers", spec := "sayNumbers", inPlace := ["internal/bytealg.CountString", "internal/bytealg.IndexByteString", "internal/bytealg.IndexString"], named := ["unicode/utf8.first", "unicode/utf8.acceptRanges", "internal/bytealg.MaxLen"], apart := false, laid := [("unicode/utf8.acceptRanges", laid_unicode_utf8_acceptRanges), ("unicode/utf8.first", laid_unicode_utf8_first)] }
def SayNumbersSaid : Prop := sayNumbersRow.holds Tryd.pinned (OpenSpec.ofChange sayNumbersSpec)

/-- ITS FALSE NEIGHBOUR: 'it returns false'. Refute it at one input. -/
def sayNumbersWrong : ChangeSpec := { name := "sayNumbers", fn := fun _ => fun
  | [d1, d2] => { results := [.lit (.bool false)], args := [d1, d2] }
  | _ => none }
def SayNumbersWrongFalsely : Prop := sayNumbersRow.holds Tryd.pinned (OpenSpec.ofChange sayNumbersWrong)

/-- 'calliopelaw27.SayLong': WHATEVER THE INPUT: true; the input reads as it did. -/
def sayLongSpec : ChangeSpec := { name := "sayLong", fn := fun _ => fun
  | [d] => { results := [.lit (.bool true)], args := [d] }
  | _ => none }
def sayLongRow : OpenClaim := { program := "ytflpblggpbgeiaadoor", sum := "6e36106154c93e0ed27c62b311cc722892fc4bb5cd220b0e8dbbf789143f9d3b", func := "calliope/calliopelaw27.SayLong", spec := "sayLong", inPlace := ["internal/bytealg.CountString", "internal/bytealg.IndexByteString", "internal/bytealg.IndexString"], named := ["unicode/utf8.first", "unicode/utf8.acceptRanges", "internal/bytealg.MaxLen"], apart := false, laid := [("unicode/utf8.acceptRanges", laid_unicode_utf8_acceptRanges), ("unicode/utf8.first", laid_unicode_utf8_first)] }
def SayLongSaid : Prop := sayLongRow.holds Tryd.pinned (OpenSpec.ofChange sayLongSpec)

/-- ITS FALSE NEIGHBOUR: 'it returns false'. Refute it at one input. -/
def sayLongWrong : ChangeSpec := { name := "sayLong", fn := fun _ => fun
  | [d] => { results := [.lit (.bool false)], args := [d] }
  | _ => none }
def SayLongWrongFalsely : Prop := sayLongRow.holds Tryd.pinned (OpenSpec.ofChange sayLongWrong)

/-- 'calliopelaw27.SayLines': WHATEVER THE INPUT: true; the input reads as it did. -/
def sayLinesSpec : ChangeSpec := { name := "sayLines", fn := fun _ => fun
  | [d] => { results := [.lit (.bool true)], args := [d] }
  | _ => none }
def sayLinesRow : OpenClaim := { program := "ytflpblggpbgeiaadoor", sum := "6e36106154c93e0ed27c62b311cc722892fc4bb5cd220b0e8dbbf789143f9d3b", func := "calliope/calliopelaw27.SayLines", spec := "sayLines", inPlace := ["internal/bytealg.CountString", "internal/bytealg.IndexByteString", "internal/bytealg.IndexString"], named := ["unicode/utf8.first", "unicode/utf8.acceptRanges", "internal/bytealg.MaxLen"], apart := false, laid := [("unicode/utf8.acceptRanges", laid_unicode_utf8_acceptRanges), ("unicode/utf8.first", laid_unicode_utf8_first)] }
def SayLinesSaid : Prop := sayLinesRow.holds Tryd.pinned (OpenSpec.ofChange sayLinesSpec)

/-- ITS FALSE NEIGHBOUR: 'it returns false'. Refute it at one input. -/
def sayLinesWrong : ChangeSpec := { name := "sayLines", fn := fun _ => fun
  | [d] => { results := [.lit (.bool false)], args := [d] }
  | _ => none }
def SayLinesWrongFalsely : Prop := sayLinesRow.holds Tryd.pinned (OpenSpec.ofChange sayLinesWrong)

/-- 'calliopelaw27.SayScripts': WHATEVER THE INPUT: true; the input reads as it did. -/
def sayScriptsSpec : ChangeSpec := { name := "sayScripts", fn := fun _ => fun
  | [d1, d2] => { results := [.lit (.bool true)], args := [d1, d2] }
  | _ => none }
def sayScriptsRow : OpenClaim := { program := "ytflpblggpbgeiaadoor", sum := "6e36106154c93e0ed27c62b311cc722892fc4bb5cd220b0e8dbbf789143f9d3b", func := "calliope/calliopelaw27.SayScripts", spec := "sayScripts", inPlace := ["internal/bytealg.CountString", "internal/bytealg.IndexByteString", "internal/bytealg.IndexString", "internal/abi.NoEscape"], named := ["unicode/utf8.first", "unicode/utf8.acceptRanges", "internal/bytealg.MaxLen"], apart := false, laid := [("unicode/utf8.acceptRanges", laid_unicode_utf8_acceptRanges), ("unicode/utf8.first", laid_unicode_utf8_first)] }
def SayScriptsSaid : Prop := sayScriptsRow.holds Tryd.pinned (OpenSpec.ofChange sayScriptsSpec)

/-- ITS FALSE NEIGHBOUR: 'it returns false'. Refute it at one input. -/
def sayScriptsWrong : ChangeSpec := { name := "sayScripts", fn := fun _ => fun
  | [d1, d2] => { results := [.lit (.bool false)], args := [d1, d2] }
  | _ => none }
def SayScriptsWrongFalsely : Prop := sayScriptsRow.holds Tryd.pinned (OpenSpec.ofChange sayScriptsWrong)

/- THE SECOND FORM. 'bulk': how many values and letters a reading holds, each counted each time it is reached (what is shared counts as often as it is met; a slice's spare places count too). A statement '..UptoSaid' is the law's where the arguments, and the package variables that the reading takes, are together of bulk at most 1048576: NARROWER than '..Said'. Prove '..Said' where nothing that the law and all that it calls make is longer than what came in: it says more and counts as full. Else prove '..UptoSaid'. A law counts once. -/
mutual
def uptoBulk {H : Type} : DataW H → Nat
  | .lit (.string bytes) => bytes.length + 1
  | .lit _ => 1
  | .nil => 1
  | .ptr d => uptoBulk d + 1
  | .slice elems spare => uptoBulkAll elems + uptoBulkAll spare + 1
  | .agg parts => uptoBulkAll parts + 1
  | .iface _ d => uptoBulk d + 1
  | .map entries => uptoBulkEntries entries + 1
  | .held _ => 1
def uptoBulkAll {H : Type} : List (DataW H) → Nat
  | [] => 0
  | d :: r => uptoBulk d + uptoBulkAll r
def uptoBulkEntries {H : Type} : List (Lit × DataW H) → Nat
  | [] => 0
  | x :: r => uptoBulkEntry x + uptoBulkEntries r
def uptoBulkEntry {H : Type} : Lit × DataW H → Nat
  | (.string bytes, d) => bytes.length + uptoBulk d + 1
  | (_, d) => uptoBulk d + 1
 end
def uptoSmall : (H : Type) → List (DataW H) → Bool := fun _ ds => decide (uptoBulkAll ds ≤ 1048576)
def OpenSpec.upto (s : _root_.Go.ChangeSpec) : _root_.Go.OpenSpec := { _root_.Go.OpenSpec.ofChange s with cond := some uptoSmall }

/-- 'calliopelaw27.SayParses', WHERE WHAT IT READS IS OF BULK AT MOST 1048576: true; the input reads as it did. -/
def sayParsesUptoRow : OpenClaim := { program := "ytflpblggpbgeiaadoor", sum := "6e36106154c93e0ed27c62b311cc722892fc4bb5cd220b0e8dbbf789143f9d3b", func := "calliope/calliopelaw27.SayParses", spec := "sayParses", inPlace := ["internal/bytealg.CountString", "internal/bytealg.IndexByteString", "internal/bytealg.IndexString"], named := ["unicode/utf8.first", "unicode/utf8.acceptRanges", "internal/bytealg.MaxLen"], apart := false, laid := [("unicode/utf8.acceptRanges", laid_unicode_utf8_acceptRanges), ("unicode/utf8.first", laid_unicode_utf8_first)], narrowed := true }
def SayParsesUptoSaid : Prop := sayParsesUptoRow.holds Tryd.pinned (OpenSpec.upto sayParsesSpec)

/-- 'calliopelaw27.SayWords', WHERE WHAT IT READS IS OF BULK AT MOST 1048576: true; the input reads as it did. -/
def sayWordsUptoRow : OpenClaim := { program := "ytflpblggpbgeiaadoor", sum := "6e36106154c93e0ed27c62b311cc722892fc4bb5cd220b0e8dbbf789143f9d3b", func := "calliope/calliopelaw27.SayWords", spec := "sayWords", inPlace := ["internal/bytealg.CountString", "internal/bytealg.IndexByteString", "internal/bytealg.IndexString"], named := ["unicode/utf8.first", "unicode/utf8.acceptRanges", "internal/bytealg.MaxLen"], apart := false, laid := [("unicode/utf8.acceptRanges", laid_unicode_utf8_acceptRanges), ("unicode/utf8.first", laid_unicode_utf8_first)], narrowed := true }
def SayWordsUptoSaid : Prop := sayWordsUptoRow.holds Tryd.pinned (OpenSpec.upto sayWordsSpec)

/-- 'calliopelaw27.SayNumbers', WHERE WHAT IT READS IS OF BULK AT MOST 1048576: true; the input reads as it did. -/
def sayNumbersUptoRow : OpenClaim := { program := "ytflpblggpbgeiaadoor", sum := "6e36106154c93e0ed27c62b311cc722892fc4bb5cd220b0e8dbbf789143f9d3b", func := "calliope/calliopelaw27.SayNumbers", spec := "sayNumbers", inPlace := ["internal/bytealg.CountString", "internal/bytealg.IndexByteString", "internal/bytealg.IndexString"], named := ["unicode/utf8.first", "unicode/utf8.acceptRanges", "internal/bytealg.MaxLen"], apart := false, laid := [("unicode/utf8.acceptRanges", laid_unicode_utf8_acceptRanges), ("unicode/utf8.first", laid_unicode_utf8_first)], narrowed := true }
def SayNumbersUptoSaid : Prop := sayNumbersUptoRow.holds Tryd.pinned (OpenSpec.upto sayNumbersSpec)

/-- 'calliopelaw27.SayLong', WHERE WHAT IT READS IS OF BULK AT MOST 1048576: true; the input reads as it did. -/
def sayLongUptoRow : OpenClaim := { program := "ytflpblggpbgeiaadoor", sum := "6e36106154c93e0ed27c62b311cc722892fc4bb5cd220b0e8dbbf789143f9d3b", func := "calliope/calliopelaw27.SayLong", spec := "sayLong", inPlace := ["internal/bytealg.CountString", "internal/bytealg.IndexByteString", "internal/bytealg.IndexString"], named := ["unicode/utf8.first", "unicode/utf8.acceptRanges", "internal/bytealg.MaxLen"], apart := false, laid := [("unicode/utf8.acceptRanges", laid_unicode_utf8_acceptRanges), ("unicode/utf8.first", laid_unicode_utf8_first)], narrowed := true }
def SayLongUptoSaid : Prop := sayLongUptoRow.holds Tryd.pinned (OpenSpec.upto sayLongSpec)

/-- 'calliopelaw27.SayLines', WHERE WHAT IT READS IS OF BULK AT MOST 1048576: true; the input reads as it did. -/
def sayLinesUptoRow : OpenClaim := { program := "ytflpblggpbgeiaadoor", sum := "6e36106154c93e0ed27c62b311cc722892fc4bb5cd220b0e8dbbf789143f9d3b", func := "calliope/calliopelaw27.SayLines", spec := "sayLines", inPlace := ["internal/bytealg.CountString", "internal/bytealg.IndexByteString", "internal/bytealg.IndexString"], named := ["unicode/utf8.first", "unicode/utf8.acceptRanges", "internal/bytealg.MaxLen"], apart := false, laid := [("unicode/utf8.acceptRanges", laid_unicode_utf8_acceptRanges), ("unicode/utf8.first", laid_unicode_utf8_first)], narrowed := true }
def SayLinesUptoSaid : Prop := sayLinesUptoRow.holds Tryd.pinned (OpenSpec.upto sayLinesSpec)

/-- 'calliopelaw27.SayScripts', WHERE WHAT IT READS IS OF BULK AT MOST 1048576: true; the input reads as it did. -/
def sayScriptsUptoRow : OpenClaim := { program := "ytflpblggpbgeiaadoor", sum := "6e36106154c93e0ed27c62b311cc722892fc4bb5cd220b0e8dbbf789143f9d3b", func := "calliope/calliopelaw27.SayScripts", spec := "sayScripts", inPlace := ["internal/bytealg.CountString", "internal/bytealg.IndexByteString", "internal/bytealg.IndexString", "internal/abi.NoEscape"], named := ["unicode/utf8.first", "unicode/utf8.acceptRanges", "internal/bytealg.MaxLen"], apart := false, laid := [("unicode/utf8.acceptRanges", laid_unicode_utf8_acceptRanges), ("unicode/utf8.first", laid_unicode_utf8_first)], narrowed := true }
def SayScriptsUptoSaid : Prop := sayScriptsUptoRow.holds Tryd.pinned (OpenSpec.upto sayScriptsSpec)

end Rows
end Go.Proofs.YtflpblggpbgeiaaDoor
