/-
  DERIVED. GIVEN WITH THE SEED: THE CARDS: each row of YtflpblggpbgeiaaDoorRows.lean that lists a variable, with what it lists TIED to the program's text (the seventh form; the later family's looks); each row that meets fmt, with fmt's text TOLD by the authors' own Lean function (tested against real Go, not proved from fmt's source: count such statements apart). THE CARD IS WHAT COUNTS. Prove the row's statement (the work); the ties are given (YtflpblggpbgeiaaDoorTie.lean); close each card by the builder's one call (the guide's Derived/Test/ToyasCard.lean, 'card_holds'). Laid BY PROGRAM, IN A SANDBOX (cutbox-door.mjs). By AI agents, Wed Nov 11 2026. No macro, syntax, notation, axiom, sorry.
-/
import Derived.Test.YtflpblggpbgeiaaDoorRows
import GoSem.ClaimSeven
namespace Go.Proofs.YtflpblggpbgeiaaDoor
namespace Rows

/-- THE TIED CARD OF 'calliopelaw27.SayParses'. -/
def sayParsesCard : Claim7 := { stood := { row := sayParsesRow, standIns := [], harness := (true, "1656a80c5c68bc42444644f727811544cc8958ad33c222409e553da217df7764"), looks := false }, kinds := [], alts := [], laidByText := true, laidKinds := [.data, .pinned], laidTests := true, laidLooks := .later }
def SayParsesCardSaid : Prop := Claim7.holds Tryd.pinned (.plain (OpenSpec.ofChange sayParsesSpec)) sayParsesCard

/-- THE TIED CARD OF 'calliopelaw27.SayWords'. -/
def sayWordsCard : Claim7 := { stood := { row := sayWordsRow, standIns := [], harness := (true, "1656a80c5c68bc42444644f727811544cc8958ad33c222409e553da217df7764"), looks := false }, kinds := [], alts := [], laidByText := true, laidKinds := [.data, .pinned], laidTests := true, laidLooks := .later }
def SayWordsCardSaid : Prop := Claim7.holds Tryd.pinned (.plain (OpenSpec.ofChange sayWordsSpec)) sayWordsCard

/-- THE TIED CARD OF 'calliopelaw27.SayNumbers'. -/
def sayNumbersCard : Claim7 := { stood := { row := sayNumbersRow, standIns := [], harness := (true, "1656a80c5c68bc42444644f727811544cc8958ad33c222409e553da217df7764"), looks := false }, kinds := [], alts := [], laidByText := true, laidKinds := [.data, .pinned], laidTests := true, laidLooks := .later }
def SayNumbersCardSaid : Prop := Claim7.holds Tryd.pinned (.plain (OpenSpec.ofChange sayNumbersSpec)) sayNumbersCard

/-- THE TIED CARD OF 'calliopelaw27.SayLong'. -/
def sayLongCard : Claim7 := { stood := { row := sayLongRow, standIns := [], harness := (true, "1656a80c5c68bc42444644f727811544cc8958ad33c222409e553da217df7764"), looks := false }, kinds := [], alts := [], laidByText := true, laidKinds := [.data, .pinned], laidTests := true, laidLooks := .later }
def SayLongCardSaid : Prop := Claim7.holds Tryd.pinned (.plain (OpenSpec.ofChange sayLongSpec)) sayLongCard

/-- THE TIED CARD OF 'calliopelaw27.SayLines'. -/
def sayLinesCard : Claim7 := { stood := { row := sayLinesRow, standIns := [], harness := (true, "1656a80c5c68bc42444644f727811544cc8958ad33c222409e553da217df7764"), looks := false }, kinds := [], alts := [], laidByText := true, laidKinds := [.data, .pinned], laidTests := true, laidLooks := .later }
def SayLinesCardSaid : Prop := Claim7.holds Tryd.pinned (.plain (OpenSpec.ofChange sayLinesSpec)) sayLinesCard

/-- THE TIED CARD OF 'calliopelaw27.SayScripts'. -/
def sayScriptsCard : Claim7 := { stood := { row := sayScriptsRow, standIns := [], harness := (true, "1656a80c5c68bc42444644f727811544cc8958ad33c222409e553da217df7764"), looks := false }, kinds := [], alts := [], laidByText := true, laidKinds := [.data, .pinned], laidTests := true, laidLooks := .later }
def SayScriptsCardSaid : Prop := Claim7.holds Tryd.pinned (.plain (OpenSpec.ofChange sayScriptsSpec)) sayScriptsCard

/-- THE SECOND FORM's CARD OF 'calliopelaw27.SayParses'. -/
def sayParsesUptoCard : Claim7 := { stood := { row := sayParsesUptoRow, standIns := [], harness := (true, "1656a80c5c68bc42444644f727811544cc8958ad33c222409e553da217df7764"), looks := false }, kinds := [], alts := [], laidByText := true, laidKinds := [.data, .pinned], laidTests := true, laidLooks := .later }
def SayParsesUptoCardSaid : Prop := Claim7.holds Tryd.pinned (.plain (OpenSpec.upto sayParsesSpec)) sayParsesUptoCard

/-- THE SECOND FORM's CARD OF 'calliopelaw27.SayWords'. -/
def sayWordsUptoCard : Claim7 := { stood := { row := sayWordsUptoRow, standIns := [], harness := (true, "1656a80c5c68bc42444644f727811544cc8958ad33c222409e553da217df7764"), looks := false }, kinds := [], alts := [], laidByText := true, laidKinds := [.data, .pinned], laidTests := true, laidLooks := .later }
def SayWordsUptoCardSaid : Prop := Claim7.holds Tryd.pinned (.plain (OpenSpec.upto sayWordsSpec)) sayWordsUptoCard

/-- THE SECOND FORM's CARD OF 'calliopelaw27.SayNumbers'. -/
def sayNumbersUptoCard : Claim7 := { stood := { row := sayNumbersUptoRow, standIns := [], harness := (true, "1656a80c5c68bc42444644f727811544cc8958ad33c222409e553da217df7764"), looks := false }, kinds := [], alts := [], laidByText := true, laidKinds := [.data, .pinned], laidTests := true, laidLooks := .later }
def SayNumbersUptoCardSaid : Prop := Claim7.holds Tryd.pinned (.plain (OpenSpec.upto sayNumbersSpec)) sayNumbersUptoCard

/-- THE SECOND FORM's CARD OF 'calliopelaw27.SayLong'. -/
def sayLongUptoCard : Claim7 := { stood := { row := sayLongUptoRow, standIns := [], harness := (true, "1656a80c5c68bc42444644f727811544cc8958ad33c222409e553da217df7764"), looks := false }, kinds := [], alts := [], laidByText := true, laidKinds := [.data, .pinned], laidTests := true, laidLooks := .later }
def SayLongUptoCardSaid : Prop := Claim7.holds Tryd.pinned (.plain (OpenSpec.upto sayLongSpec)) sayLongUptoCard

/-- THE SECOND FORM's CARD OF 'calliopelaw27.SayLines'. -/
def sayLinesUptoCard : Claim7 := { stood := { row := sayLinesUptoRow, standIns := [], harness := (true, "1656a80c5c68bc42444644f727811544cc8958ad33c222409e553da217df7764"), looks := false }, kinds := [], alts := [], laidByText := true, laidKinds := [.data, .pinned], laidTests := true, laidLooks := .later }
def SayLinesUptoCardSaid : Prop := Claim7.holds Tryd.pinned (.plain (OpenSpec.upto sayLinesSpec)) sayLinesUptoCard

/-- THE SECOND FORM's CARD OF 'calliopelaw27.SayScripts'. -/
def sayScriptsUptoCard : Claim7 := { stood := { row := sayScriptsUptoRow, standIns := [], harness := (true, "1656a80c5c68bc42444644f727811544cc8958ad33c222409e553da217df7764"), looks := false }, kinds := [], alts := [], laidByText := true, laidKinds := [.data, .pinned], laidTests := true, laidLooks := .later }
def SayScriptsUptoCardSaid : Prop := Claim7.holds Tryd.pinned (.plain (OpenSpec.upto sayScriptsSpec)) sayScriptsUptoCard
end Rows
end Go.Proofs.YtflpblggpbgeiaaDoor
