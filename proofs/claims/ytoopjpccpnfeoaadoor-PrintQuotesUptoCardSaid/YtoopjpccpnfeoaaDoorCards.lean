/-
  DERIVED. GIVEN WITH THE SEED: THE CARDS: each row of YtoopjpccpnfeoaaDoorRows.lean that lists a variable, with what it lists TIED to the program's text (the seventh form; the later family's looks); each row that meets fmt, with fmt's text TOLD by the authors' own Lean function (tested against real Go, not proved from fmt's source: count such statements apart). THE CARD IS WHAT COUNTS. Prove the row's statement (the work); the ties are given (YtoopjpccpnfeoaaDoorTie.lean); close each card by the builder's one call (the guide's Derived/Test/ToyasCard.lean, 'card_holds'). Laid BY PROGRAM, IN A SANDBOX (cutbox-door.mjs). By AI agents, Wed Nov 11 2026. No macro, syntax, notation, axiom, sorry.
-/
import Derived.Test.YtoopjpccpnfeoaaDoorRows
import GoSem.ClaimSeven
namespace Go.Proofs.YtoopjpccpnfeoaaDoor
namespace Rows

/-- THE TIED CARD OF 'tinsellaw21.PrintQuotes'. -/
def printQuotesCard : Claim7 := { stood := { row := printQuotesRow, standIns := [], harness := (true, "56232139a4ce0e9b38409e4a50fd8fc39d34cefb6ed41b7b43e974334fa701d1"), looks := false }, kinds := [], alts := [], laidByText := true, laidKinds := [.data, .data, .data, .data, .pinned, .pinned], laidTests := true, laidLooks := .later }
def PrintQuotesCardSaid : Prop := Claim7.holds Tryd.pinned (.plain (OpenSpec.ofChange printQuotesSpec)) printQuotesCard

/-- THE TIED CARD OF 'tinsellaw21.PrintEscapes'. -/
def printEscapesCard : Claim7 := { stood := { row := printEscapesRow, standIns := [], harness := (true, "56232139a4ce0e9b38409e4a50fd8fc39d34cefb6ed41b7b43e974334fa701d1"), looks := false }, kinds := [], alts := [], laidByText := true, laidKinds := [.data, .data, .data, .data, .pinned, .pinned], laidTests := true, laidLooks := .later }
def PrintEscapesCardSaid : Prop := Claim7.holds Tryd.pinned (.plain (OpenSpec.ofChange printEscapesSpec)) printEscapesCard

/-- THE TIED CARD OF 'tinsellaw21.PrintBack'. -/
def printBackCard : Claim7 := { stood := { row := printBackRow, standIns := [], harness := (true, "56232139a4ce0e9b38409e4a50fd8fc39d34cefb6ed41b7b43e974334fa701d1"), looks := false }, kinds := [], alts := [], laidByText := true, laidKinds := [.data, .data, .data, .data, .pinned, .pinned], laidTests := true, laidLooks := .later }
def PrintBackCardSaid : Prop := Claim7.holds Tryd.pinned (.plain (OpenSpec.ofChange printBackSpec)) printBackCard

/-- THE SECOND FORM's CARD OF 'tinsellaw21.PrintQuotes'. -/
def printQuotesUptoCard : Claim7 := { stood := { row := printQuotesUptoRow, standIns := [], harness := (true, "56232139a4ce0e9b38409e4a50fd8fc39d34cefb6ed41b7b43e974334fa701d1"), looks := false }, kinds := [], alts := [], laidByText := true, laidKinds := [.data, .data, .data, .data, .pinned, .pinned], laidTests := true, laidLooks := .later }
def PrintQuotesUptoCardSaid : Prop := Claim7.holds Tryd.pinned (.plain (OpenSpec.upto printQuotesSpec)) printQuotesUptoCard

/-- THE SECOND FORM's CARD OF 'tinsellaw21.PrintEscapes'. -/
def printEscapesUptoCard : Claim7 := { stood := { row := printEscapesUptoRow, standIns := [], harness := (true, "56232139a4ce0e9b38409e4a50fd8fc39d34cefb6ed41b7b43e974334fa701d1"), looks := false }, kinds := [], alts := [], laidByText := true, laidKinds := [.data, .data, .data, .data, .pinned, .pinned], laidTests := true, laidLooks := .later }
def PrintEscapesUptoCardSaid : Prop := Claim7.holds Tryd.pinned (.plain (OpenSpec.upto printEscapesSpec)) printEscapesUptoCard

/-- THE SECOND FORM's CARD OF 'tinsellaw21.PrintBack'. -/
def printBackUptoCard : Claim7 := { stood := { row := printBackUptoRow, standIns := [], harness := (true, "56232139a4ce0e9b38409e4a50fd8fc39d34cefb6ed41b7b43e974334fa701d1"), looks := false }, kinds := [], alts := [], laidByText := true, laidKinds := [.data, .data, .data, .data, .pinned, .pinned], laidTests := true, laidLooks := .later }
def PrintBackUptoCardSaid : Prop := Claim7.holds Tryd.pinned (.plain (OpenSpec.upto printBackSpec)) printBackUptoCard
end Rows
end Go.Proofs.YtoopjpccpnfeoaaDoor
