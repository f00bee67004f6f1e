/-
  DERIVED. GIVEN WITH THE SEED: THE CARDS: each row of YtgmmgbdohkdinaaDoorRows.lean that lists a variable, with what it lists TIED to the program's text (the seventh form; the later family's looks); each row that meets fmt, with fmt's text TOLD by the authors' own Lean function (tested against real Go, not proved from fmt's source: count such statements apart). THE CARD IS WHAT COUNTS. Prove the row's statement (the work); the ties are given (YtgmmgbdohkdinaaDoorTie.lean); close each card by the builder's one call (the guide's Derived/Test/ToyasCard.lean, 'card_holds'). Laid BY PROGRAM, IN A SANDBOX (cutbox-door.mjs). By AI agents, Wed Nov 11 2026. No macro, syntax, notation, axiom, sorry.
-/
import Derived.Test.YtgmmgbdohkdinaaDoorRows
import GoSem.ClaimSeven
namespace Go.Proofs.YtgmmgbdohkdinaaDoor
namespace Rows

/-- THE TIED CARD OF 'tinsellaw12.GlobNames'. -/
def globNamesCard : Claim7 := { stood := { row := globNamesRow, standIns := [], harness := (true, "bec0d103e8b607c6e3deb6cf875b03f38005a4a58e8ad120838ddaa94bd361cb"), looks := true }, kinds := [], alts := [], laidByText := true, laidKinds := [.data, .pinned], laidTests := true, laidLooks := .later }
def GlobNamesCardSaid : Prop := Claim7.holds Tryd.pinned (.plain (OpenSpec.ofChange globNamesSpec)) globNamesCard

/-- THE TIED CARD OF 'tinsellaw12.GlobSets'. -/
def globSetsCard : Claim7 := { stood := { row := globSetsRow, standIns := [], harness := (true, "bec0d103e8b607c6e3deb6cf875b03f38005a4a58e8ad120838ddaa94bd361cb"), looks := true }, kinds := [], alts := [], laidByText := true, laidKinds := [.data, .pinned], laidTests := true, laidLooks := .later }
def GlobSetsCardSaid : Prop := Claim7.holds Tryd.pinned (.plain (OpenSpec.ofChange globSetsSpec)) globSetsCard

/-- THE TIED CARD OF 'tinsellaw12.GlobStars'. -/
def globStarsCard : Claim7 := { stood := { row := globStarsRow, standIns := [], harness := (true, "bec0d103e8b607c6e3deb6cf875b03f38005a4a58e8ad120838ddaa94bd361cb"), looks := true }, kinds := [], alts := [], laidByText := true, laidKinds := [.data, .pinned], laidTests := true, laidLooks := .later }
def GlobStarsCardSaid : Prop := Claim7.holds Tryd.pinned (.plain (OpenSpec.ofChange globStarsSpec)) globStarsCard

/-- THE TIED CARD OF 'tinsellaw12.GlobFilters'. -/
def globFiltersCard : Claim7 := { stood := { row := globFiltersRow, standIns := [], harness := (true, "bec0d103e8b607c6e3deb6cf875b03f38005a4a58e8ad120838ddaa94bd361cb"), looks := true }, kinds := [], alts := [], laidByText := true, laidKinds := [.data, .pinned], laidTests := true, laidLooks := .later }
def GlobFiltersCardSaid : Prop := Claim7.holds Tryd.pinned (.plain (OpenSpec.ofChange globFiltersSpec)) globFiltersCard

/-- THE TIED CARD OF 'tinsellaw12.GlobMatches'. -/
def globMatchesCard : Claim7 := { stood := { row := globMatchesRow, standIns := [], harness := (true, "bec0d103e8b607c6e3deb6cf875b03f38005a4a58e8ad120838ddaa94bd361cb"), looks := true }, kinds := [], alts := [], laidByText := true, laidKinds := [.data, .pinned], laidTests := true, laidLooks := .later }
def GlobMatchesCardSaid : Prop := Claim7.holds Tryd.pinned (.plain (OpenSpec.ofChange globMatchesSpec)) globMatchesCard

/-- THE TIED CARD OF 'tinsellaw12.GlobQuotes'. -/
def globQuotesCard : Claim7 := { stood := { row := globQuotesRow, standIns := [], harness := (true, "bec0d103e8b607c6e3deb6cf875b03f38005a4a58e8ad120838ddaa94bd361cb"), looks := true }, kinds := [], alts := [], laidByText := true, laidKinds := [.data, .pinned], laidTests := true, laidLooks := .later }
def GlobQuotesCardSaid : Prop := Claim7.holds Tryd.pinned (.plain (OpenSpec.ofChange globQuotesSpec)) globQuotesCard

/-- THE TIED CARD OF 'tinsellaw12.GlobMaps'. -/
def globMapsCard : Claim7 := { stood := { row := globMapsRow, standIns := [], harness := (true, "bec0d103e8b607c6e3deb6cf875b03f38005a4a58e8ad120838ddaa94bd361cb"), looks := true }, kinds := [], alts := [], laidByText := true, laidKinds := [.data, .pinned], laidTests := true, laidLooks := .later }
def GlobMapsCardSaid : Prop := Claim7.holds Tryd.pinned (.plain (OpenSpec.ofChange globMapsSpec)) globMapsCard

/-- THE TIED CARD OF 'tinsellaw12.GlobTurns'. -/
def globTurnsCard : Claim7 := { stood := { row := globTurnsRow, standIns := [], harness := (true, "bec0d103e8b607c6e3deb6cf875b03f38005a4a58e8ad120838ddaa94bd361cb"), looks := true }, kinds := [], alts := [], laidByText := true, laidKinds := [.data, .pinned], laidTests := true, laidLooks := .later }
def GlobTurnsCardSaid : Prop := Claim7.holds Tryd.pinned (.plain (OpenSpec.ofChange globTurnsSpec)) globTurnsCard

/-- THE SECOND FORM's CARD OF 'tinsellaw12.GlobNames'. -/
def globNamesUptoCard : Claim7 := { stood := { row := globNamesUptoRow, standIns := [], harness := (true, "bec0d103e8b607c6e3deb6cf875b03f38005a4a58e8ad120838ddaa94bd361cb"), looks := true }, kinds := [], alts := [], laidByText := true, laidKinds := [.data, .pinned], laidTests := true, laidLooks := .later }
def GlobNamesUptoCardSaid : Prop := Claim7.holds Tryd.pinned (.plain (OpenSpec.upto globNamesSpec)) globNamesUptoCard

/-- THE SECOND FORM's CARD OF 'tinsellaw12.GlobSets'. -/
def globSetsUptoCard : Claim7 := { stood := { row := globSetsUptoRow, standIns := [], harness := (true, "bec0d103e8b607c6e3deb6cf875b03f38005a4a58e8ad120838ddaa94bd361cb"), looks := true }, kinds := [], alts := [], laidByText := true, laidKinds := [.data, .pinned], laidTests := true, laidLooks := .later }
def GlobSetsUptoCardSaid : Prop := Claim7.holds Tryd.pinned (.plain (OpenSpec.upto globSetsSpec)) globSetsUptoCard

/-- THE SECOND FORM's CARD OF 'tinsellaw12.GlobStars'. -/
def globStarsUptoCard : Claim7 := { stood := { row := globStarsUptoRow, standIns := [], harness := (true, "bec0d103e8b607c6e3deb6cf875b03f38005a4a58e8ad120838ddaa94bd361cb"), looks := true }, kinds := [], alts := [], laidByText := true, laidKinds := [.data, .pinned], laidTests := true, laidLooks := .later }
def GlobStarsUptoCardSaid : Prop := Claim7.holds Tryd.pinned (.plain (OpenSpec.upto globStarsSpec)) globStarsUptoCard

/-- THE SECOND FORM's CARD OF 'tinsellaw12.GlobFilters'. -/
def globFiltersUptoCard : Claim7 := { stood := { row := globFiltersUptoRow, standIns := [], harness := (true, "bec0d103e8b607c6e3deb6cf875b03f38005a4a58e8ad120838ddaa94bd361cb"), looks := true }, kinds := [], alts := [], laidByText := true, laidKinds := [.data, .pinned], laidTests := true, laidLooks := .later }
def GlobFiltersUptoCardSaid : Prop := Claim7.holds Tryd.pinned (.plain (OpenSpec.upto globFiltersSpec)) globFiltersUptoCard

/-- THE SECOND FORM's CARD OF 'tinsellaw12.GlobMatches'. -/
def globMatchesUptoCard : Claim7 := { stood := { row := globMatchesUptoRow, standIns := [], harness := (true, "bec0d103e8b607c6e3deb6cf875b03f38005a4a58e8ad120838ddaa94bd361cb"), looks := true }, kinds := [], alts := [], laidByText := true, laidKinds := [.data, .pinned], laidTests := true, laidLooks := .later }
def GlobMatchesUptoCardSaid : Prop := Claim7.holds Tryd.pinned (.plain (OpenSpec.upto globMatchesSpec)) globMatchesUptoCard

/-- THE SECOND FORM's CARD OF 'tinsellaw12.GlobQuotes'. -/
def globQuotesUptoCard : Claim7 := { stood := { row := globQuotesUptoRow, standIns := [], harness := (true, "bec0d103e8b607c6e3deb6cf875b03f38005a4a58e8ad120838ddaa94bd361cb"), looks := true }, kinds := [], alts := [], laidByText := true, laidKinds := [.data, .pinned], laidTests := true, laidLooks := .later }
def GlobQuotesUptoCardSaid : Prop := Claim7.holds Tryd.pinned (.plain (OpenSpec.upto globQuotesSpec)) globQuotesUptoCard

/-- THE SECOND FORM's CARD OF 'tinsellaw12.GlobMaps'. -/
def globMapsUptoCard : Claim7 := { stood := { row := globMapsUptoRow, standIns := [], harness := (true, "bec0d103e8b607c6e3deb6cf875b03f38005a4a58e8ad120838ddaa94bd361cb"), looks := true }, kinds := [], alts := [], laidByText := true, laidKinds := [.data, .pinned], laidTests := true, laidLooks := .later }
def GlobMapsUptoCardSaid : Prop := Claim7.holds Tryd.pinned (.plain (OpenSpec.upto globMapsSpec)) globMapsUptoCard

/-- THE SECOND FORM's CARD OF 'tinsellaw12.GlobTurns'. -/
def globTurnsUptoCard : Claim7 := { stood := { row := globTurnsUptoRow, standIns := [], harness := (true, "bec0d103e8b607c6e3deb6cf875b03f38005a4a58e8ad120838ddaa94bd361cb"), looks := true }, kinds := [], alts := [], laidByText := true, laidKinds := [.data, .pinned], laidTests := true, laidLooks := .later }
def GlobTurnsUptoCardSaid : Prop := Claim7.holds Tryd.pinned (.plain (OpenSpec.upto globTurnsSpec)) globTurnsUptoCard
end Rows
end Go.Proofs.YtgmmgbdohkdinaaDoor
