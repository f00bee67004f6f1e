/-
  DERIVED. GIVEN WITH THE SEED: THE CARDS: each row of YtplebkbclhgkbaaGreatDoorRows.lean that lists a variable, with what it lists TIED to the program's text (the seventh form; the later family's looks); each row that meets fmt, with fmt's text TOLD by the authors' own Lean function (tested against real Go, not proved from fmt's source: count such statements apart). THE CARD IS WHAT COUNTS. Prove the row's statement (the work); the ties are given (YtplebkbclhgkbaaGreatDoorTie.lean); close each card by the builder's one call (the guide's Derived/Test/ToyasCard.lean, 'card_holds'). Laid BY PROGRAM, IN A SANDBOX (cutbox-door.mjs). By AI agents, Wed Nov 11 2026. No macro, syntax, notation, axiom, sorry.
-/
import Derived.Test.YtplebkbclhgkbaaGreatDoorRows
import GoSem.ClaimSeven
namespace Go.Proofs.YtplebkbclhgkbaaGreatDoor
namespace Rows

/-- THE TIED CARD OF 'tinsellaw20.FindTries'. -/
def findTriesCard : Claim7 := { stood := { row := findTriesRow, standIns := [], harness := (true, "ee5f7cd389ffa425b83331a463092ad0f2cb068e6d53be41386255d72c2dcbf4"), looks := true }, kinds := [], alts := [], laidByText := true, laidKinds := [.data, .data, .data, .data, .data, .pinned], laidTests := true, laidLooks := .later }
def FindTriesCardSaid : Prop := Claim7.holds Tryz.pinned (.plain (OpenSpec.ofChange findTriesSpec)) findTriesCard

/-- THE TIED CARD OF 'tinsellaw20.FindNone'. -/
def findNoneCard : Claim7 := { stood := { row := findNoneRow, standIns := [], harness := (true, "ee5f7cd389ffa425b83331a463092ad0f2cb068e6d53be41386255d72c2dcbf4"), looks := true }, kinds := [], alts := [], laidByText := true, laidKinds := [.data, .data, .data, .data, .data, .pinned], laidTests := true, laidLooks := .later }
def FindNoneCardSaid : Prop := Claim7.holds Tryz.pinned (.plain (OpenSpec.ofChange findNoneSpec)) findNoneCard

/-- THE TIED CARD OF 'tinsellaw20.FindRuns'. -/
def findRunsCard : Claim7 := { stood := { row := findRunsRow, standIns := [], harness := (true, "ee5f7cd389ffa425b83331a463092ad0f2cb068e6d53be41386255d72c2dcbf4"), looks := true }, kinds := [], alts := [], laidByText := true, laidKinds := [.data, .data, .data, .data, .data, .pinned], laidTests := true, laidLooks := .later }
def FindRunsCardSaid : Prop := Claim7.holds Tryz.pinned (.plain (OpenSpec.ofChange findRunsSpec)) findRunsCard

/-- THE SECOND FORM's CARD OF 'tinsellaw20.FindTries'. -/
def findTriesUptoCard : Claim7 := { stood := { row := findTriesUptoRow, standIns := [], harness := (true, "ee5f7cd389ffa425b83331a463092ad0f2cb068e6d53be41386255d72c2dcbf4"), looks := true }, kinds := [], alts := [], laidByText := true, laidKinds := [.data, .data, .data, .data, .data, .pinned], laidTests := true, laidLooks := .later }
def FindTriesUptoCardSaid : Prop := Claim7.holds Tryz.pinned (.plain (OpenSpec.upto findTriesSpec)) findTriesUptoCard

/-- THE SECOND FORM's CARD OF 'tinsellaw20.FindNone'. -/
def findNoneUptoCard : Claim7 := { stood := { row := findNoneUptoRow, standIns := [], harness := (true, "ee5f7cd389ffa425b83331a463092ad0f2cb068e6d53be41386255d72c2dcbf4"), looks := true }, kinds := [], alts := [], laidByText := true, laidKinds := [.data, .data, .data, .data, .data, .pinned], laidTests := true, laidLooks := .later }
def FindNoneUptoCardSaid : Prop := Claim7.holds Tryz.pinned (.plain (OpenSpec.upto findNoneSpec)) findNoneUptoCard

/-- THE SECOND FORM's CARD OF 'tinsellaw20.FindRuns'. -/
def findRunsUptoCard : Claim7 := { stood := { row := findRunsUptoRow, standIns := [], harness := (true, "ee5f7cd389ffa425b83331a463092ad0f2cb068e6d53be41386255d72c2dcbf4"), looks := true }, kinds := [], alts := [], laidByText := true, laidKinds := [.data, .data, .data, .data, .data, .pinned], laidTests := true, laidLooks := .later }
def FindRunsUptoCardSaid : Prop := Claim7.holds Tryz.pinned (.plain (OpenSpec.upto findRunsSpec)) findRunsUptoCard
end Rows
end Go.Proofs.YtplebkbclhgkbaaGreatDoor
