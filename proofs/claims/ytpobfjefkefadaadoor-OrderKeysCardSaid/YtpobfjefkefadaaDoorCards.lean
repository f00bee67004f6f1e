/-
  DERIVED. GIVEN WITH THE SEED: THE CARDS: each row of YtpobfjefkefadaaDoorRows.lean that lists a variable, with what it lists TIED to the program's text (the seventh form; the later family's looks); each row that meets fmt, with fmt's text TOLD by the authors' own Lean function (tested against real Go, not proved from fmt's source: count such statements apart). THE CARD IS WHAT COUNTS. Prove the row's statement (the work); the ties are given (YtpobfjefkefadaaDoorTie.lean); close each card by the builder's one call (the guide's Derived/Test/ToyasCard.lean, 'card_holds'). Laid BY PROGRAM, IN A SANDBOX (cutbox-door.mjs). By AI agents, Wed Nov 11 2026. No macro, syntax, notation, axiom, sorry.
-/
import Derived.Test.YtpobfjefkefadaaDoorRows
import GoSem.ClaimSeven
namespace Go.Proofs.YtpobfjefkefadaaDoor
namespace Rows

/-- THE TIED CARD OF 'tinsellaw16.OrderNames'. -/
def orderNamesCard : Claim7 := { stood := { row := orderNamesRow, standIns := [], harness := (true, "2bc44991c60536bfc06790ada011d4dca5f551291ffe415467f0beb1148ed5b0"), looks := false }, kinds := [], alts := [], laidByText := true, laidKinds := [.data, .pinned], laidTests := true, laidLooks := .later }
def OrderNamesCardSaid : Prop := Claim7.holds Tryd.pinned (.plain (OpenSpec.ofChange orderNamesSpec)) orderNamesCard

/-- THE TIED CARD OF 'tinsellaw16.OrderKeys'. -/
def orderKeysCard : Claim7 := { stood := { row := orderKeysRow, standIns := [], harness := (true, "2bc44991c60536bfc06790ada011d4dca5f551291ffe415467f0beb1148ed5b0"), looks := false }, kinds := [], alts := [], laidByText := true, laidKinds := [.data, .pinned], laidTests := true, laidLooks := .later }
def OrderKeysCardSaid : Prop := Claim7.holds Tryd.pinned (.plain (OpenSpec.ofChange orderKeysSpec)) orderKeysCard

/-- THE TIED CARD OF 'tinsellaw16.OrderParts'. -/
def orderPartsCard : Claim7 := { stood := { row := orderPartsRow, standIns := [], harness := (true, "2bc44991c60536bfc06790ada011d4dca5f551291ffe415467f0beb1148ed5b0"), looks := false }, kinds := [], alts := [], laidByText := true, laidKinds := [.data, .pinned], laidTests := true, laidLooks := .later }
def OrderPartsCardSaid : Prop := Claim7.holds Tryd.pinned (.plain (OpenSpec.ofChange orderPartsSpec)) orderPartsCard

/-- THE TIED CARD OF 'tinsellaw16.OrderStands'. -/
def orderStandsCard : Claim7 := { stood := { row := orderStandsRow, standIns := [], harness := (true, "2bc44991c60536bfc06790ada011d4dca5f551291ffe415467f0beb1148ed5b0"), looks := false }, kinds := [], alts := [], laidByText := true, laidKinds := [.data, .pinned], laidTests := true, laidLooks := .later }
def OrderStandsCardSaid : Prop := Claim7.holds Tryd.pinned (.plain (OpenSpec.ofChange orderStandsSpec)) orderStandsCard

/-- THE TIED CARD OF 'tinsellaw16.OrderMerges'. -/
def orderMergesCard : Claim7 := { stood := { row := orderMergesRow, standIns := [], harness := (true, "2bc44991c60536bfc06790ada011d4dca5f551291ffe415467f0beb1148ed5b0"), looks := false }, kinds := [], alts := [], laidByText := true, laidKinds := [.data, .pinned], laidTests := true, laidLooks := .later }
def OrderMergesCardSaid : Prop := Claim7.holds Tryd.pinned (.plain (OpenSpec.ofChange orderMergesSpec)) orderMergesCard

/-- THE TIED CARD OF 'tinsellaw16.OrderUniqs'. -/
def orderUniqsCard : Claim7 := { stood := { row := orderUniqsRow, standIns := [], harness := (true, "2bc44991c60536bfc06790ada011d4dca5f551291ffe415467f0beb1148ed5b0"), looks := false }, kinds := [], alts := [], laidByText := true, laidKinds := [.data, .pinned], laidTests := true, laidLooks := .later }
def OrderUniqsCardSaid : Prop := Claim7.holds Tryd.pinned (.plain (OpenSpec.ofChange orderUniqsSpec)) orderUniqsCard

/-- THE TIED CARD OF 'tinsellaw16.OrderComms'. -/
def orderCommsCard : Claim7 := { stood := { row := orderCommsRow, standIns := [], harness := (true, "2bc44991c60536bfc06790ada011d4dca5f551291ffe415467f0beb1148ed5b0"), looks := false }, kinds := [], alts := [], laidByText := true, laidKinds := [.data, .pinned], laidTests := true, laidLooks := .later }
def OrderCommsCardSaid : Prop := Claim7.holds Tryd.pinned (.plain (OpenSpec.ofChange orderCommsSpec)) orderCommsCard

/-- THE TIED CARD OF 'tinsellaw16.OrderHalves'. -/
def orderHalvesCard : Claim7 := { stood := { row := orderHalvesRow, standIns := [], harness := (true, "2bc44991c60536bfc06790ada011d4dca5f551291ffe415467f0beb1148ed5b0"), looks := false }, kinds := [], alts := [], laidByText := true, laidKinds := [.data, .pinned], laidTests := true, laidLooks := .later }
def OrderHalvesCardSaid : Prop := Claim7.holds Tryd.pinned (.plain (OpenSpec.ofChange orderHalvesSpec)) orderHalvesCard

/-- THE TIED CARD OF 'tinsellaw16.OrderJoins'. -/
def orderJoinsCard : Claim7 := { stood := { row := orderJoinsRow, standIns := [], harness := (true, "2bc44991c60536bfc06790ada011d4dca5f551291ffe415467f0beb1148ed5b0"), looks := false }, kinds := [], alts := [], laidByText := true, laidKinds := [.data, .pinned], laidTests := true, laidLooks := .later }
def OrderJoinsCardSaid : Prop := Claim7.holds Tryd.pinned (.plain (OpenSpec.ofChange orderJoinsSpec)) orderJoinsCard

/-- THE SECOND FORM's CARD OF 'tinsellaw16.OrderNames'. -/
def orderNamesUptoCard : Claim7 := { stood := { row := orderNamesUptoRow, standIns := [], harness := (true, "2bc44991c60536bfc06790ada011d4dca5f551291ffe415467f0beb1148ed5b0"), looks := false }, kinds := [], alts := [], laidByText := true, laidKinds := [.data, .pinned], laidTests := true, laidLooks := .later }
def OrderNamesUptoCardSaid : Prop := Claim7.holds Tryd.pinned (.plain (OpenSpec.upto orderNamesSpec)) orderNamesUptoCard

/-- THE SECOND FORM's CARD OF 'tinsellaw16.OrderKeys'. -/
def orderKeysUptoCard : Claim7 := { stood := { row := orderKeysUptoRow, standIns := [], harness := (true, "2bc44991c60536bfc06790ada011d4dca5f551291ffe415467f0beb1148ed5b0"), looks := false }, kinds := [], alts := [], laidByText := true, laidKinds := [.data, .pinned], laidTests := true, laidLooks := .later }
def OrderKeysUptoCardSaid : Prop := Claim7.holds Tryd.pinned (.plain (OpenSpec.upto orderKeysSpec)) orderKeysUptoCard

/-- THE SECOND FORM's CARD OF 'tinsellaw16.OrderParts'. -/
def orderPartsUptoCard : Claim7 := { stood := { row := orderPartsUptoRow, standIns := [], harness := (true, "2bc44991c60536bfc06790ada011d4dca5f551291ffe415467f0beb1148ed5b0"), looks := false }, kinds := [], alts := [], laidByText := true, laidKinds := [.data, .pinned], laidTests := true, laidLooks := .later }
def OrderPartsUptoCardSaid : Prop := Claim7.holds Tryd.pinned (.plain (OpenSpec.upto orderPartsSpec)) orderPartsUptoCard

/-- THE SECOND FORM's CARD OF 'tinsellaw16.OrderStands'. -/
def orderStandsUptoCard : Claim7 := { stood := { row := orderStandsUptoRow, standIns := [], harness := (true, "2bc44991c60536bfc06790ada011d4dca5f551291ffe415467f0beb1148ed5b0"), looks := false }, kinds := [], alts := [], laidByText := true, laidKinds := [.data, .pinned], laidTests := true, laidLooks := .later }
def OrderStandsUptoCardSaid : Prop := Claim7.holds Tryd.pinned (.plain (OpenSpec.upto orderStandsSpec)) orderStandsUptoCard

/-- THE SECOND FORM's CARD OF 'tinsellaw16.OrderMerges'. -/
def orderMergesUptoCard : Claim7 := { stood := { row := orderMergesUptoRow, standIns := [], harness := (true, "2bc44991c60536bfc06790ada011d4dca5f551291ffe415467f0beb1148ed5b0"), looks := false }, kinds := [], alts := [], laidByText := true, laidKinds := [.data, .pinned], laidTests := true, laidLooks := .later }
def OrderMergesUptoCardSaid : Prop := Claim7.holds Tryd.pinned (.plain (OpenSpec.upto orderMergesSpec)) orderMergesUptoCard

/-- THE SECOND FORM's CARD OF 'tinsellaw16.OrderUniqs'. -/
def orderUniqsUptoCard : Claim7 := { stood := { row := orderUniqsUptoRow, standIns := [], harness := (true, "2bc44991c60536bfc06790ada011d4dca5f551291ffe415467f0beb1148ed5b0"), looks := false }, kinds := [], alts := [], laidByText := true, laidKinds := [.data, .pinned], laidTests := true, laidLooks := .later }
def OrderUniqsUptoCardSaid : Prop := Claim7.holds Tryd.pinned (.plain (OpenSpec.upto orderUniqsSpec)) orderUniqsUptoCard

/-- THE SECOND FORM's CARD OF 'tinsellaw16.OrderComms'. -/
def orderCommsUptoCard : Claim7 := { stood := { row := orderCommsUptoRow, standIns := [], harness := (true, "2bc44991c60536bfc06790ada011d4dca5f551291ffe415467f0beb1148ed5b0"), looks := false }, kinds := [], alts := [], laidByText := true, laidKinds := [.data, .pinned], laidTests := true, laidLooks := .later }
def OrderCommsUptoCardSaid : Prop := Claim7.holds Tryd.pinned (.plain (OpenSpec.upto orderCommsSpec)) orderCommsUptoCard

/-- THE SECOND FORM's CARD OF 'tinsellaw16.OrderHalves'. -/
def orderHalvesUptoCard : Claim7 := { stood := { row := orderHalvesUptoRow, standIns := [], harness := (true, "2bc44991c60536bfc06790ada011d4dca5f551291ffe415467f0beb1148ed5b0"), looks := false }, kinds := [], alts := [], laidByText := true, laidKinds := [.data, .pinned], laidTests := true, laidLooks := .later }
def OrderHalvesUptoCardSaid : Prop := Claim7.holds Tryd.pinned (.plain (OpenSpec.upto orderHalvesSpec)) orderHalvesUptoCard

/-- THE SECOND FORM's CARD OF 'tinsellaw16.OrderJoins'. -/
def orderJoinsUptoCard : Claim7 := { stood := { row := orderJoinsUptoRow, standIns := [], harness := (true, "2bc44991c60536bfc06790ada011d4dca5f551291ffe415467f0beb1148ed5b0"), looks := false }, kinds := [], alts := [], laidByText := true, laidKinds := [.data, .pinned], laidTests := true, laidLooks := .later }
def OrderJoinsUptoCardSaid : Prop := Claim7.holds Tryd.pinned (.plain (OpenSpec.upto orderJoinsSpec)) orderJoinsUptoCard
end Rows
end Go.Proofs.YtpobfjefkefadaaDoor
