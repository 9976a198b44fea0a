/-
  DERIVED. GIVEN WITH THE SEED: THE CARDS: each row of YtfchbodbkdkcfaaDoorRows.lean that lists a variable, with what it lists TIED to the program's text (the seventh form; the later family's looks); each row that meets fmt, with fmt's text TOLD by the authors' own Lean function (tested against real Go, not proved from fmt's source: count such statements apart). THE CARD IS WHAT COUNTS. Prove the row's statement (the work); the ties are given (YtfchbodbkdkcfaaDoorTie.lean); close each card by the builder's one call (the guide's Derived/Test/ToyasCard.lean, 'card_holds'). Laid BY PROGRAM, IN A SANDBOX (cutbox-door.mjs). By AI agents, Wed Nov 11 2026. No macro, syntax, notation, axiom, sorry.
-/
import Derived.Test.YtfchbodbkdkcfaaDoorRows
import GoSem.ClaimSeven
namespace Go.Proofs.YtfchbodbkdkcfaaDoor
namespace Rows

/-- THE TIED CARD OF 'cofferlaw13.RekeyRooms'. -/
def rekeyRoomsCard : Claim7 := { stood := { row := rekeyRoomsRow, standIns := [], harness := (true, "f4dc63fa5965e96713ed45e3556dbd2e8d1d995f700e31bdc054c4018f480cc9"), looks := false }, kinds := [], alts := [], laidByText := true, laidKinds := [.widerDeep], laidTests := true, laidLooks := .later }
def RekeyRoomsCardSaid : Prop := Claim7.holds Tryd.pinned (.plain (OpenSpec.ofChange rekeyRoomsSpec)) rekeyRoomsCard

/-- THE TIED CARD OF 'cofferlaw09.LedgerShapes'. -/
def ledgerShapesCard : Claim7 := { stood := { row := ledgerShapesRow, standIns := [], harness := (true, "f4dc63fa5965e96713ed45e3556dbd2e8d1d995f700e31bdc054c4018f480cc9"), looks := false }, kinds := [], alts := [], laidByText := true, laidKinds := [.widerDeep], laidTests := true, laidLooks := .later }
def LedgerShapesCardSaid : Prop := Claim7.holds Tryd.pinned (.plain (OpenSpec.ofChange ledgerShapesSpec)) ledgerShapesCard

/-- THE TIED CARD OF 'cofferlaw09.LedgerTokens'. -/
def ledgerTokensCard : Claim7 := { stood := { row := ledgerTokensRow, standIns := [], harness := (true, "f4dc63fa5965e96713ed45e3556dbd2e8d1d995f700e31bdc054c4018f480cc9"), looks := false }, kinds := [], alts := [], laidByText := true, laidKinds := [.data, .pinned], laidTests := true, laidLooks := .later }
def LedgerTokensCardSaid : Prop := Claim7.holds Tryd.pinned (.plain (OpenSpec.ofChange ledgerTokensSpec)) ledgerTokensCard

/-- THE TIED CARD OF 'cofferlaw09.LedgerSegments'. -/
def ledgerSegmentsCard : Claim7 := { stood := { row := ledgerSegmentsRow, standIns := [], harness := (true, "f4dc63fa5965e96713ed45e3556dbd2e8d1d995f700e31bdc054c4018f480cc9"), looks := false }, kinds := [], alts := [], laidByText := true, laidKinds := [.widerDeep], laidTests := true, laidLooks := .later }
def LedgerSegmentsCardSaid : Prop := Claim7.holds Tryd.pinned (.plain (OpenSpec.ofChange ledgerSegmentsSpec)) ledgerSegmentsCard

/-- THE TIED CARD OF 'cofferlaw13.RekeyBegins'. -/
def rekeyBeginsCard : Claim7 := { stood := { row := rekeyBeginsRow, standIns := [], harness := (true, "f4dc63fa5965e96713ed45e3556dbd2e8d1d995f700e31bdc054c4018f480cc9"), looks := false }, kinds := [], alts := [], laidByText := true, laidKinds := [.widerDeep], laidTests := true, laidLooks := .later }
def RekeyBeginsCardSaid : Prop := Claim7.holds Tryd.pinned (.plain (OpenSpec.ofChange rekeyBeginsSpec)) rekeyBeginsCard

/-- THE TIED CARD OF 'cofferlaw13.RekeyNexts'. -/
def rekeyNextsCard : Claim7 := { stood := { row := rekeyNextsRow, standIns := [], harness := (true, "f4dc63fa5965e96713ed45e3556dbd2e8d1d995f700e31bdc054c4018f480cc9"), looks := false }, kinds := [], alts := [], laidByText := true, laidKinds := [.widerDeep], laidTests := true, laidLooks := .later }
def RekeyNextsCardSaid : Prop := Claim7.holds Tryd.pinned (.plain (OpenSpec.ofChange rekeyNextsSpec)) rekeyNextsCard

/-- THE SECOND FORM's CARD OF 'cofferlaw13.RekeyRooms'. -/
def rekeyRoomsUptoCard : Claim7 := { stood := { row := rekeyRoomsUptoRow, standIns := [], harness := (true, "f4dc63fa5965e96713ed45e3556dbd2e8d1d995f700e31bdc054c4018f480cc9"), looks := false }, kinds := [], alts := [], laidByText := true, laidKinds := [.widerDeep], laidTests := true, laidLooks := .later }
def RekeyRoomsUptoCardSaid : Prop := Claim7.holds Tryd.pinned (.plain (OpenSpec.upto rekeyRoomsSpec)) rekeyRoomsUptoCard

/-- THE SECOND FORM's CARD OF 'cofferlaw09.LedgerShapes'. -/
def ledgerShapesUptoCard : Claim7 := { stood := { row := ledgerShapesUptoRow, standIns := [], harness := (true, "f4dc63fa5965e96713ed45e3556dbd2e8d1d995f700e31bdc054c4018f480cc9"), looks := false }, kinds := [], alts := [], laidByText := true, laidKinds := [.widerDeep], laidTests := true, laidLooks := .later }
def LedgerShapesUptoCardSaid : Prop := Claim7.holds Tryd.pinned (.plain (OpenSpec.upto ledgerShapesSpec)) ledgerShapesUptoCard

/-- THE SECOND FORM's CARD OF 'cofferlaw09.LedgerTokens'. -/
def ledgerTokensUptoCard : Claim7 := { stood := { row := ledgerTokensUptoRow, standIns := [], harness := (true, "f4dc63fa5965e96713ed45e3556dbd2e8d1d995f700e31bdc054c4018f480cc9"), looks := false }, kinds := [], alts := [], laidByText := true, laidKinds := [.data, .pinned], laidTests := true, laidLooks := .later }
def LedgerTokensUptoCardSaid : Prop := Claim7.holds Tryd.pinned (.plain (OpenSpec.upto ledgerTokensSpec)) ledgerTokensUptoCard

/-- THE SECOND FORM's CARD OF 'cofferlaw09.LedgerSegments'. -/
def ledgerSegmentsUptoCard : Claim7 := { stood := { row := ledgerSegmentsUptoRow, standIns := [], harness := (true, "f4dc63fa5965e96713ed45e3556dbd2e8d1d995f700e31bdc054c4018f480cc9"), looks := false }, kinds := [], alts := [], laidByText := true, laidKinds := [.widerDeep], laidTests := true, laidLooks := .later }
def LedgerSegmentsUptoCardSaid : Prop := Claim7.holds Tryd.pinned (.plain (OpenSpec.upto ledgerSegmentsSpec)) ledgerSegmentsUptoCard

/-- THE SECOND FORM's CARD OF 'cofferlaw13.RekeyBegins'. -/
def rekeyBeginsUptoCard : Claim7 := { stood := { row := rekeyBeginsUptoRow, standIns := [], harness := (true, "f4dc63fa5965e96713ed45e3556dbd2e8d1d995f700e31bdc054c4018f480cc9"), looks := false }, kinds := [], alts := [], laidByText := true, laidKinds := [.widerDeep], laidTests := true, laidLooks := .later }
def RekeyBeginsUptoCardSaid : Prop := Claim7.holds Tryd.pinned (.plain (OpenSpec.upto rekeyBeginsSpec)) rekeyBeginsUptoCard

/-- THE SECOND FORM's CARD OF 'cofferlaw13.RekeyNexts'. -/
def rekeyNextsUptoCard : Claim7 := { stood := { row := rekeyNextsUptoRow, standIns := [], harness := (true, "f4dc63fa5965e96713ed45e3556dbd2e8d1d995f700e31bdc054c4018f480cc9"), looks := false }, kinds := [], alts := [], laidByText := true, laidKinds := [.widerDeep], laidTests := true, laidLooks := .later }
def RekeyNextsUptoCardSaid : Prop := Claim7.holds Tryd.pinned (.plain (OpenSpec.upto rekeyNextsSpec)) rekeyNextsUptoCard
end Rows
end Go.Proofs.YtfchbodbkdkcfaaDoor
