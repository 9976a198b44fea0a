/-
  DERIVED. GIVEN WITH THE SEED: THE CARDS: each row of YtojnfhmmglbmkaaDoorRows.lean that lists a variable, with what it lists TIED to the program's text (the seventh form; the later family's looks); each row that meets fmt, with fmt's text TOLD by the authors' own Lean function (tested against real Go, not proved from fmt's source: count such statements apart). THE CARD IS WHAT COUNTS. Prove the row's statement (the work); the ties are given (YtojnfhmmglbmkaaDoorTie.lean); close each card by the builder's one call (the guide's Derived/Test/ToyasCard.lean, 'card_holds'). Laid BY PROGRAM, IN A SANDBOX (cutbox-door.mjs). By AI agents, Wed Nov 11 2026. No macro, syntax, notation, axiom, sorry.
-/
import Derived.Test.YtojnfhmmglbmkaaDoorRows
import GoSem.ClaimSeven
namespace Go.Proofs.YtojnfhmmglbmkaaDoor
namespace Rows

/-- THE TIED CARD OF 'cofferlaw09.LedgerTokens'. -/
def ledgerTokensCard : Claim7 := { stood := { row := ledgerTokensRow, standIns := [], harness := (true, "52a9d0f02caa540a6c14e674061230b904651eb5d8792e52cfdead53f5649774"), looks := false }, kinds := [], alts := [], laidByText := true, laidKinds := [.data, .pinned], laidTests := true, laidLooks := .later }
def LedgerTokensCardSaid : Prop := Claim7.holds Tryd.pinned (.plain (OpenSpec.ofChange ledgerTokensSpec)) ledgerTokensCard

/-- THE SECOND FORM's CARD OF 'cofferlaw09.LedgerTokens'. -/
def ledgerTokensUptoCard : Claim7 := { stood := { row := ledgerTokensUptoRow, standIns := [], harness := (true, "52a9d0f02caa540a6c14e674061230b904651eb5d8792e52cfdead53f5649774"), looks := false }, kinds := [], alts := [], laidByText := true, laidKinds := [.data, .pinned], laidTests := true, laidLooks := .later }
def LedgerTokensUptoCardSaid : Prop := Claim7.holds Tryd.pinned (.plain (OpenSpec.upto ledgerTokensSpec)) ledgerTokensUptoCard
end Rows
end Go.Proofs.YtojnfhmmglbmkaaDoor
