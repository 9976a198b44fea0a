/-
  DERIVED. GIVEN WITH THE SEED: THE CARDS: each row of YtphdiihlohcpfaaGreatDoorRows.lean that lists a variable, with what it lists TIED to the program's text (the seventh form; the later family's looks); each row that meets fmt, with fmt's text TOLD by the authors' own Lean function (tested against real Go, not proved from fmt's source: count such statements apart). THE CARD IS WHAT COUNTS. Prove the row's statement (the work); the ties are given (YtphdiihlohcpfaaGreatDoorTie.lean); close each card by the builder's one call (the guide's Derived/Test/ToyasCard.lean, 'card_holds'). Laid BY PROGRAM, IN A SANDBOX (cutbox-door.mjs). By AI agents, Wed Nov 11 2026. No macro, syntax, notation, axiom, sorry.
-/
import Derived.Test.YtphdiihlohcpfaaGreatDoorRows
import GoSem.ClaimSeven
namespace Go.Proofs.YtphdiihlohcpfaaGreatDoor
namespace Rows

/-- THE TIED CARD OF 'cofferlaw03.TweakNames'. -/
def tweakNamesCard : Claim7 := { stood := { row := tweakNamesRow, standIns := [], harness := (true, "97029ce0a456c48a9568e743b78038f9ea1562c05e07633087125e8800d0a566"), looks := false }, kinds := [], alts := [], laidByText := true, laidKinds := [.data, .data, .data, .data, .data], laidTests := true, laidLooks := .later }
def TweakNamesCardSaid : Prop := Claim7.holds Tryz.pinned (.plain (OpenSpec.ofChange tweakNamesSpec)) tweakNamesCard

/-- THE SECOND FORM's CARD OF 'cofferlaw03.TweakNames'. -/
def tweakNamesUptoCard : Claim7 := { stood := { row := tweakNamesUptoRow, standIns := [], harness := (true, "97029ce0a456c48a9568e743b78038f9ea1562c05e07633087125e8800d0a566"), looks := false }, kinds := [], alts := [], laidByText := true, laidKinds := [.data, .data, .data, .data, .data], laidTests := true, laidLooks := .later }
def TweakNamesUptoCardSaid : Prop := Claim7.holds Tryz.pinned (.plain (OpenSpec.upto tweakNamesSpec)) tweakNamesUptoCard
end Rows
end Go.Proofs.YtphdiihlohcpfaaGreatDoor
