/-
  DERIVED. GIVEN WITH THE SEED: THE CARDS: each row of YtcgjhjijfhgclaaGreatDoorRows.lean that lists a variable, with what it lists TIED to the program's text (the seventh form; the later family's looks); each row that meets fmt, with fmt's text TOLD by the authors' own Lean function (tested against real Go, not proved from fmt's source: count such statements apart). THE CARD IS WHAT COUNTS. Prove the row's statement (the work); the ties are given (YtcgjhjijfhgclaaGreatDoorTie.lean); close each card by the builder's one call (the guide's Derived/Test/ToyasCard.lean, 'card_holds'). Laid BY PROGRAM, IN A SANDBOX (cutbox-door.mjs). By AI agents, Wed Nov 11 2026. No macro, syntax, notation, axiom, sorry.
-/
import Derived.Test.YtcgjhjijfhgclaaGreatDoorRows
import GoSem.ClaimSeven
namespace Go.Proofs.YtcgjhjijfhgclaaGreatDoor
namespace Rows

/-- THE TIED CARD OF 'cofferlaw03.TweakBlocks'. -/
def tweakBlocksCard : Claim7 := { stood := { row := tweakBlocksRow, standIns := [], harness := (true, "7b43706d386aa680685e8ac18904c6f50bfc8e2494fe31ea71bda146e4c4d12b"), looks := false }, kinds := [], alts := [], laidByText := true, laidKinds := [.data, .data, .data, .data, .data, .data, .data], laidTests := true, laidLooks := .later }
def TweakBlocksCardSaid : Prop := Claim7.holds Tryz.pinned (.plain (OpenSpec.ofChange tweakBlocksSpec)) tweakBlocksCard

/-- THE TIED CARD OF 'cofferlaw03.TweakFlips'. -/
def tweakFlipsCard : Claim7 := { stood := { row := tweakFlipsRow, standIns := [], harness := (true, "7b43706d386aa680685e8ac18904c6f50bfc8e2494fe31ea71bda146e4c4d12b"), looks := false }, kinds := [], alts := [], laidByText := true, laidKinds := [.data, .data, .data, .data, .data, .data, .data], laidTests := true, laidLooks := .later }
def TweakFlipsCardSaid : Prop := Claim7.holds Tryz.pinned (.plain (OpenSpec.ofChange tweakFlipsSpec)) tweakFlipsCard

/-- THE TIED CARD OF 'cofferlaw03.TweakRows'. -/
def tweakRowsCard : Claim7 := { stood := { row := tweakRowsRow, standIns := [], harness := (true, "7b43706d386aa680685e8ac18904c6f50bfc8e2494fe31ea71bda146e4c4d12b"), looks := false }, kinds := [], alts := [], laidByText := true, laidKinds := [.data, .data, .data, .data, .data, .data, .data], laidTests := true, laidLooks := .later }
def TweakRowsCardSaid : Prop := Claim7.holds Tryz.pinned (.plain (OpenSpec.ofChange tweakRowsSpec)) tweakRowsCard

/-- THE TIED CARD OF 'cofferlaw03.TweakSteals'. -/
def tweakStealsCard : Claim7 := { stood := { row := tweakStealsRow, standIns := [], harness := (true, "7b43706d386aa680685e8ac18904c6f50bfc8e2494fe31ea71bda146e4c4d12b"), looks := false }, kinds := [], alts := [], laidByText := true, laidKinds := [.data, .data, .data, .data, .data, .data, .data], laidTests := true, laidLooks := .later }
def TweakStealsCardSaid : Prop := Claim7.holds Tryz.pinned (.plain (OpenSpec.ofChange tweakStealsSpec)) tweakStealsCard

/-- THE SECOND FORM's CARD OF 'cofferlaw03.TweakBlocks'. -/
def tweakBlocksUptoCard : Claim7 := { stood := { row := tweakBlocksUptoRow, standIns := [], harness := (true, "7b43706d386aa680685e8ac18904c6f50bfc8e2494fe31ea71bda146e4c4d12b"), looks := false }, kinds := [], alts := [], laidByText := true, laidKinds := [.data, .data, .data, .data, .data, .data, .data], laidTests := true, laidLooks := .later }
def TweakBlocksUptoCardSaid : Prop := Claim7.holds Tryz.pinned (.plain (OpenSpec.upto tweakBlocksSpec)) tweakBlocksUptoCard

/-- THE SECOND FORM's CARD OF 'cofferlaw03.TweakFlips'. -/
def tweakFlipsUptoCard : Claim7 := { stood := { row := tweakFlipsUptoRow, standIns := [], harness := (true, "7b43706d386aa680685e8ac18904c6f50bfc8e2494fe31ea71bda146e4c4d12b"), looks := false }, kinds := [], alts := [], laidByText := true, laidKinds := [.data, .data, .data, .data, .data, .data, .data], laidTests := true, laidLooks := .later }
def TweakFlipsUptoCardSaid : Prop := Claim7.holds Tryz.pinned (.plain (OpenSpec.upto tweakFlipsSpec)) tweakFlipsUptoCard

/-- THE SECOND FORM's CARD OF 'cofferlaw03.TweakRows'. -/
def tweakRowsUptoCard : Claim7 := { stood := { row := tweakRowsUptoRow, standIns := [], harness := (true, "7b43706d386aa680685e8ac18904c6f50bfc8e2494fe31ea71bda146e4c4d12b"), looks := false }, kinds := [], alts := [], laidByText := true, laidKinds := [.data, .data, .data, .data, .data, .data, .data], laidTests := true, laidLooks := .later }
def TweakRowsUptoCardSaid : Prop := Claim7.holds Tryz.pinned (.plain (OpenSpec.upto tweakRowsSpec)) tweakRowsUptoCard

/-- THE SECOND FORM's CARD OF 'cofferlaw03.TweakSteals'. -/
def tweakStealsUptoCard : Claim7 := { stood := { row := tweakStealsUptoRow, standIns := [], harness := (true, "7b43706d386aa680685e8ac18904c6f50bfc8e2494fe31ea71bda146e4c4d12b"), looks := false }, kinds := [], alts := [], laidByText := true, laidKinds := [.data, .data, .data, .data, .data, .data, .data], laidTests := true, laidLooks := .later }
def TweakStealsUptoCardSaid : Prop := Claim7.holds Tryz.pinned (.plain (OpenSpec.upto tweakStealsSpec)) tweakStealsUptoCard
end Rows
end Go.Proofs.YtcgjhjijfhgclaaGreatDoor
