/-
  DERIVED. GIVEN WITH THE SEED: THE CARDS: each row of YtmifebcaifbmoaaGreatDoorRows.lean that lists a variable, with what it lists TIED to the program's text (the seventh form; the later family's looks); each row that meets fmt, with fmt's text TOLD by the authors' own Lean function (tested against real Go, not proved from fmt's source: count such statements apart). THE CARD IS WHAT COUNTS. Prove the row's statement (the work); the ties are given (YtmifebcaifbmoaaGreatDoorTie.lean); close each card by the builder's one call (the guide's Derived/Test/ToyasCard.lean, 'card_holds'). Laid BY PROGRAM, IN A SANDBOX (cutbox-door.mjs). By AI agents, Wed Nov 11 2026. No macro, syntax, notation, axiom, sorry.
-/
import Derived.Test.YtmifebcaifbmoaaGreatDoorRows
import GoSem.ClaimSeven
namespace Go.Proofs.YtmifebcaifbmoaaGreatDoor
namespace Rows

/-- THE TIED CARD OF 'cofferlaw03.TweakBlocks'. -/
def tweakBlocksCard : Claim7 := { stood := { row := tweakBlocksRow, standIns := [], harness := (true, "5431a96fe0261b057f7d776a7677a5caa6f50e651c2639b0c7989798014b17c6"), looks := false }, kinds := [], alts := [], laidByText := true, laidKinds := [.data, .data, .data, .data, .data, .data, .data], laidTests := true, laidLooks := .later }
def TweakBlocksCardSaid : Prop := Claim7.holds Tryz.pinned (.plain (OpenSpec.ofChange tweakBlocksSpec)) tweakBlocksCard

/-- THE TIED CARD OF 'cofferlaw03.TweakFlips'. -/
def tweakFlipsCard : Claim7 := { stood := { row := tweakFlipsRow, standIns := [], harness := (true, "5431a96fe0261b057f7d776a7677a5caa6f50e651c2639b0c7989798014b17c6"), looks := false }, kinds := [], alts := [], laidByText := true, laidKinds := [.data, .data, .data, .data, .data, .data, .data], laidTests := true, laidLooks := .later }
def TweakFlipsCardSaid : Prop := Claim7.holds Tryz.pinned (.plain (OpenSpec.ofChange tweakFlipsSpec)) tweakFlipsCard

/-- THE TIED CARD OF 'cofferlaw03.TweakSteals'. -/
def tweakStealsCard : Claim7 := { stood := { row := tweakStealsRow, standIns := [], harness := (true, "5431a96fe0261b057f7d776a7677a5caa6f50e651c2639b0c7989798014b17c6"), looks := false }, kinds := [], alts := [], laidByText := true, laidKinds := [.data, .data, .data, .data, .data, .data, .data], laidTests := true, laidLooks := .later }
def TweakStealsCardSaid : Prop := Claim7.holds Tryz.pinned (.plain (OpenSpec.ofChange tweakStealsSpec)) tweakStealsCard

/-- THE TIED CARD OF 'cofferlaw03.TweakMakes'. -/
def tweakMakesCard : Claim7 := { stood := { row := tweakMakesRow, standIns := [], harness := (true, "5431a96fe0261b057f7d776a7677a5caa6f50e651c2639b0c7989798014b17c6"), looks := false }, kinds := [], alts := [], laidByText := true, laidKinds := [.data, .data, .data, .data, .data, .data, .data], laidTests := true, laidLooks := .later }
def TweakMakesCardSaid : Prop := Claim7.holds Tryz.pinned (.plain (OpenSpec.ofChange tweakMakesSpec)) tweakMakesCard

/-- THE TIED CARD OF 'cofferlaw03.TweakBack'. -/
def tweakBackCard : Claim7 := { stood := { row := tweakBackRow, standIns := [], harness := (true, "5431a96fe0261b057f7d776a7677a5caa6f50e651c2639b0c7989798014b17c6"), looks := false }, kinds := [], alts := [], laidByText := true, laidKinds := [.data, .data, .data, .data, .data, .data, .data], laidTests := true, laidLooks := .later }
def TweakBackCardSaid : Prop := Claim7.holds Tryz.pinned (.plain (OpenSpec.ofChange tweakBackSpec)) tweakBackCard

/-- THE TIED CARD OF 'cofferlaw03.TweakWide'. -/
def tweakWideCard : Claim7 := { stood := { row := tweakWideRow, standIns := [], harness := (true, "5431a96fe0261b057f7d776a7677a5caa6f50e651c2639b0c7989798014b17c6"), looks := false }, kinds := [], alts := [], laidByText := true, laidKinds := [.data, .data, .data, .data, .data, .data, .data], laidTests := true, laidLooks := .later }
def TweakWideCardSaid : Prop := Claim7.holds Tryz.pinned (.plain (OpenSpec.ofChange tweakWideSpec)) tweakWideCard

/-- THE TIED CARD OF 'cofferlaw03.TweakVectors'. -/
def tweakVectorsCard : Claim7 := { stood := { row := tweakVectorsRow, standIns := [], harness := (true, "5431a96fe0261b057f7d776a7677a5caa6f50e651c2639b0c7989798014b17c6"), looks := false }, kinds := [], alts := [], laidByText := true, laidKinds := [.data, .data, .data, .data], laidTests := true, laidLooks := .later }
def TweakVectorsCardSaid : Prop := Claim7.holds Tryz.pinned (.plain (OpenSpec.ofChange tweakVectorsSpec)) tweakVectorsCard

/-- THE SECOND FORM's CARD OF 'cofferlaw03.TweakBlocks'. -/
def tweakBlocksUptoCard : Claim7 := { stood := { row := tweakBlocksUptoRow, standIns := [], harness := (true, "5431a96fe0261b057f7d776a7677a5caa6f50e651c2639b0c7989798014b17c6"), looks := false }, kinds := [], alts := [], laidByText := true, laidKinds := [.data, .data, .data, .data, .data, .data, .data], laidTests := true, laidLooks := .later }
def TweakBlocksUptoCardSaid : Prop := Claim7.holds Tryz.pinned (.plain (OpenSpec.upto tweakBlocksSpec)) tweakBlocksUptoCard

/-- THE SECOND FORM's CARD OF 'cofferlaw03.TweakFlips'. -/
def tweakFlipsUptoCard : Claim7 := { stood := { row := tweakFlipsUptoRow, standIns := [], harness := (true, "5431a96fe0261b057f7d776a7677a5caa6f50e651c2639b0c7989798014b17c6"), looks := false }, kinds := [], alts := [], laidByText := true, laidKinds := [.data, .data, .data, .data, .data, .data, .data], laidTests := true, laidLooks := .later }
def TweakFlipsUptoCardSaid : Prop := Claim7.holds Tryz.pinned (.plain (OpenSpec.upto tweakFlipsSpec)) tweakFlipsUptoCard

/-- THE SECOND FORM's CARD OF 'cofferlaw03.TweakSteals'. -/
def tweakStealsUptoCard : Claim7 := { stood := { row := tweakStealsUptoRow, standIns := [], harness := (true, "5431a96fe0261b057f7d776a7677a5caa6f50e651c2639b0c7989798014b17c6"), looks := false }, kinds := [], alts := [], laidByText := true, laidKinds := [.data, .data, .data, .data, .data, .data, .data], laidTests := true, laidLooks := .later }
def TweakStealsUptoCardSaid : Prop := Claim7.holds Tryz.pinned (.plain (OpenSpec.upto tweakStealsSpec)) tweakStealsUptoCard

/-- THE SECOND FORM's CARD OF 'cofferlaw03.TweakMakes'. -/
def tweakMakesUptoCard : Claim7 := { stood := { row := tweakMakesUptoRow, standIns := [], harness := (true, "5431a96fe0261b057f7d776a7677a5caa6f50e651c2639b0c7989798014b17c6"), looks := false }, kinds := [], alts := [], laidByText := true, laidKinds := [.data, .data, .data, .data, .data, .data, .data], laidTests := true, laidLooks := .later }
def TweakMakesUptoCardSaid : Prop := Claim7.holds Tryz.pinned (.plain (OpenSpec.upto tweakMakesSpec)) tweakMakesUptoCard

/-- THE SECOND FORM's CARD OF 'cofferlaw03.TweakBack'. -/
def tweakBackUptoCard : Claim7 := { stood := { row := tweakBackUptoRow, standIns := [], harness := (true, "5431a96fe0261b057f7d776a7677a5caa6f50e651c2639b0c7989798014b17c6"), looks := false }, kinds := [], alts := [], laidByText := true, laidKinds := [.data, .data, .data, .data, .data, .data, .data], laidTests := true, laidLooks := .later }
def TweakBackUptoCardSaid : Prop := Claim7.holds Tryz.pinned (.plain (OpenSpec.upto tweakBackSpec)) tweakBackUptoCard

/-- THE SECOND FORM's CARD OF 'cofferlaw03.TweakWide'. -/
def tweakWideUptoCard : Claim7 := { stood := { row := tweakWideUptoRow, standIns := [], harness := (true, "5431a96fe0261b057f7d776a7677a5caa6f50e651c2639b0c7989798014b17c6"), looks := false }, kinds := [], alts := [], laidByText := true, laidKinds := [.data, .data, .data, .data, .data, .data, .data], laidTests := true, laidLooks := .later }
def TweakWideUptoCardSaid : Prop := Claim7.holds Tryz.pinned (.plain (OpenSpec.upto tweakWideSpec)) tweakWideUptoCard

/-- THE SECOND FORM's CARD OF 'cofferlaw03.TweakVectors'. -/
def tweakVectorsUptoCard : Claim7 := { stood := { row := tweakVectorsUptoRow, standIns := [], harness := (true, "5431a96fe0261b057f7d776a7677a5caa6f50e651c2639b0c7989798014b17c6"), looks := false }, kinds := [], alts := [], laidByText := true, laidKinds := [.data, .data, .data, .data], laidTests := true, laidLooks := .later }
def TweakVectorsUptoCardSaid : Prop := Claim7.holds Tryz.pinned (.plain (OpenSpec.upto tweakVectorsSpec)) tweakVectorsUptoCard
end Rows
end Go.Proofs.YtmifebcaifbmoaaGreatDoor
