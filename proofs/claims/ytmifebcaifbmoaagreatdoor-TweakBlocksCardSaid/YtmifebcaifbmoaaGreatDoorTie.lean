/-
  DERIVED. GIVEN WITH THE SEED: THE PROGRAM's TIES (one call each: nine closed facts by the kernel) AND EACH ROW's TIE, after the 31st guide's Derived/Test/Toyas{Tie, Card}.lean. No idea stands in it: it is a product of the set-up. Laid BY PROGRAM, IN A SANDBOX (cutbox-door.mjs). By AI agents, Wed Nov 11 2026. No macro, syntax, notation, axiom, sorry.
-/
import Derived.Test.YtmifebcaifbmoaaGreatDoorRows
import Derived.LaidByTextLater
import Derived.SevenTiedAt
import Derived.LaidSub
import Derived.LaidOnce
namespace Go.Proofs.YtmifebcaifbmoaaGreatDoor
open Go
set_option maxRecDepth 100000
theorem seatTie1 : Tryz.prog.laidByTextLater [("coffer/cofferref01.cubes", Rows.laid_coffer_cofferref01_cubes), ("coffer/cofferref01.squares", Rows.laid_coffer_cofferref01_squares), ("coffer/cofferref03.modes", Rows.laid_coffer_cofferref03_modes), ("coffer/rijndael.rcon", Rows.laid_coffer_rijndael_rcon), ("coffer/digest.cubes", Rows.laid_coffer_digest_cubes), ("coffer/digest.squares", Rows.laid_coffer_digest_squares), ("coffer/tweak.sizes", Rows.laid_coffer_tweak_sizes)] [.data, .data, .data, .data, .data, .data, .data] true :=
  Program.laidByTextLater_by_one 64 8 81 (by kernel_rfl) (by kernel_rfl) (by kernel_rfl) (by kernel_rfl) (by kernel_rfl) (by kernel_rfl) (fun _ _ => by kernel_rfl)
theorem seatTie2 : Tryz.prog.laidByTextLater [("coffer/rijndael.rcon", Rows.laid_coffer_rijndael_rcon), ("coffer/digest.cubes", Rows.laid_coffer_digest_cubes), ("coffer/digest.squares", Rows.laid_coffer_digest_squares), ("coffer/tweak.sizes", Rows.laid_coffer_tweak_sizes)] [.data, .data, .data, .data] true :=
  Program.laidByTextLater_by_one 64 8 81 (by kernel_rfl) (by kernel_rfl) (by kernel_rfl) (by kernel_rfl) (by kernel_rfl) (by kernel_rfl) (fun _ _ => by kernel_rfl)
theorem noOwnUnsafe : Tryz.pinned.checked.prog.headLifts.contains "ownunsafe" = false := by kernel_rfl
theorem tie : Tryz.prog.laidByTextLater [("coffer/cofferref01.cubes", Rows.laid_coffer_cofferref01_cubes), ("coffer/cofferref01.squares", Rows.laid_coffer_cofferref01_squares), ("coffer/cofferref03.modes", Rows.laid_coffer_cofferref03_modes), ("coffer/rijndael.rcon", Rows.laid_coffer_rijndael_rcon), ("coffer/digest.cubes", Rows.laid_coffer_digest_cubes), ("coffer/digest.squares", Rows.laid_coffer_digest_squares), ("coffer/tweak.sizes", Rows.laid_coffer_tweak_sizes)] [.data, .data, .data, .data, .data, .data, .data] true :=
  Program.laidByTextLater.sub seatTie1 ["coffer/cofferref01.cubes", "coffer/cofferref01.squares", "coffer/cofferref03.modes", "coffer/rijndael.rcon", "coffer/digest.cubes", "coffer/digest.squares", "coffer/tweak.sizes"] (by kernel_rfl) (by kernel_rfl)
theorem tweakBlocks_row_tie : Rows.tweakBlocksRow.laidByTextAt .later Tryz.pinned [.data, .data, .data, .data, .data, .data, .data] true :=
  OpenClaim.laidByTextAt_later rfl rfl tie noOwnUnsafe
theorem tweakFlips_row_tie : Rows.tweakFlipsRow.laidByTextAt .later Tryz.pinned [.data, .data, .data, .data, .data, .data, .data] true :=
  OpenClaim.laidByTextAt_later rfl rfl tie noOwnUnsafe
theorem tweakSteals_row_tie : Rows.tweakStealsRow.laidByTextAt .later Tryz.pinned [.data, .data, .data, .data, .data, .data, .data] true :=
  OpenClaim.laidByTextAt_later rfl rfl tie noOwnUnsafe
theorem tweakMakes_row_tie : Rows.tweakMakesRow.laidByTextAt .later Tryz.pinned [.data, .data, .data, .data, .data, .data, .data] true :=
  OpenClaim.laidByTextAt_later rfl rfl tie noOwnUnsafe
theorem tweakBack_row_tie : Rows.tweakBackRow.laidByTextAt .later Tryz.pinned [.data, .data, .data, .data, .data, .data, .data] true :=
  OpenClaim.laidByTextAt_later rfl rfl tie noOwnUnsafe
theorem tweakWide_row_tie : Rows.tweakWideRow.laidByTextAt .later Tryz.pinned [.data, .data, .data, .data, .data, .data, .data] true :=
  OpenClaim.laidByTextAt_later rfl rfl tie noOwnUnsafe
theorem tie2 : Tryz.prog.laidByTextLater [("coffer/rijndael.rcon", Rows.laid_coffer_rijndael_rcon), ("coffer/digest.cubes", Rows.laid_coffer_digest_cubes), ("coffer/digest.squares", Rows.laid_coffer_digest_squares), ("coffer/tweak.sizes", Rows.laid_coffer_tweak_sizes)] [.data, .data, .data, .data] true :=
  Program.laidByTextLater.sub seatTie2 ["coffer/rijndael.rcon", "coffer/digest.cubes", "coffer/digest.squares", "coffer/tweak.sizes"] (by kernel_rfl) (by kernel_rfl)
theorem tweakVectors_row_tie : Rows.tweakVectorsRow.laidByTextAt .later Tryz.pinned [.data, .data, .data, .data] true :=
  OpenClaim.laidByTextAt_later rfl rfl tie2 noOwnUnsafe
theorem tweakBlocksUpto_row_tie : Rows.tweakBlocksUptoRow.laidByTextAt .later Tryz.pinned [.data, .data, .data, .data, .data, .data, .data] true :=
  OpenClaim.laidByTextAt_later rfl rfl tie noOwnUnsafe
theorem tweakFlipsUpto_row_tie : Rows.tweakFlipsUptoRow.laidByTextAt .later Tryz.pinned [.data, .data, .data, .data, .data, .data, .data] true :=
  OpenClaim.laidByTextAt_later rfl rfl tie noOwnUnsafe
theorem tweakStealsUpto_row_tie : Rows.tweakStealsUptoRow.laidByTextAt .later Tryz.pinned [.data, .data, .data, .data, .data, .data, .data] true :=
  OpenClaim.laidByTextAt_later rfl rfl tie noOwnUnsafe
theorem tweakMakesUpto_row_tie : Rows.tweakMakesUptoRow.laidByTextAt .later Tryz.pinned [.data, .data, .data, .data, .data, .data, .data] true :=
  OpenClaim.laidByTextAt_later rfl rfl tie noOwnUnsafe
theorem tweakBackUpto_row_tie : Rows.tweakBackUptoRow.laidByTextAt .later Tryz.pinned [.data, .data, .data, .data, .data, .data, .data] true :=
  OpenClaim.laidByTextAt_later rfl rfl tie noOwnUnsafe
theorem tweakWideUpto_row_tie : Rows.tweakWideUptoRow.laidByTextAt .later Tryz.pinned [.data, .data, .data, .data, .data, .data, .data] true :=
  OpenClaim.laidByTextAt_later rfl rfl tie noOwnUnsafe
theorem tweakVectorsUpto_row_tie : Rows.tweakVectorsUptoRow.laidByTextAt .later Tryz.pinned [.data, .data, .data, .data] true :=
  OpenClaim.laidByTextAt_later rfl rfl tie2 noOwnUnsafe
end Go.Proofs.YtmifebcaifbmoaaGreatDoor
