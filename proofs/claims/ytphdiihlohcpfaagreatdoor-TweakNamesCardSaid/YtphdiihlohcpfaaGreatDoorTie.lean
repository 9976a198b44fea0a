/-
  DERIVED. GIVEN WITH THE SEED: THE PROGRAM's TIES (one call each: nine closed facts by the kernel) AND EACH ROW's TIE, after the 31st guide's Derived/Test/Toyas{Tie, Card}.lean. No idea stands in it: it is a product of the set-up. Laid BY PROGRAM, IN A SANDBOX (cutbox-door.mjs). By AI agents, Wed Nov 11 2026. No macro, syntax, notation, axiom, sorry.
-/
import Derived.Test.YtphdiihlohcpfaaGreatDoorRows
import Derived.LaidByTextLater
import Derived.SevenTiedAt
import Derived.LaidSub
import Derived.LaidOnce
namespace Go.Proofs.YtphdiihlohcpfaaGreatDoor
open Go
set_option maxRecDepth 100000
theorem seatTie1 : Tryz.prog.laidByTextLater [("coffer/cofferref03.modes", Rows.laid_coffer_cofferref03_modes), ("coffer/rijndael.rcon", Rows.laid_coffer_rijndael_rcon), ("coffer/digest.cubes", Rows.laid_coffer_digest_cubes), ("coffer/digest.squares", Rows.laid_coffer_digest_squares), ("coffer/tweak.sizes", Rows.laid_coffer_tweak_sizes)] [.data, .data, .data, .data, .data] true :=
  Program.laidByTextLater_by_one 54 8 81 (by kernel_rfl) (by kernel_rfl) (by kernel_rfl) (by kernel_rfl) (by kernel_rfl) (by kernel_rfl) (fun _ _ => by kernel_rfl)
theorem noOwnUnsafe : Tryz.pinned.checked.prog.headLifts.contains "ownunsafe" = false := by kernel_rfl
theorem tie : Tryz.prog.laidByTextLater [("coffer/cofferref03.modes", Rows.laid_coffer_cofferref03_modes), ("coffer/rijndael.rcon", Rows.laid_coffer_rijndael_rcon), ("coffer/digest.cubes", Rows.laid_coffer_digest_cubes), ("coffer/digest.squares", Rows.laid_coffer_digest_squares), ("coffer/tweak.sizes", Rows.laid_coffer_tweak_sizes)] [.data, .data, .data, .data, .data] true :=
  Program.laidByTextLater.sub seatTie1 ["coffer/cofferref03.modes", "coffer/rijndael.rcon", "coffer/digest.cubes", "coffer/digest.squares", "coffer/tweak.sizes"] (by kernel_rfl) (by kernel_rfl)
theorem tweakNames_row_tie : Rows.tweakNamesRow.laidByTextAt .later Tryz.pinned [.data, .data, .data, .data, .data] true :=
  OpenClaim.laidByTextAt_later rfl rfl tie noOwnUnsafe
theorem tweakNamesUpto_row_tie : Rows.tweakNamesUptoRow.laidByTextAt .later Tryz.pinned [.data, .data, .data, .data, .data] true :=
  OpenClaim.laidByTextAt_later rfl rfl tie noOwnUnsafe
end Go.Proofs.YtphdiihlohcpfaaGreatDoor
