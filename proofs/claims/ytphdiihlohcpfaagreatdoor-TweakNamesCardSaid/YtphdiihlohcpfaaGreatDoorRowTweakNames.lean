/- TweakNames: for every input the law returns true, and each argument reads as it did. No condition. -/
import Derived.Test.YtphdiihlohcpfaaGreatDoorRows
import Derived.Test.YtphdiihlohcpfaaGreatDoorCards
import Derived.Test.YtphdiihlohcpfaaGreatDoorTie
import Derived.Test.YtphdiihlohcpfaaGreatDoorFrame
import Derived.PinnedBridge
import Derived.Lay
import Derived.LaidOnce
import Derived.Lib.LaidU8T
import Derived.Lib.LaidIn
import Derived.Test.YtphdiihlohcpfaaGreatDoorOpenN
namespace Go.Proofs.YtphdiihlohcpfaaGreatDoor.RowTweakNames
open Go.ChangeShapes Go.WideShapes Go.ChangeAt Go.RowKit
theorem own : ownKnob Tryz.prog.godebug = none := by kernel_rfl
set_option maxRecDepth 100000 in
theorem lifted (os : Os) (started : os.Started) (H : Type) (enc : TypeId × Value → H) :
    ReturnsInHanded {} Tryz.checked os 3 .any (fun w args => (Rows.tweakNamesSpec.pre enc Tryz.prog Tryz.f3 [] false w args ∧ laidMetH Tryz.prog Rows.tweakNamesRow.laid w) ∧ sizedMet enc Tryz.prog Tryz.f3 (OpenSpec.ofChange Rows.tweakNamesSpec) false w args)
      (Rows.tweakNamesSpec.post enc Tryz.prog Tryz.f3 false true false false) := by
  refine Frame.law_returns_laid (C := Tryz.checked) own started (by kernel_rfl) Tryz.func3 (by kernel_rfl) rfl rfl Tryz.underlying4
    (fun ds h => by match ds, h with | [], _ => rfl) (by kernel_rfl)
    (ChangeSpec.witness_shaped (enc := enc) (C := Tryz.checked) (os := os) (X := fun w _ => laidMetH Tryz.prog Rows.tweakNamesRow.laid w) false (World.laidAll Tryz.prog os Rows.tweakNamesRow.laid) #[] 8 (World.laidAll_os _ _ _)
      (World.shaped_of_ZipB (by kernel_rfl) (by kernel_rfl)) (by kernel_rfl) (by kernel_rfl) (by kernel_rfl)
      (by rw [MakeChecks.laidMetH_plain _ _ _ (by kernel_rfl)]; exact laidMet_laidAll _ (by kernel_rfl) (by kernel_rfl))) ?_
  intro W base args ds p hval0 hA0 hsz hfz hL
  have hval : ∀ (j : Nat) t v, Tryz.f3.params[j]? = some t → args[j]? = some v → Value.okWide Tryz.prog W .any base t v := hval0
  have hA : DataW.TrodAll enc Tryz.prog W 0 (fun _ => true) true Tryz.f3.params.toList args.toList ds p := hA0
  rw [Tryz.params3] at hA hval
  clear hA0 hval0
  obtain ⟨hargs, _, _⟩ := trodAll_nil hA
  obtain rfl : args = #[] := by rw [← Array.toArray_toList (xs := args), hargs]
  rw [MakeChecks.laidMetH_plain _ _ _ (by kernel_rfl)] at hL
  exact Names.law_any W (Names.sizes_of (Lib.laidMet.reads hL (.tail _ (.tail _ (.tail _ (.tail _ (.head _))))))) (Names.modes_of (Lib.laidMet.reads hL (.head _)))
theorem row_holds : Rows.TweakNamesSaid :=
  OpenClaim.holds_of_wide 3 Tryz.f3 rfl rfl rfl rfl rfl rfl rfl ⟨rfl, rfl, rfl, rfl, rfl⟩ rfl rfl rfl rfl rfl (by kernel_rfl) Tryz.func3 (by kernel_rfl)
    (of_decide_eq_true (by kernel_rfl)) (by unfold Func.isWrapper; first | (rw [if_pos (by decide +kernel)]; kernel_rfl) | (rw [if_neg (by decide +kernel)]; exact ⟨rfl, rfl⟩))
    (fun os started H enc _ => lifted os started H enc)
theorem card_holds : Rows.TweakNamesCardSaid :=
  Claim7.holds_tied_plain_at .later [] [.data, .data, .data, .data, .data] true Rows.tweakNamesCard.stood.harness Rows.tweakNamesCard.stood.looks
    row_holds (fun _ h => by cases h) (by kernel_rfl) (fun _ h => by cases h) tweakNames_row_tie rfl ⟨rfl, rfl⟩ (by kernel_rfl) rfl
    (fun f fn hf hfn => by
      obtain rfl : f = 3 := Option.some.inj ((show Tryz.prog.funcNamed "coffer/cofferlaw03.TweakNames" = some 3 by kernel_rfl).symm.trans hf) |>.symm
      obtain rfl : fn = Tryz.f3 := (Option.some.inj (Tryz.func3.symm.trans hfn)).symm
      exact ⟨by kernel_rfl, fun j t ht => Frame.no_stand_ins (fn := Tryz.f3) (by kernel_rfl) ht⟩)
    (by kernel_rfl)
end Go.Proofs.YtphdiihlohcpfaaGreatDoor.RowTweakNames
namespace Go.Proofs.YtphdiihlohcpfaaGreatDoor
/-- The statement, under a short name, for the claim. -/
theorem tweakNames_holds : Rows.TweakNamesCardSaid := RowTweakNames.card_holds
#print axioms tweakNames_holds
end Go.Proofs.YtphdiihlohcpfaaGreatDoor
