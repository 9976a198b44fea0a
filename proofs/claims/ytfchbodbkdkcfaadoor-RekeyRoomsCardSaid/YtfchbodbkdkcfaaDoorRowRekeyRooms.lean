/- RekeyRooms: for every input the law returns true, and each argument reads as it did. No condition. -/
import Derived.Test.YtfchbodbkdkcfaaDoorRows
import Derived.Test.YtfchbodbkdkcfaaDoorCards
import Derived.Test.YtfchbodbkdkcfaaDoorTie
import Derived.Test.YtfchbodbkdkcfaaDoorFrame
import Derived.Test.YtfchbodbkdkcfaaDoorRooms
namespace Go.Proofs.YtfchbodbkdkcfaaDoor.RowRekeyRooms
open Go.ChangeShapes Go.WideShapes Go.ChangeAt Go.RowKit
theorem own : ownKnob Tryd.prog.godebug = none := by kernel_rfl
theorem door_met (os : Os) (args : Array Value) : laidMetH Tryd.prog Rows.rekeyRoomsRow.laid ((World.doorLaid Tryd.prog 400 os).forCall (fun _ _ => 0) ⟨#[], args, []⟩).memory :=
  laidMetH_of_parts3 (fuel := 8) (laidMet_of_run' 8 (by kernel_rfl) (by kernel_rfl)) (by kernel_rfl) (by kernel_rfl)
set_option maxRecDepth 100000 in
theorem lifted (os : Os) (started : os.Started) (H : Type) (enc : TypeId × Value → H) :
    ReturnsInHanded {} Tryd.checked os 3 .any (fun w args => (Rows.rekeyRoomsSpec.pre enc Tryd.prog Tryd.f3 [] false w args ∧ laidMetH Tryd.prog Rows.rekeyRoomsRow.laid w) ∧ sizedMet enc Tryd.prog Tryd.f3 (OpenSpec.ofChange Rows.rekeyRoomsSpec) false w args)
      (Rows.rekeyRoomsSpec.post enc Tryd.prog Tryd.f3 false true false false) := by
  refine Frame.law_returns_laid (C := Tryd.checked) own started (by kernel_rfl) Tryd.func3 (by kernel_rfl) rfl rfl Tryd.underlying4
    (fun ds h => by match ds, h with | [d1, d2, d3], _ => rfl) (by kernel_rfl)
    (ChangeSpec.witness_shaped (enc := enc) (C := Tryd.checked) (os := os) (X := fun w _ => laidMetH Tryd.prog Rows.rekeyRoomsRow.laid w) false (World.doorLaid Tryd.prog 400 os) #[.int .i64 0, .int .i64 0, .int .u64 0] 8 rfl (World.shaped_of_RefB (by kernel_rfl) (by kernel_rfl)) (by kernel_rfl) (by kernel_rfl) (by kernel_rfl) (door_met os _)) ?_
  intro W base args ds p hval0 hA0 hsz hfz hL
  have hval : ∀ (j : Nat) t v, Tryd.f3.params[j]? = some t → args[j]? = some v → Value.okWide Tryd.prog W .any base t v := hval0
  have hA : DataW.TrodAll enc Tryd.prog W 0 (fun _ => true) true Tryd.f3.params.toList args.toList ds p := hA0
  rw [Tryd.params3] at hA hval
  clear hA0 hval0
  obtain ⟨v0, v1, v2, d0, d1, d2, p0, p1, p2, hargs, rfl, rfl, h0, h1, h2⟩ := trodAll_three hA
  obtain rfl : args = #[v0, v1, v2] := by rw [← Array.toArray_toList (xs := args), hargs]
  obtain ⟨u, rfl, rfl, rfl, wu⟩ := open_int Tryd.underlying3 (hval 0 3 v0 rfl rfl) h0
  obtain ⟨m, rfl, rfl, rfl, wm⟩ := open_int Tryd.underlying3 (hval 1 3 v1 rfl rfl) h1
  obtain ⟨h, rfl, rfl, rfl, wh⟩ := open_int Tryd.underlying22 (hval 2 22 v2 rfl rfl) h2
  have bh := bounds_u64 wh
  have ht : Rooms.Table 0 W := Frame.ints_of_laid (zs := [512, 1024, 2048, 4096]) (n := 4) hL (by kernel_rfl) (List.mem_cons_self ..) (by kernel_rfl) (by kernel_rfl) Tryd.underlying79 Tryd.underlying3 (by kernel_rfl)
  refine (Rooms.law_any u m h W ht (by omega) (by omega)).mono ?_
  rintro e W' ⟨rfl, rfl⟩
  exact ⟨rfl, Below.refl _ _⟩
theorem row_holds : Rows.RekeyRoomsSaid :=
  OpenClaim.holds_of_wide 3 Tryd.f3 rfl rfl rfl rfl rfl rfl rfl ⟨rfl, rfl, rfl, rfl, rfl⟩ rfl rfl rfl rfl rfl (by kernel_rfl) Tryd.func3 (by kernel_rfl)
    (of_decide_eq_true (by kernel_rfl)) (by unfold Func.isWrapper; first | (rw [if_pos (by decide +kernel)]; kernel_rfl) | (rw [if_neg (by decide +kernel)]; exact ⟨rfl, rfl⟩))
    (fun os started H enc _ => lifted os started H enc)
theorem card_holds : Rows.RekeyRoomsCardSaid :=
  Claim7.holds_tied_plain_at .later [] [.widerDeep] true Rows.rekeyRoomsCard.stood.harness Rows.rekeyRoomsCard.stood.looks
    row_holds (fun _ h => by cases h) (by kernel_rfl) (fun _ h => by cases h) rekeyRooms_row_tie rfl ⟨rfl, rfl⟩ (by kernel_rfl) rfl
    (fun f fn hf hfn => by
      obtain rfl : f = 3 := Option.some.inj ((show Tryd.prog.funcNamed "coffer/cofferlaw13.RekeyRooms" = some 3 by kernel_rfl).symm.trans hf) |>.symm
      obtain rfl : fn = Tryd.f3 := (Option.some.inj (Tryd.func3.symm.trans hfn)).symm
      exact ⟨by kernel_rfl, fun j t ht => Frame.no_stand_ins (fn := Tryd.f3) (by kernel_rfl) ht⟩)
    (by kernel_rfl)
end Go.Proofs.YtfchbodbkdkcfaaDoor.RowRekeyRooms
namespace Go.Proofs.YtfchbodbkdkcfaaDoor
/-- The statement, under a short name, for the claim. -/
theorem rekeyRooms_holds : Rows.RekeyRoomsCardSaid := RowRekeyRooms.card_holds
#print axioms rekeyRooms_holds
end Go.Proofs.YtfchbodbkdkcfaaDoor
