/- RekeyBegins: for every input the law returns true, and each argument reads as it did. No condition. -/
import Derived.Test.YtfchbodbkdkcfaaDoorRows
import Derived.Test.YtfchbodbkdkcfaaDoorCards
import Derived.Test.YtfchbodbkdkcfaaDoorTie
import Derived.Test.YtfchbodbkdkcfaaDoorFrame
import Derived.Test.YtfchbodbkdkcfaaDoorBeginsLaw
namespace Go.Proofs.YtfchbodbkdkcfaaDoor.RowRekeyBegins
open Go.ChangeShapes Go.WideShapes Go.ChangeAt Go.RowKit
theorem own : ownKnob Tryd.prog.godebug = none := by kernel_rfl
theorem door_met (os : Os) (args : Array Value) : laidMetH Tryd.prog Rows.rekeyBeginsRow.laid ((World.doorLaid Tryd.prog 400 os).forCall (fun _ _ => 0) ⟨#[], args, []⟩).memory :=
  laidMetH_of_parts3 (fuel := 8) (laidMet_of_run' 8 (by kernel_rfl) (by kernel_rfl)) (by kernel_rfl) (by kernel_rfl)
set_option maxRecDepth 100000 in
theorem lifted (os : Os) (started : os.Started) (H : Type) (enc : TypeId × Value → H) :
    ReturnsInHanded {} Tryd.checked os 7 .any (fun w args => (Rows.rekeyBeginsSpec.pre enc Tryd.prog Tryd.f7 [] false w args ∧ laidMetH Tryd.prog Rows.rekeyBeginsRow.laid w) ∧ sizedMet enc Tryd.prog Tryd.f7 (OpenSpec.ofChange Rows.rekeyBeginsSpec) false w args)
      (Rows.rekeyBeginsSpec.post enc Tryd.prog Tryd.f7 false true false false) := by
  refine Frame.law_returns_laid (C := Tryd.checked) own started (by kernel_rfl) Tryd.func7 (by kernel_rfl) rfl rfl Tryd.underlying4
    (fun ds h => by match ds, h with | [d1], _ => rfl) (by kernel_rfl)
    (ChangeSpec.witness_shaped (enc := enc) (C := Tryd.checked) (os := os) (X := fun w _ => laidMetH Tryd.prog Rows.rekeyBeginsRow.laid w) false (World.doorLaid Tryd.prog 400 os) #[.agg #[.string ⟨#[]⟩, .string ⟨#[]⟩, .string ⟨#[]⟩, .string ⟨#[]⟩, .int .i64 0, .int .u64 0, .int .i64 0, .int .i64 0, .int .i64 0, .string ⟨#[]⟩, .string ⟨#[]⟩, .slice none 0 0, .slice none 0 0, .slice none 0 0, .bool false, .int .u64 0, .int .u64 0, .bool false, .int .i64 0, .int .u64 0, .int .u64 0, .int .i64 0, .int .i64 0, .bool false, .int .u64 0, .string ⟨#[]⟩, .slice none 0 0, .int .u64 0, .string ⟨#[]⟩, .string ⟨#[]⟩, .string ⟨#[]⟩, .string ⟨#[]⟩, .int .i64 0, .int .i64 0, .string ⟨#[]⟩, .int .i64 0, .bool false, .int .u64 0]] 8 rfl (World.shaped_of_RefB (by kernel_rfl) (by kernel_rfl)) (by kernel_rfl) (by kernel_rfl) (by kernel_rfl) (door_met os _)) ?_
  intro W base args ds p hval0 hA0 hsz hfz hL
  have hval : ∀ (j : Nat) t v, Tryd.f7.params[j]? = some t → args[j]? = some v → Value.okWide Tryd.prog W .any base t v := hval0
  have hA : DataW.TrodAll enc Tryd.prog W 0 (fun _ => true) true Tryd.f7.params.toList args.toList ds p := hA0
  rw [Tryd.params7] at hA hval
  clear hA0 hval0
  obtain ⟨v0, vs0, d0, ds0, p0, q0, hargs, rfl, rfl, h0, r0⟩ := trodAll_cons hA
  obtain ⟨rfl, rfl, rfl⟩ := trodAll_nil r0
  obtain rfl : args = #[v0] := by rw [← Array.toArray_toList (xs := args), hargs]
  obtain ⟨m, p, d, off, size, t, rfl, hm, hr, hh, hz⟩ := Rk.open_start (j := 0) (hval 0 68 v0 rfl rfl) h0 hsz rfl rfl
  have ht : Rooms.Table 0 W := Frame.ints_of_laid (zs := [512, 1024, 2048, 4096]) (n := 4) hL (by kernel_rfl) (List.mem_cons_self ..) (by kernel_rfl) (by kernel_rfl) Tryd.underlying79 Tryd.underlying3 (by kernel_rfl)
  exact Rk.begins_any m p d off size t W hm hr hh hz ht (Frame.block_lt (ht 0 (by decide)))
theorem row_holds : Rows.RekeyBeginsSaid :=
  OpenClaim.holds_of_wide 7 Tryd.f7 rfl rfl rfl rfl rfl rfl rfl ⟨rfl, rfl, rfl, rfl, rfl⟩ rfl rfl rfl rfl rfl (by kernel_rfl) Tryd.func7 (by kernel_rfl)
    (of_decide_eq_true (by kernel_rfl)) (by unfold Func.isWrapper; first | (rw [if_pos (by decide +kernel)]; kernel_rfl) | (rw [if_neg (by decide +kernel)]; exact ⟨rfl, rfl⟩))
    (fun os started H enc _ => lifted os started H enc)
theorem card_holds : Rows.RekeyBeginsCardSaid :=
  Claim7.holds_tied_plain_at .later [] [.widerDeep] true Rows.rekeyBeginsCard.stood.harness Rows.rekeyBeginsCard.stood.looks
    row_holds (fun _ h => by cases h) (by kernel_rfl) (fun _ h => by cases h) rekeyBegins_row_tie rfl ⟨rfl, rfl⟩ (by kernel_rfl) rfl
    (fun f fn hf hfn => by
      obtain rfl : f = 7 := Option.some.inj ((show Tryd.prog.funcNamed "coffer/cofferlaw13.RekeyBegins" = some 7 by kernel_rfl).symm.trans hf) |>.symm
      obtain rfl : fn = Tryd.f7 := (Option.some.inj (Tryd.func7.symm.trans hfn)).symm
      exact ⟨by kernel_rfl, fun j t ht => Frame.no_stand_ins (fn := Tryd.f7) (by kernel_rfl) ht⟩)
    (by kernel_rfl)
end Go.Proofs.YtfchbodbkdkcfaaDoor.RowRekeyBegins
namespace Go.Proofs.YtfchbodbkdkcfaaDoor
/-- The statement, under a short name, for the claim. -/
theorem rekeyBegins_holds : Rows.RekeyBeginsCardSaid := RowRekeyBegins.card_holds
#print axioms rekeyBegins_holds
end Go.Proofs.YtfchbodbkdkcfaaDoor
