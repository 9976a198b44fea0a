/- LedgerShapes: for every input the law returns true, and each argument reads as it did. No condition. -/
import Derived.Test.YtfchbodbkdkcfaaDoorRows
import Derived.Test.YtfchbodbkdkcfaaDoorCards
import Derived.Test.YtfchbodbkdkcfaaDoorTie
import Derived.Test.YtfchbodbkdkcfaaDoorFrame
import Derived.Test.YtfchbodbkdkcfaaDoorShapes
namespace Go.Proofs.YtfchbodbkdkcfaaDoor.RowLedgerShapes
open Go.ChangeShapes Go.WideShapes Go.ChangeAt Go.RowKit
theorem own : ownKnob Tryd.prog.godebug = none := by kernel_rfl
theorem door_met (os : Os) (args : Array Value) : laidMetH Tryd.prog Rows.ledgerShapesRow.laid ((World.doorLaid Tryd.prog 400 os).forCall (fun _ _ => 0) ⟨#[], args, []⟩).memory :=
  laidMetH_of_parts3 (fuel := 8) (laidMet_of_run' 8 (by kernel_rfl) (by kernel_rfl)) (by kernel_rfl) (by kernel_rfl)
set_option maxRecDepth 100000 in
theorem lifted (os : Os) (started : os.Started) (H : Type) (enc : TypeId × Value → H) :
    ReturnsInHanded {} Tryd.checked os 4 .any (fun w args => (Rows.ledgerShapesSpec.pre enc Tryd.prog Tryd.f4 [] false w args ∧ laidMetH Tryd.prog Rows.ledgerShapesRow.laid w) ∧ sizedMet enc Tryd.prog Tryd.f4 (OpenSpec.ofChange Rows.ledgerShapesSpec) false w args)
      (Rows.ledgerShapesSpec.post enc Tryd.prog Tryd.f4 false true false false) := by
  refine Frame.law_returns_laid (C := Tryd.checked) own started (by kernel_rfl) Tryd.func4 (by kernel_rfl) rfl rfl Tryd.underlying4
    (fun ds h => by match ds, h with | [d1, d2, d3, d4, d5], _ => rfl) (by kernel_rfl)
    (ChangeSpec.witness_shaped (enc := enc) (C := Tryd.checked) (os := os) (X := fun w _ => laidMetH Tryd.prog Rows.ledgerShapesRow.laid w) false (World.doorLaid Tryd.prog 400 os) #[.agg #[.int .i64 0, .int .u64 0, .int .i64 0, .int .i64 0], .int .i64 0, .int .i64 0, .int .u64 0, .int .i64 0] 8 rfl (World.shaped_of_RefB (by kernel_rfl) (by kernel_rfl)) (by kernel_rfl) (by kernel_rfl) (by kernel_rfl) (door_met os _)) ?_
  intro W base args ds p hval0 hA0 hsz hfz hL
  have hval : ∀ (j : Nat) t v, Tryd.f4.params[j]? = some t → args[j]? = some v → Value.okWide Tryd.prog W .any base t v := hval0
  have hA : DataW.TrodAll enc Tryd.prog W 0 (fun _ => true) true Tryd.f4.params.toList args.toList ds p := hA0
  rw [Tryd.params4] at hA hval
  clear hA0 hval0
  obtain ⟨v0, vs0, d0, ds0, p0, q0, hargs, rfl, rfl, h0, r0⟩ := trodAll_cons hA
  obtain ⟨v1, vs1, d1, ds1, p1, q1, rfl, rfl, rfl, h1, r1⟩ := trodAll_cons r0
  obtain ⟨v2, vs2, d2, ds2, p2, q2, rfl, rfl, rfl, h2, r2⟩ := trodAll_cons r1
  obtain ⟨v3, vs3, d3, ds3, p3, q3, rfl, rfl, rfl, h3, r3⟩ := trodAll_cons r2
  obtain ⟨v4, vs4, d4, ds4, p4, q4, rfl, rfl, rfl, h4, r4⟩ := trodAll_cons r3
  obtain ⟨rfl, rfl, rfl⟩ := trodAll_nil r4
  obtain rfl : args = #[v0, v1, v2, v3, v4] := by rw [← Array.toArray_toList (xs := args), hargs]
  obtain ⟨c0, c1, c2, c3, y0, y1, y2, y3, m0, rfl, rfl, rfl, f0, f1, f2, f3⟩ := Joins.open_agg4 Tryd.underlying31 (by kernel_rfl) (by kernel_rfl) (hval 0 31 v0 rfl rfl) h0
  obtain ⟨u, e0, rfl, wu⟩ := DataW.trod_int Tryd.underlying3 f0
  obtain ⟨c, e1, rfl, wc⟩ := DataW.trod_int Tryd.underlying22 f1
  obtain ⟨h, e2, rfl, wh⟩ := DataW.trod_int Tryd.underlying3 f2
  obtain ⟨k, e3, rfl, wk⟩ := DataW.trod_int Tryd.underlying3 f3
  simp only [List.cons.injEq, and_true] at e0 e1 e2 e3
  subst e0 e1 e2 e3
  obtain ⟨st, rfl, rfl, rfl, wst⟩ := open_int Tryd.underlying3 (hval 1 3 v1 rfl rfl) h1
  obtain ⟨m, rfl, rfl, rfl, wm⟩ := open_int Tryd.underlying3 (hval 2 3 v2 rfl rfl) h2
  obtain ⟨hot, rfl, rfl, rfl, whot⟩ := open_int Tryd.underlying22 (hval 3 22 v3 rfl rfl) h3
  obtain ⟨un, rfl, rfl, rfl, wun⟩ := open_int Tryd.underlying3 (hval 4 3 v4 rfl rfl) h4
  have bc := bounds_u64 wc
  have bh := bounds_i64 wh
  have bk := bounds_i64 wk
  have bo := bounds_u64 whot
  have ht : Rooms.Table 1 W := Frame.ints_of_laid (zs := [512, 1024, 2048, 4096]) (n := 4) hL (by kernel_rfl) (List.mem_cons_self ..) (by kernel_rfl) (by kernel_rfl) Tryd.underlying79 Tryd.underlying3 (by kernel_rfl)
  exact Shapes.law_any u c h k st m hot un W ht (Frame.block_lt (ht 0 (by decide))) (by omega) (by omega) (by omega) (by omega) (by omega) (by omega) (by omega) (by omega)
theorem row_holds : Rows.LedgerShapesSaid :=
  OpenClaim.holds_of_wide 4 Tryd.f4 rfl rfl rfl rfl rfl rfl rfl ⟨rfl, rfl, rfl, rfl, rfl⟩ rfl rfl rfl rfl rfl (by kernel_rfl) Tryd.func4 (by kernel_rfl)
    (of_decide_eq_true (by kernel_rfl)) (by unfold Func.isWrapper; first | (rw [if_pos (by decide +kernel)]; kernel_rfl) | (rw [if_neg (by decide +kernel)]; exact ⟨rfl, rfl⟩))
    (fun os started H enc _ => lifted os started H enc)
theorem card_holds : Rows.LedgerShapesCardSaid :=
  Claim7.holds_tied_plain_at .later [] [.widerDeep] true Rows.ledgerShapesCard.stood.harness Rows.ledgerShapesCard.stood.looks
    row_holds (fun _ h => by cases h) (by kernel_rfl) (fun _ h => by cases h) ledgerShapes_row_tie rfl ⟨rfl, rfl⟩ (by kernel_rfl) rfl
    (fun f fn hf hfn => by
      obtain rfl : f = 4 := Option.some.inj ((show Tryd.prog.funcNamed "coffer/cofferlaw09.LedgerShapes" = some 4 by kernel_rfl).symm.trans hf) |>.symm
      obtain rfl : fn = Tryd.f4 := (Option.some.inj (Tryd.func4.symm.trans hfn)).symm
      exact ⟨by kernel_rfl, fun j t ht => Frame.no_stand_ins (fn := Tryd.f4) (by kernel_rfl) ht⟩)
    (by kernel_rfl)
end Go.Proofs.YtfchbodbkdkcfaaDoor.RowLedgerShapes
namespace Go.Proofs.YtfchbodbkdkcfaaDoor
/-- The statement, under a short name, for the claim. -/
theorem ledgerShapes_holds : Rows.LedgerShapesCardSaid := RowLedgerShapes.card_holds
#print axioms ledgerShapes_holds
end Go.Proofs.YtfchbodbkdkcfaaDoor
