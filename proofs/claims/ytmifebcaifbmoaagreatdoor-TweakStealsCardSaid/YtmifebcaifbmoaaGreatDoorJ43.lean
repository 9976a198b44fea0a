import Derived.Test.YtmifebcaifbmoaaGreatDoorRows
import Derived.Test.YtmifebcaifbmoaaGreatDoorCards
import Derived.Test.YtmifebcaifbmoaaGreatDoorTie
import Derived.Test.YtmifebcaifbmoaaGreatDoorJ00
import Derived.PinnedBridge
import Derived.Lay
import Derived.LaidOnce
import Derived.Lib.LaidU8T
import Derived.Lib.LaidIn
import Derived.Test.YtmifebcaifbmoaaGreatDoorJ42
import Derived.Test.YtmifebcaifbmoaaGreatDoorJ41
/- RowTweakSteals -/
section
namespace Go.Proofs.YtmifebcaifbmoaaGreatDoor.RowTweakSteals
open Go.ChangeShapes Go.WideShapes Go.ChangeAt Go.RowKit
theorem own : ownKnob Tryz.prog.godebug = none := by kernel_rfl
set_option maxRecDepth 100000 in
theorem lifted (os : Os) (started : os.Started) (H : Type) (enc : TypeId × Value → H) :
    ReturnsInHanded {} Tryz.checked os 5 .any (fun w args => (Rows.tweakStealsSpec.pre enc Tryz.prog Tryz.f5 [] false w args ∧ laidMetH Tryz.prog Rows.tweakStealsRow.laid w) ∧ sizedMet enc Tryz.prog Tryz.f5 (OpenSpec.ofChange Rows.tweakStealsSpec) false w args)
      (Rows.tweakStealsSpec.post enc Tryz.prog Tryz.f5 false true false false) := by
  refine Frame.law_returns_laid (C := Tryz.checked) own started (by kernel_rfl) Tryz.func5 (by kernel_rfl) rfl rfl Tryz.underlying4
    (fun ds h => by match ds, h with | [d1, d2, d3, d4], _ => rfl) (by kernel_rfl)
    (ChangeSpec.witness_shaped (enc := enc) (C := Tryz.checked) (os := os) (X := fun w _ => laidMetH Tryz.prog Rows.tweakStealsRow.laid w) false (World.laidAll Tryz.prog os Rows.tweakStealsRow.laid) #[.agg #[.int .i64 0, .slice none 0 0], .int .u64 0, .slice none 0 0, .int .i64 0] 8 (World.laidAll_os _ _ _)
      (World.shaped_of_ZipB (by kernel_rfl) (by kernel_rfl)) (by kernel_rfl) (by kernel_rfl) (by kernel_rfl)
      (by rw [MakeChecks.laidMetH_plain _ _ _ (by kernel_rfl)]; exact laidMet_laidAll _ (by kernel_rfl) (by kernel_rfl))) ?_
  intro W base args ds p hval0 hA0 hsz hfz hL
  have hval : ∀ (j : Nat) t v, Tryz.f5.params[j]? = some t → args[j]? = some v → Value.okWide Tryz.prog W .any base t v := hval0
  have hA : DataW.TrodAll enc Tryz.prog W 0 (fun _ => true) true Tryz.f5.params.toList args.toList ds p := hA0
  rw [Tryz.params5] at hA hval
  clear hA0 hval0
  obtain ⟨v0, vs0, d0, ds0, p0, q0, hargs, rfl, rfl, h0, r0⟩ := trodAll_cons hA
  obtain ⟨v1, vs1, d1, ds1, p1, q1, rfl, rfl, rfl, h1, r1⟩ := trodAll_cons r0
  obtain ⟨v2, vs2, d2, ds2, p2, q2, rfl, rfl, rfl, h2, r2⟩ := trodAll_cons r1
  obtain ⟨v3, vs3, d3, ds3, p3, q3, rfl, rfl, rfl, h3, r3⟩ := trodAll_cons r2
  obtain ⟨rfl, rfl, rfl⟩ := trodAll_nil r3
  obtain rfl : args = #[v0, v1, v2, v3] := by rw [← Array.toArray_toList (xs := args), hargs]
  obtain ⟨z, q, n, cap, f, rfl, hz, e1, e2, e3, e4⟩ := OpenM.open_pick (hval 0 24 v0 rfl rfl) h0
  obtain ⟨s, rfl, rfl, rfl, ws⟩ := open_int Tryz.underlying25 (hval 1 25 v1 rfl rfl) h1
  obtain ⟨bq, bn, bcap, fb, rfl, g1, g2, g3, g4⟩ := OpenM.open_bytes (hval 2 22 v2 rfl rfl) h2
  obtain ⟨nz, rfl, rfl, rfl, wn⟩ := open_int Tryz.underlying3 (hval 3 3 v3 rfl rfl) h3
  have bs := bounds_u64 ws
  obtain ⟨s', rfl⟩ := Int.eq_ofNat_of_zero_le bs.1
  have hR0 := Frame.ints_of_laid (g := 2) (zs := [1, 2, 4, 8, 16, 32, 64, 128, 27, 54]) (n := 10) hL (by kernel_rfl) (.tail _ (.tail _ (.tail _ (.head _)))) (by kernel_rfl) (by kernel_rfl) Tryz.underlying135 Tryz.underlying5 (by kernel_rfl)
  have hR : Tw.RconAt W := fun i hi => (hR0 i hi).trans (by rw [OpenM.rc_list i hi])
  have c1 := OpenV.words_laid (g := 4) (n := 80) Rows.laid_coffer_cofferref01_cubes (by kernel_rfl) (by kernel_rfl) hL (by kernel_rfl) (.head _) (by kernel_rfl) (by kernel_rfl) Tryz.underlying184 Tryz.underlying25 (by kernel_rfl)
  have s1 := OpenV.words_laid (g := 3) (n := 16) Rows.laid_coffer_cofferref01_squares (by kernel_rfl) (by kernel_rfl) hL (by kernel_rfl) (.tail _ (.head _)) (by kernel_rfl) (by kernel_rfl) Tryz.underlying182 Tryz.underlying25 (by kernel_rfl)
  have c2 := OpenV.words_laid (g := 7) (n := 80) Rows.laid_coffer_digest_cubes (by kernel_rfl) (by kernel_rfl) hL (by kernel_rfl) (.tail _ (.tail _ (.tail _ (.tail _ (.head _))))) (by kernel_rfl) (by kernel_rfl) Tryz.underlying184 Tryz.underlying25 (by kernel_rfl)
  have s2 := OpenV.words_laid (g := 6) (n := 16) Rows.laid_coffer_digest_squares (by kernel_rfl) (by kernel_rfl) hL (by kernel_rfl) (.tail _ (.tail _ (.tail _ (.tail _ (.tail _ (.head _)))))) (by kernel_rfl) (by kernel_rfl) Tryz.underlying182 Tryz.underlying25 (by kernel_rfl)
  rw [MakeChecks.laidMetH_plain _ _ _ (by kernel_rfl)] at hL
  have hM := OpenM.modes_of (Lib.laidMet.reads hL (.tail _ (.tail _ (.head _))))
  have hS := OpenM.sizes_of (Lib.laidMet.reads hL (.tail _ (.tail _ (.tail _ (.tail _ (.tail _ (.tail _ (.head _))))))))
  exact TSteals.law_any z nz hz (OpenM.has_of wn) s' (by omega) q n cap f e3 bq bn bcap fb g3 W ⟨hM, hS, hR, ⟨c2, s2⟩, ⟨c1, s1⟩⟩ e4 e1 e2 g4 g1 g2
theorem row_holds : Rows.TweakStealsSaid :=
  OpenClaim.holds_of_wide 5 Tryz.f5 rfl rfl rfl rfl rfl rfl rfl ⟨rfl, rfl, rfl, rfl, rfl⟩ rfl rfl rfl rfl rfl (by kernel_rfl) Tryz.func5 (by kernel_rfl)
    (of_decide_eq_true (by kernel_rfl)) (by unfold Func.isWrapper; first | (rw [if_pos (by decide +kernel)]; kernel_rfl) | (rw [if_neg (by decide +kernel)]; exact ⟨rfl, rfl⟩))
    (fun os started H enc _ => lifted os started H enc)
theorem card_holds : Rows.TweakStealsCardSaid :=
  Claim7.holds_tied_plain_at .later [] [.data, .data, .data, .data, .data, .data, .data] true Rows.tweakStealsCard.stood.harness Rows.tweakStealsCard.stood.looks
    row_holds (fun _ h => by cases h) (by kernel_rfl) (fun _ h => by cases h) tweakSteals_row_tie rfl ⟨rfl, rfl⟩ (by kernel_rfl) rfl
    (fun f fn hf hfn => by
      obtain rfl : f = 5 := Option.some.inj ((show Tryz.prog.funcNamed "coffer/cofferlaw03.TweakSteals" = some 5 by kernel_rfl).symm.trans hf) |>.symm
      obtain rfl : fn = Tryz.f5 := (Option.some.inj (Tryz.func5.symm.trans hfn)).symm
      exact ⟨by kernel_rfl, fun j t ht => Frame.no_stand_ins (fn := Tryz.f5) (by kernel_rfl) ht⟩)
    (by kernel_rfl)
end Go.Proofs.YtmifebcaifbmoaaGreatDoor.RowTweakSteals
namespace Go.Proofs.YtmifebcaifbmoaaGreatDoor
/-- The statement, under a short name, for the claim. -/
theorem tweakSteals_holds : Rows.TweakStealsCardSaid := RowTweakSteals.card_holds
end Go.Proofs.YtmifebcaifbmoaaGreatDoor
end
