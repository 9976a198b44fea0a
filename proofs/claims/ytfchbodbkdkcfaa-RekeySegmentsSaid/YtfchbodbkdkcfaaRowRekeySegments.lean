/- RekeySegments: for every input the law returns true, and each argument reads as it did. No condition. -/
import Derived.Test.YtfchbodbkdkcfaaRows
import Derived.Test.YtfchbodbkdkcfaaFrame
import Derived.Test.YtfchbodbkdkcfaaSegsLaw
import Derived.Test.YtfchbodbkdkcfaaOpenR
namespace Go.Proofs.Ytfchbodbkdkcfaa.RowRekeySegments
open Go.ChangeShapes Go.WideShapes Go.ChangeAt Go.RowKit
theorem own : ownKnob Try.prog.godebug = none := by kernel_rfl
set_option maxRecDepth 100000 in
theorem lifted (os : Os) (started : os.Started) (H : Type) (enc : TypeId × Value → H) :
    ReturnsInHanded {} Try.checked os 7 .any (Rows.rekeySegmentsSpec.pre6 enc Try.prog Try.f7 Rows.rekeySegmentsRow.domain false) (Rows.rekeySegmentsSpec.post enc Try.prog Try.f7 false true false false) := by
  refine Frame.law_returns (C := Try.checked) own started (by kernel_rfl) Try.func7 (by kernel_rfl) rfl rfl Try.underlying4
    (fun ds h => by match ds, h with | [d1, d2], _ => rfl) (by kernel_rfl)
    (ChangeSpec.witness6 (enc := enc) (C := Try.checked) false ⟨#[], #[.int .u64 0, .agg #[.bool false, .int .u64 0, .int .u64 0, .bool false, .int .i64 0, .int .u64 0, .int .u64 0, .int .i64 0, .int .i64 0, .bool false, .int .u64 0, .string ⟨#[]⟩]], []⟩ 8 (by kernel_rfl) (by kernel_rfl) (by kernel_rfl) (by kernel_rfl)) ?_
  intro W base args ds p hval0 hA0 hsz hfz
  have hval : ∀ (j : Nat) t v, Try.f7.params[j]? = some t → args[j]? = some v → Value.okWide Try.prog W .any base t v := hval0
  have hA : DataW.TrodAll enc Try.prog W 0 (fun _ => true) true Try.f7.params.toList args.toList ds p := hA0
  rw [Try.params7] at hA hval
  clear hA0 hval0
  obtain ⟨v0, vs0, d0, ds0, p0, q0, hargs, rfl, rfl, h0, r0⟩ := trodAll_cons hA
  obtain ⟨v1, vs1, d1, ds1, p1, q1, rfl, rfl, rfl, h1, r1⟩ := trodAll_cons r0
  obtain ⟨rfl, rfl, rfl⟩ := trodAll_nil r1
  obtain rfl : args = #[v0, v1] := by rw [← Array.toArray_toList (xs := args), hargs]
  obtain ⟨n, rfl, rfl, rfl, wn⟩ := open_int Try.underlying25 (hval 0 25 v0 rfl rfl) h0
  obtain ⟨r, rfl, b0, b1⟩ := Coll.open_rot (hval 1 29 v1 rfl rfl)
  have bn := bounds_u64 wn
  exact Coll.law_any n r W (by omega) (by omega) b0 b1
theorem row_holds : Rows.RekeySegmentsSaid :=
  OpenClaim.holds_of_wide 7 Try.f7 rfl rfl rfl rfl rfl rfl rfl ⟨rfl, rfl, rfl, rfl, rfl⟩ rfl rfl rfl rfl rfl (by kernel_rfl) Try.func7 (by kernel_rfl)
    (of_decide_eq_true (by kernel_rfl)) (by unfold Func.isWrapper; first | (rw [if_pos (by decide +kernel)]; kernel_rfl) | (rw [if_neg (by decide +kernel)]; exact ⟨rfl, rfl⟩))
    (fun os started H enc _ => lifted os started H enc)
end Go.Proofs.Ytfchbodbkdkcfaa.RowRekeySegments
namespace Go.Proofs.Ytfchbodbkdkcfaa
/-- The statement, under a short name, for the claim. -/
theorem rekeySegments_holds : Rows.RekeySegmentsSaid := RowRekeySegments.row_holds
#print axioms rekeySegments_holds
end Go.Proofs.Ytfchbodbkdkcfaa
