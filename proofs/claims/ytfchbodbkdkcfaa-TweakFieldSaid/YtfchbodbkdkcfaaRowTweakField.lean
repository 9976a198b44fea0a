/- TweakField: for every input the law returns true, and each argument reads as it did. No condition. -/
import Derived.Test.YtfchbodbkdkcfaaRows
import Derived.Test.YtfchbodbkdkcfaaFrame
import Derived.Test.YtfchbodbkdkcfaaTField
namespace Go.Proofs.Ytfchbodbkdkcfaa.RowTweakField
open Go.ChangeShapes Go.WideShapes Go.ChangeAt Go.RowKit
theorem own : ownKnob Try.prog.godebug = none := by kernel_rfl
set_option maxRecDepth 100000 in
theorem lifted (os : Os) (started : os.Started) (H : Type) (enc : TypeId × Value → H) :
    ReturnsInHanded {} Try.checked os 9 .any (Rows.tweakFieldSpec.pre6 enc Try.prog Try.f9 Rows.tweakFieldRow.domain false) (Rows.tweakFieldSpec.post enc Try.prog Try.f9 false true false false) := by
  refine Frame.law_returns (C := Try.checked) own started (by kernel_rfl) Try.func9 (by kernel_rfl) rfl rfl Try.underlying4
    (fun ds h => by match ds, h with | [d1, d2, d3], _ => rfl) (by kernel_rfl)
    (ChangeSpec.witness6 (enc := enc) (C := Try.checked) false ⟨#[], #[.agg #[.int .u8 0, .int .u8 0, .int .u8 0, .int .u8 0, .int .u8 0, .int .u8 0, .int .u8 0, .int .u8 0, .int .u8 0, .int .u8 0, .int .u8 0, .int .u8 0, .int .u8 0, .int .u8 0, .int .u8 0, .int .u8 0], .agg #[.int .u8 0, .int .u8 0, .int .u8 0, .int .u8 0, .int .u8 0, .int .u8 0, .int .u8 0, .int .u8 0, .int .u8 0, .int .u8 0, .int .u8 0, .int .u8 0, .int .u8 0, .int .u8 0, .int .u8 0, .int .u8 0], .agg #[.int .u8 0, .int .u8 0, .int .u8 0, .int .u8 0, .int .u8 0, .int .u8 0, .int .u8 0, .int .u8 0, .int .u8 0, .int .u8 0, .int .u8 0, .int .u8 0, .int .u8 0, .int .u8 0, .int .u8 0, .int .u8 0]], []⟩ 8 (by kernel_rfl) (by kernel_rfl) (by kernel_rfl) (by kernel_rfl)) ?_
  intro W base args ds p hval0 hA0 hsz hfz
  have hval : ∀ (j : Nat) t v, Try.f9.params[j]? = some t → args[j]? = some v → Value.okWide Try.prog W .any base t v := hval0
  have hA : DataW.TrodAll enc Try.prog W 0 (fun _ => true) true Try.f9.params.toList args.toList ds p := hA0
  rw [Try.params9] at hA hval
  clear hA0 hval0
  obtain ⟨v0, vs0, d0, ds0, p0, q0, hargs, rfl, rfl, h0, r0⟩ := trodAll_cons hA
  obtain ⟨v1, vs1, d1, ds1, p1, q1, rfl, rfl, rfl, h1, r1⟩ := trodAll_cons r0
  obtain ⟨v2, vs2, d2, ds2, p2, q2, rfl, rfl, rfl, h2, r2⟩ := trodAll_cons r1
  obtain ⟨rfl, rfl, rfl⟩ := trodAll_nil r2
  obtain rfl : args = #[v0, v1, v2] := by rw [← Array.toArray_toList (xs := args), hargs]
  obtain ⟨a, ha, rfl⟩ := OpenB.open_block Try.underlying48 Try.underlying5 (by kernel_rfl) (by kernel_rfl) (hval 0 48 _ rfl rfl) h0
  obtain ⟨b, hb, rfl⟩ := OpenB.open_block Try.underlying48 Try.underlying5 (by kernel_rfl) (by kernel_rfl) (hval 1 48 _ rfl rfl) h1
  obtain ⟨c, hc, rfl⟩ := OpenB.open_block Try.underlying48 Try.underlying5 (by kernel_rfl) (by kernel_rfl) (hval 2 48 _ rfl rfl) h2
  exact TField.law_any a b c ha hb hc W
theorem row_holds : Rows.TweakFieldSaid :=
  OpenClaim.holds_of_wide 9 Try.f9 rfl rfl rfl rfl rfl rfl rfl ⟨rfl, rfl, rfl, rfl, rfl⟩ rfl rfl rfl rfl rfl (by kernel_rfl) Try.func9 (by kernel_rfl)
    (of_decide_eq_true (by kernel_rfl)) (by unfold Func.isWrapper; first | (rw [if_pos (by decide +kernel)]; kernel_rfl) | (rw [if_neg (by decide +kernel)]; exact ⟨rfl, rfl⟩))
    (fun os started H enc _ => lifted os started H enc)
end Go.Proofs.Ytfchbodbkdkcfaa.RowTweakField
namespace Go.Proofs.Ytfchbodbkdkcfaa
/-- The statement, under a short name, for the claim. -/
theorem tweakField_holds : Rows.TweakFieldSaid := RowTweakField.row_holds
#print axioms tweakField_holds
end Go.Proofs.Ytfchbodbkdkcfaa
