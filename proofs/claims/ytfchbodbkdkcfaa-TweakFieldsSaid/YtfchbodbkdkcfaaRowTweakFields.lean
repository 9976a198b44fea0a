/- TweakFields: for every input the law returns true, and each argument reads as it did. No condition. -/
import Derived.Test.YtfchbodbkdkcfaaRows
import Derived.Test.YtfchbodbkdkcfaaFrame
import Derived.Test.YtfchbodbkdkcfaaTFields
namespace Go.Proofs.Ytfchbodbkdkcfaa.RowTweakFields
open Go.ChangeShapes Go.WideShapes Go.ChangeAt Go.RowKit
theorem own : ownKnob Try.prog.godebug = none := by kernel_rfl
set_option maxRecDepth 100000 in
theorem lifted (os : Os) (started : os.Started) (H : Type) (enc : TypeId × Value → H) :
    ReturnsInHanded {} Try.checked os 10 .any (Rows.tweakFieldsSpec.pre6 enc Try.prog Try.f10 Rows.tweakFieldsRow.domain false) (Rows.tweakFieldsSpec.post enc Try.prog Try.f10 false true false false) := by
  refine Frame.law_returns (C := Try.checked) own started (by kernel_rfl) Try.func10 (by kernel_rfl) rfl rfl Try.underlying4
    (fun ds h => by match ds, h with | [d1, d2, d3], _ => rfl) (by kernel_rfl)
    (ChangeSpec.witness6 (enc := enc) (C := Try.checked) false ⟨#[], #[.agg #[.int .u8 0, .int .u8 0, .int .u8 0, .int .u8 0, .int .u8 0, .int .u8 0, .int .u8 0, .int .u8 0, .int .u8 0, .int .u8 0, .int .u8 0, .int .u8 0, .int .u8 0, .int .u8 0, .int .u8 0, .int .u8 0], .agg #[.int .u8 0, .int .u8 0, .int .u8 0, .int .u8 0, .int .u8 0, .int .u8 0, .int .u8 0, .int .u8 0, .int .u8 0, .int .u8 0, .int .u8 0, .int .u8 0, .int .u8 0, .int .u8 0, .int .u8 0, .int .u8 0], .slice none 0 0], []⟩ 8 (by kernel_rfl) (by kernel_rfl) (by kernel_rfl) (by kernel_rfl)) ?_
  intro W base args ds p hval0 hA0 hsz hfz
  have hval : ∀ (j : Nat) t v, Try.f10.params[j]? = some t → args[j]? = some v → Value.okWide Try.prog W .any base t v := hval0
  have hA : DataW.TrodAll enc Try.prog W 0 (fun _ => true) true Try.f10.params.toList args.toList ds p := hA0
  rw [Try.params10] at hA hval
  clear hA0 hval0
  obtain ⟨v0, vs0, d0, ds0, p0, q0, hargs, rfl, rfl, h0, r0⟩ := trodAll_cons hA
  obtain ⟨v1, vs1, d1, ds1, p1, q1, rfl, rfl, rfl, h1, r1⟩ := trodAll_cons r0
  obtain ⟨v2, vs2, d2, ds2, p2, q2, rfl, rfl, rfl, h2, r2⟩ := trodAll_cons r1
  obtain ⟨rfl, rfl, rfl⟩ := trodAll_nil r2
  obtain rfl : args = #[v0, v1, v2] := by rw [← Array.toArray_toList (xs := args), hargs]
  obtain ⟨a, ha, rfl⟩ := OpenB.open_block Try.underlying48 Try.underlying5 (by kernel_rfl) (by kernel_rfl) (hval 0 48 _ rfl rfl) h0
  obtain ⟨b, hb, rfl⟩ := OpenB.open_block Try.underlying48 Try.underlying5 (by kernel_rfl) (by kernel_rfl) (hval 1 48 _ rfl rfl) h1
  rcases OpenB.open_blocks Try.underlying49 Try.underlying48 Try.underlying5 (by kernel_rfl) (by kernel_rfl) (hval 2 49 _ rfl rfl) h2 with rfl | ⟨bl, off, len, cap, ns, rfl, hle, _, hlen, hb2, hns, hrg⟩
  · exact TFields.law_any a b ha hb none 0 [] W (Nat.le_refl _) (fun _ h => by cases h) (.inl ⟨rfl, rfl⟩)
  · subst hlen
    exact TFields.law_any a b ha hb _ cap ns W hle hns (.inr ⟨bl, off, rfl, hb2, hrg⟩)
theorem row_holds : Rows.TweakFieldsSaid :=
  OpenClaim.holds_of_wide 10 Try.f10 rfl rfl rfl rfl rfl rfl rfl ⟨rfl, rfl, rfl, rfl, rfl⟩ rfl rfl rfl rfl rfl (by kernel_rfl) Try.func10 (by kernel_rfl)
    (of_decide_eq_true (by kernel_rfl)) (by unfold Func.isWrapper; first | (rw [if_pos (by decide +kernel)]; kernel_rfl) | (rw [if_neg (by decide +kernel)]; exact ⟨rfl, rfl⟩))
    (fun os started H enc _ => lifted os started H enc)
end Go.Proofs.Ytfchbodbkdkcfaa.RowTweakFields
namespace Go.Proofs.Ytfchbodbkdkcfaa
/-- The statement, under a short name, for the claim. -/
theorem tweakFields_holds : Rows.TweakFieldsSaid := RowTweakFields.row_holds
#print axioms tweakFields_holds
end Go.Proofs.Ytfchbodbkdkcfaa
