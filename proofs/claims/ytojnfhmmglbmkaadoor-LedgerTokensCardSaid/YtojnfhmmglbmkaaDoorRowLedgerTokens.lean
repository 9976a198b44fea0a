/- LedgerTokens: for every input the law returns true, and each argument reads as it did. No condition. -/
import Derived.Test.YtojnfhmmglbmkaaDoorRows
import Derived.Test.YtojnfhmmglbmkaaDoorCards
import Derived.Test.YtojnfhmmglbmkaaDoorTie
import Derived.Test.YtojnfhmmglbmkaaDoorFrame
import Derived.PinnedBridge
import Derived.Lay
import Derived.LaidOnce
import Derived.Lib.LaidU8T
import Derived.Lib.LaidIn
import Derived.Test.YtojnfhmmglbmkaaDoorTokE
import Derived.Test.YtojnfhmmglbmkaaDoorOpenT
namespace Go.Proofs.YtojnfhmmglbmkaaDoor.RowLedgerTokens
open Go.ChangeShapes Go.WideShapes Go.ChangeAt Go.RowKit
theorem own : ownKnob Tryd.prog.godebug = none := by kernel_rfl
set_option maxRecDepth 100000 in
theorem lifted (os : Os) (started : os.Started) (H : Type) (enc : TypeId × Value → H) :
    ReturnsInHanded {} Tryd.checked os 3 .any (fun w args => (Rows.ledgerTokensSpec.pre enc Tryd.prog Tryd.f3 [] false w args ∧ laidMetH Tryd.prog Rows.ledgerTokensRow.laid w) ∧ sizedMet enc Tryd.prog Tryd.f3 (OpenSpec.ofChange Rows.ledgerTokensSpec) false w args)
      (Rows.ledgerTokensSpec.post enc Tryd.prog Tryd.f3 false true false false) := by
  refine Frame.law_returns_laid (C := Tryd.checked) own started (by kernel_rfl) Tryd.func3 (by kernel_rfl) rfl rfl Tryd.underlying4
    (fun ds h => by match ds, h with | [d1], _ => rfl) (by kernel_rfl)
    (ChangeSpec.witness_shaped (enc := enc) (C := Tryd.checked) (os := os) (X := fun w _ => laidMetH Tryd.prog Rows.ledgerTokensRow.laid w) false (World.laidAll Tryd.prog os Rows.ledgerTokensRow.laid) #[.agg #[.int .i64 0, .string ⟨#[]⟩, .slice none 0 0, .string ⟨#[]⟩]] 8 (World.laidAll_os _ _ _)
      (World.shaped_of_ZipB (by kernel_rfl) (by kernel_rfl)) (by kernel_rfl) (by kernel_rfl) (by kernel_rfl)
      (by rw [MakeChecks.laidMetH_plain _ _ _ (by kernel_rfl)]; exact laidMet_laidAll _ (by kernel_rfl) (by kernel_rfl))) ?_
  intro W base args ds p hval0 hA0 hsz hfz hL
  have hval : ∀ (j : Nat) t v, Tryd.f3.params[j]? = some t → args[j]? = some v → Value.okWide Tryd.prog W .any base t v := hval0
  have hA : DataW.TrodAll enc Tryd.prog W 0 (fun _ => true) true Tryd.f3.params.toList args.toList ds p := hA0
  rw [Tryd.params3] at hA hval
  clear hA0 hval0
  obtain ⟨v0, vs0, d0, ds0, p0, q0, hargs, rfl, rfl, h0, r0⟩ := trodAll_cons hA
  obtain ⟨rfl, rfl, rfl⟩ := trodAll_nil r0
  obtain rfl : args = #[v0] := by rw [← Array.toArray_toList (xs := args), hargs]
  rw [MakeChecks.laidMetH_plain _ _ _ (by kernel_rfl)] at hL
  obtain ⟨c0, c1, c2, c3, y0, y1, y2, y3, m0, rfl, rfl, rfl, f0, f1, f2, f3⟩ := Joins.open_agg4 Tryd.underlying24 (by kernel_rfl) (by kernel_rfl) (hval 0 24 v0 rfl rfl) h0
  obtain ⟨num, e0, rfl, w0⟩ := DataW.trod_int Tryd.underlying3 f0
  obtain ⟨kd, e1, rfl, w1⟩ := DataW.trod_string Tryd.underlying9 f1
  obtain ⟨q, n, cap, f, rfl, hle, hcm, hq, hil, hlen⟩ := OpenT.open_il Tryd.underlying22 Tryd.underlying3 (by kernel_rfl) f2
  obtain ⟨nt, e3, rfl, w3⟩ := DataW.trod_string Tryd.underlying9 f3
  simp only [List.cons.injEq, and_true] at e0 e1 e3
  subst e0 e1 e3
  have hn : n ≤ 17592186043904 := by
    rcases hlen with rfl | ⟨es, sp, hy, hes⟩
    · omega
    · have h1 := OpenT.sized_agg hsz (j := 0) (t := 24) (by kernel_rfl) rfl Tryd.underlying24
      have h2 := sized_slice h1 (j := 2) (t := 22) (elems := es) (spare := sp) (by kernel_rfl) (by simp [hy]) Tryd.underlying22
      rw [show Tryd.checked.prog.bytesOf 3 = 8 by kernel_rfl] at h2
      unfold reachBytes at h2
      omega
  have hk : kd.size ≤ 4611686018427387904 := by
    have h1 := OpenT.sized_agg hsz (j := 0) (t := 24) (by kernel_rfl) rfl Tryd.underlying24
    have h2 := sized_string h1 (j := 1) (t := 9) (bytes := kd.data.toList) (by kernel_rfl) rfl
    rw [← Lib.size_eq] at h2
    unfold reachBytes at h2
    omega
  have ht : nt.size ≤ 4611686018427387904 := by
    have h1 := OpenT.sized_agg hsz (j := 0) (t := 24) (by kernel_rfl) rfl Tryd.underlying24
    have h2 := sized_string h1 (j := 3) (t := 9) (bytes := nt.data.toList) (by kernel_rfl) rfl
    rw [← Lib.size_eq] at h2
    unfold reachBytes at h2
    omega
  have htab : TokV.Tabs W :=
    utf8Tabs_of_readsT (U8Types.of196 Tryd.laysValid) ⟨by kernel_rfl, by kernel_rfl, by kernel_rfl, by kernel_rfl, by kernel_rfl, by kernel_rfl, by kernel_rfl⟩
      (Pinned.utf8First_eq ▸ Lib.laidMet.reads hL (.tail _ (.head _))) ((show Rows.laid_unicode_utf8_acceptRanges = Lib.acceptData by kernel_rfl) ▸ Lib.laidMet.reads hL (.head _))
  exact Tok.law_any num kd nt q n cap f W htab hk ht hn hle hq hil
theorem row_holds : Rows.LedgerTokensSaid :=
  OpenClaim.holds_of_wide 3 Tryd.f3 rfl rfl rfl rfl rfl rfl rfl ⟨rfl, rfl, rfl, rfl, rfl⟩ rfl rfl rfl rfl rfl (by kernel_rfl) Tryd.func3 (by kernel_rfl)
    (of_decide_eq_true (by kernel_rfl)) (by unfold Func.isWrapper; first | (rw [if_pos (by decide +kernel)]; kernel_rfl) | (rw [if_neg (by decide +kernel)]; exact ⟨rfl, rfl⟩))
    (fun os started H enc _ => lifted os started H enc)
theorem card_holds : Rows.LedgerTokensCardSaid :=
  Claim7.holds_tied_plain_at .later [] [.data, .pinned] true Rows.ledgerTokensCard.stood.harness Rows.ledgerTokensCard.stood.looks
    row_holds (fun _ h => by cases h) (by kernel_rfl) (fun _ h => by cases h) ledgerTokens_row_tie rfl ⟨rfl, rfl⟩ (by kernel_rfl) rfl
    (fun f fn hf hfn => by
      obtain rfl : f = 3 := Option.some.inj ((show Tryd.prog.funcNamed "coffer/cofferlaw09.LedgerTokens" = some 3 by kernel_rfl).symm.trans hf) |>.symm
      obtain rfl : fn = Tryd.f3 := (Option.some.inj (Tryd.func3.symm.trans hfn)).symm
      exact ⟨by kernel_rfl, fun j t ht => Frame.no_stand_ins (fn := Tryd.f3) (by kernel_rfl) ht⟩)
    (by kernel_rfl)
end Go.Proofs.YtojnfhmmglbmkaaDoor.RowLedgerTokens
namespace Go.Proofs.YtojnfhmmglbmkaaDoor
/-- The statement, under a short name, for the claim. -/
theorem ledgerTokens_holds : Rows.LedgerTokensCardSaid := RowLedgerTokens.card_holds
#print axioms ledgerTokens_holds
end Go.Proofs.YtojnfhmmglbmkaaDoor
