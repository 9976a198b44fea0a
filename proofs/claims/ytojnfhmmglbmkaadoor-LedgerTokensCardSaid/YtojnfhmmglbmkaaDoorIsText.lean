/- IsText of the document's chapter 7: is every letter of the text one? It is the library's own rule of valid UTF-8. -/
import Derived.Test.YtojnfhmmglbmkaaDoorLetter
namespace Go.Proofs.YtojnfhmmglbmkaaDoor.Letter
open Go.RowKit Go.Lib Go.Proofs.YtojnfhmmglbmkaaDoor.Utf

set_option maxRecDepth 100000 in
set_option maxHeartbeats 1000000 in
theorem isText_any (s : ByteArray) (hs : s.size ≤ 4611686018427387904) (w : World) :
    Calls Tryd.prog 13 #[.string s] w fun e w' => e = .returned (.bool (validD s.data.toList)) ∧ w = w' := by
  have HR : Hid (restOk s 0 = validD s.data.toList) := Lib.hid (restOk_zero s)
  generalize validD s.data.toList = V at HR ⊢
  go_enter Tryd.func13, Tryd.ntmps13
  go_wp2
  go_loopw [3] (fun k wr => ∃ i : Nat, k = .int .i64 i ∧ i ≤ s.size ∧ restOk s i = V ∧ w = wr) (fun k _ => s.size - (RowKit.intOf k).toNat)
  case atStart => exact ⟨0, rfl, by omega, HR.out, rfl⟩
  case round =>
    obtain ⟨i, rfl, hi, hr, rfl⟩ := hrel
    have HI := Lib.hid hr
    clear hr
    by_cases hlt : i < s.size
    · have HS := Lib.hid (restOk_step s i hlt)
      have HL := Lib.hid (letAt_le s i hlt)
      have HC := Lib.hid (letter_any s i hlt hs w)
      generalize letAt s i = d at HS HL HC
      obtain ⟨v, n⟩ := d
      have HL2 : i + n ≤ s.size := HL.out
      have HS2 : Hid (restOk s i = if n = 0 then false else restOk s (i + n)) := HS
      clear HS HL
      by_cases h0 : n = 0
      · subst h0
        go_wp2_with (go_at_call 16; refine HC.out.mono ?_; unfold pairV; rintro e w1 ⟨rfl, rfl⟩)
        go_ret
        exact ⟨by rw [← HI.out, HS2.out]; rfl, rfl⟩
      · go_wp2_with (go_at_call 16; refine HC.out.mono ?_; unfold pairV; rintro e w1 ⟨rfl, rfl⟩)
        go_roundw
        case rel => exact ⟨i + n, by simp, by omega, by rw [← HI.out, HS2.out, if_neg h0], by first | trivial | rfl⟩
        case measure => simp [RowKit.intOf]; omega
    · have hz : ¬ ((i : Int) < s.size) := by omega
      have HE := Lib.hid (restOk_end s i (by omega))
      clear hlt
      go_wp2
      go_ret
      exact ⟨by rw [← HI.out, HE.out]; rfl, rfl⟩
end Go.Proofs.YtojnfhmmglbmkaaDoor.Letter
