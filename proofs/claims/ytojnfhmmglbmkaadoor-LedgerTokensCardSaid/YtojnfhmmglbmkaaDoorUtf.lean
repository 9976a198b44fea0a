/- One letter of a text by the document's rule, as a plain function of its bytes; it is the model's own decoder. -/
import Derived.Lib.ValidLaws
import Derived.Lib.DecodeN
import Derived.Lib.TrimUEq
namespace Go.Proofs.YtojnfhmmglbmkaaDoor.Utf
open Go.Lib
/-- a byte that goes on -/
def C (b : Nat) : Prop := 128 ≤ b ∧ b < 192
instance (b : Nat) : Decidable (C b) := by unfold C; infer_instance
def okV (least v : Nat) : Prop := least ≤ v ∧ v ≤ 1114111 ∧ ¬ (55296 ≤ v ∧ v < 57344)
instance (a b : Nat) : Decidable (okV a b) := by unfold okV; infer_instance
def letN (n b0 b1 b2 b3 : Nat) : Nat × Nat :=
  if b0 < 128 then (b0, 1)
  else if 192 ≤ b0 ∧ b0 < 224 then
    (if 2 ≤ n ∧ C b1 ∧ okV 128 ((b0 - 192) * 64 + (b1 - 128)) then ((b0 - 192) * 64 + (b1 - 128), 2) else (0, 0))
  else if 224 ≤ b0 ∧ b0 < 240 then
    (if 3 ≤ n ∧ C b1 ∧ C b2 ∧ okV 2048 (((b0 - 224) * 64 + (b1 - 128)) * 64 + (b2 - 128)) then (((b0 - 224) * 64 + (b1 - 128)) * 64 + (b2 - 128), 3) else (0, 0))
  else if 240 ≤ b0 ∧ b0 < 248 then
    (if 4 ≤ n ∧ C b1 ∧ C b2 ∧ C b3 ∧ okV 65536 ((((b0 - 240) * 64 + (b1 - 128)) * 64 + (b2 - 128)) * 64 + (b3 - 128)) then ((((b0 - 240) * 64 + (b1 - 128)) * 64 + (b2 - 128)) * 64 + (b3 - 128), 4) else (0, 0))
  else (0, 0)
def sane (d : Nat × Nat) : Nat × Nat := if d.1 = 65533 ∧ d.2 = 1 then (0, 0) else d
theorem sane_bad : sane (65533, 1) = (0, 0) := rfl
theorem sane_wide (v n : Nat) (h : n ≠ 1) : sane (v, n) = (v, n) := by unfold sane; rw [if_neg (by simp only; omega)]
theorem letN_decode (n b0 b1 b2 b3 : Nat) (h0 : b0 < 256) (h1 : b1 < 256) (h2 : b2 < 256) (h3 : b3 < 256) : letN n b0 b1 b2 b3 = sane (decodeN n b0 b1 b2 b3) := by
  unfold letN
  by_cases c0 : b0 < 128
  · have e : decodeN n b0 b1 b2 b3 = (b0, 1) := by unfold decodeN; rw [if_pos c0]
    rw [if_pos c0, e]
    unfold sane
    rw [if_neg (by simp only; omega)]
  rw [if_neg c0]
  by_cases c1 : 192 ≤ b0 ∧ b0 < 224
  · rw [if_pos c1]
    by_cases k1 : 2 ≤ n ∧ C b1
    · have k1' := k1
      unfold C at k1'
      have e2 : b0 % 32 * 64 + b1 % 64 = (b0 - 192) * 64 + (b1 - 128) := by omega
      have e : decodeN n b0 b1 b2 b3 = if b0 % 32 * 64 + b1 % 64 ≥ 128 then (b0 % 32 * 64 + b1 % 64, 2) else (65533, 1) := by
        unfold decodeN; rw [if_neg c0, if_pos (show b0 / 32 = 6 ∧ (1 < n ∧ b1 / 64 = 2) by omega)]
      rw [e, e2]
      have hb : (b0 - 192) * 64 + (b1 - 128) < 2048 := by omega
      generalize (b0 - 192) * 64 + (b1 - 128) = v at hb
      by_cases k2 : 128 ≤ v
      · rw [if_pos ⟨k1.1, k1.2, k2, by omega, by omega⟩, if_pos k2, sane_wide _ _ (by decide)]
      · rw [if_neg (fun h => k2 h.2.2.1), if_neg k2, sane_bad]
    · have e : decodeN n b0 b1 b2 b3 = (65533, 1) := by
        unfold decodeN
        unfold C at k1
        rw [if_neg c0, if_neg (show ¬ (b0 / 32 = 6 ∧ (1 < n ∧ b1 / 64 = 2)) by omega), if_neg (show ¬ (b0 / 16 = 14 ∧ _) by omega), if_neg (show ¬ (b0 / 8 = 30 ∧ _) by omega)]
      rw [e, if_neg (fun h => k1 ⟨h.1, h.2.1⟩), sane_bad]
  rw [if_neg c1]
  by_cases c2 : 224 ≤ b0 ∧ b0 < 240
  · rw [if_pos c2]
    by_cases k1 : 3 ≤ n ∧ C b1 ∧ C b2
    · have k1' := k1
      unfold C at k1'
      have e2 : b0 % 16 * 4096 + b1 % 64 * 64 + b2 % 64 = ((b0 - 224) * 64 + (b1 - 128)) * 64 + (b2 - 128) := by omega
      have e : decodeN n b0 b1 b2 b3 = (if b0 % 16 * 4096 + b1 % 64 * 64 + b2 % 64 ≥ 2048 ∧ (b0 % 16 * 4096 + b1 % 64 * 64 + b2 % 64 < 55296 ∨ (57344 ≤ b0 % 16 * 4096 + b1 % 64 * 64 + b2 % 64 ∧ b0 % 16 * 4096 + b1 % 64 * 64 + b2 % 64 ≤ 1114111))
          then (b0 % 16 * 4096 + b1 % 64 * 64 + b2 % 64, 3) else (65533, 1)) := by
        unfold decodeN; rw [if_neg c0, if_neg (show ¬ (b0 / 32 = 6 ∧ _) by omega), if_pos (show b0 / 16 = 14 ∧ (1 < n ∧ b1 / 64 = 2) ∧ (2 < n ∧ b2 / 64 = 2) by omega)]
      rw [e, e2]
      have hb : ((b0 - 224) * 64 + (b1 - 128)) * 64 + (b2 - 128) < 65536 := by omega
      generalize ((b0 - 224) * 64 + (b1 - 128)) * 64 + (b2 - 128) = v at hb
      by_cases k2 : 2048 ≤ v ∧ ¬ (55296 ≤ v ∧ v < 57344)
      · rw [if_pos ⟨k1.1, k1.2.1, k1.2.2, k2.1, by omega, k2.2⟩, if_pos (by omega), sane_wide _ _ (by decide)]
      · rw [if_neg (fun h => k2 ⟨h.2.2.2.1, h.2.2.2.2.2⟩), if_neg (by omega), sane_bad]
    · have e : decodeN n b0 b1 b2 b3 = (65533, 1) := by
        unfold decodeN
        unfold C at k1
        rw [if_neg c0, if_neg (show ¬ (b0 / 32 = 6 ∧ _) by omega), if_neg (show ¬ (b0 / 16 = 14 ∧ (1 < n ∧ b1 / 64 = 2) ∧ (2 < n ∧ b2 / 64 = 2)) by omega), if_neg (show ¬ (b0 / 8 = 30 ∧ _) by omega)]
      rw [e, if_neg (fun h => k1 ⟨h.1, h.2.1, h.2.2.1⟩), sane_bad]
  rw [if_neg c2]
  by_cases c3 : 240 ≤ b0 ∧ b0 < 248
  · rw [if_pos c3]
    by_cases k1 : 4 ≤ n ∧ C b1 ∧ C b2 ∧ C b3
    · have k1' := k1
      unfold C at k1'
      have e2 : b0 % 8 * 262144 + b1 % 64 * 4096 + b2 % 64 * 64 + b3 % 64 = (((b0 - 240) * 64 + (b1 - 128)) * 64 + (b2 - 128)) * 64 + (b3 - 128) := by omega
      have e : decodeN n b0 b1 b2 b3 = (if b0 % 8 * 262144 + b1 % 64 * 4096 + b2 % 64 * 64 + b3 % 64 ≥ 65536 ∧ (b0 % 8 * 262144 + b1 % 64 * 4096 + b2 % 64 * 64 + b3 % 64 < 55296 ∨ (57344 ≤ b0 % 8 * 262144 + b1 % 64 * 4096 + b2 % 64 * 64 + b3 % 64 ∧ b0 % 8 * 262144 + b1 % 64 * 4096 + b2 % 64 * 64 + b3 % 64 ≤ 1114111))
          then (b0 % 8 * 262144 + b1 % 64 * 4096 + b2 % 64 * 64 + b3 % 64, 4) else (65533, 1)) := by
        unfold decodeN; rw [if_neg c0, if_neg (show ¬ (b0 / 32 = 6 ∧ _) by omega), if_neg (show ¬ (b0 / 16 = 14 ∧ _) by omega), if_pos (show b0 / 8 = 30 ∧ (1 < n ∧ b1 / 64 = 2) ∧ (2 < n ∧ b2 / 64 = 2) ∧ (3 < n ∧ b3 / 64 = 2) by omega)]
      rw [e, e2]
      generalize (((b0 - 240) * 64 + (b1 - 128)) * 64 + (b2 - 128)) * 64 + (b3 - 128) = v
      by_cases k2 : 65536 ≤ v ∧ v ≤ 1114111
      · rw [if_pos ⟨k1.1, k1.2.1, k1.2.2.1, k1.2.2.2, k2.1, k2.2, by omega⟩, if_pos (by omega), sane_wide _ _ (by decide)]
      · rw [if_neg (fun h => k2 ⟨h.2.2.2.2.1, h.2.2.2.2.2.1⟩), if_neg (by omega), sane_bad]
    · have e : decodeN n b0 b1 b2 b3 = (65533, 1) := by
        unfold decodeN
        unfold C at k1
        rw [if_neg c0, if_neg (show ¬ (b0 / 32 = 6 ∧ _) by omega), if_neg (show ¬ (b0 / 16 = 14 ∧ _) by omega), if_neg (show ¬ (b0 / 8 = 30 ∧ (1 < n ∧ b1 / 64 = 2) ∧ (2 < n ∧ b2 / 64 = 2) ∧ (3 < n ∧ b3 / 64 = 2)) by omega)]
      rw [e, if_neg (fun h => k1 ⟨h.1, h.2.1, h.2.2.1, h.2.2.2.1⟩), sane_bad]
  · have e : decodeN n b0 b1 b2 b3 = (65533, 1) := by
      unfold decodeN
      rw [if_neg c0, if_neg (show ¬ (b0 / 32 = 6 ∧ _) by omega), if_neg (show ¬ (b0 / 16 = 14 ∧ _) by omega), if_neg (show ¬ (b0 / 8 = 30 ∧ _) by omega)]
    rw [if_neg c3, e, sane_bad]
/-- the letter at a place -/
def letAt (s : ByteArray) (i : Nat) : Nat × Nat := letN (s.size - i) (s.get! i).toNat (s.get! (i + 1)).toNat (s.get! (i + 2)).toNat (s.get! (i + 3)).toNat
theorem letAt_decode (s : ByteArray) (i : Nat) : letAt s i = if (Utf8.decode s i).1 = 65533 ∧ (Utf8.decode s i).2 = 1 then (0, 0) else Utf8.decode s i := by
  unfold letAt
  rw [decode_at, letN_decode _ _ _ _ _ (UInt8.toNat_lt _) (UInt8.toNat_lt _) (UInt8.toNat_lt _) (UInt8.toNat_lt _)]
  rfl
/-- what is left of a text is valid -/
def restOk (s : ByteArray) (i : Nat) : Bool := validD (s.data.toList.drop i)
theorem restOk_end (s : ByteArray) (i : Nat) (h : s.size ≤ i) : restOk s i = true := by
  unfold restOk
  rw [List.drop_eq_nil_of_le (by rw [← size_eq]; exact h)]
  rfl
theorem restOk_step (s : ByteArray) (i : Nat) (h : i < s.size) : restOk s i = if (letAt s i).2 = 0 then false else restOk s (i + (letAt s i).2) := by
  have hne : s.data.toList.drop i ≠ [] := by
    intro h0
    have := congrArg List.length h0
    simp only [List.length_drop, List.length_nil] at this
    rw [← size_eq] at this
    omega
  have hw : 1 ≤ (Utf8.decode s i).2 := by rw [← decodeL_drop]; exact decodeL_width _
  unfold restOk
  rw [validD_step _ hne, decodeL_drop, letAt_decode]
  by_cases c : (Utf8.decode s i).1 = 65533 ∧ (Utf8.decode s i).2 = 1
  · rw [if_pos c, if_pos c, if_pos rfl]
  · rw [if_neg c, if_neg c, if_neg (by omega), List.drop_drop]
theorem letAt_le (s : ByteArray) (i : Nat) (h : i < s.size) : i + (letAt s i).2 ≤ s.size := by
  unfold letAt letN
  repeat' split
  all_goals (simp only; omega)
theorem restOk_zero (s : ByteArray) : restOk s 0 = validD s.data.toList := by unfold restOk; rw [List.drop_zero]
end Go.Proofs.YtojnfhmmglbmkaaDoor.Utf
