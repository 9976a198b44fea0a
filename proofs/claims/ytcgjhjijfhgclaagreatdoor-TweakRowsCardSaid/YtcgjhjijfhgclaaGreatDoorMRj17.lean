/- rijndael: the plain steps of the schedule's words. -/
import Derived.Test.YtcgjhjijfhgclaaGreatDoorMRj16
import Derived.Test.YtcgjhjijfhgclaaGreatDoorMWord
namespace Go.Proofs.YtcgjhjijfhgclaaGreatDoor.Rj
open Go.RowKit Go.Lib Go.Proofs.YtcgjhjijfhgclaaGreatDoor.Blk Go.Proofs.YtcgjhjijfhgclaaGreatDoor.Aes Go.Proofs.YtcgjhjijfhgclaaGreatDoor.Seg

theorem rot_wd {p : Nat → Nat} (h : Byt p 4) : wd p % 16777216 * 256 + wd p / 16777216 = wd fun j => p ((j + 1) % 4) := by
  have := h 0 (by decide); have := h 1 (by decide); have := h 2 (by decide); have := h 3 (by decide)
  show wd p % 16777216 * 256 + wd p / 16777216 = ((p 1 * 256 + p 2) * 256 + p 3) * 256 + p 0
  unfold wd
  omega
theorem rc_wd {g : Nat → Nat} (h : Byt g 4) {c : Nat} (hc : c < 256) : wd g ^^^ c * 16777216 = wd fun j => g j ^^^ (if j = 0 then c else 0) := by
  have e : c * 16777216 = wd fun j => if j = 0 then c else 0 := by
    show _ = ((c * 256 + 0) * 256 + 0) * 256 + 0
    omega
  rw [e, wd_xor h (fun j _ => by split <;> omega)]
/-- the word that is added: three cases -/
theorem add_first {nk i : Nat} {p : Nat → Nat} (hp : Byt p 4) (h : i % nk = 0) : wd (fun j => S (p ((j + 1) % 4))) ^^^ rc (i / nk - 1) * 16777216 = wd (tB nk i p) := by
  rw [rc_wd (fun j _ => S_lt _ (hp _ (Nat.mod_lt _ (by decide)))) (rc_lt _)]
  refine wd_congr fun j _ => ?_
  unfold tB
  rw [if_pos h]
theorem add_mid {nk i : Nat} {p : Nat → Nat} (h : ¬ i % nk = 0) (h8 : nk = 8 ∧ i % 8 = 4) : wd (fun j => S (p j)) = wd (tB nk i p) := by
  refine wd_congr fun j _ => ?_
  unfold tB
  rw [if_neg h, if_pos h8]
theorem add_plain {nk i : Nat} {p : Nat → Nat} (h : ¬ i % nk = 0) (h8 : ¬ (nk = 8 ∧ i % 8 = 4)) : wd p = wd (tB nk i p) := by
  refine wd_congr fun j _ => ?_
  unfold tB
  rw [if_neg h, if_neg h8]
/-- the next word -/
theorem next_word {nk : Nat} {key : Nat → Nat} (hk : Byt key (4 * nk)) (h1 : 1 ≤ nk) (n : Nat) : wd (kwF nk key n n) ^^^ wd (tB nk (nk + n) (kwF nk key n (nk + n - 1))) = wd (kwF nk key (n + 1) (nk + n)) := by
  rw [wd_xor (kwF_lt hk h1 n n (by omega)) (fun j hj => tB_lt (kwF_lt hk h1 n _ (by omega)) j hj)]
  refine wd_congr fun j _ => ?_
  rw [kwF]
  dsimp only
  rw [if_pos rfl]
/-- a round key's column is a word of the schedule -/
theorem col_rk (nk : Nat) (key : Nat → Nat) (r : Nat) {c : Nat} (_hc : c < 4) : colW (rk nk key r) c = wd (kw nk key (4 * r + c)) := by
  refine wd_congr fun j hj => ?_
  unfold rk
  rw [show (4 * c + j) / 4 = c by omega, show (4 * c + j) % 4 = j by omega]
end Go.Proofs.YtcgjhjijfhgclaaGreatDoor.Rj
