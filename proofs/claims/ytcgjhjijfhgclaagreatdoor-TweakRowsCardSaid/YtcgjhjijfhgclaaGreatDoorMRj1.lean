/- rijndael: the product of bytes, the turn of a byte. -/
import Derived.Test.YtcgjhjijfhgclaaGreatDoorRows
import Derived.Test.YtcgjhjijfhgclaaGreatDoorMBlk
import Derived.Test.YtcgjhjijfhgclaaGreatDoorMWord
namespace Go.Proofs.YtcgjhjijfhgclaaGreatDoor.Rj
open Go.RowKit Go.Lib Go.Proofs.YtcgjhjijfhgclaaGreatDoor.Blk Go.Proofs.YtcgjhjijfhgclaaGreatDoor.Aes

theorem and1_u8 (b : Nat) (h : b < 256) : bits .and .u8 (b : Int) 1 = ((b % 2 : Nat) : Int) := by
  have := and_u8 b 1 h (by decide)
  rw [show ((1 : Int)) = ((1 : Nat) : Int) from rfl, this]
  congr 1
  exact Nat.and_two_pow_sub_one_eq_mod b 1
theorem and128_nat : ∀ b, b < 256 → b &&& 128 = if 128 ≤ b then 128 else 0 := by decide +kernel
theorem and128_u8 (b : Nat) (h : b < 256) : bits .and .u8 (b : Int) 128 = ((if 128 ≤ b then 128 else 0 : Nat) : Int) := by
  have := and_u8 b 128 h (by decide)
  rw [show ((128 : Int)) = ((128 : Nat) : Int) from rfl, this, and128_nat b h]
theorem xt_hi (x : Nat) (h : 128 ≤ x) (_hx : x < 256) : bits .xor .u8 ((x : Int) * 2 % 256) 27 = ((xt x : Nat) : Int) := by
  have e : ((x : Int) * 2 % 256) = ((x * 2 % 256 : Nat) : Int) := by omega
  rw [e, show ((27 : Int)) = ((27 : Nat) : Int) from rfl, xor_u8 _ _ (Nat.mod_lt _ (by decide)) (by decide), xt, if_pos h]
theorem xt_lo (x : Nat) (h : ¬ 128 ≤ x) : ((x : Int) * 2) = ((xt x : Nat) : Int) := by
  rw [xt, if_neg h, Nat.xor_zero]
  omega
theorem half_i (y : Nat) : (y : Int) / 2 = ((y / 2 : Nat) : Int) := by omega
theorem gm_step {n x y p G : Nat} (h : gmL (n + 1) x y p = G) : (y % 2 = 1 → gmL n (xt x) (y / 2) (p ^^^ x) = G) ∧ (¬ y % 2 = 1 → gmL n (xt x) (y / 2) p = G) := by
  rw [gmL] at h
  exact ⟨fun e => by rw [if_pos e] at h; exact h, fun e => by rw [if_neg e] at h; exact h⟩
set_option maxHeartbeats 1000000 in
theorem times_any (a b : Nat) (ha : a < 256) (hb : b < 256) (w : World) : Calls Tryz.prog 162 #[.int .u8 a, .int .u8 b] w fun e w' => e = .returned (.int .u8 (gm a b : Nat)) ∧ w = w' := by
  obtain ⟨G, hG⟩ : ∃ G, gm a b = G := ⟨_, rfl⟩
  rw [hG]
  have HG := Lib.hid hG
  have HA := Lib.hid ha
  have HB := Lib.hid hb
  clear hG ha hb
  go_enter Tryz.func162, Tryz.ntmps162
  go_wp2
  go_loop [0, 1, 5, 6] (fun sa sb sp _ => ∃ n x y p : Nat, n ≤ 8 ∧ sa = .int .u8 x ∧ sb = .int .u8 y ∧ sp = .int .u8 p ∧ x < 256 ∧ y < 256 ∧ p < 256 ∧ y < 2 ^ n ∧ Hid (gmL n x y p = G)) (fun _ sb _ _ => (intOf sb).toNat)
  case atStart => exact ⟨8, a, b, 0, by omega, rfl, rfl, rfl, HA.out, HB.out, by decide, HB.out, Lib.hid HG.out⟩
  case round =>
    obtain ⟨n, x, y, p, hn, rfl, rfl, rfl, hx, hy, hp, hyn, HR⟩ := hrel
    by_cases h0 : y = 0
    · subst h0
      have hr := HR.out
      rw [gmL_zero] at hr
      subst hr
      go_wp2
      go_ret
      exact ⟨rfl, rfl⟩
    · have e1 := and1_u8 y hy
      have e2 := xor_u8 p x hp hx
      have e3 := and128_u8 x hx
      have hyb : ((y : Int) != 0) = true := by simp; omega
      obtain ⟨m, rfl⟩ : ∃ m, n = m + 1 := ⟨n - 1, by
        rcases n with _ | n
        · simp at hyn; omega
        · omega⟩
      have hy2 : y / 2 < 2 ^ m := by rw [Nat.pow_succ] at hyn; omega
      have ST := Lib.hid (gm_step HR.out)
      have XH := Lib.hid (fun h => xt_hi x h hx)
      have XL := Lib.hid (xt_lo x)
      clear HR hyn HG
      by_cases h1 : y % 2 = 1 <;> by_cases h2 : 128 ≤ x
      · rw [h1] at e1
        rw [if_pos h2] at e3
        go_wp2
        go_round
        case rel => exact ⟨m, xt x, y / 2, p ^^^ x, by omega, by rw [XH.out h2], by rw [half_i], rfl, xt_lt x, by omega, xor_lt hp hx, hy2, Lib.hid (ST.out.1 h1)⟩
        case measure => simp [intOf]; omega
      · rw [h1] at e1
        rw [if_neg h2] at e3
        go_wp2
        go_round
        case rel => exact ⟨m, xt x, y / 2, p ^^^ x, by omega, by rw [XL.out h2], by rw [half_i], rfl, xt_lt x, by omega, xor_lt hp hx, hy2, Lib.hid (ST.out.1 h1)⟩
        case measure => simp [intOf]; omega
      · have h1' : y % 2 = 0 := by omega
        rw [h1'] at e1
        rw [if_pos h2] at e3
        go_wp2
        go_round
        case rel => exact ⟨m, xt x, y / 2, p, by omega, by rw [XH.out h2], by rw [half_i], rfl, xt_lt x, by omega, hp, hy2, Lib.hid (ST.out.2 h1)⟩
        case measure => simp [intOf]; omega
      · have h1' : y % 2 = 0 := by omega
        rw [h1'] at e1
        rw [if_neg h2] at e3
        go_wp2
        go_round
        case rel => exact ⟨m, xt x, y / 2, p, by omega, by rw [XL.out h2], by rw [half_i], rfl, xt_lt x, by omega, hp, hy2, Lib.hid (ST.out.2 h1)⟩
        case measure => simp [intOf]; omega

theorem trn_eq (b n : Nat) (hb : b < 256) : bits .or .u8 ((b : Int) * 2 ^ n % 256) ((b : Int) / 2 ^ (8 - n)) = ((trn b n : Nat) : Int) := by
  have e1 : ((b : Int) * 2 ^ n % 256) = ((b * 2 ^ n % 256 : Nat) : Int) := by simp
  have e2 : ((b : Int) / 2 ^ (8 - n)) = ((b / 2 ^ (8 - n) : Nat) : Int) := by simp
  rw [e1, e2, or_u8 _ _ (Nat.mod_lt _ (by decide)) (Nat.lt_of_le_of_lt (Nat.div_le_self _ _) hb), trn]
theorem turn_any (b n : Nat) (hb : b < 256) (h1 : 1 ≤ n) (h2 : n ≤ 7) (w : World) : Calls Tryz.prog 163 #[.int .u8 b, .int .u64 n] w fun e w' => e = .returned (.int .u8 (trn b n : Nat)) ∧ w = w' := by
  go_enter Tryz.func163, Tryz.ntmps163
  go_wp2
  go_ret
  exact ⟨congrArg (fun z => Ending.returned (.int .u8 z)) (trn_eq b n hb), rfl⟩
end Go.Proofs.YtcgjhjijfhgclaaGreatDoor.Rj
