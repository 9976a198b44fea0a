/- Parts of the proof of TweakFlips. RefT: cofferref02.Times: the document's product of two bytes. RefB: cofferref02.bits: the document's S of an inverse. -/
import Derived.Test.YtmifebcaifbmoaaGreatDoorK14
/- RefT -/
section
namespace Go.Proofs.YtmifebcaifbmoaaGreatDoor.Ref2
open Go.RowKit Go.Lib Go.Proofs.YtmifebcaifbmoaaGreatDoor.Blk Go.Proofs.YtmifebcaifbmoaaGreatDoor.Aes

theorem xor_i64 (a b : Nat) (ha : a < 65536) (hb : b < 65536) : bits .xor .i64 a b = ((a ^^^ b : Nat) : Int) := bits_xor' .i64 16 (by decide) (fun n h1 h2 => IntWalk.i64_in n (by omega)) a b ha hb
/-- the first loop: products of bits below k -/
def tA (a b : Nat) : Nat → Nat
  | 0 => 0
  | k + 1 => if b / 2 ^ k % 2 = 1 then tA a b k ^^^ a * 2 ^ k else tA a b k
/-- the second: the powers from 14 on are taken away, j of them -/
def tR (p : Nat) : Nat → Nat
  | 0 => p
  | j + 1 => if tR p j / 2 ^ (14 - j) % 2 = 1 then tR p j ^^^ 283 * 2 ^ (6 - j) else tR p j
def dT (a b : Nat) : Nat := tR (tA a b 8) 7 % 256
theorem dT_lt (a b : Nat) : dT a b < 256 := Nat.mod_lt _ (by decide)
theorem tA_lt (a b : Nat) (ha : a < 256) : ∀ k, k ≤ 8 → tA a b k < 65536
  | 0, _ => by unfold tA; decide
  | k + 1, h => by
    rw [tA]
    split
    · refine Nat.xor_lt_two_pow (n := 16) (tA_lt a b ha k (by omega)) ?_
      have : 2 ^ k ≤ 2 ^ 7 := Nat.pow_le_pow_right (by decide) (by omega)
      calc a * 2 ^ k ≤ 255 * 2 ^ 7 := Nat.mul_le_mul (by omega) this
        _ < 2 ^ 16 := by decide
    · exact tA_lt a b ha k (by omega)
theorem tR_lt (p : Nat) (hp : p < 65536) : ∀ j, j ≤ 7 → tR p j < 65536
  | 0, _ => hp
  | j + 1, h => by
    rw [tR]
    split
    · refine Nat.xor_lt_two_pow (n := 16) (tR_lt p hp j (by omega)) ?_
      have : 2 ^ (6 - j) ≤ 2 ^ 6 := Nat.pow_le_pow_right (by decide) (by omega)
      calc 283 * 2 ^ (6 - j) ≤ 283 * 2 ^ 6 := Nat.mul_le_mul (Nat.le_refl _) this
        _ < 2 ^ 16 := by decide
    · exact tR_lt p hp j (by omega)

set_option maxRecDepth 100000 in
set_option maxHeartbeats 2000000 in
theorem refTimes_any (a b : Nat) (ha : a < 256) (hb : b < 256) (w : World) : Calls Tryz.prog 143 #[.int .u8 a, .int .u8 b] w fun e w' => e = .returned (.int .u8 (dT a b : Nat)) ∧ w = w' := by
  go_enter Tryz.func143, Tryz.ntmps143
  go_wp2
  go_loop [6, 5] (fun i p => ∃ k : Nat, k ≤ 8 ∧ i = .int .i64 k ∧ p = .int .i64 (tA a b k : Nat)) (fun i _ => 8 - (Lib.intOf i).toNat)
  case atStart => exact ⟨0, by omega, rfl, rfl⟩
  case round =>
    obtain ⟨k, hk, rfl, rfl⟩ := hrel
    have hl := tA_lt a b ha k hk
    by_cases hlt : k < 8
    · have hp : 2 ^ k ≤ 2 ^ 7 := Nat.pow_le_pow_right (by decide) (by omega)
      have hap : a * 2 ^ k ≤ 255 * 2 ^ 7 := Nat.mul_le_mul (by omega) hp
      have hwa : wrap64 ((a : Int) * 2 ^ k) = (a * 2 ^ k : Nat) := by
        rw [show ((a : Int) * 2 ^ k) = ((a * 2 ^ k : Nat) : Int) by simp]
        generalize a * 2 ^ k = z at hap ⊢
        unfold wrap64
        omega
      have hdv : ((b : Int) / 2 ^ k) = ((b / 2 ^ k : Nat) : Int) := by simp
      have HX := Lib.hid (xor_i64 (tA a b k) (a * 2 ^ k) hl (by omega))
      have TS : Hid (tA a b (k + 1) = if b / 2 ^ k % 2 = 1 then tA a b k ^^^ a * 2 ^ k else tA a b k) := Lib.hid rfl
      generalize hq : b / 2 ^ k = q at *
      generalize a * 2 ^ k = aa at *
      by_cases h1 : q % 2 = 1
      · have h1i : (q : Int) % 2 = 1 := by omega
        rw [if_pos h1] at TS
        clear h1 hp hap hq
        go_wp2
        exact ⟨⟨k + 1, by omega, by go_num, by first | rw [TS.out, ← HX.out] | rw [TS.out]⟩, by simp [Lib.intOf]; omega⟩
      · have h1i : ¬ (q : Int) % 2 = 1 := by omega
        rw [if_neg h1] at TS
        clear h1 hp hap hq
        go_wp2
        exact ⟨⟨k + 1, by omega, by go_num, by first | rw [TS.out, ← HX.out] | rw [TS.out]⟩, by simp [Lib.intOf]; omega⟩
    · obtain rfl : k = 8 := by omega
      have PL := tA_lt a b ha 8 (Nat.le_refl _)
      have HD : Hid (dT a b = tR (tA a b 8) 7 % 256) := Lib.hid rfl
      generalize tA a b 8 = p0 at *
      clear hl hlt
      go_wp2
      go_loop [7, 5] (fun i p => ∃ j : Nat, j ≤ 7 ∧ i = .int .i64 (14 - (j : Int)) ∧ p = .int .i64 (tR p0 j : Nat)) (fun i _ => (Lib.intOf i).toNat)
      case atStart => exact ⟨0, by omega, rfl, rfl⟩
      case round =>
        obtain ⟨j, hj, rfl, rfl⟩ := hrel
        have hl := tR_lt p0 PL j hj
        by_cases hlt : j < 7
        · obtain ⟨m, hm⟩ : ∃ m, m = 14 - j := ⟨_, rfl⟩
          have em : (14 : Int) - (j : Int) = (m : Nat) := by omega
          rw [em]
          have hp : 2 ^ (m - 8) ≤ 2 ^ 6 := Nat.pow_le_pow_right (by decide) (by omega)
          have TS : Hid (tR p0 (j + 1) = if tR p0 j / 2 ^ m % 2 = 1 then tR p0 j ^^^ 283 * 2 ^ (m - 8) else tR p0 j) := Lib.hid (by rw [hm, show 14 - j - 8 = 6 - j by omega]; rfl)
          have HM := Lib.hid hm
          have hm8 : 8 ≤ m ∧ m ≤ 14 := by omega
          clear hm em
          have hap : 283 * 2 ^ (m - 8) ≤ 283 * 2 ^ 6 := Nat.mul_le_mul (Nat.le_refl _) hp
          have hwa : wrap64 ((283 : Int) * 2 ^ (m - 8)) = (283 * 2 ^ (m - 8) : Nat) := by
            rw [show ((283 : Int) * 2 ^ (m - 8)) = ((283 * 2 ^ (m - 8) : Nat) : Int) by simp]
            generalize 283 * 2 ^ (m - 8) = z at hap ⊢
            unfold wrap64
            omega
          have hdv : (((tR p0 j : Nat) : Int) / 2 ^ m) = ((tR p0 j / 2 ^ m : Nat) : Int) := by simp
          have HX := Lib.hid (xor_i64 (tR p0 j) (283 * 2 ^ (m - 8)) hl (by omega))
          generalize hq : tR p0 j / 2 ^ m = q at *
          generalize 283 * 2 ^ (m - 8) = aa at *
          by_cases h1 : q % 2 = 1
          · have h1i : (q : Int) % 2 = 1 := by omega
            rw [if_pos h1] at TS
            clear h1 hp hap hq
            go_wp2
            have := HM.out
            exact ⟨⟨j + 1, by omega, by congr 1; omega, by first | rw [TS.out, ← HX.out] | rw [TS.out]⟩, by simp [Lib.intOf]; omega⟩
          · have h1i : ¬ (q : Int) % 2 = 1 := by omega
            rw [if_neg h1] at TS
            clear h1 hp hap hq
            go_wp2
            have := HM.out
            exact ⟨⟨j + 1, by omega, by congr 1; omega, by first | rw [TS.out, ← HX.out] | rw [TS.out]⟩, by simp [Lib.intOf]; omega⟩
        · obtain rfl : j = 7 := by omega
          go_wp2
          go_ret
          exact ⟨by rw [HD.out, Int.natCast_emod]; rfl, rfl⟩
end Go.Proofs.YtmifebcaifbmoaaGreatDoor.Ref2
end

/- RefB -/
section
namespace Go.Proofs.YtmifebcaifbmoaaGreatDoor.Ref2
open Go.RowKit Go.Lib Go.Proofs.YtmifebcaifbmoaaGreatDoor.Blk Go.Proofs.YtmifebcaifbmoaaGreatDoor.Aes

def bitD (y k : Nat) : Nat := y / 2 ^ k ^^^ y / 2 ^ ((k + 4) % 8) ^^^ y / 2 ^ ((k + 5) % 8) ^^^ y / 2 ^ ((k + 6) % 8) ^^^ y / 2 ^ ((k + 7) % 8) ^^^ 99 / 2 ^ k
def sD (y : Nat) : Nat → Nat
  | 0 => 0
  | k + 1 => sD y k + bitD y k % 2 * 2 ^ k
theorem sD_lt (y : Nat) : ∀ k, sD y k < 2 ^ k
  | 0 => by unfold sD; decide
  | k + 1 => by
    rw [sD, Nat.pow_succ]
    have := sD_lt y k
    have h : bitD y k % 2 ≤ 1 := by omega
    have := Nat.mul_le_mul_right (2 ^ k) h
    omega
theorem x16 {a b : Nat} (ha : a < 65536) (hb : b < 65536) : a ^^^ b < 65536 := Nat.xor_lt_two_pow (n := 16) ha hb

set_option maxRecDepth 100000 in
set_option maxHeartbeats 2000000 in
theorem refBits_any (y : Nat) (hy : y < 256) (w : World) : Calls Tryz.prog 169 #[.int .i64 y] w fun e w' => e = .returned (.int .u8 (sD y 8 : Nat)) ∧ w = w' := by
  go_enter Tryz.func169, Tryz.ntmps169
  go_wp2
  go_loop [4, 3, 5] (fun i p _ => ∃ k : Nat, k ≤ 8 ∧ i = .int .i64 k ∧ p = .int .i64 (sD y k : Nat)) (fun i _ _ => 8 - (Lib.intOf i).toNat)
  case atStart => exact ⟨0, by omega, rfl, rfl⟩
  case round =>
    obtain ⟨k, hk, rfl, rfl⟩ := hrel
    by_cases hlt : k < 8
    · have hs := sD_lt y k
      have hp : 2 ^ k ≤ 2 ^ 7 := Nat.pow_le_pow_right (by decide) (by omega)
      have SS : Hid (sD y (k + 1) = sD y k + bitD y k % 2 * 2 ^ k) := Lib.hid rfl
      have hb2 : bitD y k % 2 * 2 ^ k ≤ 1 * 2 ^ 7 := Nat.mul_le_mul (by omega) hp
      have BD : Hid (bitD y k = y / 2 ^ k ^^^ y / 2 ^ ((k + 4) % 8) ^^^ y / 2 ^ ((k + 5) % 8) ^^^ y / 2 ^ ((k + 6) % 8) ^^^ y / 2 ^ ((k + 7) % 8) ^^^ 99 / 2 ^ k) := Lib.hid rfl
      have dv : ∀ e, y / 2 ^ e < 65536 := fun e => Nat.lt_of_le_of_lt (Nat.div_le_self _ _) (by omega)
      have V9 : Hid (99 / 2 ^ k < 65536) := Lib.hid (Nat.lt_of_le_of_lt (Nat.div_le_self _ _) (by omega))
      have C9 : Hid (((99 : Int) / 2 ^ k) = ((99 / 2 ^ k : Nat) : Int)) := Lib.hid (by simp)
      have V0 := Lib.hid (dv k)
      have C0 : Hid (((y : Int) / 2 ^ k) = ((y / 2 ^ k : Nat) : Int)) := Lib.hid (by simp)
      have M4 : Hid (((k : Int) + 4).tmod 8 = ((k + 4) % 8 : Nat)) := Lib.hid rfl
      have C4 : Hid (((y : Int) / 2 ^ ((k + 4) % 8)) = ((y / 2 ^ ((k + 4) % 8) : Nat) : Int)) := Lib.hid (by simp)
      have V4 := Lib.hid (dv ((k + 4) % 8))
      have L4 : (k + 4) % 8 < 8 := Nat.mod_lt _ (by decide)
      generalize y / 2 ^ ((k + 4) % 8) = q4 at *
      generalize (k + 4) % 8 = e4 at *
      have M5 : Hid (((k : Int) + 5).tmod 8 = ((k + 5) % 8 : Nat)) := Lib.hid rfl
      have C5 : Hid (((y : Int) / 2 ^ ((k + 5) % 8)) = ((y / 2 ^ ((k + 5) % 8) : Nat) : Int)) := Lib.hid (by simp)
      have V5 := Lib.hid (dv ((k + 5) % 8))
      have L5 : (k + 5) % 8 < 8 := Nat.mod_lt _ (by decide)
      generalize y / 2 ^ ((k + 5) % 8) = q5 at *
      generalize (k + 5) % 8 = e5 at *
      have M6 : Hid (((k : Int) + 6).tmod 8 = ((k + 6) % 8 : Nat)) := Lib.hid rfl
      have C6 : Hid (((y : Int) / 2 ^ ((k + 6) % 8)) = ((y / 2 ^ ((k + 6) % 8) : Nat) : Int)) := Lib.hid (by simp)
      have V6 := Lib.hid (dv ((k + 6) % 8))
      have L6 : (k + 6) % 8 < 8 := Nat.mod_lt _ (by decide)
      generalize y / 2 ^ ((k + 6) % 8) = q6 at *
      generalize (k + 6) % 8 = e6 at *
      have M7 : Hid (((k : Int) + 7).tmod 8 = ((k + 7) % 8 : Nat)) := Lib.hid rfl
      have C7 : Hid (((y : Int) / 2 ^ ((k + 7) % 8)) = ((y / 2 ^ ((k + 7) % 8) : Nat) : Int)) := Lib.hid (by simp)
      have V7 := Lib.hid (dv ((k + 7) % 8))
      have L7 : (k + 7) % 8 < 8 := Nat.mod_lt _ (by decide)
      generalize y / 2 ^ ((k + 7) % 8) = q7 at *
      generalize (k + 7) % 8 = e7 at *
      generalize y / 2 ^ k = q0 at *
      generalize 99 / 2 ^ k = q9 at *
      have HB2 := Lib.hid hb2
      have HS2 := Lib.hid hs
      clear dv hb2 hp hs
      go_upto_region 5 with fail
      refine wp_region_lit ?_
      refine Step.p_move rfl _ rfl (.int .i64 y) rfl ?_
      simp only [Act.put, List.setIfInBounds_toArray, List.set_cons_zero, List.set_cons_succ]
      refine Step.p_move rfl _ rfl (.int .i64 k) rfl ?_
      simp only [Act.put, List.setIfInBounds_toArray, List.set_cons_zero, List.set_cons_succ]
      refine Step.p_val rfl (.int .u64 (k : Nat)) (by unfold execOp; go_simp; try (rw [IntKind.wrap_u64]; omega)) ?_
      simp only [Act.put, List.setIfInBounds_toArray, List.set_cons_zero, List.set_cons_succ]
      refine Step.p_val rfl (.int .i64 (q0 : Nat)) (by unfold execOp; go_simp; first | exact C0.out | trace_state) ?_
      simp only [Act.put, List.setIfInBounds_toArray, List.set_cons_zero, List.set_cons_succ]
      refine Step.p_move rfl _ rfl (.int .i64 y) rfl ?_
      simp only [Act.put, List.setIfInBounds_toArray, List.set_cons_zero, List.set_cons_succ]
      refine Step.p_move rfl _ rfl (.int .i64 k) rfl ?_
      simp only [Act.put, List.setIfInBounds_toArray, List.set_cons_zero, List.set_cons_succ]
      refine Step.p_val rfl (.int .i64 (k + 4 : Nat)) (by unfold execOp; go_simp; try (first | rfl | exact (IntWalk.i64_in _ (by omega)).trans (by omega))) ?_
      simp only [Act.put, List.setIfInBounds_toArray, List.set_cons_zero, List.set_cons_succ]
      refine Step.p_val rfl (.int .i64 (e4 : Nat)) (by unfold execOp; go_simp; first | exact M4.out | (have := M4.out; omega)) ?_
      simp only [Act.put, List.setIfInBounds_toArray, List.set_cons_zero, List.set_cons_succ]
      refine Step.p_val rfl (.int .u64 (e4 : Nat)) (by unfold execOp; go_simp; try (rw [IntKind.wrap_u64]; omega)) ?_
      simp only [Act.put, List.setIfInBounds_toArray, List.set_cons_zero, List.set_cons_succ]
      refine Step.p_val rfl (.int .i64 (q4 : Nat)) (by unfold execOp; go_simp; exact C4.out) ?_
      simp only [Act.put, List.setIfInBounds_toArray, List.set_cons_zero, List.set_cons_succ]
      refine Step.p_val rfl (.int .i64 (q0 ^^^ q4 : Nat)) (by unfold execOp; go_simp; exact xor_i64 _ _ (V0.out) V4.out) ?_
      simp only [Act.put, List.setIfInBounds_toArray, List.set_cons_zero, List.set_cons_succ]
      refine Step.p_move rfl _ rfl (.int .i64 y) rfl ?_
      simp only [Act.put, List.setIfInBounds_toArray, List.set_cons_zero, List.set_cons_succ]
      refine Step.p_move rfl _ rfl (.int .i64 k) rfl ?_
      simp only [Act.put, List.setIfInBounds_toArray, List.set_cons_zero, List.set_cons_succ]
      refine Step.p_val rfl (.int .i64 (k + 5 : Nat)) (by unfold execOp; go_simp; try (first | rfl | exact (IntWalk.i64_in _ (by omega)).trans (by omega))) ?_
      simp only [Act.put, List.setIfInBounds_toArray, List.set_cons_zero, List.set_cons_succ]
      refine Step.p_val rfl (.int .i64 (e5 : Nat)) (by unfold execOp; go_simp; first | exact M5.out | (have := M5.out; omega)) ?_
      simp only [Act.put, List.setIfInBounds_toArray, List.set_cons_zero, List.set_cons_succ]
      refine Step.p_val rfl (.int .u64 (e5 : Nat)) (by unfold execOp; go_simp; try (rw [IntKind.wrap_u64]; omega)) ?_
      simp only [Act.put, List.setIfInBounds_toArray, List.set_cons_zero, List.set_cons_succ]
      refine Step.p_val rfl (.int .i64 (q5 : Nat)) (by unfold execOp; go_simp; exact C5.out) ?_
      simp only [Act.put, List.setIfInBounds_toArray, List.set_cons_zero, List.set_cons_succ]
      refine Step.p_val rfl (.int .i64 (q0 ^^^ q4 ^^^ q5 : Nat)) (by unfold execOp; go_simp; exact xor_i64 _ _ (x16 (V0.out) V4.out) V5.out) ?_
      simp only [Act.put, List.setIfInBounds_toArray, List.set_cons_zero, List.set_cons_succ]
      refine Step.p_move rfl _ rfl (.int .i64 y) rfl ?_
      simp only [Act.put, List.setIfInBounds_toArray, List.set_cons_zero, List.set_cons_succ]
      refine Step.p_move rfl _ rfl (.int .i64 k) rfl ?_
      simp only [Act.put, List.setIfInBounds_toArray, List.set_cons_zero, List.set_cons_succ]
      refine Step.p_val rfl (.int .i64 (k + 6 : Nat)) (by unfold execOp; go_simp; try (first | rfl | exact (IntWalk.i64_in _ (by omega)).trans (by omega))) ?_
      simp only [Act.put, List.setIfInBounds_toArray, List.set_cons_zero, List.set_cons_succ]
      refine Step.p_val rfl (.int .i64 (e6 : Nat)) (by unfold execOp; go_simp; first | exact M6.out | (have := M6.out; omega)) ?_
      simp only [Act.put, List.setIfInBounds_toArray, List.set_cons_zero, List.set_cons_succ]
      refine Step.p_val rfl (.int .u64 (e6 : Nat)) (by unfold execOp; go_simp; try (rw [IntKind.wrap_u64]; omega)) ?_
      simp only [Act.put, List.setIfInBounds_toArray, List.set_cons_zero, List.set_cons_succ]
      refine Step.p_val rfl (.int .i64 (q6 : Nat)) (by unfold execOp; go_simp; exact C6.out) ?_
      simp only [Act.put, List.setIfInBounds_toArray, List.set_cons_zero, List.set_cons_succ]
      refine Step.p_val rfl (.int .i64 (q0 ^^^ q4 ^^^ q5 ^^^ q6 : Nat)) (by unfold execOp; go_simp; exact xor_i64 _ _ (x16 (x16 (V0.out) V4.out) V5.out) V6.out) ?_
      simp only [Act.put, List.setIfInBounds_toArray, List.set_cons_zero, List.set_cons_succ]
      refine Step.p_move rfl _ rfl (.int .i64 y) rfl ?_
      simp only [Act.put, List.setIfInBounds_toArray, List.set_cons_zero, List.set_cons_succ]
      refine Step.p_move rfl _ rfl (.int .i64 k) rfl ?_
      simp only [Act.put, List.setIfInBounds_toArray, List.set_cons_zero, List.set_cons_succ]
      refine Step.p_val rfl (.int .i64 (k + 7 : Nat)) (by unfold execOp; go_simp; try (first | rfl | exact (IntWalk.i64_in _ (by omega)).trans (by omega))) ?_
      simp only [Act.put, List.setIfInBounds_toArray, List.set_cons_zero, List.set_cons_succ]
      refine Step.p_val rfl (.int .i64 (e7 : Nat)) (by unfold execOp; go_simp; first | exact M7.out | (have := M7.out; omega)) ?_
      simp only [Act.put, List.setIfInBounds_toArray, List.set_cons_zero, List.set_cons_succ]
      refine Step.p_val rfl (.int .u64 (e7 : Nat)) (by unfold execOp; go_simp; try (rw [IntKind.wrap_u64]; omega)) ?_
      simp only [Act.put, List.setIfInBounds_toArray, List.set_cons_zero, List.set_cons_succ]
      refine Step.p_val rfl (.int .i64 (q7 : Nat)) (by unfold execOp; go_simp; exact C7.out) ?_
      simp only [Act.put, List.setIfInBounds_toArray, List.set_cons_zero, List.set_cons_succ]
      refine Step.p_val rfl (.int .i64 (q0 ^^^ q4 ^^^ q5 ^^^ q6 ^^^ q7 : Nat)) (by unfold execOp; go_simp; exact xor_i64 _ _ (x16 (x16 (x16 (V0.out) V4.out) V5.out) V6.out) V7.out) ?_
      simp only [Act.put, List.setIfInBounds_toArray, List.set_cons_zero, List.set_cons_succ]
      refine Step.p_move rfl _ rfl (.int .i64 k) rfl ?_
      simp only [Act.put, List.setIfInBounds_toArray, List.set_cons_zero, List.set_cons_succ]
      refine Step.p_val rfl (.int .u64 (k : Nat)) (by unfold execOp; go_simp; try (rw [IntKind.wrap_u64]; omega)) ?_
      simp only [Act.put, List.setIfInBounds_toArray, List.set_cons_zero, List.set_cons_succ]
      refine Step.p_val rfl (.int .i64 (q9 : Nat)) (by unfold execOp; go_simp; exact C9.out) ?_
      simp only [Act.put, List.setIfInBounds_toArray, List.set_cons_zero, List.set_cons_succ]
      refine Step.p_val rfl (.int .i64 (bitD y k : Nat)) (by unfold execOp; go_simp; rw [BD.out]; exact xor_i64 _ _ (x16 (x16 (x16 (x16 (V0.out) V4.out) V5.out) V6.out) V7.out) V9.out) ?_
      simp only [Act.put, List.setIfInBounds_toArray, List.set_cons_zero, List.set_cons_succ]
      refine Step.p_assign rfl _ rfl (.int .i64 (bitD y k : Nat)) rfl ?_
      simp only [Act.put, List.setIfInBounds_toArray, List.set_cons_zero, List.set_cons_succ]
      refine wpList_nil ?_
      clear C0 C9 M4 M5 M6 M7 C4 C5 C6 C7 L4 L5 L6 L7 V0 V4 V5 V6 V7 V9 BD
      generalize hbd : bitD y k = bd at *
      have hbl : bd % 2 * 2 ^ k ≤ 1 * 2 ^ 7 := HB2.out
      have CC : Hid (((bd % 2 : Nat) : Int) * 2 ^ k = ((bd % 2 * 2 ^ k : Nat) : Int)) := Lib.hid (by simp)
      generalize hz : bd % 2 * 2 ^ k = z at *
      have HZ := Lib.hid hz
      clear hz hbd HB2
      have hs : sD y k < 256 := Nat.lt_of_lt_of_le HS2.out (Nat.le_trans (Nat.pow_le_pow_right (by decide) (show k ≤ 8 by omega)) (by decide))
      go_upto_region 6 with fail
      refine wp_region_lit ?_
      refine Step.p_move rfl _ rfl (.int .i64 (sD y k : Nat)) rfl ?_
      simp only [Act.put, List.setIfInBounds_toArray, List.set_cons_zero, List.set_cons_succ]
      refine Step.p_move rfl _ rfl (.int .i64 bd) rfl ?_
      simp only [Act.put, List.setIfInBounds_toArray, List.set_cons_zero, List.set_cons_succ]
      refine Step.p_val rfl (.int .i64 (bd % 2 : Nat)) (by unfold execOp; go_simp; try (first | rfl | omega)) ?_
      simp only [Act.put, List.setIfInBounds_toArray, List.set_cons_zero, List.set_cons_succ]
      refine Step.p_move rfl _ rfl (.int .i64 k) rfl ?_
      simp only [Act.put, List.setIfInBounds_toArray, List.set_cons_zero, List.set_cons_succ]
      refine Step.p_val rfl (.int .u64 (k : Nat)) (by unfold execOp; go_simp; try (rw [IntKind.wrap_u64]; omega)) ?_
      simp only [Act.put, List.setIfInBounds_toArray, List.set_cons_zero, List.set_cons_succ]
      refine Step.p_val rfl (.int .i64 (z : Nat)) (by unfold execOp; go_simp; have := CC.out; first | (rw [show ((bd : Int) % 2) = ((bd % 2 : Nat) : Int) by simp, this]; exact IntWalk.i64_in (z : Int) (by omega))) ?_
      simp only [Act.put, List.setIfInBounds_toArray, List.set_cons_zero, List.set_cons_succ]
      refine Step.p_val rfl (.int .i64 (sD y k + z : Nat)) (by unfold execOp; go_simp; try (first | rfl | exact (IntWalk.i64_in _ (by omega)).trans (by omega))) ?_
      simp only [Act.put, List.setIfInBounds_toArray, List.set_cons_zero, List.set_cons_succ]
      refine Step.p_assign rfl _ rfl (.int .i64 (sD y k + z : Nat)) rfl ?_
      simp only [Act.put, List.setIfInBounds_toArray, List.set_cons_zero, List.set_cons_succ]
      refine wpList_nil ?_
      go_wp2
      exact ⟨⟨k + 1, by omega, by go_num, by rw [SS.out, ← HZ.out]⟩, by simp [Lib.intOf]; omega⟩
    · obtain rfl : k = 8 := by omega
      have hs := sD_lt y 8
      have HV : Hid ((sD y 8 : Int) % 256 = (sD y 8 : Nat)) := Lib.hid (by omega)
      go_wp2
      go_ret
      exact ⟨by first | rfl | rw [HV.out], rfl⟩
end Go.Proofs.YtmifebcaifbmoaaGreatDoor.Ref2
end
