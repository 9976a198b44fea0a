/- Parts of the proof of TweakBlocks. RefT: cofferref02.Times: the document's product of two bytes. RefB: cofferref02.bits: the document's S of an inverse. Boxes: cofferref02.Boxes: two tables of bytes. -/
import Derived.Test.YtmifebcaifbmoaaGreatDoorL00
import Derived.Test.YtmifebcaifbmoaaGreatDoorL18
/- RefT -/
section
namespace Go.Proofs.YtmifebcaifbmoaaGreatDoor.Ref2
open Go.RowKit Go.Lib Go.Proofs.YtmifebcaifbmoaaGreatDoor.Blk Go.Proofs.YtmifebcaifbmoaaGreatDoor.Aes

theorem xor_i64 (a b : Nat) (ha : a < 65536) (hb : b < 65536) : bits .xor .i64 a b = ((a ^^^ b : Nat) : Int) := bits_xor' .i64 16 (by decide) (fun n h1 h2 => IntWalk.i64_in n (by omega)) a b ha hb
/-- the first loop: products of bits below k -/
def tA (a b : Nat) : Nat → Nat
  | 0 => 0
  | k + 1 => if b / 2 ^ k % 2 = 1 then tA a b k ^^^ a * 2 ^ k else tA a b k
/-- the second: the powers from 14 on are taken away, j of them -/
def tR (p : Nat) : Nat → Nat
  | 0 => p
  | j + 1 => if tR p j / 2 ^ (14 - j) % 2 = 1 then tR p j ^^^ 283 * 2 ^ (6 - j) else tR p j
def dT (a b : Nat) : Nat := tR (tA a b 8) 7 % 256
theorem dT_lt (a b : Nat) : dT a b < 256 := Nat.mod_lt _ (by decide)
theorem tA_lt (a b : Nat) (ha : a < 256) : ∀ k, k ≤ 8 → tA a b k < 65536
  | 0, _ => by unfold tA; decide
  | k + 1, h => by
    rw [tA]
    split
    · refine Nat.xor_lt_two_pow (n := 16) (tA_lt a b ha k (by omega)) ?_
      have : 2 ^ k ≤ 2 ^ 7 := Nat.pow_le_pow_right (by decide) (by omega)
      calc a * 2 ^ k ≤ 255 * 2 ^ 7 := Nat.mul_le_mul (by omega) this
        _ < 2 ^ 16 := by decide
    · exact tA_lt a b ha k (by omega)
theorem tR_lt (p : Nat) (hp : p < 65536) : ∀ j, j ≤ 7 → tR p j < 65536
  | 0, _ => hp
  | j + 1, h => by
    rw [tR]
    split
    · refine Nat.xor_lt_two_pow (n := 16) (tR_lt p hp j (by omega)) ?_
      have : 2 ^ (6 - j) ≤ 2 ^ 6 := Nat.pow_le_pow_right (by decide) (by omega)
      calc 283 * 2 ^ (6 - j) ≤ 283 * 2 ^ 6 := Nat.mul_le_mul (Nat.le_refl _) this
        _ < 2 ^ 16 := by decide
    · exact tR_lt p hp j (by omega)

set_option maxRecDepth 100000 in
set_option maxHeartbeats 2000000 in
theorem refTimes_any (a b : Nat) (ha : a < 256) (hb : b < 256) (w : World) : Calls Tryz.prog 143 #[.int .u8 a, .int .u8 b] w fun e w' => e = .returned (.int .u8 (dT a b : Nat)) ∧ w = w' := by
  go_enter Tryz.func143, Tryz.ntmps143
  go_wp2
  go_loop [6, 5] (fun i p => ∃ k : Nat, k ≤ 8 ∧ i = .int .i64 k ∧ p = .int .i64 (tA a b k : Nat)) (fun i _ => 8 - (RowKit.intOf i).toNat)
  case atStart => exact ⟨0, by omega, rfl, rfl⟩
  case round =>
    obtain ⟨k, hk, rfl, rfl⟩ := hrel
    have hl := tA_lt a b ha k hk
    by_cases hlt : k < 8
    · have hp : 2 ^ k ≤ 2 ^ 7 := Nat.pow_le_pow_right (by decide) (by omega)
      have hap : a * 2 ^ k ≤ 255 * 2 ^ 7 := Nat.mul_le_mul (by omega) hp
      have hwa : wrap64 ((a : Int) * 2 ^ k) = (a * 2 ^ k : Nat) := by
        rw [show ((a : Int) * 2 ^ k) = ((a * 2 ^ k : Nat) : Int) by simp]
        generalize a * 2 ^ k = z at hap ⊢
        unfold wrap64
        omega
      have hdv : ((b : Int) / 2 ^ k) = ((b / 2 ^ k : Nat) : Int) := by simp
      have HX := Lib.hid (xor_i64 (tA a b k) (a * 2 ^ k) hl (by omega))
      have TS : Hid (tA a b (k + 1) = if b / 2 ^ k % 2 = 1 then tA a b k ^^^ a * 2 ^ k else tA a b k) := Lib.hid rfl
      generalize hq : b / 2 ^ k = q at *
      generalize a * 2 ^ k = aa at *
      by_cases h1 : q % 2 = 1
      · have h1i : (q : Int) % 2 = 1 := by omega
        rw [if_pos h1] at TS
        clear h1 hp hap hq
        go_wp2
        exact ⟨⟨k + 1, by omega, by go_num, by first | rw [TS.out, ← HX.out] | rw [TS.out]⟩, by simp [RowKit.intOf]; omega⟩
      · have h1i : ¬ (q : Int) % 2 = 1 := by omega
        rw [if_neg h1] at TS
        clear h1 hp hap hq
        go_wp2
        exact ⟨⟨k + 1, by omega, by go_num, by first | rw [TS.out, ← HX.out] | rw [TS.out]⟩, by simp [RowKit.intOf]; omega⟩
    · obtain rfl : k = 8 := by omega
      have PL := tA_lt a b ha 8 (Nat.le_refl _)
      have HD : Hid (dT a b = tR (tA a b 8) 7 % 256) := Lib.hid rfl
      generalize tA a b 8 = p0 at *
      clear hl hlt
      go_wp2
      go_loop [7, 5] (fun i p => ∃ j : Nat, j ≤ 7 ∧ i = .int .i64 (14 - (j : Int)) ∧ p = .int .i64 (tR p0 j : Nat)) (fun i _ => (RowKit.intOf i).toNat)
      case atStart => exact ⟨0, by omega, rfl, rfl⟩
      case round =>
        obtain ⟨j, hj, rfl, rfl⟩ := hrel
        have hl := tR_lt p0 PL j hj
        by_cases hlt : j < 7
        · obtain ⟨m, hm⟩ : ∃ m, m = 14 - j := ⟨_, rfl⟩
          have em : (14 : Int) - (j : Int) = (m : Nat) := by omega
          rw [em]
          have hp : 2 ^ (m - 8) ≤ 2 ^ 6 := Nat.pow_le_pow_right (by decide) (by omega)
          have TS : Hid (tR p0 (j + 1) = if tR p0 j / 2 ^ m % 2 = 1 then tR p0 j ^^^ 283 * 2 ^ (m - 8) else tR p0 j) := Lib.hid (by rw [hm, show 14 - j - 8 = 6 - j by omega]; rfl)
          have HM := Lib.hid hm
          have hm8 : 8 ≤ m ∧ m ≤ 14 := by omega
          clear hm em
          have hap : 283 * 2 ^ (m - 8) ≤ 283 * 2 ^ 6 := Nat.mul_le_mul (Nat.le_refl _) hp
          have hwa : wrap64 ((283 : Int) * 2 ^ (m - 8)) = (283 * 2 ^ (m - 8) : Nat) := by
            rw [show ((283 : Int) * 2 ^ (m - 8)) = ((283 * 2 ^ (m - 8) : Nat) : Int) by simp]
            generalize 283 * 2 ^ (m - 8) = z at hap ⊢
            unfold wrap64
            omega
          have hdv : (((tR p0 j : Nat) : Int) / 2 ^ m) = ((tR p0 j / 2 ^ m : Nat) : Int) := by simp
          have HX := Lib.hid (xor_i64 (tR p0 j) (283 * 2 ^ (m - 8)) hl (by omega))
          generalize hq : tR p0 j / 2 ^ m = q at *
          generalize 283 * 2 ^ (m - 8) = aa at *
          by_cases h1 : q % 2 = 1
          · have h1i : (q : Int) % 2 = 1 := by omega
            rw [if_pos h1] at TS
            clear h1 hp hap hq
            go_wp2
            have := HM.out
            exact ⟨⟨j + 1, by omega, by congr 1; omega, by first | rw [TS.out, ← HX.out] | rw [TS.out]⟩, by simp [RowKit.intOf]; omega⟩
          · have h1i : ¬ (q : Int) % 2 = 1 := by omega
            rw [if_neg h1] at TS
            clear h1 hp hap hq
            go_wp2
            have := HM.out
            exact ⟨⟨j + 1, by omega, by congr 1; omega, by first | rw [TS.out, ← HX.out] | rw [TS.out]⟩, by simp [RowKit.intOf]; omega⟩
        · obtain rfl : j = 7 := by omega
          go_wp2
          go_ret
          exact ⟨by rw [HD.out, Int.natCast_emod]; rfl, rfl⟩
end Go.Proofs.YtmifebcaifbmoaaGreatDoor.Ref2
end

/- RefB -/
section
namespace Go.Proofs.YtmifebcaifbmoaaGreatDoor.Ref2
open Go.RowKit Go.Lib Go.Proofs.YtmifebcaifbmoaaGreatDoor.Blk Go.Proofs.YtmifebcaifbmoaaGreatDoor.Aes

def bitD (y k : Nat) : Nat := y / 2 ^ k ^^^ y / 2 ^ ((k + 4) % 8) ^^^ y / 2 ^ ((k + 5) % 8) ^^^ y / 2 ^ ((k + 6) % 8) ^^^ y / 2 ^ ((k + 7) % 8) ^^^ 99 / 2 ^ k
def sD (y : Nat) : Nat → Nat
  | 0 => 0
  | k + 1 => sD y k + bitD y k % 2 * 2 ^ k
theorem sD_lt (y : Nat) : ∀ k, sD y k < 2 ^ k
  | 0 => by unfold sD; decide
  | k + 1 => by
    rw [sD, Nat.pow_succ]
    have := sD_lt y k
    have h : bitD y k % 2 ≤ 1 := by omega
    have := Nat.mul_le_mul_right (2 ^ k) h
    omega
theorem x16 {a b : Nat} (ha : a < 65536) (hb : b < 65536) : a ^^^ b < 65536 := Nat.xor_lt_two_pow (n := 16) ha hb

set_option maxRecDepth 100000 in
set_option maxHeartbeats 2000000 in
theorem refBits_any (y : Nat) (hy : y < 256) (w : World) : Calls Tryz.prog 169 #[.int .i64 y] w fun e w' => e = .returned (.int .u8 (sD y 8 : Nat)) ∧ w = w' := by
  go_enter Tryz.func169, Tryz.ntmps169
  go_wp2
  go_loop [4, 3, 5] (fun i p _ => ∃ k : Nat, k ≤ 8 ∧ i = .int .i64 k ∧ p = .int .i64 (sD y k : Nat)) (fun i _ _ => 8 - (RowKit.intOf i).toNat)
  case atStart => exact ⟨0, by omega, rfl, rfl⟩
  case round =>
    obtain ⟨k, hk, rfl, rfl⟩ := hrel
    by_cases hlt : k < 8
    · have hs := sD_lt y k
      have hp : 2 ^ k ≤ 2 ^ 7 := Nat.pow_le_pow_right (by decide) (by omega)
      have SS : Hid (sD y (k + 1) = sD y k + bitD y k % 2 * 2 ^ k) := Lib.hid rfl
      have hb2 : bitD y k % 2 * 2 ^ k ≤ 1 * 2 ^ 7 := Nat.mul_le_mul (by omega) hp
      have BD : Hid (bitD y k = y / 2 ^ k ^^^ y / 2 ^ ((k + 4) % 8) ^^^ y / 2 ^ ((k + 5) % 8) ^^^ y / 2 ^ ((k + 6) % 8) ^^^ y / 2 ^ ((k + 7) % 8) ^^^ 99 / 2 ^ k) := Lib.hid rfl
      have dv : ∀ e, y / 2 ^ e < 65536 := fun e => Nat.lt_of_le_of_lt (Nat.div_le_self _ _) (by omega)
      have V9 : Hid (99 / 2 ^ k < 65536) := Lib.hid (Nat.lt_of_le_of_lt (Nat.div_le_self _ _) (by omega))
      have C9 : Hid (((99 : Int) / 2 ^ k) = ((99 / 2 ^ k : Nat) : Int)) := Lib.hid (by simp)
      have V0 := Lib.hid (dv k)
      have C0 : Hid (((y : Int) / 2 ^ k) = ((y / 2 ^ k : Nat) : Int)) := Lib.hid (by simp)
      have M4 : Hid (((k : Int) + 4).tmod 8 = ((k + 4) % 8 : Nat)) := Lib.hid rfl
      have C4 : Hid (((y : Int) / 2 ^ ((k + 4) % 8)) = ((y / 2 ^ ((k + 4) % 8) : Nat) : Int)) := Lib.hid (by simp)
      have V4 := Lib.hid (dv ((k + 4) % 8))
      have L4 : (k + 4) % 8 < 8 := Nat.mod_lt _ (by decide)
      generalize y / 2 ^ ((k + 4) % 8) = q4 at *
      generalize (k + 4) % 8 = e4 at *
      have M5 : Hid (((k : Int) + 5).tmod 8 = ((k + 5) % 8 : Nat)) := Lib.hid rfl
      have C5 : Hid (((y : Int) / 2 ^ ((k + 5) % 8)) = ((y / 2 ^ ((k + 5) % 8) : Nat) : Int)) := Lib.hid (by simp)
      have V5 := Lib.hid (dv ((k + 5) % 8))
      have L5 : (k + 5) % 8 < 8 := Nat.mod_lt _ (by decide)
      generalize y / 2 ^ ((k + 5) % 8) = q5 at *
      generalize (k + 5) % 8 = e5 at *
      have M6 : Hid (((k : Int) + 6).tmod 8 = ((k + 6) % 8 : Nat)) := Lib.hid rfl
      have C6 : Hid (((y : Int) / 2 ^ ((k + 6) % 8)) = ((y / 2 ^ ((k + 6) % 8) : Nat) : Int)) := Lib.hid (by simp)
      have V6 := Lib.hid (dv ((k + 6) % 8))
      have L6 : (k + 6) % 8 < 8 := Nat.mod_lt _ (by decide)
      generalize y / 2 ^ ((k + 6) % 8) = q6 at *
      generalize (k + 6) % 8 = e6 at *
      have M7 : Hid (((k : Int) + 7).tmod 8 = ((k + 7) % 8 : Nat)) := Lib.hid rfl
      have C7 : Hid (((y : Int) / 2 ^ ((k + 7) % 8)) = ((y / 2 ^ ((k + 7) % 8) : Nat) : Int)) := Lib.hid (by simp)
      have V7 := Lib.hid (dv ((k + 7) % 8))
      have L7 : (k + 7) % 8 < 8 := Nat.mod_lt _ (by decide)
      generalize y / 2 ^ ((k + 7) % 8) = q7 at *
      generalize (k + 7) % 8 = e7 at *
      generalize y / 2 ^ k = q0 at *
      generalize 99 / 2 ^ k = q9 at *
      have HB2 := Lib.hid hb2
      have HS2 := Lib.hid hs
      clear dv hb2 hp hs
      go_upto_region 5 with fail
      refine wp_region_lit ?_
      refine Step.p_move rfl _ rfl (.int .i64 y) rfl ?_
      simp only [Act.put, sA9, sB9, sC9]
      refine Step.p_move rfl _ rfl (.int .i64 k) rfl ?_
      simp only [Act.put, sA9, sB9, sC9]
      refine Step.p_val rfl (.int .u64 (k : Nat)) (by unfold execOp; go_simp; try (rw [IntKind.wrap_u64]; omega)) ?_
      simp only [Act.put, sA9, sB9, sC9]
      refine Step.p_val rfl (.int .i64 (q0 : Nat)) (by unfold execOp; go_simp; first | exact C0.out | trace_state) ?_
      simp only [Act.put, sA9, sB9, sC9]
      refine Step.p_move rfl _ rfl (.int .i64 y) rfl ?_
      simp only [Act.put, sA9, sB9, sC9]
      refine Step.p_move rfl _ rfl (.int .i64 k) rfl ?_
      simp only [Act.put, sA9, sB9, sC9]
      refine Step.p_val rfl (.int .i64 (k + 4 : Nat)) (by unfold execOp; go_simp; try (first | rfl | exact (IntWalk.i64_in _ (by omega)).trans (by omega))) ?_
      simp only [Act.put, sA9, sB9, sC9]
      refine Step.p_val rfl (.int .i64 (e4 : Nat)) (by unfold execOp; go_simp; first | exact M4.out | (have := M4.out; omega)) ?_
      simp only [Act.put, sA9, sB9, sC9]
      refine Step.p_val rfl (.int .u64 (e4 : Nat)) (by unfold execOp; go_simp; try (rw [IntKind.wrap_u64]; omega)) ?_
      simp only [Act.put, sA9, sB9, sC9]
      refine Step.p_val rfl (.int .i64 (q4 : Nat)) (by unfold execOp; go_simp; exact C4.out) ?_
      simp only [Act.put, sA9, sB9, sC9]
      refine Step.p_val rfl (.int .i64 (q0 ^^^ q4 : Nat)) (by unfold execOp; go_simp; exact xor_i64 _ _ (V0.out) V4.out) ?_
      simp only [Act.put, sA9, sB9, sC9]
      refine Step.p_move rfl _ rfl (.int .i64 y) rfl ?_
      simp only [Act.put, sA9, sB9, sC9]
      refine Step.p_move rfl _ rfl (.int .i64 k) rfl ?_
      simp only [Act.put, sA9, sB9, sC9]
      refine Step.p_val rfl (.int .i64 (k + 5 : Nat)) (by unfold execOp; go_simp; try (first | rfl | exact (IntWalk.i64_in _ (by omega)).trans (by omega))) ?_
      simp only [Act.put, sA9, sB9, sC9]
      refine Step.p_val rfl (.int .i64 (e5 : Nat)) (by unfold execOp; go_simp; first | exact M5.out | (have := M5.out; omega)) ?_
      simp only [Act.put, sA9, sB9, sC9]
      refine Step.p_val rfl (.int .u64 (e5 : Nat)) (by unfold execOp; go_simp; try (rw [IntKind.wrap_u64]; omega)) ?_
      simp only [Act.put, sA9, sB9, sC9]
      refine Step.p_val rfl (.int .i64 (q5 : Nat)) (by unfold execOp; go_simp; exact C5.out) ?_
      simp only [Act.put, sA9, sB9, sC9]
      refine Step.p_val rfl (.int .i64 (q0 ^^^ q4 ^^^ q5 : Nat)) (by unfold execOp; go_simp; exact xor_i64 _ _ (x16 (V0.out) V4.out) V5.out) ?_
      simp only [Act.put, sA9, sB9, sC9]
      refine Step.p_move rfl _ rfl (.int .i64 y) rfl ?_
      simp only [Act.put, sA9, sB9, sC9]
      refine Step.p_move rfl _ rfl (.int .i64 k) rfl ?_
      simp only [Act.put, sA9, sB9, sC9]
      refine Step.p_val rfl (.int .i64 (k + 6 : Nat)) (by unfold execOp; go_simp; try (first | rfl | exact (IntWalk.i64_in _ (by omega)).trans (by omega))) ?_
      simp only [Act.put, sA9, sB9, sC9]
      refine Step.p_val rfl (.int .i64 (e6 : Nat)) (by unfold execOp; go_simp; first | exact M6.out | (have := M6.out; omega)) ?_
      simp only [Act.put, sA9, sB9, sC9]
      refine Step.p_val rfl (.int .u64 (e6 : Nat)) (by unfold execOp; go_simp; try (rw [IntKind.wrap_u64]; omega)) ?_
      simp only [Act.put, sA9, sB9, sC9]
      refine Step.p_val rfl (.int .i64 (q6 : Nat)) (by unfold execOp; go_simp; exact C6.out) ?_
      simp only [Act.put, sA9, sB9, sC9]
      refine Step.p_val rfl (.int .i64 (q0 ^^^ q4 ^^^ q5 ^^^ q6 : Nat)) (by unfold execOp; go_simp; exact xor_i64 _ _ (x16 (x16 (V0.out) V4.out) V5.out) V6.out) ?_
      simp only [Act.put, sA9, sB9, sC9]
      refine Step.p_move rfl _ rfl (.int .i64 y) rfl ?_
      simp only [Act.put, sA9, sB9, sC9]
      refine Step.p_move rfl _ rfl (.int .i64 k) rfl ?_
      simp only [Act.put, sA9, sB9, sC9]
      refine Step.p_val rfl (.int .i64 (k + 7 : Nat)) (by unfold execOp; go_simp; try (first | rfl | exact (IntWalk.i64_in _ (by omega)).trans (by omega))) ?_
      simp only [Act.put, sA9, sB9, sC9]
      refine Step.p_val rfl (.int .i64 (e7 : Nat)) (by unfold execOp; go_simp; first | exact M7.out | (have := M7.out; omega)) ?_
      simp only [Act.put, sA9, sB9, sC9]
      refine Step.p_val rfl (.int .u64 (e7 : Nat)) (by unfold execOp; go_simp; try (rw [IntKind.wrap_u64]; omega)) ?_
      simp only [Act.put, sA9, sB9, sC9]
      refine Step.p_val rfl (.int .i64 (q7 : Nat)) (by unfold execOp; go_simp; exact C7.out) ?_
      simp only [Act.put, sA9, sB9, sC9]
      refine Step.p_val rfl (.int .i64 (q0 ^^^ q4 ^^^ q5 ^^^ q6 ^^^ q7 : Nat)) (by unfold execOp; go_simp; exact xor_i64 _ _ (x16 (x16 (x16 (V0.out) V4.out) V5.out) V6.out) V7.out) ?_
      simp only [Act.put, sA9, sB9, sC9]
      refine Step.p_move rfl _ rfl (.int .i64 k) rfl ?_
      simp only [Act.put, sA9, sB9, sC9]
      refine Step.p_val rfl (.int .u64 (k : Nat)) (by unfold execOp; go_simp; try (rw [IntKind.wrap_u64]; omega)) ?_
      simp only [Act.put, sA9, sB9, sC9]
      refine Step.p_val rfl (.int .i64 (q9 : Nat)) (by unfold execOp; go_simp; exact C9.out) ?_
      simp only [Act.put, sA9, sB9, sC9]
      refine Step.p_val rfl (.int .i64 (bitD y k : Nat)) (by unfold execOp; go_simp; rw [BD.out]; exact xor_i64 _ _ (x16 (x16 (x16 (x16 (V0.out) V4.out) V5.out) V6.out) V7.out) V9.out) ?_
      simp only [Act.put, sA9, sB9, sC9]
      refine Step.p_assign rfl _ rfl (.int .i64 (bitD y k : Nat)) rfl ?_
      simp only [Act.put, sA9, sB9, sC9]
      refine wpList_nil ?_
      clear C0 C9 M4 M5 M6 M7 C4 C5 C6 C7 L4 L5 L6 L7 V0 V4 V5 V6 V7 V9 BD
      generalize hbd : bitD y k = bd at *
      have hbl : bd % 2 * 2 ^ k ≤ 1 * 2 ^ 7 := HB2.out
      have CC : Hid (((bd % 2 : Nat) : Int) * 2 ^ k = ((bd % 2 * 2 ^ k : Nat) : Int)) := Lib.hid (by simp)
      generalize hz : bd % 2 * 2 ^ k = z at *
      have HZ := Lib.hid hz
      clear hz hbd HB2
      have hs : sD y k < 256 := Nat.lt_of_lt_of_le HS2.out (Nat.le_trans (Nat.pow_le_pow_right (by decide) (show k ≤ 8 by omega)) (by decide))
      go_upto_region 6 with fail
      refine wp_region_lit ?_
      refine Step.p_move rfl _ rfl (.int .i64 (sD y k : Nat)) rfl ?_
      simp only [Act.put, sA9, sB9, sC9]
      refine Step.p_move rfl _ rfl (.int .i64 bd) rfl ?_
      simp only [Act.put, sA9, sB9, sC9]
      refine Step.p_val rfl (.int .i64 (bd % 2 : Nat)) (by unfold execOp; go_simp; try (first | rfl | omega)) ?_
      simp only [Act.put, sA9, sB9, sC9]
      refine Step.p_move rfl _ rfl (.int .i64 k) rfl ?_
      simp only [Act.put, sA9, sB9, sC9]
      refine Step.p_val rfl (.int .u64 (k : Nat)) (by unfold execOp; go_simp; try (rw [IntKind.wrap_u64]; omega)) ?_
      simp only [Act.put, sA9, sB9, sC9]
      refine Step.p_val rfl (.int .i64 (z : Nat)) (by unfold execOp; go_simp; have := CC.out; first | (rw [show ((bd : Int) % 2) = ((bd % 2 : Nat) : Int) by simp, this]; exact IntWalk.i64_in (z : Int) (by omega))) ?_
      simp only [Act.put, sA9, sB9, sC9]
      refine Step.p_val rfl (.int .i64 (sD y k + z : Nat)) (by unfold execOp; go_simp; try (first | rfl | exact (IntWalk.i64_in _ (by omega)).trans (by omega))) ?_
      simp only [Act.put, sA9, sB9, sC9]
      refine Step.p_assign rfl _ rfl (.int .i64 (sD y k + z : Nat)) rfl ?_
      simp only [Act.put, sA9, sB9, sC9]
      refine wpList_nil ?_
      go_wp2
      exact ⟨⟨k + 1, by omega, by go_num, by rw [SS.out, ← HZ.out]⟩, by simp [RowKit.intOf]; omega⟩
    · obtain rfl : k = 8 := by omega
      have hs := sD_lt y 8
      have HV : Hid ((sD y 8 : Int) % 256 = (sD y 8 : Nat)) := Lib.hid (by omega)
      go_wp2
      go_ret
      exact ⟨by first | rfl | rw [HV.out], rfl⟩
end Go.Proofs.YtmifebcaifbmoaaGreatDoor.Ref2
end

/- Boxes -/
section
namespace Go.Proofs.YtmifebcaifbmoaaGreatDoor.Ref2
open Go.RowKit Go.Lib Go.Proofs.YtmifebcaifbmoaaGreatDoor.Blk Go.Proofs.YtmifebcaifbmoaaGreatDoor.Aes

theorem ret_two {P : Program} {fn : Func} {p u : Tmp} {ty : TypeId} {a : Act} {w : World} {R : Ending → World → Prop} {b c : Nat} {k : IntKind} {n : Nat} {t : TypeId} {f g : Nat → Int} {d : TypeDesc} (h : fn.results = #[.cell p ty, .cell u ty])
    (hp : a.tmps.getD p undef = .pointer (some ⟨b, 0, none⟩)) (hu' : a.tmps.getD u undef = .pointer (some ⟨c, 0, none⟩)) (hA : Arr w b k n t f) (hB : Arr w c k n t g) (hu : P.underlying ty = some d) (hd : (match d with | .struct _ | .array _ _ => true | _ => false) = true)
    (hi : (P.info? ty).map (·.size) = some n) (hdf : a.defers = []) (hR : R (.returned (.tuple #[.agg (arr k n f), .agg (arr k n g)])) w) : bodyPost P fn R .ret a w := by
  refine bodyPost_ret (v := .tuple #[.agg (arr k n f), .agg (arr k n g)]) ?_ hdf hR
  have e1 := run_loadVar_row w b t ty _ _ d hA hu hd (by rw [arr_size]; exact hi)
  have e2 := run_loadVar_row w c t ty _ _ d hB hu hd (by rw [arr_size]; exact hi)
  have q1 : a.tmps[p]?.getD undef = .pointer (some ⟨b, 0, none⟩) := by simpa using hp
  have q2 : a.tmps[u]?.getD undef = .pointer (some ⟨c, 0, none⟩) := by simpa using hu'
  have p1 : (asAddr (a.tmps[p]?.getD undef)).run P w = .ok ⟨b, 0, none⟩ w := by rw [q1]; rfl
  have p2 : (asAddr (a.tmps[u]?.getD undef)).run P w = .ok ⟨c, 0, none⟩ w := by rw [q2]; rfl
  simp only [results, h]
  simp [Sem.run_bind, Result.andThen, p1, p2, e1, e2]

structure BxW (f g : Nat → Nat) (B : Nat) (w w' : World) : Prop where
  a : Arr w' B .u8 256 175 (fun _ => 0)
  b : Arr w' (B + 1) .u8 256 175 (fun _ => 0)
  s : Arr w' (B + 1 + 1) .u8 256 175 (fun i => (f i : Nat))
  u : Arr w' (B + 1 + 1 + 1) .u8 256 175 (fun i => (g i : Nat))
  bel : Below B w w'
  fb : ∀ i, f i < 256
  gb : ∀ i, g i < 256
def updN (f : Nat → Nat) (i v : Nat) (x : Nat) : Nat := if x = i then v else f x
theorem upd_nat (f : Nat → Nat) (i v : Nat) : upd (fun x => ((f x : Nat) : Int)) i (v : Nat) = fun x => ((updN f i v x : Nat) : Int) := by
  funext x
  unfold upd updN
  split <;> rfl
theorem updN_lt {f : Nat → Nat} (hf : ∀ i, f i < 256) {v : Nat} (hv : v < 256) (i x : Nat) : updN f i v x < 256 := by
  unfold updN
  split
  · exact hv
  · exact hf x
theorem BxW.setS {f g : Nat → Nat} {B : Nat} {w w1 : World} (h : BxW f g B w w1) (i v : Nat) (hv : v < 256) : BxW (updN f i v) g B w (w1.setCell ⟨B + 1 + 1, i, none⟩ (.int .u8 v)) :=
  ⟨h.a.other (by show B ≠ B + 1 + 1; omega) _, h.b.other (by show B + 1 ≠ B + 1 + 1; omega) _, by have := h.s.store i v; rwa [upd_nat] at this, h.u.other (by show B + 1 + 1 + 1 ≠ B + 1 + 1; omega) _, h.bel.setCell (by show B ≤ B + 1 + 1; omega) _, updN_lt h.fb hv i, h.gb⟩
theorem BxW.setU {f g : Nat → Nat} {B : Nat} {w w1 : World} (h : BxW f g B w w1) (i v : Nat) (hv : v < 256) : BxW f (updN g i v) B w (w1.setCell ⟨B + 1 + 1 + 1, i, none⟩ (.int .u8 v)) :=
  ⟨h.a.other (by show B ≠ B + 1 + 1 + 1; omega) _, h.b.other (by show B + 1 ≠ B + 1 + 1 + 1; omega) _, h.s.other (by show B + 1 + 1 ≠ B + 1 + 1 + 1; omega) _, by have := h.u.store i v; rwa [upd_nat] at this, h.bel.setCell (by show B ≤ B + 1 + 1 + 1; omega) _, h.fb, updN_lt h.gb hv i⟩
theorem sD8 (y : Nat) : sD y 8 < 256 := sD_lt y 8

set_option maxRecDepth 100000 in
set_option maxHeartbeats 4000000 in
theorem boxes_any (w : World) : Calls Tryz.prog 142 #[] w fun e w' => ∃ f g : Nat → Nat, e = .returned (.tuple #[.agg (arr .u8 256 fun i => (f i : Nat)), .agg (arr .u8 256 fun i => (g i : Nat))]) ∧ (∀ i, f i < 256) ∧ (∀ i, g i < 256) ∧ Below w.heap.size w w' := by
  have z256 : (Tryz.prog.info? 175).bind (·.zero) = some (.agg (arr .u8 256 fun _ => 0)) := by kernel_rfl
  have i256 : (Tryz.prog.info? 175).map (·.size) = some 256 := by kernel_rfl
  have TM := Lib.hid (fun a b ha hb w => refTimes_any a b ha hb w)
  have BT := Lib.hid (fun y hy w => refBits_any y hy w)
  go_enter Tryz.func142, Tryz.ntmps142
  go_upto_region 0 with fail
  refine wp_region_lit ?_
  refine New.p_newarr rfl 175 rfl .u8 256 z256 ?_
  intro w1 a1 g1 s1
  simp only [Act.put, sA9, sB9]
  refine New.p_newarr rfl 175 rfl .u8 256 z256 ?_
  intro w2 a2 g2 s2
  simp only [Act.put, sA9, sB9, sC9]
  refine wpList_nil ?_
  go_upto_region 1 with fail
  refine wp_region_lit ?_
  refine New.p_newarr rfl 175 rfl .u8 256 z256 ?_
  intro w3 a3 g3 s3
  simp only [Act.put, sA9, sB9, sC9]
  refine wpList_nil ?_
  go_upto_region 2 with fail
  refine wp_region_lit ?_
  refine New.p_newarr rfl 175 rfl .u8 256 z256 ?_
  intro w4 a4 g4 s4
  simp only [Act.put, sA9, sB9, sC9]
  refine wpList_nil ?_
  rw [s3, s2, s1] at a4 ⊢
  rw [s2, s1] at a3
  rw [s1] at a2
  have E4 : Hid (BxW (fun _ => 0) (fun _ => 0) w.heap.size w w4) := Lib.hid ⟨Rj.bel_arr (_B := 0) (Rj.bel_arr (_B := 0) (Rj.bel_arr (_B := 0) a1 (Rj.bel_of_gb (_B := 0) g2)) (Rj.bel_of_gb (_B := 0) g3)) (Rj.bel_of_gb (_B := 0) g4), Rj.bel_arr (_B := 0) (Rj.bel_arr (_B := 0) a2 (Rj.bel_of_gb (_B := 0) g3)) (Rj.bel_of_gb (_B := 0) g4), Rj.bel_arr (_B := 0) a3 (Rj.bel_of_gb (_B := 0) g4), a4, ((((Below.refl w.heap.size w).grown g1 (Nat.le_refl _) (by simp)).grown g2 (by omega) (by simp)).grown g3 (by omega) (by simp)).grown g4 (by omega) (by simp), fun _ => by decide, fun _ => by decide⟩
  clear a1 g1 s1 a2 g2 s2 a3 g3 s3 a4 g4 s4
  go_wp2
  go_loopw [6, 4, 5] (fun i b y wr => ∃ (k b0 y0 : Nat) (f : Nat → Nat), k ≤ 255 ∧ i = .int .i64 k ∧ b = .int .u8 b0 ∧ b0 < 256 ∧ y = .int .u8 y0 ∧ y0 < 256 ∧ BxW f (fun _ => 0) w.heap.size w wr) (fun i _ _ _ => 255 - (RowKit.intOf i).toNat)
  case atStart => exact ⟨0, 1, 1, _, by omega, rfl, rfl, by decide, rfl, by decide, E4.out⟩
  case round =>
    obtain ⟨k, b0, y0, f, hk, rfl, rfl, hb0, rfl, hy0, hr⟩ := hrel
    have H := Lib.hid hr
    clear hr E4
    by_cases hlt : k < 255
    · go_upto_region 8 with fail
      refine wp_region_lit ?_
      refine Step.p_move rfl _ rfl (.int .u8 b0) rfl ?_
      simp only [Act.put, sA9, sB9, sC9]
      refine Step.p_move rfl _ rfl (.int .u8 y0) rfl ?_
      simp only [Act.put, sA9, sB9, sC9]
      refine Step.p_val rfl (.int .i64 y0) (by unfold execOp; go_simp; try exact IntWalk.i64_in _ (by omega)) ?_
      simp only [Act.put, sA9, sB9, sC9]
      refine Step.p_wp rfl (Step.w_callx 169 [.tmp 14] _ rfl Tryz.func169 (by kernel_rfl) rfl [.int .i64 y0] rfl (BT.out y0 hy0 _) ?_)
      rintro e w5 ⟨rfl, rfl⟩
      refine ⟨_, rfl, ?_⟩
      simp only [Act.put, sA9, sB9, sC9]
      refine Still.p_idxA rfl _ 5 _ _ rfl (w.heap.size + 1 + 1) 0 rfl .u8 b0 rfl hb0 Tryz.underlying175 (size := 1) (by kernel_rfl) b0 (by omega) ?_
      simp only [Act.put, sA9, sB9, sC9]
      refine Still.p_storeA rfl 5 _ _ rfl (w.heap.size + 1 + 1) b0 rfl .u8 (sD y0 8 : Nat) rfl H.out.s hb0 (by kernel_rfl) ?_
      simp only [Act.put]
      refine wpList_nil ?_
      have H2 := Lib.hid (H.out.setS b0 (sD y0 8) (sD8 y0))
      clear H
      generalize wr.setCell ⟨w.heap.size + 1 + 1, b0, none⟩ (.int .u8 (sD y0 8 : Nat)) = w6 at *
      go_upto_region 9 with fail
      refine wp_region_lit ?_
      refine Step.p_move rfl _ rfl (.int .u8 b0) rfl ?_
      simp only [Act.put, sA9, sB9, sC9]
      refine Step.p_wp rfl (Step.w_callx 143 [.tmp 17, .const (.int .u8 3)] _ rfl Tryz.func143 (by kernel_rfl) rfl [.int .u8 b0, .int .u8 3] rfl (TM.out b0 3 hb0 (by decide) _) ?_)
      rintro e w7 ⟨rfl, rfl⟩
      refine ⟨_, rfl, ?_⟩
      simp only [Act.put, sA9, sB9, sC9]
      refine Step.p_assign rfl _ rfl (.int .u8 (dT b0 3 : Nat)) rfl ?_
      simp only [Act.put, sA9, sB9, sC9]
      refine wpList_nil ?_
      go_upto_region 10 with fail
      refine wp_region_lit ?_
      refine Step.p_move rfl _ rfl (.int .u8 y0) rfl ?_
      simp only [Act.put, sA9, sB9, sC9]
      refine Step.p_wp rfl (Step.w_callx 143 [.tmp 19, .const (.int .u8 246)] _ rfl Tryz.func143 (by kernel_rfl) rfl [.int .u8 y0, .int .u8 246] rfl (TM.out y0 246 hy0 (by decide) _) ?_)
      rintro e w8 ⟨rfl, rfl⟩
      refine ⟨_, rfl, ?_⟩
      simp only [Act.put, sA9, sB9, sC9]
      refine Step.p_assign rfl _ rfl (.int .u8 (dT y0 246 : Nat)) rfl ?_
      simp only [Act.put, sA9, sB9, sC9]
      refine wpList_nil ?_
      go_wp2
      exact ⟨⟨k + 1, _, _, _, by omega, by go_num, rfl, dT_lt _ _, rfl, dT_lt _ _, H2.out⟩, by simp [RowKit.intOf]; omega⟩
    · go_upto_region 11 with fail
      refine wp_region_lit ?_
      refine Step.p_wp rfl (Step.w_callx 169 [.const (.int .i64 0)] _ rfl Tryz.func169 (by kernel_rfl) rfl [.int .i64 0] rfl (BT.out 0 (by decide) _) ?_)
      rintro e w5 ⟨rfl, rfl⟩
      refine ⟨_, rfl, ?_⟩
      simp only [Act.put, sA9, sB9, sC9]
      refine Still.p_idxA rfl _ 5 _ _ rfl (w.heap.size + 1 + 1) 0 rfl .i64 0 rfl (by decide) Tryz.underlying175 (size := 1) (by kernel_rfl) 0 (by omega) ?_
      simp only [Act.put, sA9, sB9, sC9]
      refine Still.p_storeA rfl 5 _ _ rfl (w.heap.size + 1 + 1) 0 rfl .u8 (sD 0 8 : Nat) rfl H.out.s (by decide) (by kernel_rfl) ?_
      simp only [Act.put]
      refine wpList_nil ?_
      have H2 := Lib.hid (H.out.setS 0 (sD 0 8) (sD8 0))
      clear H
      generalize wr.setCell ⟨w.heap.size + 1 + 1, 0, none⟩ (.int .u8 (sD 0 8 : Nat)) = w6 at *
      generalize updN f 0 (sD 0 8) = f2 at *
      go_wp2
      go_loopw [7] (fun i wr => ∃ (k : Nat) (g : Nat → Nat), k ≤ 256 ∧ i = .int .i64 k ∧ BxW f2 g w.heap.size w wr) (fun i _ => 256 - (RowKit.intOf i).toNat)
      case atStart => exact ⟨0, _, by omega, rfl, H2.out⟩
      case round =>
        obtain ⟨k, g, hk, rfl, hr⟩ := hrel
        have H := Lib.hid hr
        clear hr H2
        by_cases hlt2 : k < 256
        · have hv := H.out.fb k
          have hc := H.out.s.cell (i := k) hlt2
          generalize hfk : f2 k = v at *
          have HC := Lib.hid hc
          clear hc hfk
          go_upto_region 15 with fail
          refine wp_region_lit ?_
          refine Step.p_move rfl _ rfl (.int .i64 k) rfl ?_
          simp only [Act.put, sA9, sB9, sC9]
          refine Still.p_idxA rfl _ 5 _ _ rfl (w.heap.size + 1 + 1) 0 rfl .i64 k rfl hlt2 Tryz.underlying175 (size := 1) (by kernel_rfl) k (by omega) ?_
          simp only [Act.put, sA9, sB9, sC9]
          refine Tree.p_load1 rfl _ _ rfl (w.heap.size + 1 + 1) (k) rfl (.int .u8 (v : Nat)) (HC.out) Tryz.underlying5 rfl ?_
          simp only [Act.put, sA9, sB9, sC9]
          refine Step.p_move rfl _ rfl (.int .i64 k) rfl ?_
          simp only [Act.put, sA9, sB9, sC9]
          refine Step.p_val rfl (.int .u8 (k : Nat)) (by unfold execOp; go_simp; try (rw [IntKind.wrap_u8]; omega)) ?_
          simp only [Act.put, sA9, sB9, sC9]
          refine Still.p_idxA rfl _ 5 _ _ rfl (w.heap.size + 1 + 1 + 1) 0 rfl .u8 v rfl hv Tryz.underlying175 (size := 1) (by kernel_rfl) v (by omega) ?_
          simp only [Act.put, sA9, sB9, sC9]
          refine Still.p_storeA rfl 5 _ _ rfl (w.heap.size + 1 + 1 + 1) v rfl .u8 (k : Nat) rfl H.out.u hv (by kernel_rfl) ?_
          simp only [Act.put]
          refine wpList_nil ?_
          have H2 := Lib.hid (H.out.setU v k hlt2)
          clear H
          go_wp2
          exact ⟨⟨k + 1, _, by omega, by go_num, H2.out⟩, by simp [RowKit.intOf]; omega⟩
        · go_upto_region 16 with fail
          refine Step.begin_ (S := fun w' => Arr w' (w.heap.size + 1 + 1) .u8 256 175 (fun i => (f2 i : Nat)) ∧ Arr w' (w.heap.size + 1 + 1 + 1) .u8 256 175 (fun i => (g i : Nat))) 4 rfl (by kernel_rfl) ⟨H.out.s, H.out.u⟩ ?_
          intro hS
          have H1 : Hid (BxW f2 g w.heap.size w wr.drew) := Lib.hid ⟨H.out.a, H.out.b, H.out.s, H.out.u, H.out.bel.drew, H.out.fb, H.out.gb⟩
          clear H
          refine Step.t_load (i := 0) rfl rfl (by kernel_rfl) (by kernel_rfl) (by kernel_rfl) hS _ _ rfl _ rfl (fun w' h => h.1) Tryz.underlying175 rfl i256 ?_
          simp only [Act.put, sA9, sB9, sC9]
          refine Step.t_load (i := 1) rfl rfl (by kernel_rfl) (by kernel_rfl) (by kernel_rfl) hS _ _ rfl _ rfl (fun w' h => h.2) Tryz.underlying175 rfl i256 ?_
          simp only [Act.put, sA9, sB9, sC9]
          clear hS
          refine Step.t_one (i := 2) rfl rfl (by kernel_rfl) ?_
          refine wp_store_row 175 _ _ rfl w.heap.size _ rfl rfl _ _ H1.out.a (by rw [arr_size]; exact i256) (by rw [arr_size, arr_size]) (arr_one _ _ _) ?_
          have hA := Rj.Arr_of_row (f := fun i => ((f2 i : Nat) : Int)) H1.out.a
          have hG := Rj.gb_setRow wr.drew w.heap.size (arr .u8 256 fun i => ((f2 i : Nat) : Int))
          generalize wr.drew.setRow w.heap.size (arr .u8 256 fun i => ((f2 i : Nat) : Int)) = w5 at *
          have B5 := H1.out.bel.grown hG H1.out.bel.size (fun j hj => by cases hj; exact Nat.le_refl _)
          have s5 := H1.out.s.grown hG (by omega)
          have u5 := H1.out.u.grown hG (by omega)
          have b5 := H1.out.b.grown hG (by omega)
          refine ⟨⟨s5, u5⟩, ?_⟩
          simp only [Act.put]
          refine Step.t_one (i := 3) rfl rfl (by kernel_rfl) ?_
          refine wp_store_row 175 _ _ rfl (w.heap.size + 1) _ rfl rfl _ _ b5 (by rw [arr_size]; exact i256) (by rw [arr_size, arr_size]) (arr_one _ _ _) ?_
          have hA2 := Rj.Arr_of_row (f := fun i => ((g i : Nat) : Int)) b5
          have hG2 := Rj.gb_setRow w5 (w.heap.size + 1) (arr .u8 256 fun i => ((g i : Nat) : Int))
          generalize w5.setRow (w.heap.size + 1) (arr .u8 256 fun i => ((g i : Nat) : Int)) = w6 at *
          have HA1 := Lib.hid (hA.grown hG2 (by omega))
          have HA2 := Lib.hid hA2
          have B6 := Lib.hid (B5.grown hG2 B5.size (fun j hj => by cases hj; omega))
          refine ⟨⟨s5.grown hG2 (by omega), u5.grown hG2 (by omega)⟩, ?_⟩
          simp only [Act.put]
          refine Step.t_end (by kernel_rfl) ?_
          clear hA hG hA2 hG2 B5 s5 u5 b5
          go_wp2
          exact ret_two rfl rfl rfl HA1.out HA2.out Tryz.underlying175 rfl i256 rfl ⟨f2, g, rfl, H1.out.fb, H1.out.gb, B6.out⟩
end Go.Proofs.YtmifebcaifbmoaaGreatDoor.Ref2
end
