/- Parts of the proof of TweakBlocks. Poly: Plain arithmetic of blocks: numbers below 2^128 as bytes, and products of polynomials over two elements as numbers. No Go here. -/
import Derived.Test.YtmifebcaifbmoaaGreatDoorL00
import Derived.Laws.BitsLemmas
import Derived.Laws.Bits64
import Derived.IntWalk
/- Poly -/
section
namespace Go.Proofs.YtmifebcaifbmoaaGreatDoor.Poly
open Go

/-- byte i of a number -/
def byt (n i : Nat) : Nat := n / 256 ^ i % 256
/-- the number of some bytes, the lowest first -/
def lowN (f : Nat → Nat) : Nat → Nat
  | 0 => 0
  | k + 1 => lowN f k + f k * 256 ^ k

theorem byt_lt (n i : Nat) : byt n i < 256 := Nat.mod_lt _ (by decide)
theorem lowN_lt (f : Nat → Nat) (hf : ∀ i, f i < 256) : ∀ k, lowN f k < 256 ^ k
  | 0 => by simp [lowN]
  | k + 1 => by
    have h1 := lowN_lt f hf k
    have h2 := hf k
    rw [lowN, Nat.pow_succ]
    have : f k * 256 ^ k ≤ 255 * 256 ^ k := Nat.mul_le_mul_right _ (by omega)
    omega
theorem lowN_byt (n : Nat) : ∀ k, lowN (byt n) k = n % 256 ^ k
  | 0 => by simp [lowN, Nat.mod_one]
  | k + 1 => by rw [lowN, lowN_byt n k, byt, Nat.pow_succ, Nat.mod_mul, Nat.mul_comm (256 ^ k)]
theorem lowN_congr {f g : Nat → Nat} : ∀ {k : Nat}, (∀ i, i < k → f i = g i) → lowN f k = lowN g k
  | 0, _ => rfl
  | k + 1, h => by rw [lowN, lowN, lowN_congr (fun i hi => h i (by omega)), h k (by omega)]
theorem byt_low {a b k : Nat} (_ha : a < 256 ^ k) (i : Nat) (hi : i < k) : byt (a + b * 256 ^ k) i = byt a i := by
  unfold byt
  have e : 256 ^ k = 256 ^ i * (256 * 256 ^ (k - i - 1)) := by
    rw [← Nat.pow_succ', ← Nat.pow_add]; congr 1; omega
  rw [e, show b * (256 ^ i * (256 * 256 ^ (k - i - 1))) = 256 ^ i * (256 * (b * 256 ^ (k - i - 1))) by ac_rfl, Nat.add_mul_div_left _ _ (Nat.pow_pos (by decide)), Nat.add_mul_mod_self_left]
theorem byt_high {a b k : Nat} (ha : a < 256 ^ k) : byt (a + b * 256 ^ k) k = b % 256 := by
  unfold byt
  rw [Nat.mul_comm b, Nat.add_mul_div_left _ _ (Nat.pow_pos (by decide)), Nat.div_eq_of_lt ha, Nat.zero_add]
theorem byt_lowN {f : Nat → Nat} (hf : ∀ i, f i < 256) : ∀ {k i : Nat}, i < k → byt (lowN f k) i = f i
  | k + 1, i, hi => by
    rw [lowN]
    by_cases h : i < k
    · rw [byt_low (lowN_lt f hf k) i h, byt_lowN hf h]
    · obtain rfl : i = k := by omega
      rw [byt_high (lowN_lt f hf i), Nat.mod_eq_of_lt (hf i)]
theorem pow256 (i : Nat) : 256 ^ i = 2 ^ (8 * i) := by rw [Nat.pow_mul]
theorem byt_xor (a b i : Nat) : byt (a ^^^ b) i = byt a i ^^^ byt b i := by
  unfold byt
  rw [pow256, Nat.xor_div_two_pow, show 256 = 2 ^ 8 from rfl, Nat.xor_mod_two_pow]
theorem num_ext {a b : Nat} (ha : a < 2 ^ 128) (hb : b < 2 ^ 128) (h : ∀ i, i < 16 → byt a i = byt b i) : a = b := by
  have e1 := lowN_byt a 16
  have e2 := lowN_byt b 16
  rw [lowN_congr h, e2] at e1
  rw [pow256, Nat.mod_eq_of_lt ha, Nat.mod_eq_of_lt hb] at e1
  exact e1.symm

/-- the bytes the other way round -/
def revN (n : Nat) : Nat := lowN (fun i => byt n (15 - i)) 16
theorem revN_lt (n : Nat) : revN n < 2 ^ 128 := lowN_lt _ (fun _ => byt_lt _ _) 16
theorem byt_rev (n i : Nat) (h : i < 16) : byt (revN n) i = byt n (15 - i) := byt_lowN (fun _ => byt_lt _ _) h
theorem bits_xor (k : IntKind) (j : Nat) (hj : j ≤ k.bits) (hk : ∀ n : Int, 0 ≤ n → n < 2 ^ j → k.wrap n = n) (a b : Nat) (ha : a < 2 ^ j) (hb : b < 2 ^ j) :
    bits .xor k a b = ((a ^^^ b : Nat) : Int) := by
  have hp : 2 ^ j ≤ 2 ^ k.bits := Nat.pow_le_pow_right (by decide) hj
  have ha' : a % 2 ^ k.bits = a := Nat.mod_eq_of_lt (Nat.lt_of_lt_of_le ha hp)
  have hb' : b % 2 ^ k.bits = b := Nat.mod_eq_of_lt (Nat.lt_of_lt_of_le hb hp)
  simp only [bits, BitVec.ofInt_natCast, BitVec.toNat_xor, BitVec.toNat_ofNat, ha', hb']
  exact hk _ (Int.natCast_nonneg _) (by exact_mod_cast Nat.xor_lt_two_pow ha hb)
theorem xor_u8 (a b : Nat) (ha : a < 256) (hb : b < 256) : bits .xor .u8 a b = ((a ^^^ b : Nat) : Int) := bits_xor .u8 8 (by decide) (fun n h1 h2 => wraps_u8 n h1 h2) a b ha hb
theorem xor_u64 (a b : Nat) (ha : a < 2 ^ 64) (hb : b < 2 ^ 64) : bits .xor .u64 a b = ((a ^^^ b : Nat) : Int) := bits_xor .u64 64 (by decide) (fun n h1 h2 => by rw [IntKind.wrap_u64]; omega) a b ha hb
theorem or_u64 (a b : Nat) (ha : a < 2 ^ 64) (hb : b < 2 ^ 64) : bits .or .u64 a b = ((a ||| b : Nat) : Int) := (bits_nat .u64 64 (by decide) (fun n h1 h2 => by rw [IntKind.wrap_u64]; omega) a b ha hb).2
theorem and_u64 (a b : Nat) (ha : a < 2 ^ 64) (hb : b < 2 ^ 64) : bits .and .u64 a b = ((a &&& b : Nat) : Int) := (bits_nat .u64 64 (by decide) (fun n h1 h2 => by rw [IntKind.wrap_u64]; omega) a b ha hb).1
theorem or_u8 (a b : Nat) (ha : a < 256) (hb : b < 256) : bits .or .u8 a b = ((a ||| b : Nat) : Int) := (bits_nat .u8 8 (by decide) (fun n h1 h2 => wraps_u8 n h1 h2) a b ha hb).2
theorem and_u8 (a b : Nat) (ha : a < 256) (hb : b < 256) : bits .and .u8 a b = ((a &&& b : Nat) : Int) := (bits_nat .u8 8 (by decide) (fun n h1 h2 => wraps_u8 n h1 h2) a b ha hb).1

/-- the walk's forms, on numbers -/
theorem or_step (L x k : Nat) (hL : L < 256 ^ k) (hx : x < 256) (hk : k < 8) :
    bits .or .u64 (L : Int) (IntKind.u64.wrap (IntKind.u64.wrap (x : Int) * 2 ^ (8 * k))) = ((L + x * 256 ^ k : Nat) : Int) := by
  have h2 : x * 256 ^ k < 2 ^ 64 := by
    have : x * 256 ^ k < 256 * 256 ^ k := (Nat.mul_lt_mul_right (Nat.pow_pos (by decide))).2 hx
    have h3 : 256 * 256 ^ k = 256 ^ (k + 1) := by rw [Nat.pow_succ, Nat.mul_comm]
    have h4 : 256 ^ (k + 1) ≤ 256 ^ 8 := Nat.pow_le_pow_right (by decide) (by omega)
    have h5 : (256 : Nat) ^ 8 = 2 ^ 64 := by decide
    omega
  have hL2 : L < 2 ^ 64 := by
    have : 256 ^ k ≤ 256 ^ 8 := Nat.pow_le_pow_right (by decide) (by omega)
    have h5 : (256 : Nat) ^ 8 = 2 ^ 64 := by decide
    omega
  have e1 : IntKind.u64.wrap (x : Int) = x := by rw [IntKind.wrap_u64]; omega
  have e2 : ((x : Int) * 2 ^ (8 * k)) = ((x * 256 ^ k : Nat) : Int) := by rw [pow256]; simp
  have e3 : IntKind.u64.wrap ((x * 256 ^ k : Nat) : Int) = ((x * 256 ^ k : Nat) : Int) := by rw [IntKind.wrap_u64]; omega
  rw [e1, e2, e3]
  rw [(bits_nat .u64 64 (by decide) (fun m a b => by rw [IntKind.wrap_u64]; omega) L (x * 256 ^ k) hL2 h2).2]
  congr 1
  rw [Nat.or_comm, Nat.mul_comm x, pow256, ← Nat.two_pow_add_eq_or_of_lt (by rw [← pow256]; exact hL), Nat.add_comm]

theorem byt_pair_lo (h l k : Nat) (hl : l < 2 ^ 64) (hk : k < 8) : byt (h * 2 ^ 64 + l) k = byt l k := by
  rw [Nat.add_comm, show (2 : Nat) ^ 64 = 256 ^ 8 by decide]
  exact byt_low (by rw [show (256 : Nat) ^ 8 = 2 ^ 64 by decide]; exact hl) k hk
theorem byt_pair_hi (h l k : Nat) (hl : l < 2 ^ 64) : byt (h * 2 ^ 64 + l) (8 + k) = byt h k := by
  unfold byt
  rw [Nat.pow_add, ← Nat.div_div_eq_div_mul, show (256 : Nat) ^ 8 = 2 ^ 64 by decide, Nat.add_comm, Nat.add_mul_div_right _ _ (by decide), Nat.div_eq_of_lt hl, Nat.zero_add]
theorem byt_int (l k : Nat) : ((l : Int) / 2 ^ (8 * k) % 256) = (byt l k : Int) := by
  unfold byt
  rw [pow256]
  simp

/-- the product with x, modulo x^128 + x^7 + x^2 + x + 1 -/
def dblN (a : Nat) : Nat := (a * 2 % 2 ^ 128) ^^^ (if 2 ^ 127 ≤ a then 135 else 0)
theorem dblN_lt (a : Nat) : dblN a < 2 ^ 128 := Nat.xor_lt_two_pow (Nat.mod_lt _ (by decide)) (by split <;> decide)
theorem byt_mod128 (a i : Nat) (h : i < 16) : byt (a % 2 ^ 128) i = byt a i := by
  have e : a = a % 2 ^ 128 + (a / 2 ^ 128) * 256 ^ 16 := by rw [pow256, Nat.mul_comm (a / _)]; exact (Nat.mod_add_div a _).symm
  rw [e, byt_low (by rw [pow256]; exact Nat.mod_lt _ (by decide)) i h, ← e]
theorem byt_two (a i : Nat) (h : 1 ≤ i) : byt (a * 2) i = byt a i * 2 % 256 + byt a (i - 1) / 128 := by
  obtain ⟨j, rfl⟩ : ∃ j, i = j + 1 := ⟨i - 1, by omega⟩
  unfold byt
  have hp : 0 < 256 ^ j := Nat.pow_pos (by decide)
  have e1 : a * 2 / 256 ^ (j + 1) = (a * 2 / 256 ^ j) / 256 := by rw [Nat.pow_succ, Nat.div_div_eq_div_mul]
  have e2 : a / 256 ^ (j + 1) = (a / 256 ^ j) / 256 := by rw [Nat.pow_succ, Nat.div_div_eq_div_mul]
  have e3 : a * 2 / 256 ^ j = (a / 256 ^ j) * 2 + (a % 256 ^ j) * 2 / 256 ^ j := by
    have : a * 2 = (a % 256 ^ j) * 2 + 256 ^ j * ((a / 256 ^ j) * 2) := by
      have := Nat.mod_add_div a (256 ^ j)
      rw [← Nat.mul_assoc, ← Nat.add_mul, this]
    rw [this, Nat.add_mul_div_left _ _ hp, Nat.add_comm]
  have e4 : (a % 256 ^ j) * 2 / 256 ^ j ≤ 1 := by
    have := Nat.mod_lt a hp
    have : (a % 256 ^ j) * 2 / 256 ^ j < 2 := by rw [Nat.div_lt_iff_lt_mul hp]; omega
    omega
  rw [e1, e2, e3, Nat.add_sub_cancel]
  generalize a / 256 ^ j = q at *
  generalize a % 256 ^ j * 2 / 256 ^ j = e at *
  omega
theorem byt_small {n i : Nat} (h : n < 256) (hi : 1 ≤ i) : byt n i = 0 := by
  unfold byt
  have : 256 ≤ 256 ^ i := by
    have := Nat.pow_le_pow_right (n := 256) (by decide) hi
    simpa using this
  rw [Nat.div_eq_of_lt (by omega)]
theorem byt_zero (n : Nat) : byt n 0 = n % 256 := by simp [byt]
theorem top_bit (a : Nat) (ha : a < 2 ^ 128) : byt a 15 / 128 = if 2 ^ 127 ≤ a then 1 else 0 := by
  unfold byt
  split <;> omega
theorem byt_dblN_zero (a : Nat) (ha : a < 2 ^ 128) : byt (dblN a) 0 = (byt a 0 * 2 % 256 + 0) ^^^ (byt a 15 / 128 * 135) := by
  rw [dblN, byt_xor, byt_mod128 _ _ (by decide), top_bit a ha, byt_zero, byt_zero, byt_zero]
  congr 1
  · omega
  · split <;> rfl
theorem byt_dblN_succ (a : Nat) (_ha : a < 2 ^ 128) (i : Nat) (h : 1 ≤ i) (hi : i < 16) : byt (dblN a) i = byt a i * 2 % 256 + byt a (i - 1) / 128 := by
  rw [dblN, byt_xor, byt_mod128 _ _ hi, byt_two _ _ h, byt_small (n := if 2 ^ 127 ≤ a then 135 else 0) (by split <;> decide) h, Nat.xor_zero]

/-- Times' loop -/
def timesN (A B : Nat) : Nat → Nat
  | 0 => 0
  | k + 1 => if B.testBit (127 - k) then dblN (timesN A B k) ^^^ A else dblN (timesN A B k)
theorem timesN_lt (A B : Nat) (hA : A < 2 ^ 128) : ∀ k, timesN A B k < 2 ^ 128
  | 0 => by simp [timesN]
  | k + 1 => by
    rw [timesN]
    split
    · exact Nat.xor_lt_two_pow (dblN_lt _) hA
    · exact dblN_lt _
theorem byt_top (a : Nat) : byt a 15 / 128 * 135 < 256 := by
  have h1 := byt_lt a 15
  have : byt a 15 / 128 ≤ 1 := by omega
  have := Nat.mul_le_mul_right 135 this
  omega
theorem testBit_byt (n i j : Nat) (hj : j < 8) : (byt n i).testBit j = n.testBit (8 * i + j) := by
  unfold byt
  rw [pow256, show 256 = 2 ^ 8 from rfl, Nat.testBit_mod_two_pow, Nat.testBit_div_two_pow, decide_eq_true hj, Bool.true_and, Nat.add_comm]
theorem testBit_rev (b k : Nat) (h : k < 128) : (revN b).testBit (127 - k) = (byt b (k / 8)).testBit (7 - k % 8) := by
  have e : 127 - k = 8 * (15 - k / 8) + (7 - k % 8) := by omega
  rw [e, ← testBit_byt _ _ _ (by omega), byt_rev _ _ (by omega)]
  congr 2
  omega
theorem and_one (x j : Nat) (hx : x < 256) : (bits .and .u8 ((x : Int) / 2 ^ j) 1 == 1) = x.testBit j := by
  have e : ((x : Int) / 2 ^ j) = ((x / 2 ^ j : Nat) : Int) := by simp
  have h : x / 2 ^ j < 256 := Nat.lt_of_le_of_lt (Nat.div_le_self _ _) hx
  rw [e, show (1 : Int) = ((1 : Nat) : Int) from rfl, and_u8 _ _ h (by decide), Nat.and_one_is_mod, Nat.testBit_eq_decide_div_mod_eq]
  rw [Bool.eq_iff_iff]
  simp only [beq_iff_eq, decide_eq_true_eq]
  omega
theorem times_bit (b k : Nat) (h : k < 128) : (bits .and .u8 ((byt b (k / 8) : Int) / 2 ^ (7 - k % 8)) 1 == 1) = (revN b).testBit (127 - k) := by
  rw [and_one _ _ (byt_lt _ _), testBit_rev b k h]
theorem dbl_hi (T : Nat) (_hT : T < 2 ^ 128) : bits .or .u64 (IntKind.u64.wrap (((T / 2 ^ 64 : Nat) : Int) * 2)) (((T % 2 ^ 64 : Nat) : Int) / 9223372036854775808) = ((dblN T / 2 ^ 64 : Nat) : Int) := by
  have e1 : IntKind.u64.wrap (((T / 2 ^ 64 : Nat) : Int) * 2) = ((T / 2 ^ 64 * 2 % 2 ^ 64 : Nat) : Int) := by rw [IntKind.wrap_u64]; omega
  have e2 : (((T % 2 ^ 64 : Nat) : Int) / 9223372036854775808) = ((T % 2 ^ 64 / 2 ^ 63 : Nat) : Int) := by omega
  rw [e1, e2, or_u64 _ _ (by omega) (by omega)]
  congr 1
  have e3 : dblN T / 2 ^ 64 = T * 2 % 2 ^ 128 / 2 ^ 64 := by
    unfold dblN
    rw [Nat.xor_div_two_pow, show (if 2 ^ 127 ≤ T then 135 else 0) / 2 ^ 64 = 0 by split <;> decide, Nat.xor_zero]
  rw [e3]
  have e4 : T / 2 ^ 64 * 2 % 2 ^ 64 = 2 ^ 1 * (T / 2 ^ 64 % 2 ^ 63) := by omega
  rw [e4, ← Nat.two_pow_add_eq_or_of_lt (by omega)]
  omega
theorem dbl_lo (T : Nat) (hT : T < 2 ^ 128) : bits .xor .u64 (IntKind.u64.wrap (((T % 2 ^ 64 : Nat) : Int) * 2)) (IntKind.u64.wrap (((T / 2 ^ 64 : Nat) : Int) / 9223372036854775808 * 135)) = ((dblN T % 2 ^ 64 : Nat) : Int) := by
  have e1 : IntKind.u64.wrap (((T % 2 ^ 64 : Nat) : Int) * 2) = ((T * 2 % 2 ^ 64 : Nat) : Int) := by rw [IntKind.wrap_u64]; omega
  have e2 : IntKind.u64.wrap (((T / 2 ^ 64 : Nat) : Int) / 9223372036854775808 * 135) = (((if 2 ^ 127 ≤ T then 135 else 0) : Nat) : Int) := by
    rw [IntKind.wrap_u64]; split <;> omega
  rw [e1, e2, xor_u64 _ _ (by omega) (by split <;> decide)]
  congr 1
  unfold dblN
  rw [Nat.xor_mod_two_pow]
  congr 1
  · omega
  · split <;> rfl
theorem xor_hi (D A : Nat) (hD : D < 2 ^ 128) (hA : A < 2 ^ 128) : bits .xor .u64 ((D / 2 ^ 64 : Nat) : Int) ((A : Int) / 18446744073709551616) = (((D ^^^ A) / 2 ^ 64 : Nat) : Int) := by
  have e : ((A : Int) / 18446744073709551616) = ((A / 2 ^ 64 : Nat) : Int) := by omega
  rw [e, xor_u64 _ _ (by omega) (by omega), Nat.xor_div_two_pow]
theorem xor_lo (D A : Nat) : bits .xor .u64 ((D % 2 ^ 64 : Nat) : Int) ((A : Int) % 18446744073709551616) = (((D ^^^ A) % 2 ^ 64 : Nat) : Int) := by
  have e : ((A : Int) % 18446744073709551616) = ((A % 2 ^ 64 : Nat) : Int) := by omega
  rw [e, xor_u64 _ _ (by omega) (by omega), Nat.xor_mod_two_pow]

end Go.Proofs.YtmifebcaifbmoaaGreatDoor.Poly
end
