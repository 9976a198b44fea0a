/- Parts of the proof of TweakFlips. Poly: Plain arithmetic of blocks: numbers below 2^128 as bytes, and products of polynomials over two elements as numbers. No Go here. FieldT: Contracts of the program's functions on blocks. -/
import Derived.Laws.BitsLemmas
import Derived.Laws.Bits64
import Derived.IntWalk
import Derived.Test.YtmifebcaifbmoaaGreatDoorChecked
import Derived.Test.YtmifebcaifbmoaaGreatDoorK00
import Derived.Deep.Cut
import Derived.Deep.CutRange
import Derived.Deep.QuietTactic
import Derived.BigQuiet
import Derived.LoopTactic
import Derived.Laws.AppendOwnNone
import Derived.Laws.OwnMore
import Derived.Maps.AppendAt
import Derived.ArgAppend
import Derived.WalkSmall
import Derived.WalkSpells
import Derived.Lib.SmallJoins
import Derived.Deep.Slices
import Derived.ChangeSlices
import Derived.ChangeMaps5
/- Poly -/
section
namespace Go.Proofs.YtmifebcaifbmoaaGreatDoor.Poly
open Go

/-- byte i of a number -/
def byt (n i : Nat) : Nat := n / 256 ^ i % 256
/-- the number of some bytes, the lowest first -/
def lowN (f : Nat → Nat) : Nat → Nat
  | 0 => 0
  | k + 1 => lowN f k + f k * 256 ^ k

theorem byt_lt (n i : Nat) : byt n i < 256 := Nat.mod_lt _ (by decide)
theorem lowN_lt (f : Nat → Nat) (hf : ∀ i, f i < 256) : ∀ k, lowN f k < 256 ^ k
  | 0 => by simp [lowN]
  | k + 1 => by
    have h1 := lowN_lt f hf k
    have h2 := hf k
    rw [lowN, Nat.pow_succ]
    have : f k * 256 ^ k ≤ 255 * 256 ^ k := Nat.mul_le_mul_right _ (by omega)
    omega
theorem lowN_byt (n : Nat) : ∀ k, lowN (byt n) k = n % 256 ^ k
  | 0 => by simp [lowN, Nat.mod_one]
  | k + 1 => by rw [lowN, lowN_byt n k, byt, Nat.pow_succ, Nat.mod_mul, Nat.mul_comm (256 ^ k)]
theorem lowN_congr {f g : Nat → Nat} : ∀ {k : Nat}, (∀ i, i < k → f i = g i) → lowN f k = lowN g k
  | 0, _ => rfl
  | k + 1, h => by rw [lowN, lowN, lowN_congr (fun i hi => h i (by omega)), h k (by omega)]
theorem byt_low {a b k : Nat} (_ha : a < 256 ^ k) (i : Nat) (hi : i < k) : byt (a + b * 256 ^ k) i = byt a i := by
  unfold byt
  have e : 256 ^ k = 256 ^ i * (256 * 256 ^ (k - i - 1)) := by
    rw [← Nat.pow_succ', ← Nat.pow_add]; congr 1; omega
  rw [e, show b * (256 ^ i * (256 * 256 ^ (k - i - 1))) = 256 ^ i * (256 * (b * 256 ^ (k - i - 1))) by ac_rfl, Nat.add_mul_div_left _ _ (Nat.pow_pos (by decide)), Nat.add_mul_mod_self_left]
theorem byt_high {a b k : Nat} (ha : a < 256 ^ k) : byt (a + b * 256 ^ k) k = b % 256 := by
  unfold byt
  rw [Nat.mul_comm b, Nat.add_mul_div_left _ _ (Nat.pow_pos (by decide)), Nat.div_eq_of_lt ha, Nat.zero_add]
theorem byt_lowN {f : Nat → Nat} (hf : ∀ i, f i < 256) : ∀ {k i : Nat}, i < k → byt (lowN f k) i = f i
  | k + 1, i, hi => by
    rw [lowN]
    by_cases h : i < k
    · rw [byt_low (lowN_lt f hf k) i h, byt_lowN hf h]
    · obtain rfl : i = k := by omega
      rw [byt_high (lowN_lt f hf i), Nat.mod_eq_of_lt (hf i)]
theorem pow256 (i : Nat) : 256 ^ i = 2 ^ (8 * i) := by rw [Nat.pow_mul]
theorem byt_xor (a b i : Nat) : byt (a ^^^ b) i = byt a i ^^^ byt b i := by
  unfold byt
  rw [pow256, Nat.xor_div_two_pow, show 256 = 2 ^ 8 from rfl, Nat.xor_mod_two_pow]
theorem num_ext {a b : Nat} (ha : a < 2 ^ 128) (hb : b < 2 ^ 128) (h : ∀ i, i < 16 → byt a i = byt b i) : a = b := by
  have e1 := lowN_byt a 16
  have e2 := lowN_byt b 16
  rw [lowN_congr h, e2] at e1
  rw [pow256, Nat.mod_eq_of_lt ha, Nat.mod_eq_of_lt hb] at e1
  exact e1.symm

/-- the bytes the other way round -/
def revN (n : Nat) : Nat := lowN (fun i => byt n (15 - i)) 16
theorem revN_lt (n : Nat) : revN n < 2 ^ 128 := lowN_lt _ (fun _ => byt_lt _ _) 16
theorem byt_rev (n i : Nat) (h : i < 16) : byt (revN n) i = byt n (15 - i) := byt_lowN (fun _ => byt_lt _ _) h
theorem bits_xor (k : IntKind) (j : Nat) (hj : j ≤ k.bits) (hk : ∀ n : Int, 0 ≤ n → n < 2 ^ j → k.wrap n = n) (a b : Nat) (ha : a < 2 ^ j) (hb : b < 2 ^ j) :
    bits .xor k a b = ((a ^^^ b : Nat) : Int) := by
  have hp : 2 ^ j ≤ 2 ^ k.bits := Nat.pow_le_pow_right (by decide) hj
  have ha' : a % 2 ^ k.bits = a := Nat.mod_eq_of_lt (Nat.lt_of_lt_of_le ha hp)
  have hb' : b % 2 ^ k.bits = b := Nat.mod_eq_of_lt (Nat.lt_of_lt_of_le hb hp)
  simp only [bits, BitVec.ofInt_natCast, BitVec.toNat_xor, BitVec.toNat_ofNat, ha', hb']
  exact hk _ (Int.natCast_nonneg _) (by exact_mod_cast Nat.xor_lt_two_pow ha hb)
theorem xor_u8 (a b : Nat) (ha : a < 256) (hb : b < 256) : bits .xor .u8 a b = ((a ^^^ b : Nat) : Int) := bits_xor .u8 8 (by decide) (fun n h1 h2 => wraps_u8 n h1 h2) a b ha hb
theorem xor_u64 (a b : Nat) (ha : a < 2 ^ 64) (hb : b < 2 ^ 64) : bits .xor .u64 a b = ((a ^^^ b : Nat) : Int) := bits_xor .u64 64 (by decide) (fun n h1 h2 => by rw [IntKind.wrap_u64]; omega) a b ha hb
theorem or_u64 (a b : Nat) (ha : a < 2 ^ 64) (hb : b < 2 ^ 64) : bits .or .u64 a b = ((a ||| b : Nat) : Int) := (bits_nat .u64 64 (by decide) (fun n h1 h2 => by rw [IntKind.wrap_u64]; omega) a b ha hb).2
theorem and_u64 (a b : Nat) (ha : a < 2 ^ 64) (hb : b < 2 ^ 64) : bits .and .u64 a b = ((a &&& b : Nat) : Int) := (bits_nat .u64 64 (by decide) (fun n h1 h2 => by rw [IntKind.wrap_u64]; omega) a b ha hb).1
theorem or_u8 (a b : Nat) (ha : a < 256) (hb : b < 256) : bits .or .u8 a b = ((a ||| b : Nat) : Int) := (bits_nat .u8 8 (by decide) (fun n h1 h2 => wraps_u8 n h1 h2) a b ha hb).2
theorem and_u8 (a b : Nat) (ha : a < 256) (hb : b < 256) : bits .and .u8 a b = ((a &&& b : Nat) : Int) := (bits_nat .u8 8 (by decide) (fun n h1 h2 => wraps_u8 n h1 h2) a b ha hb).1

/-- the walk's forms, on numbers -/
theorem or_step (L x k : Nat) (hL : L < 256 ^ k) (hx : x < 256) (hk : k < 8) :
    bits .or .u64 (L : Int) (IntKind.u64.wrap (IntKind.u64.wrap (x : Int) * 2 ^ (8 * k))) = ((L + x * 256 ^ k : Nat) : Int) := by
  have h2 : x * 256 ^ k < 2 ^ 64 := by
    have : x * 256 ^ k < 256 * 256 ^ k := (Nat.mul_lt_mul_right (Nat.pow_pos (by decide))).2 hx
    have h3 : 256 * 256 ^ k = 256 ^ (k + 1) := by rw [Nat.pow_succ, Nat.mul_comm]
    have h4 : 256 ^ (k + 1) ≤ 256 ^ 8 := Nat.pow_le_pow_right (by decide) (by omega)
    have h5 : (256 : Nat) ^ 8 = 2 ^ 64 := by decide
    omega
  have hL2 : L < 2 ^ 64 := by
    have : 256 ^ k ≤ 256 ^ 8 := Nat.pow_le_pow_right (by decide) (by omega)
    have h5 : (256 : Nat) ^ 8 = 2 ^ 64 := by decide
    omega
  have e1 : IntKind.u64.wrap (x : Int) = x := by rw [IntKind.wrap_u64]; omega
  have e2 : ((x : Int) * 2 ^ (8 * k)) = ((x * 256 ^ k : Nat) : Int) := by rw [pow256]; simp
  have e3 : IntKind.u64.wrap ((x * 256 ^ k : Nat) : Int) = ((x * 256 ^ k : Nat) : Int) := by rw [IntKind.wrap_u64]; omega
  rw [e1, e2, e3]
  rw [(bits_nat .u64 64 (by decide) (fun m a b => by rw [IntKind.wrap_u64]; omega) L (x * 256 ^ k) hL2 h2).2]
  congr 1
  rw [Nat.or_comm, Nat.mul_comm x, pow256, ← Nat.two_pow_add_eq_or_of_lt (by rw [← pow256]; exact hL), Nat.add_comm]

theorem byt_pair_lo (h l k : Nat) (hl : l < 2 ^ 64) (hk : k < 8) : byt (h * 2 ^ 64 + l) k = byt l k := by
  rw [Nat.add_comm, show (2 : Nat) ^ 64 = 256 ^ 8 by decide]
  exact byt_low (by rw [show (256 : Nat) ^ 8 = 2 ^ 64 by decide]; exact hl) k hk
theorem byt_pair_hi (h l k : Nat) (hl : l < 2 ^ 64) : byt (h * 2 ^ 64 + l) (8 + k) = byt h k := by
  unfold byt
  rw [Nat.pow_add, ← Nat.div_div_eq_div_mul, show (256 : Nat) ^ 8 = 2 ^ 64 by decide, Nat.add_comm, Nat.add_mul_div_right _ _ (by decide), Nat.div_eq_of_lt hl, Nat.zero_add]
theorem byt_int (l k : Nat) : ((l : Int) / 2 ^ (8 * k) % 256) = (byt l k : Int) := by
  unfold byt
  rw [pow256]
  simp

/-- the product with x, modulo x^128 + x^7 + x^2 + x + 1 -/
def dblN (a : Nat) : Nat := (a * 2 % 2 ^ 128) ^^^ (if 2 ^ 127 ≤ a then 135 else 0)
theorem dblN_lt (a : Nat) : dblN a < 2 ^ 128 := Nat.xor_lt_two_pow (Nat.mod_lt _ (by decide)) (by split <;> decide)
/-- Times' loop -/
def timesN (A B : Nat) : Nat → Nat
  | 0 => 0
  | k + 1 => if B.testBit (127 - k) then dblN (timesN A B k) ^^^ A else dblN (timesN A B k)
theorem timesN_lt (A B : Nat) (hA : A < 2 ^ 128) : ∀ k, timesN A B k < 2 ^ 128
  | 0 => by simp [timesN]
  | k + 1 => by
    rw [timesN]
    split
    · exact Nat.xor_lt_two_pow (dblN_lt _) hA
    · exact dblN_lt _
theorem testBit_byt (n i j : Nat) (hj : j < 8) : (byt n i).testBit j = n.testBit (8 * i + j) := by
  unfold byt
  rw [pow256, show 256 = 2 ^ 8 from rfl, Nat.testBit_mod_two_pow, Nat.testBit_div_two_pow, decide_eq_true hj, Bool.true_and, Nat.add_comm]
theorem testBit_rev (b k : Nat) (h : k < 128) : (revN b).testBit (127 - k) = (byt b (k / 8)).testBit (7 - k % 8) := by
  have e : 127 - k = 8 * (15 - k / 8) + (7 - k % 8) := by omega
  rw [e, ← testBit_byt _ _ _ (by omega), byt_rev _ _ (by omega)]
  congr 2
  omega
theorem and_one (x j : Nat) (hx : x < 256) : (bits .and .u8 ((x : Int) / 2 ^ j) 1 == 1) = x.testBit j := by
  have e : ((x : Int) / 2 ^ j) = ((x / 2 ^ j : Nat) : Int) := by simp
  have h : x / 2 ^ j < 256 := Nat.lt_of_le_of_lt (Nat.div_le_self _ _) hx
  rw [e, show (1 : Int) = ((1 : Nat) : Int) from rfl, and_u8 _ _ h (by decide), Nat.and_one_is_mod, Nat.testBit_eq_decide_div_mod_eq]
  rw [Bool.eq_iff_iff]
  simp only [beq_iff_eq, decide_eq_true_eq]
  omega
theorem times_bit (b k : Nat) (h : k < 128) : (bits .and .u8 ((byt b (k / 8) : Int) / 2 ^ (7 - k % 8)) 1 == 1) = (revN b).testBit (127 - k) := by
  rw [and_one _ _ (byt_lt _ _), testBit_rev b k h]
theorem dbl_hi (T : Nat) (_hT : T < 2 ^ 128) : bits .or .u64 (IntKind.u64.wrap (((T / 2 ^ 64 : Nat) : Int) * 2)) (((T % 2 ^ 64 : Nat) : Int) / 9223372036854775808) = ((dblN T / 2 ^ 64 : Nat) : Int) := by
  have e1 : IntKind.u64.wrap (((T / 2 ^ 64 : Nat) : Int) * 2) = ((T / 2 ^ 64 * 2 % 2 ^ 64 : Nat) : Int) := by rw [IntKind.wrap_u64]; omega
  have e2 : (((T % 2 ^ 64 : Nat) : Int) / 9223372036854775808) = ((T % 2 ^ 64 / 2 ^ 63 : Nat) : Int) := by omega
  rw [e1, e2, or_u64 _ _ (by omega) (by omega)]
  congr 1
  have e3 : dblN T / 2 ^ 64 = T * 2 % 2 ^ 128 / 2 ^ 64 := by
    unfold dblN
    rw [Nat.xor_div_two_pow, show (if 2 ^ 127 ≤ T then 135 else 0) / 2 ^ 64 = 0 by split <;> decide, Nat.xor_zero]
  rw [e3]
  have e4 : T / 2 ^ 64 * 2 % 2 ^ 64 = 2 ^ 1 * (T / 2 ^ 64 % 2 ^ 63) := by omega
  rw [e4, ← Nat.two_pow_add_eq_or_of_lt (by omega)]
  omega
theorem dbl_lo (T : Nat) (hT : T < 2 ^ 128) : bits .xor .u64 (IntKind.u64.wrap (((T % 2 ^ 64 : Nat) : Int) * 2)) (IntKind.u64.wrap (((T / 2 ^ 64 : Nat) : Int) / 9223372036854775808 * 135)) = ((dblN T % 2 ^ 64 : Nat) : Int) := by
  have e1 : IntKind.u64.wrap (((T % 2 ^ 64 : Nat) : Int) * 2) = ((T * 2 % 2 ^ 64 : Nat) : Int) := by rw [IntKind.wrap_u64]; omega
  have e2 : IntKind.u64.wrap (((T / 2 ^ 64 : Nat) : Int) / 9223372036854775808 * 135) = (((if 2 ^ 127 ≤ T then 135 else 0) : Nat) : Int) := by
    rw [IntKind.wrap_u64]; split <;> omega
  rw [e1, e2, xor_u64 _ _ (by omega) (by split <;> decide)]
  congr 1
  unfold dblN
  rw [Nat.xor_mod_two_pow]
  congr 1
  · omega
  · split <;> rfl
theorem xor_hi (D A : Nat) (hD : D < 2 ^ 128) (hA : A < 2 ^ 128) : bits .xor .u64 ((D / 2 ^ 64 : Nat) : Int) ((A : Int) / 18446744073709551616) = (((D ^^^ A) / 2 ^ 64 : Nat) : Int) := by
  have e : ((A : Int) / 18446744073709551616) = ((A / 2 ^ 64 : Nat) : Int) := by omega
  rw [e, xor_u64 _ _ (by omega) (by omega), Nat.xor_div_two_pow]
theorem xor_lo (D A : Nat) : bits .xor .u64 ((D % 2 ^ 64 : Nat) : Int) ((A : Int) % 18446744073709551616) = (((D ^^^ A) % 2 ^ 64 : Nat) : Int) := by
  have e : ((A : Int) % 18446744073709551616) = ((A % 2 ^ 64 : Nat) : Int) := by omega
  rw [e, xor_u64 _ _ (by omega) (by omega), Nat.xor_mod_two_pow]

end Go.Proofs.YtmifebcaifbmoaaGreatDoor.Poly
end

/- FieldT -/
section
namespace Go.Proofs.YtmifebcaifbmoaaGreatDoor.Field
open Go.RowKit Go.Lib
open Go.Proofs.YtmifebcaifbmoaaGreatDoor.Blk Go.Proofs.YtmifebcaifbmoaaGreatDoor.Poly

theorem info16 : (Tryz.prog.info? 27).map (·.size) = some 16 := by kernel_rfl

def xorB (x y : Int) : Int := bits .xor .u8 x y

theorem plus_step (f g : Nat → Int) (k : Nat) : ∀ i, i < 16 → upd (fun i => if i < k then xorB (f i) (g i) else f i) k (bits .xor .u8 (f k) (g k)) i = (if i < k + 1 then xorB (f i) (g i) else f i) := by
  intro i _
  unfold upd xorB
  dsimp only
  by_cases h : i = k
  · subst h; simp
  · by_cases h' : i < k
    · rw [if_neg h, if_pos h', if_pos (by omega)]
    · rw [if_neg h, if_neg h', if_neg (by omega)]
/-- the three blocks of plus -/
structure PlusRel (f g : Nat → Int) (B : Nat) (w wr : World) (k : Nat) : Prop where
  a : Arr wr B .u8 16 27 (fun i => if i < k then xorB (f i) (g i) else f i)
  b : Arr wr (B + 1) .u8 16 27 g
  c : Arr wr (B + 1 + 1) .u8 16 27 (fun _ => 0)
  bel : Below B w wr

set_option maxHeartbeats 400000 in
/-- a block as a number -/
abbrev B16 (n : Nat) : Value := A16 fun i => (byt n i : Int)
theorem xorB_nat (a b : Nat) (ha : a < 256) (hb : b < 256) : xorB (a : Int) (b : Int) = ((a ^^^ b : Nat) : Int) := xor_u8 a b ha hb
set_option maxHeartbeats 400000 in
theorem halves_any (f : Nat → Nat) (hf : ∀ i, f i < 256) (lw : Nat) (ix : Nat → Nat) (hix : ∀ k : Nat, k < 16 → bits .xor .i64 (lw : Int) (k : Int) = (ix k : Int) ∧ ix k < 16) (w : World) :
    Calls Tryz.prog 99 #[A16 fun i => (f i : Int), .int .i64 lw] w fun e w' => e = .returned (.tuple #[.int .u64 (lowN (fun k => f (ix (8 + k))) 8 : Nat), .int .u64 (lowN (fun k => f (ix k)) 8 : Nat)]) ∧ Below w.heap.size w w' := by
  have H0 : Hid (Arr (w.alloc (.cells (arr .u8 16 fun i => (f i : Int)) 27)) w.heap.size .u8 16 27 fun i => (f i : Int)) := Lib.hid (Arr.new w .u8 16 _ _)
  have HB : Hid (Below w.heap.size w (w.alloc (.cells (arr .u8 16 fun i => (f i : Int)) 27))) := Lib.hid ((Below.refl _ _).alloc (Nat.le_refl _) _)
  have HI := Lib.hid hix
  have HF := Lib.hid hf
  clear hix hf
  have S1 : Hid (∀ k, k < 8 → bits .or .u64 (lowN (fun k => f (ix k)) k : Nat) (IntKind.u64.wrap (IntKind.u64.wrap (f (ix k) : Int) * 2 ^ (8 * k))) = (lowN (fun k => f (ix k)) (k + 1) : Nat)) :=
    Lib.hid fun k hk => or_step _ _ k (lowN_lt _ (fun _ => HF.out _) _) (HF.out _) hk
  have S2 : Hid (∀ k, k < 8 → bits .or .u64 (lowN (fun k => f (ix (8 + k))) k : Nat) (IntKind.u64.wrap (IntKind.u64.wrap (f (ix (8 + k)) : Int) * 2 ^ (8 * k))) = (lowN (fun k => f (ix (8 + k))) (k + 1) : Nat)) :=
    Lib.hid fun k hk => or_step _ _ k (lowN_lt _ (fun _ => HF.out _) _) (HF.out _) hk
  have z1 : lowN (fun k => f (ix k)) 0 = 0 := rfl
  have z2 : lowN (fun k => f (ix (8 + k))) 0 = 0 := rfl
  generalize lowN (fun k => f (ix k)) = L at *
  generalize lowN (fun k => f (ix (8 + k))) = M at *
  have Z1 := Lib.hid z1
  have Z2 := Lib.hid z2
  clear z1 z2
  go_enter Tryz.func99, Tryz.ntmps99
  go_wp2
  go_loop [9, 8, 7, 6] (fun i _ l h => ∃ k : Nat, k ≤ 8 ∧ i = .int .i64 k ∧ l = .int .u64 (L k : Nat) ∧ h = .int .u64 (M k : Nat)) (fun i _ _ _ => 8 - (intOf i).toNat)
  case atStart => exact ⟨0, by omega, rfl, by rw [Z1.out]; rfl, by rw [Z2.out]; rfl⟩
  case round =>
    obtain ⟨k, hk, rfl, rfl, rfl⟩ := hrel
    by_cases hlt : k < 8
    · obtain ⟨x1, x2⟩ := HI.out k (by omega)
      obtain ⟨y1, y2⟩ := HI.out (8 + k) (by omega)
      have c1 := H0.out.cell x2
      have c2 := H0.out.cell y2
      rw [show (((8 + k : Nat) : Int)) = 8 + (k : Int) by omega] at y1
      have T1 := Lib.hid (S1.out k hlt)
      have T2 := Lib.hid (S2.out k hlt)
      go_wp2
      go_round
      case rel => exact ⟨k + 1, by omega, by go_num, by rw [← T1.out], by rw [← T2.out]⟩
      case measure => simp [intOf]; omega
    · obtain rfl : k = 8 := by omega
      go_wp2
      go_ret2
      exact ⟨rfl, HB.out⟩

theorem halves_rev (n : Nat) (w : World) :
    Calls Tryz.prog 99 #[B16 n, .int .i64 15] w fun e w' => e = .returned (.tuple #[.int .u64 (revN n / 2 ^ 64 : Nat), .int .u64 (revN n % 2 ^ 64 : Nat)]) ∧ Below w.heap.size w w' := by
  have h := halves_any (byt n) (byt_lt n) 15 (fun k => 15 - k) (fun k hk => ⟨by
    have : k = 0 ∨ k = 1 ∨ k = 2 ∨ k = 3 ∨ k = 4 ∨ k = 5 ∨ k = 6 ∨ k = 7 ∨ k = 8 ∨ k = 9 ∨ k = 10 ∨ k = 11 ∨ k = 12 ∨ k = 13 ∨ k = 14 ∨ k = 15 := by omega
    rcases this with rfl | rfl | rfl | rfl | rfl | rfl | rfl | rfl | rfl | rfl | rfl | rfl | rfl | rfl | rfl | rfl <;> decide, by omega⟩) w
  have e0 : lowN (fun k => byt n (15 - k)) 8 = revN n % 2 ^ 64 := by
    have e1 : lowN (fun k => byt n (15 - k)) 8 = lowN (byt (revN n)) 8 := lowN_congr fun i hi => by rw [byt_rev _ _ (by omega)]
    rw [e1, lowN_byt]
  have e : lowN (fun k => byt n (15 - (8 + k))) 8 = revN n / 2 ^ 64 := by
    have e1 : lowN (fun k => byt n (15 - (8 + k))) 8 = lowN (byt (revN n / 256 ^ 8)) 8 := lowN_congr fun i hi => by
      rw [← byt_rev _ _ (by omega)]; unfold byt; rw [Nat.div_div_eq_div_mul, ← Nat.pow_add]
    rw [e1, lowN_byt, pow256]
    exact Nat.mod_eq_of_lt (by rw [Nat.div_lt_iff_lt_mul (by decide)]; exact revN_lt n)
  rw [e, e0] at h
  exact h

/-! little, big, xor, turned -/
structure TwoRel (f g : Nat → Int) (n : Nat) (B : Nat) (w wr : World) (k : Nat) : Prop where
  a : Arr wr B .u8 16 27 f
  b : Arr wr (B + 1) .u8 16 27 (fun i => if i < k ∨ (8 ≤ i ∧ i < 8 + n) then g i else 0)
  bel : Below B w wr

set_option maxHeartbeats 400000 in
theorem little_any (h l : Nat) (hl : l < 2 ^ 64) (w : World) : Calls Tryz.prog 100 #[.int .u64 h, .int .u64 l] w fun e w' => e = .returned (B16 (h * 2 ^ 64 + l)) ∧ Below w.heap.size w w' := by
  have H0 : Hid (TwoRel (fun _ => 0) (fun i => (byt (h * 2 ^ 64 + l) i : Int)) 0 w.heap.size w ((w.alloc (.cells (arr .u8 16 fun _ => 0) 27)).alloc (.cells (arr .u8 16 fun _ => 0) 27)) 0) :=
    Lib.hid ⟨(Arr.new w .u8 16 _ _).alloc _, by have := (Arr.new (w.alloc (.cells (arr .u8 16 fun _ => 0) 27)) .u8 16 27 fun _ => 0); simp only [World.size_alloc] at this; exact this.congr fun i _ => by rw [if_neg (by omega)],
      ((Below.refl _ _).alloc (Nat.le_refl _) _).alloc (by simp) _⟩
  rw [show arr .u8 16 (fun _ => 0) = #[.int .u8 0, .int .u8 0, .int .u8 0, .int .u8 0, .int .u8 0, .int .u8 0, .int .u8 0, .int .u8 0, .int .u8 0, .int .u8 0, .int .u8 0, .int .u8 0, .int .u8 0, .int .u8 0, .int .u8 0, .int .u8 0] from rfl] at H0
  have HL := Lib.hid hl
  go_enter Tryz.func100, Tryz.ntmps100
  go_wp2
  go_loopw [7, 6] (fun i _ wr => ∃ k : Nat, k ≤ 8 ∧ i = .int .i64 k ∧ TwoRel (fun _ => 0) (fun i => (byt (h * 2 ^ 64 + l) i : Int)) k w.heap.size w wr k) (fun i _ _ => 8 - (intOf i).toNat)
  case atStart => exact ⟨0, by omega, rfl, H0.out⟩
  case round =>
    obtain ⟨k, hk, rfl, hr⟩ := hrel
    have HR := Lib.hid hr
    by_cases hlt : k < 8
    · have ca := hr.b.cell (i := k) (by omega)
      have cb := hr.b.cell (i := 8 + k) (by omega)
      have fa := hr.b.free k
      have fb := hr.b.free (8 + k)
      clear hr
      generalize (if k < k ∨ (8 ≤ k ∧ k < 8 + k) then (byt (h * 2 ^ 64 + l) k : Int) else 0) = x1 at ca
      generalize (if 8 + k < k ∨ (8 ≤ 8 + k ∧ 8 + k < 8 + k) then (byt (h * 2 ^ 64 + l) (8 + k) : Int) else 0) = x2 at cb
      go_wp2
      go_region
      go_wp2
      go_roundw
      case rel =>
        refine ⟨k + 1, by omega, by go_num, (HR.out.a.other (by simp) _).other (by simp) _, ?_, ((HR.out.bel.setCell (p := ⟨w.heap.size + 1, k, none⟩) (by simp) _).setCell (p := ⟨w.heap.size + 1, 8 + k, none⟩) (by simp) _).drew⟩
        refine ((HR.out.b.store k _).store (8 + k) _).congr fun i hi => ?_
        unfold upd
        dsimp only
        by_cases e1 : i = 8 + k
        · subst e1
          rw [if_pos rfl, if_pos (by omega), byt_pair_hi _ _ _ HL.out, byt_int]
        · rw [if_neg e1]
          by_cases e2 : i = k
          · subst e2
            rw [if_pos rfl, if_pos (by omega), byt_pair_lo _ _ _ HL.out hlt, byt_int]
          · rw [if_neg e2]
            by_cases e3 : i < k ∨ 8 ≤ i ∧ i < 8 + k
            · rw [if_pos e3, if_pos (by omega)]
            · rw [if_neg e3, if_neg (by omega)]
      case measure => simp [intOf]; omega
    · obtain rfl : k = 8 := by omega
      clear hr
      go_wp2_with (first | (refine wpList_load_arr rfl 27 _ rfl _ rfl HR.out.b Tryz.underlying27 rfl info16 ?_) | (refine wpList_store_arr rfl 27 _ _ rfl _ rfl rfl HR.out.a info16 ?_; intro w2 hA hG hS))
      refine ret_arr rfl rfl hA Tryz.underlying27 rfl info16 rfl ⟨?_, HR.out.bel.grown hG (Nat.le_trans (by simp) HR.out.bel.size) (by simp)⟩
      exact congrArg (fun x => Ending.returned (.agg x)) (arr_congr fun i hi => by rw [if_pos (by omega)])

theorem zero16 : arr .u8 16 (fun _ => 0) = #[.int .u8 0, .int .u8 0, .int .u8 0, .int .u8 0, .int .u8 0, .int .u8 0, .int .u8 0, .int .u8 0, .int .u8 0, .int .u8 0, .int .u8 0, .int .u8 0, .int .u8 0, .int .u8 0, .int .u8 0, .int .u8 0] := rfl
theorem three_start (f g : Nat → Int) (w : World) : PlusRel f g w.heap.size w (((w.alloc (.cells (arr .u8 16 f) 27)).alloc (.cells (arr .u8 16 g) 27)).alloc (.cells (arr .u8 16 fun _ => 0) 27)) 0 :=
  ⟨((Arr.new w .u8 16 _ f).alloc _ |>.alloc _).congr (by intros; simp), by have := (Arr.new (w.alloc (.cells (arr .u8 16 f) 27)) .u8 16 27 g).alloc (.cells (arr .u8 16 fun _ => 0) 27); simpa using this,
      by have := (Arr.new ((w.alloc (.cells (arr .u8 16 f) 27)).alloc (.cells (arr .u8 16 g) 27)) .u8 16 27 fun _ => 0); simpa using this,
      (((Below.refl _ _).alloc (Nat.le_refl _) _).alloc (by simp) _).alloc (by simp; omega) _⟩

set_option maxHeartbeats 400000 in
theorem xor_any (f g : Nat → Int) (w : World) : Calls Tryz.prog 55 #[A16 f, A16 g] w fun e w' => e = .returned (A16 fun i => xorB (f i) (g i)) ∧ Below w.heap.size w w' := by
  have H0 := Lib.hid (three_start f g w)
  rw [zero16] at H0
  go_enter Tryz.func55, Tryz.ntmps55
  go_wp2
  go_loopw [6, 5] (fun i _ wr => ∃ k : Nat, k ≤ 16 ∧ i = .int .i64 k ∧ PlusRel f g w.heap.size w wr k) (fun i _ _ => 16 - (intOf i).toNat)
  case atStart => exact ⟨0, by omega, rfl, H0.out⟩
  case round =>
    obtain ⟨k, hk, rfl, hr⟩ := hrel
    have HR := Lib.hid hr
    by_cases hlt : k < 16
    · have ca := hr.a.cell hlt
      have cb := hr.b.cell hlt
      have fa := hr.a.free k
      clear hr
      simp only [Nat.lt_irrefl, if_false] at ca
      go_wp2
      go_region
      go_wp2
      go_roundw
      case rel => exact ⟨k + 1, by omega, by go_num, (HR.out.a.store k _).congr (plus_step f g k), HR.out.b.other (by simp) _, HR.out.c.other (by simp; omega) _, (HR.out.bel.setCell (p := ⟨w.heap.size, k, none⟩) (Nat.le_refl _) _).drew⟩
      case measure => simp [intOf]; omega
    · obtain rfl : k = 16 := by omega
      clear hr
      go_wp2_with (first | (refine wpList_load_arr rfl 27 _ rfl _ rfl HR.out.a Tryz.underlying27 rfl info16 ?_) | (refine wpList_store_arr rfl 27 _ _ rfl _ rfl rfl HR.out.c info16 ?_; intro w2 hA hG hS))
      refine ret_arr rfl rfl hA Tryz.underlying27 rfl info16 rfl ⟨?_, HR.out.bel.grown hG (Nat.le_trans (by simp) HR.out.bel.size) (by simp; omega)⟩
      exact congrArg (fun x => Ending.returned (.agg x)) (arr_congr fun i hi => by simp [hi])
theorem xor_num (a b : Nat) (w : World) : Calls Tryz.prog 55 #[B16 a, B16 b] w fun e w' => e = .returned (B16 (a ^^^ b)) ∧ Below w.heap.size w w' :=
  (xor_any _ _ w).mono fun _ _ ⟨he, hb⟩ => ⟨by rw [he]; exact congrArg (fun x => Ending.returned (.agg x)) (arr_congr fun i _ => by rw [xorB_nat _ _ (byt_lt _ _) (byt_lt _ _), byt_xor]), hb⟩

set_option maxHeartbeats 400000 in
/-! slices.Reverse over sixteen bytes -/
def swp (f : Nat → Int) (k : Nat) : Nat → Int := fun i => if i < k ∨ 15 - k < i then f (15 - i) else f i
set_option maxHeartbeats 400000 in
theorem reverse_any (f : Nat → Int) (b : Nat) (t : TypeId) (w : World) (ha : Arr w b .u8 16 t f) : Calls Tryz.prog 158 #[.slice (some ⟨b, 0, none⟩) 16 16] w fun e w' => e = .returned (.tuple #[]) ∧ Arr w' b .u8 16 t (fun i => f (15 - i)) ∧ w.grownBy w' (some b) ∧ w'.heap.size = w.heap.size := by
  have HA := Lib.hid ha
  clear ha
  go_enter Tryz.func158, Tryz.ntmps158
  go_wp2
  go_loopw [2, 3] (fun i j wr => ∃ k : Nat, k ≤ 8 ∧ i = .int .i64 k ∧ j = .int .i64 (15 - k) ∧ Arr wr b .u8 16 t (swp f k) ∧ w.grownBy wr (some b) ∧ wr.heap.size = w.heap.size) (fun i _ _ => 8 - (intOf i).toNat)
  case atStart => exact ⟨0, by omega, rfl, by simp, HA.out.congr fun i hi => by unfold swp; rw [if_neg (by omega)], ⟨rfl, rfl, rfl, Nat.le_refl _, fun _ _ _ => rfl⟩, rfl⟩
  case round =>
    obtain ⟨k, hk, rfl, rfl, hr, hg, hs⟩ := hrel
    have HR := Lib.hid hr
    have HG := Lib.hid hg
    have HS := Lib.hid hs
    clear hg hs
    by_cases hlt : k < 8
    · have ca := hr.cell (i := k) (by omega)
      have cb := hr.cell (i := 15 - k) (by omega)
      have fa := hr.free k
      have fb := hr.free (15 - k)
      have ei : ((15 : Int) - (k : Int)).toNat = 15 - k := by omega
      have s1 : swp f k k = f k := by unfold swp; rw [if_neg (by omega)]
      have s2 : swp f k (15 - k) = f (15 - k) := by unfold swp; rw [if_neg (by omega)]
      rw [s1] at ca
      rw [s2] at cb
      clear hr s1 s2
      go_wp2
      go_region
      go_wp2
      go_roundw
      case rel =>
        refine ⟨k + 1, by omega, by go_num, by go_num, ((HR.out.store k _).store (15 - k) _).congr fun i hi => ?_, gb_drew (gb_setCell (gb_setCell HG.out k _) (15 - k) _), by simp [HS.out]⟩
        unfold upd swp
        by_cases e1 : i = 15 - k
        · subst e1
          rw [if_pos rfl, if_pos (by omega), show 15 - (15 - k) = k by omega]
        · rw [if_neg e1]
          by_cases e2 : i = k
          · subst e2
            rw [if_pos rfl, if_pos (by omega)]
          · rw [if_neg e2]
            by_cases e3 : i < k ∨ 15 - k < i
            · rw [if_pos e3, if_pos (by omega)]
            · rw [if_neg e3, if_neg (by omega)]
      case measure => simp [intOf]; omega
    · obtain rfl : k = 8 := by omega
      clear hr
      go_wp2
      go_end0
      refine ⟨rfl, HR.out.congr fun i hi => ?_, HG.out, HS.out⟩
      unfold swp
      rw [if_pos (by omega)]

set_option maxHeartbeats 400000 in
theorem big_any (h l : Nat) (hl : l < 2 ^ 64) (w : World) : Calls Tryz.prog 113 #[.int .u64 h, .int .u64 l] w fun e w' => e = .returned (B16 (revN (h * 2 ^ 64 + l))) ∧ Below w.heap.size w w' := by
  have HL := Lib.hid hl
  clear hl
  have z0 := Lib.hid (Arr.new w .u8 16 27 fun _ => 0)
  have hb0 : Hid (Below w.heap.size w (w.alloc (.cells (arr .u8 16 fun _ => 0) 27))) := Lib.hid ((Below.refl _ _).alloc (Nat.le_refl _) _)
  rw [zero16] at z0 hb0
  go_enter Tryz.func113, Tryz.ntmps113
  go_wp2_with fail
  refine (little_any h l HL.out _).mono ?_
  rintro e w1 ⟨rfl, hb1⟩
  have hs1 := hb1.size
  simp only [World.size_alloc] at hs1
  have HB1 := Lib.hid (hb0.out.trans (hb1.mono (by simp)))
  have Z0 := Lib.hid (z0.out.below hb1 (by simp))
  have z1 := Lib.hid (Arr.new w1 .u8 16 27 fun _ => 0)
  rw [zero16] at z1
  clear hb1
  go_wp2_with (first | (refine wpList_store_arr rfl 27 _ _ rfl _ rfl rfl z1.out info16 ?_; intro w2 hA hG hS) | fail)
  refine (reverse_any _ _ _ _ hA).mono ?_
  rintro e w3 ⟨rfl, hA3, hg3, hs3⟩
  have hG2 : Hid (Below w.heap.size w w2) := Lib.hid ((HB1.out.alloc (by omega) _).grown hG (by simp; omega) (by intro k hk; cases hk; omega))
  have HB3 : Hid (Below w.heap.size w w3) := Lib.hid (hG2.out.grown hg3 (by rw [hS]; simp; omega) (by intro k hk; cases hk; omega))
  have Z3 := Lib.hid ((((Z0.out.alloc _).grown hG (by omega)).grown hg3 (by omega)))
  have A3 := Lib.hid hA3
  have hss : w.heap.size + 2 ≤ w3.heap.size := by rw [hs3, hS]; simp; omega
  clear hA3 hg3 hs3 hA hG hS
  go_wp2_with (first | (refine wpList_load_arr rfl 27 _ rfl _ rfl A3.out Tryz.underlying27 rfl info16 ?_) | (refine wpList_store_arr rfl 27 _ _ rfl _ rfl rfl Z3.out info16 ?_; intro w4 hA hG hS))
  refine ret_arr rfl rfl hA Tryz.underlying27 rfl info16 rfl ⟨?_, HB3.out.grown hG (by omega) (by intro k hk; cases hk; omega)⟩
  exact congrArg (fun x => Ending.returned (.agg x)) (arr_congr fun i hi => by rw [byt_rev _ _ hi])

/-! Double -/
structure Three (f g : Nat → Int) (B : Nat) (w wr : World) : Prop where
  a : Arr wr B .u8 16 27 f
  b : Arr wr (B + 1) .u8 16 27 g
  c : Arr wr (B + 1 + 1) .u8 16 27 (fun _ => 0)
  bel : Below B w wr
theorem three_of (f g : Nat → Int) (w : World) : Three f g w.heap.size w (((w.alloc (.cells (arr .u8 16 f) 27)).alloc (.cells (arr .u8 16 g) 27)).alloc (.cells (arr .u8 16 fun _ => 0) 27)) :=
  have h := three_start f g w
  ⟨h.a.congr (by intros; simp), h.b, h.c, h.bel⟩
theorem Three.below {f g : Nat → Int} {B : Nat} {w wr w2 : World} (h : Three f g B w wr) (hb : Below wr.heap.size wr w2) (hs : B + 3 ≤ wr.heap.size) : Three f g B w w2 :=
  ⟨h.a.below hb (by omega), h.b.below hb (by omega), h.c.below hb (by omega), h.bel.trans (hb.mono (by omega))⟩

set_option maxRecDepth 100000 in
set_option maxHeartbeats 400000 in
theorem times_any (a b : Nat) (hb : b < 2 ^ 128) (w : World) : Calls Tryz.prog 137 #[B16 a, B16 b] w fun e w' => e = .returned (B16 (revN (timesN (revN a) (revN b) 128))) ∧ Below w.heap.size w w' := by
  have H0 := Lib.hid (three_of (fun i => (byt a i : Int)) (fun i => (byt b i : Int)) w)
  rw [zero16] at H0
  go_enter Tryz.func137, Tryz.ntmps137
  go_wp2_with (first | (refine wpList_load_arr rfl 27 _ rfl _ rfl H0.out.a Tryz.underlying27 rfl info16 ?_) | fail)
  refine (halves_rev a _).mono ?_
  rintro e w1 ⟨rfl, hb1⟩
  have H1 := Lib.hid (H0.out.below hb1 (by simp))
  have hs1 : w.heap.size + 3 ≤ w1.heap.size := by have := hb1.size; simp at this; omega
  clear hb1
  generalize hA : revN a = A at *
  have hAlt : A < 2 ^ 128 := by rw [← hA]; exact revN_lt a
  have HA := Lib.hid hA
  have HL := Lib.hid hAlt
  have HBB := Lib.hid hb
  clear hA H0 hb
  have HBt := Lib.hid (times_bit b)
  have HT := Lib.hid (timesN_lt A (revN b) hAlt)
  have HT0 : Hid (timesN A (revN b) 0 = 0) := Lib.hid rfl
  have HTs : Hid (∀ k, timesN A (revN b) (k + 1) = if (revN b).testBit (127 - k) then dblN (timesN A (revN b) k) ^^^ A else dblN (timesN A (revN b) k)) := Lib.hid fun k => rfl
  clear hAlt
  generalize htm : timesN A (revN b) = tm at *
  have HTM := Lib.hid htm
  clear htm
  go_wp2
  go_loopw [15, 9, 7, 8] (fun i _ h l wr => ∃ k : Nat, k ≤ 128 ∧ i = .int .i64 k ∧ h = .int .u64 (tm k / 2 ^ 64 : Nat) ∧ l = .int .u64 (tm k % 2 ^ 64 : Nat) ∧ wr = w1) (fun i _ _ _ _ => 128 - (intOf i).toNat)
  case atStart => exact ⟨0, by omega, rfl, by rw [HT0.out]; rfl, by rw [HT0.out]; rfl, rfl⟩
  case round =>
    obtain ⟨k, hk, rfl, rfl, rfl, rfl⟩ := hrel
    by_cases hlt : k < 128
    · have cb := H1.out.b.cell (i := k / 8) (by omega)
      have hbit := HBt.out k hlt
      have R1 := Lib.hid (dbl_hi (tm k) (HT.out k))
      have R2 := Lib.hid (dbl_lo (tm k) (HT.out k))
      have R3 := Lib.hid (xor_hi (dblN (tm k)) A (dblN_lt _) HL.out)
      have R4 := Lib.hid (xor_lo (dblN (tm k)) A)
      have R5 := Lib.hid (HTs.out k)
      generalize tm k / 2 ^ 64 = h at *
      generalize tm k % 2 ^ 64 = l at *
      have hx := byt_lt b (k / 8)
      generalize byt b (k / 8) = x at *
      cases hq : (revN b).testBit (127 - k)
      all_goals
        rw [hq] at hbit R5
        clear hq
        go_wp2
        go_roundw
        case rel =>
          refine ⟨k + 1, by omega, by go_num, ?_, ?_, by first | rfl | trivial⟩
          · first
              | (rw [R1.out, R5.out]; rfl)
              | (rw [R1.out, R3.out, R5.out]; rfl)
          · first
              | (rw [R2.out, R5.out]; rfl)
              | (rw [R2.out, R4.out, R5.out]; rfl)
        case measure => simp [intOf]; omega
    · obtain rfl : k = 128 := by omega
      have e128 : Hid (tm 128 / 2 ^ 64 * 2 ^ 64 + tm 128 % 2 ^ 64 = tm 128) := Lib.hid (Nat.div_add_mod' _ _)
      have hlo : Hid (tm 128 % 2 ^ 64 < 2 ^ 64) := Lib.hid (Nat.mod_lt _ (by decide))
      generalize tm 128 / 2 ^ 64 = h at *
      generalize tm 128 % 2 ^ 64 = l at *
      go_wp2_with fail
      refine (big_any h l hlo.out _).mono ?_
      rintro e w2 ⟨rfl, hb2⟩
      rw [e128.out]
      have hs2 := hb2.size
      have C2 := Lib.hid (H1.out.c.below hb2 (by omega))
      have B2 := Lib.hid (H1.out.bel.trans (hb2.mono (by omega)))
      clear hb2
      go_wp2_with (first | (refine wpList_store_arr rfl 27 _ _ rfl _ rfl rfl C2.out info16 ?_; intro w4 hA hG hS))
      exact ret_arr rfl rfl hA Tryz.underlying27 rfl info16 rfl ⟨by rw [HA.out, HTM.out], B2.out.grown hG (by omega) (by intro k hk; cases hk; omega)⟩

end Go.Proofs.YtmifebcaifbmoaaGreatDoor.Field
end
