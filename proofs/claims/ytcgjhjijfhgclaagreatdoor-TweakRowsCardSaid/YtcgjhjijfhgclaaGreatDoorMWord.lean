/- Words of four bytes, as numbers; the walk's forms of their operations. No Go here. -/
import Derived.Test.YtcgjhjijfhgclaaGreatDoorMAes
import Derived.IntWalk
namespace Go.Proofs.YtcgjhjijfhgclaaGreatDoor.Aes
open Go

/-- four bytes as a number, the first the highest -/
def wd (f : Nat → Nat) : Nat := ((f 0 * 256 + f 1) * 256 + f 2) * 256 + f 3
/-- bytes all -/
def Byt (f : Nat → Nat) (n : Nat) : Prop := ∀ j, j < n → f j < 256
theorem wd_lt {f : Nat → Nat} (h : Byt f 4) : wd f < 4294967296 := by
  have := h 0 (by decide); have := h 1 (by decide); have := h 2 (by decide); have := h 3 (by decide)
  unfold wd; omega
theorem wd_0 {f : Nat → Nat} (h : Byt f 4) : wd f / 16777216 = f 0 := by
  have := h 0 (by decide); have := h 1 (by decide); have := h 2 (by decide); have := h 3 (by decide)
  unfold wd; omega
theorem wd_1 {f : Nat → Nat} (h : Byt f 4) : wd f / 65536 % 256 = f 1 := by
  have := h 0 (by decide); have := h 1 (by decide); have := h 2 (by decide); have := h 3 (by decide)
  unfold wd; omega
theorem wd_2 {f : Nat → Nat} (h : Byt f 4) : wd f / 256 % 256 = f 2 := by
  have := h 0 (by decide); have := h 1 (by decide); have := h 2 (by decide); have := h 3 (by decide)
  unfold wd; omega
theorem wd_3 {f : Nat → Nat} (h : Byt f 4) : wd f % 256 = f 3 := by
  have := h 0 (by decide); have := h 1 (by decide); have := h 2 (by decide); have := h 3 (by decide)
  unfold wd; omega
theorem wd_congr {f g : Nat → Nat} (h : ∀ j, j < 4 → f j = g j) : wd f = wd g := by
  unfold wd
  rw [h 0 (by decide), h 1 (by decide), h 2 (by decide), h 3 (by decide)]
theorem wd_ext {f g : Nat → Nat} (hf : Byt f 4) (hg : Byt g 4) (h : wd f = wd g) : ∀ j, j < 4 → f j = g j := by
  have := hf 0 (by decide); have := hf 1 (by decide); have := hf 2 (by decide); have := hf 3 (by decide)
  have := hg 0 (by decide); have := hg 1 (by decide); have := hg 2 (by decide); have := hg 3 (by decide)
  unfold wd at h
  intro j hj
  match j, hj with
  | 0, _ => omega
  | 1, _ => omega
  | 2, _ => omega
  | 3, _ => omega
theorem pair_xor (a b c d : Nat) (hb : b < 256) (hd : d < 256) : (a * 256 + b) ^^^ (c * 256 + d) = (a ^^^ c) * 256 + (b ^^^ d) := by
  have e1 : ((a * 256 + b) ^^^ (c * 256 + d)) / 2 ^ 8 = a ^^^ c := by
    rw [Nat.xor_div_two_pow]
    congr 1 <;> omega
  have e2 : ((a * 256 + b) ^^^ (c * 256 + d)) % 2 ^ 8 = b ^^^ d := by
    rw [Nat.xor_mod_two_pow]
    congr 1 <;> omega
  generalize (a * 256 + b) ^^^ (c * 256 + d) = x at *
  omega
theorem wd_xor {f g : Nat → Nat} (hf : Byt f 4) (hg : Byt g 4) : wd f ^^^ wd g = wd fun j => f j ^^^ g j := by
  unfold wd
  rw [pair_xor _ _ _ _ (hf 3 (by decide)) (hg 3 (by decide)), pair_xor _ _ _ _ (hf 2 (by decide)) (hg 2 (by decide)), pair_xor _ _ _ _ (hf 1 (by decide)) (hg 1 (by decide))]
theorem byt_xor {f g : Nat → Nat} {n : Nat} (hf : Byt f n) (hg : Byt g n) : Byt (fun j => f j ^^^ g j) n := fun j hj => xor_lt (hf j hj) (hg j hj)
theorem or_add (a b k : Nat) (hb : b < 2 ^ k) : a * 2 ^ k ||| b = a * 2 ^ k + b := by
  rw [Nat.mul_comm, ← Nat.two_pow_add_eq_or_of_lt hb]

/-! the walk's forms -/
theorem bits_xor' (k : IntKind) (j : Nat) (hj : j ≤ k.bits) (hk : ∀ n : Int, 0 ≤ n → n < 2 ^ j → k.wrap n = n) (a b : Nat) (ha : a < 2 ^ j) (hb : b < 2 ^ j) :
    bits .xor k a b = ((a ^^^ b : Nat) : Int) := by
  have hp : 2 ^ j ≤ 2 ^ k.bits := Nat.pow_le_pow_right (by decide) hj
  have ha' : a % 2 ^ k.bits = a := Nat.mod_eq_of_lt (Nat.lt_of_lt_of_le ha hp)
  have hb' : b % 2 ^ k.bits = b := Nat.mod_eq_of_lt (Nat.lt_of_lt_of_le hb hp)
  simp only [bits, BitVec.ofInt_natCast, BitVec.toNat_xor, BitVec.toNat_ofNat, ha', hb']
  exact hk _ (Int.natCast_nonneg _) (by exact_mod_cast Nat.xor_lt_two_pow ha hb)
theorem wrap32u (n : Int) (h1 : 0 ≤ n) (h2 : n < 4294967296) : IntKind.u32.wrap n = n := by rw [IntKind.wrap_u32]; omega
theorem wrap8u (n : Int) (h1 : 0 ≤ n) (h2 : n < 256) : IntKind.u8.wrap n = n := wraps_u8 n h1 h2
theorem xor_u32 (a b : Nat) (ha : a < 4294967296) (hb : b < 4294967296) : bits .xor .u32 a b = ((a ^^^ b : Nat) : Int) := bits_xor' .u32 32 (by decide) (fun n h1 h2 => wrap32u n h1 (by omega)) a b ha hb
theorem or_u32 (a b : Nat) (ha : a < 4294967296) (hb : b < 4294967296) : bits .or .u32 a b = ((a ||| b : Nat) : Int) := (bits_nat .u32 32 (by decide) (fun n h1 h2 => wrap32u n h1 (by omega)) a b ha hb).2
theorem and_u32 (a b : Nat) (ha : a < 4294967296) (hb : b < 4294967296) : bits .and .u32 a b = ((a &&& b : Nat) : Int) := (bits_nat .u32 32 (by decide) (fun n h1 h2 => wrap32u n h1 (by omega)) a b ha hb).1
theorem xor_u8 (a b : Nat) (ha : a < 256) (hb : b < 256) : bits .xor .u8 a b = ((a ^^^ b : Nat) : Int) := bits_xor' .u8 8 (by decide) (fun n h1 h2 => wrap8u n h1 (by omega)) a b ha hb
theorem or_u8 (a b : Nat) (ha : a < 256) (hb : b < 256) : bits .or .u8 a b = ((a ||| b : Nat) : Int) := (bits_nat .u8 8 (by decide) (fun n h1 h2 => wrap8u n h1 (by omega)) a b ha hb).2
theorem and_u8 (a b : Nat) (ha : a < 256) (hb : b < 256) : bits .and .u8 a b = ((a &&& b : Nat) : Int) := (bits_nat .u8 8 (by decide) (fun n h1 h2 => wrap8u n h1 (by omega)) a b ha hb).1
/-- the low byte -/
theorem and255 (a : Nat) (ha : a < 4294967296) : bits .and .u32 a 255 = ((a % 256 : Nat) : Int) := by
  have := and_u32 a 255 ha (by decide)
  rw [show ((255 : Int)) = ((255 : Nat) : Int) from rfl, this]
  congr 1
  exact Nat.and_two_pow_sub_one_eq_mod a 8
theorem shl_u32 (a n : Nat) (h : a * 2 ^ n < 4294967296) : IntKind.u32.wrap ((a : Int) * 2 ^ n) = ((a * 2 ^ n : Nat) : Int) := by
  have e : ((a : Int) * 2 ^ n) = ((a * 2 ^ n : Nat) : Int) := by simp
  rw [e]
  generalize a * 2 ^ n = x at h
  exact wrap32u _ (by omega) (by omega)
end Go.Proofs.YtcgjhjijfhgclaaGreatDoor.Aes

namespace Go.Proofs.YtcgjhjijfhgclaaGreatDoor.Aes
open Go

theorem xlc (a b c : Nat) : a ^^^ (b ^^^ c) = b ^^^ (a ^^^ c) := by rw [← Nat.xor_assoc, Nat.xor_comm a b, Nat.xor_assoc]
/-- a column by a matrix whose rows are turns of m -/
def colB (m : Nat → Nat) (x : Nat → Nat) (j : Nat) : Nat := gm (x 0) (m (j % 4)) ^^^ gm (x 1) (m ((j + 3) % 4)) ^^^ gm (x 2) (m ((j + 2) % 4)) ^^^ gm (x 3) (m ((j + 1) % 4))
/-- all columns of a state -/
def colsB (m : Nat → Nat) (s : Nat → Nat) (i : Nat) : Nat := colB m (fun r => s (4 * (i / 4) + r)) (i % 4)
/-- bytes by a box, rows moved -/
def rowB (box : Nat → Nat) (step : Nat) (s : Nat → Nat) (i : Nat) : Nat := box (s (4 * ((i / 4 + i % 4 * step) % 4) + i % 4))
def mE (d : Nat) : Nat := if d = 0 then 2 else if d = 3 then 3 else 1
def mD (d : Nat) : Nat := if d = 0 then 14 else if d = 1 then 9 else if d = 2 then 13 else 11
/-- the state behind r rounds -/
def stR (m box : Nat → Nat) (step : Nat) (k : Nat → Nat → Nat) (s : Nat → Nat) : Nat → Nat → Nat
  | 0 => fun i => s i ^^^ k 0 i
  | r + 1 => fun i => colsB m (rowB box step (stR m box step k s r)) i ^^^ k (r + 1) i
/-- all rounds: nr of them -/
def thrB (m box : Nat → Nat) (step : Nat) (k : Nat → Nat → Nat) (nr : Nat) (s : Nat → Nat) (i : Nat) : Nat := rowB box step (stR m box step k s (nr - 1)) i ^^^ k nr i
/-- a block encrypted: k r i is byte i of round key r -/
def encB (k : Nat → Nat → Nat) (nr : Nat) (s : Nat → Nat) : Nat → Nat := thrB mE S 1 k nr s
/-- the round keys of the equivalent inverse cipher -/
def backK (k : Nat → Nat → Nat) (nr r : Nat) (i : Nat) : Nat := if 0 < r ∧ r < nr then colsB mD (k (nr - r)) i else k (nr - r) i
def decB (k : Nat → Nat → Nat) (nr : Nat) (s : Nat → Nat) : Nat → Nat := thrB mD U 3 (backK k nr) nr s
/-- the document's way back: t rounds undone -/
def unR (k : Nat → Nat → Nat) (nr : Nat) (s : Nat → Nat) : Nat → Nat → Nat
  | 0 => s
  | t + 1 => rowB U 3 (if t = 0 then fun i => unR k nr s t i ^^^ k nr i else colsB mD fun i => unR k nr s t i ^^^ k (nr - t) i)

/-! bytes stay bytes -/
theorem colB_lt {m x : Nat → Nat} (h : Byt x 4) (j : Nat) : colB m x j < 256 :=
  xor_lt (xor_lt (xor_lt (gm_lt _ _ (h 0 (by decide))) (gm_lt _ _ (h 1 (by decide)))) (gm_lt _ _ (h 2 (by decide)))) (gm_lt _ _ (h 3 (by decide)))
theorem colsB_byt {m s : Nat → Nat} (h : Byt s 16) : Byt (colsB m s) 16 := fun i hi => colB_lt (fun r hr => h _ (by omega)) _
theorem rowB_byt {box s : Nat → Nat} {step : Nat} (hb : Byt box 256) (h : Byt s 16) : Byt (rowB box step s) 16 := fun i hi => hb _ (h _ (by omega))
theorem S_byt : Byt S 256 := S_lt
theorem U_byt : Byt U 256 := U_lt
theorem stR_byt {m box : Nat → Nat} {step : Nat} {k : Nat → Nat → Nat} {s : Nat → Nat} (hb : Byt box 256) (hs : Byt s 16) {n : Nat} (hk : ∀ r, r ≤ n → Byt (k r) 16) : ∀ r, r ≤ n → Byt (stR m box step k s r) 16
  | 0, h => byt_xor hs (hk 0 h)
  | r + 1, h => byt_xor (colsB_byt (rowB_byt hb (stR_byt hb hs hk r (by omega)))) (hk (r + 1) h)
theorem thrB_byt {m box : Nat → Nat} {step : Nat} {k : Nat → Nat → Nat} {nr : Nat} {s : Nat → Nat} (hb : Byt box 256) (hs : Byt s 16) (hk : ∀ r, r ≤ nr → Byt (k r) 16) : Byt (thrB m box step k nr s) 16 :=
  byt_xor (rowB_byt hb (stR_byt hb hs hk _ (by omega))) (hk nr (Nat.le_refl _))
theorem encB_byt {k : Nat → Nat → Nat} {nr : Nat} {s : Nat → Nat} (hs : Byt s 16) (hk : ∀ r, r ≤ nr → Byt (k r) 16) : Byt (encB k nr s) 16 := thrB_byt S_byt hs hk
theorem backK_byt {k : Nat → Nat → Nat} {nr : Nat} (hk : ∀ r, r ≤ nr → Byt (k r) 16) : ∀ r, r ≤ nr → Byt (backK k nr r) 16 := fun r hr i hi => by
  unfold backK
  split
  · exact colsB_byt (hk _ (by omega)) i hi
  · exact hk _ (by omega) i hi
theorem decB_byt {k : Nat → Nat → Nat} {nr : Nat} {s : Nat → Nat} (hs : Byt s 16) (hk : ∀ r, r ≤ nr → Byt (k r) 16) : Byt (decB k nr s) 16 := thrB_byt U_byt hs (backK_byt hk)

/-! only bytes below 16 matter -/
theorem colB_congr {m x y : Nat → Nat} (h : ∀ r, r < 4 → x r = y r) (j : Nat) : colB m x j = colB m y j := by
  unfold colB
  rw [h 0 (by decide), h 1 (by decide), h 2 (by decide), h 3 (by decide)]
theorem colsB_congr {m s t : Nat → Nat} (h : ∀ i, i < 16 → s i = t i) : ∀ i, i < 16 → colsB m s i = colsB m t i := fun i hi => colB_congr (fun r hr => h _ (by omega)) _
theorem rowB_congr {box s t : Nat → Nat} {step : Nat} (h : ∀ i, i < 16 → s i = t i) : ∀ i, i < 16 → rowB box step s i = rowB box step t i := fun i hi => by
  unfold rowB
  rw [h _ (by omega)]
theorem stR_congr {m box : Nat → Nat} {step : Nat} {k k' : Nat → Nat → Nat} {s t : Nat → Nat} (hs : ∀ i, i < 16 → s i = t i) {n : Nat} (hk : ∀ r, r ≤ n → ∀ i, i < 16 → k r i = k' r i) : ∀ r, r ≤ n → ∀ i, i < 16 → stR m box step k s r i = stR m box step k' t r i
  | 0, h, i, hi => by
    rw [stR, stR]
    dsimp only
    rw [hs i hi, hk 0 h i hi]
  | r + 1, h, i, hi => by
    rw [stR, stR]
    dsimp only
    rw [colsB_congr (rowB_congr (stR_congr hs hk r (by omega))) i hi, hk (r + 1) h i hi]
theorem thrB_congr {m box : Nat → Nat} {step : Nat} {k k' : Nat → Nat → Nat} {nr : Nat} {s t : Nat → Nat} (hs : ∀ i, i < 16 → s i = t i) (hk : ∀ r, r ≤ nr → ∀ i, i < 16 → k r i = k' r i) : ∀ i, i < 16 → thrB m box step k nr s i = thrB m box step k' nr t i := fun i hi => by
  unfold thrB
  rw [rowB_congr (stR_congr hs hk (nr - 1) (by omega)) i hi, hk nr (Nat.le_refl _) i hi]
theorem encB_congr {k k' : Nat → Nat → Nat} {nr : Nat} {s t : Nat → Nat} (hs : ∀ i, i < 16 → s i = t i) (hk : ∀ r, r ≤ nr → ∀ i, i < 16 → k r i = k' r i) : ∀ i, i < 16 → encB k nr s i = encB k' nr t i := thrB_congr hs hk

/-! products are linear -/
theorem gmL_xor : ∀ (n a a' b p p' : Nat), a < 256 → a' < 256 → gmL n (a ^^^ a') b (p ^^^ p') = gmL n a b p ^^^ gmL n a' b p'
  | 0, _, _, _, _, _, _, _ => rfl
  | n + 1, a, a', b, p, p', h, h' => by
    rw [gmL, gmL, gmL, xt_xor a h a' h']
    split
    · rw [show p ^^^ p' ^^^ (a ^^^ a') = (p ^^^ a) ^^^ (p' ^^^ a') by simp only [Nat.xor_comm, xlc]]
      exact gmL_xor n _ _ _ _ _ (xt_lt a) (xt_lt a')
    · exact gmL_xor n _ _ _ _ _ (xt_lt a) (xt_lt a')
theorem gm_xor (a a' b : Nat) (h : a < 256) (h' : a' < 256) : gm (a ^^^ a') b = gm a b ^^^ gm a' b := by
  have := gmL_xor 8 a a' b 0 0 h h'
  simpa [gm] using this
theorem colB_xor {m x y : Nat → Nat} (hx : Byt x 4) (hy : Byt y 4) (j : Nat) : colB m (fun r => x r ^^^ y r) j = colB m x j ^^^ colB m y j := by
  unfold colB
  rw [gm_xor _ _ _ (hx 0 (by decide)) (hy 0 (by decide)), gm_xor _ _ _ (hx 1 (by decide)) (hy 1 (by decide)), gm_xor _ _ _ (hx 2 (by decide)) (hy 2 (by decide)), gm_xor _ _ _ (hx 3 (by decide)) (hy 3 (by decide))]
  simp only [Nat.xor_assoc, xlc]
theorem colsB_xor {m s t : Nat → Nat} (hs : Byt s 16) (ht : Byt t 16) : ∀ i, i < 16 → colsB m (fun i => s i ^^^ t i) i = colsB m s i ^^^ colsB m t i := fun i hi =>
  colB_xor (fun r hr => hs _ (by omega)) (fun r hr => ht _ (by omega)) _
end Go.Proofs.YtcgjhjijfhgclaaGreatDoor.Aes

namespace Go.Proofs.YtcgjhjijfhgclaaGreatDoor.Aes
open Go

def rcL : List Nat := [1, 2, 4, 8, 16, 32, 64, 128, 27, 54]
def rc (i : Nat) : Nat := rcL.getD i 0
theorem rc_succ : ∀ i, i < 9 → rc (i + 1) = gm (rc i) 2 := by decide +kernel
theorem rc_lt : ∀ i, rc i < 256 := fun i => by
  match i with
  | 0 | 1 | 2 | 3 | 4 | 5 | 6 | 7 | 8 | 9 => decide
  | n + 10 => simp [rc, rcL]
/-- what is added to the word nk places before word i, of the word before it -/
def tB (nk i : Nat) (prev : Nat → Nat) (j : Nat) : Nat := if i % nk = 0 then S (prev ((j + 1) % 4)) ^^^ (if j = 0 then rc (i / nk - 1) else 0) else if nk = 8 ∧ i % 8 = 4 then S (prev j) else prev j
/-- the words' bytes behind n rounds of the schedule's loop -/
def kwF (nk : Nat) (key : Nat → Nat) : Nat → Nat → Nat → Nat
  | 0 => fun i j => key (4 * i + j)
  | n + 1 => fun i j => if i = nk + n then kwF nk key n n j ^^^ tB nk (nk + n) (kwF nk key n (nk + n - 1)) j else kwF nk key n i j
/-- byte j of word i of the schedule -/
def kw (nk : Nat) (key : Nat → Nat) (i j : Nat) : Nat := kwF nk key (3 * nk + 28) i j
/-- byte i of round key r -/
def rk (nk : Nat) (key : Nat → Nat) (r i : Nat) : Nat := kw nk key (4 * r + i / 4) (i % 4)
theorem tB_lt {nk i : Nat} {prev : Nat → Nat} (h : Byt prev 4) (j : Nat) (hj : j < 4) : tB nk i prev j < 256 := by
  unfold tB
  split
  · refine xor_lt (S_lt _ (h _ (Nat.mod_lt _ (by decide)))) ?_
    split
    · exact rc_lt _
    · decide
  · split
    · exact S_lt _ (h _ hj)
    · exact h _ hj
theorem kwF_lt {nk : Nat} {key : Nat → Nat} (hk : Byt key (4 * nk)) (h1 : 1 ≤ nk) : ∀ n i, i < nk + n → Byt (kwF nk key n i) 4
  | 0, i, hi, j, hj => hk _ (by omega)
  | n + 1, i, hi, j, hj => by
    rw [kwF]
    dsimp only
    split
    · exact xor_lt (kwF_lt hk h1 n n (by omega) j hj) (tB_lt (kwF_lt hk h1 n _ (by omega)) j hj)
    · exact kwF_lt hk h1 n i (by omega) j hj
theorem kwF_keep {nk : Nat} {key : Nat → Nat} {n : Nat} : ∀ d i, i < nk + n → kwF nk key (n + d) i = kwF nk key n i
  | 0, _, _ => rfl
  | d + 1, i, hi => by
    funext j
    rw [show n + (d + 1) = (n + d) + 1 by omega, kwF]
    dsimp only
    rw [if_neg (by omega), kwF_keep d i hi]
theorem kw_of {nk : Nat} {key : Nat → Nat} {n i : Nat} (hn : n ≤ 3 * nk + 28) (hi : i < nk + n) : kw nk key i = kwF nk key n i := by
  funext j
  unfold kw
  rw [show 3 * nk + 28 = n + (3 * nk + 28 - n) by omega, kwF_keep _ _ hi]
theorem kw_byt {nk : Nat} {key : Nat → Nat} (hk : Byt key (4 * nk)) (h1 : 1 ≤ nk) {i : Nat} (hi : i < 4 * (nk + 7)) : Byt (kw nk key i) 4 := kwF_lt hk h1 _ i (by omega)
theorem rk_byt {nk : Nat} {key : Nat → Nat} (hk : Byt key (4 * nk)) (h1 : 1 ≤ nk) : ∀ r, r ≤ nk + 6 → Byt (rk nk key r) 16 := fun r hr i hi => kw_byt hk h1 (by omega) _ (Nat.mod_lt _ (by decide))
end Go.Proofs.YtcgjhjijfhgclaaGreatDoor.Aes
