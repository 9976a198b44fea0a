/- Products over two elements by sums of shifted numbers: commutative, associative, distributive. Plain arithmetic. -/
import Derived.Test.YtfchbodbkdkcfaaPoly
namespace Go.Proofs.Ytfchbodbkdkcfaa.Alg
open Go.Proofs.Ytfchbodbkdkcfaa.Poly

/-- the sum of the first n -/
def xs : Nat → (Nat → Nat) → Nat
  | 0, _ => 0
  | n + 1, f => xs n f ^^^ f n
/-- n times -/
def it (T : Nat → Nat) : Nat → Nat → Nat
  | 0, a => a
  | n + 1, a => T (it T n a)

theorem xs_congr {f g : Nat → Nat} : ∀ {n : Nat}, (∀ i, i < n → f i = g i) → xs n f = xs n g
  | 0, _ => rfl
  | n + 1, h => by rw [xs, xs, xs_congr (fun i hi => h i (by omega)), h n (by omega)]
theorem xs_zero : ∀ n, xs n (fun _ => 0) = 0
  | 0 => rfl
  | n + 1 => by rw [xs, xs_zero n]; rfl
theorem xs_xor (f g : Nat → Nat) : ∀ n, xs n (fun i => f i ^^^ g i) = xs n f ^^^ xs n g
  | 0 => (Nat.xor_self 0).symm
  | n + 1 => by
    rw [xs, xs, xs, xs_xor f g n]
    ac_rfl
theorem xs_comm (f : Nat → Nat → Nat) (m : Nat) : ∀ n, xs n (fun i => xs m (fun j => f i j)) = xs m (fun j => xs n (fun i => f i j))
  | 0 => (xs_zero m).symm
  | n + 1 => by
    rw [xs, xs_comm f m n, ← xs_xor]
    rfl
theorem xs_lt {f : Nat → Nat} {b : Nat} : ∀ {n : Nat}, (∀ i, i < n → f i < 2 ^ b) → xs n f < 2 ^ b
  | 0, _ => Nat.pow_pos (by decide)
  | n + 1, h => Nat.xor_lt_two_pow (xs_lt (fun i hi => h i (by omega))) (h n (by omega))
theorem xs_front (f : Nat → Nat) : ∀ n, xs (n + 1) f = f 0 ^^^ xs n (fun i => f (i + 1))
  | 0 => by simp [xs]
  | n + 1 => by
    rw [xs, xs_front f n, xs]
    ac_rfl
theorem xs_rev : ∀ (n : Nat) (f : Nat → Nat), xs n (fun j => f (n - 1 - j)) = xs n f
  | 0, _ => rfl
  | n + 1, f => by
    rw [xs, xs_front f n, ← xs_rev n (fun i => f (i + 1)), Nat.xor_comm]
    congr 1
    · congr 1; omega
    · exact xs_congr fun i hi => by congr 1; omega

/-- the bits of a number -/
theorem mod_bit (A n : Nat) : A % 2 ^ (n + 1) = A % 2 ^ n ^^^ (if A.testBit n then 2 ^ n else 0) := by
  apply Nat.eq_of_testBit_eq
  intro i
  rw [Nat.testBit_xor, Nat.testBit_mod_two_pow, Nat.testBit_mod_two_pow]
  by_cases h : i < n
  · have : ¬ n = i := by omega
    rw [decide_eq_true h, decide_eq_true (show i < n + 1 by omega)]
    split <;> simp [this]
  · by_cases e : i = n
    · subst e
      simp only [Nat.lt_irrefl, decide_false, Bool.false_and, Nat.lt_succ_self, decide_true, Bool.true_and]
      cases hc : A.testBit i <;> simp
    · have : ¬ n = i := fun h' => e h'.symm
      rw [decide_eq_false h, decide_eq_false (show ¬ i < n + 1 by omega)]
      split <;> simp [this]
theorem xs_bits (A : Nat) : ∀ n, xs n (fun j => if A.testBit j then 2 ^ j else 0) = A % 2 ^ n
  | 0 => by simp [xs, Nat.mod_one]
  | n + 1 => by rw [xs, xs_bits A n, mod_bit]

/-- what is asked of a shift -/
structure Lin (T : Nat → Nat) : Prop where
  lt : ∀ a, a < 2 ^ 128 → T a < 2 ^ 128
  xor : ∀ a b, a < 2 ^ 128 → b < 2 ^ 128 → T (a ^^^ b) = T a ^^^ T b
section
variable {T : Nat → Nat} (h : Lin T)
include h
theorem Lin.zero : T 0 = 0 := by
  have := h.xor 0 0 (by decide) (by decide)
  rw [Nat.xor_self, Nat.xor_self] at this
  exact this
theorem Lin.iter : ∀ n, Lin (it T n)
  | 0 => ⟨fun _ ha => ha, fun _ _ _ _ => rfl⟩
  | n + 1 => ⟨fun a ha => h.lt _ ((Lin.iter n).lt a ha), fun a b ha hb => by
      show T (it T n (a ^^^ b)) = _
      rw [(Lin.iter n).xor a b ha hb, h.xor _ _ ((Lin.iter n).lt a ha) ((Lin.iter n).lt b hb)]; rfl⟩
theorem Lin.xs {f : Nat → Nat} : ∀ {n : Nat}, (∀ i, i < n → f i < 2 ^ 128) → T (xs n f) = xs n (fun i => T (f i))
  | 0, _ => h.zero
  | n + 1, hf => by rw [Alg.xs, Alg.xs, h.xor _ _ (xs_lt fun i hi => hf i (by omega)) (hf n (by omega)), Lin.xs (fun i hi => hf i (by omega))]
theorem Lin.ite (c : Bool) (a : Nat) : T (if c then a else 0) = if c then T a else 0 := by
  cases c
  · simpa using h.zero
  · rfl
end
theorem it_add (T : Nat → Nat) (m : Nat) : ∀ (n a : Nat), it T (n + m) a = it T n (it T m a)
  | 0, a => by rw [Nat.zero_add]; rfl
  | n + 1, a => by rw [show n + 1 + m = n + m + 1 by omega, it, it_add T m n a]; rfl
theorem it_comm (T : Nat → Nat) (m n a : Nat) : it T n (it T m a) = it T m (it T n a) := by rw [← it_add, ← it_add, Nat.add_comm]

/-- the product: bit j of B takes A's shift by ep j + c -/
def gm (T : Nat → Nat) (ep : Nat → Nat) (c A B : Nat) : Nat := xs 128 fun j => if B.testBit j then it T (ep j + c) A else 0

section
variable {T : Nat → Nat} {ep : Nat → Nat} {c u : Nat} (h : Lin T) (hu : u < 2 ^ 128) (he : ∀ j, j < 128 → it T (ep j) u = 2 ^ j)
include h
theorem gm_lt (A B : Nat) (hA : A < 2 ^ 128) : gm T ep c A B < 2 ^ 128 :=
  xs_lt fun j _ => by
    split
    · exact (h.iter _).lt A hA
    · decide
theorem gm_left (A A' B : Nat) (hA : A < 2 ^ 128) (hA' : A' < 2 ^ 128) : gm T ep c (A ^^^ A') B = gm T ep c A B ^^^ gm T ep c A' B := by
  unfold gm
  rw [← xs_xor]
  exact xs_congr fun j _ => by
    cases B.testBit j
    · simp
    · simp only [if_true]
      exact (h.iter _).xor A A' hA hA'
omit h in
theorem gm_right (A B B' : Nat) : gm T ep c A (B ^^^ B') = gm T ep c A B ^^^ gm T ep c A B' := by
  unfold gm
  rw [← xs_xor]
  exact xs_congr fun j _ => by
    rw [Nat.testBit_xor]
    cases B.testBit j <;> cases B'.testBit j <;> simp
theorem gm_step (A B : Nat) (hA : A < 2 ^ 128) : gm T ep c (T A) B = T (gm T ep c A B) := by
  unfold gm
  rw [h.xs (fun j _ => by
    split
    · exact (h.iter _).lt A hA
    · decide)]
  exact xs_congr fun j _ => by
    rw [h.ite]
    cases B.testBit j
    · rfl
    · simp only [if_true]
      exact it_comm T 1 _ A
omit h in
theorem gm_zero_right (A : Nat) : gm T ep c A 0 = 0 := by
  unfold gm
  rw [xs_congr (g := fun _ => 0) (fun j _ => by simp), xs_zero]
theorem gm_zero_left (B : Nat) : gm T ep c 0 B = 0 := by
  unfold gm
  rw [xs_congr (g := fun _ => 0) (fun j _ => by rw [(h.iter _).zero]; simp), xs_zero]
include he
omit h in
theorem as_sum (A : Nat) (hA : A < 2 ^ 128) : A = xs 128 fun i => if A.testBit i then it T (ep i) u else 0 := by
  rw [xs_congr (g := fun i => if A.testBit i then 2 ^ i else 0) (fun i hi => by rw [he i hi]), xs_bits, Nat.mod_eq_of_lt hA]
include hu
theorem gm_comm (A B : Nat) (hA : A < 2 ^ 128) (hB : B < 2 ^ 128) : gm T ep c A B = gm T ep c B A := by
  have key : ∀ A B, A < 2 ^ 128 → gm T ep c A B = xs 128 fun j => xs 128 fun i => if B.testBit j then (if A.testBit i then it T (ep j + c + ep i) u else 0) else 0 := by
    intro A B hA
    unfold gm
    refine xs_congr fun j _ => ?_
    cases B.testBit j
    · simp only [Bool.false_eq_true, if_false, xs_zero]
    · simp only [if_true]
      conv => lhs; rw [as_sum he A hA]
      rw [(h.iter _).xs (fun i _ => by
        split
        · exact (h.iter _).lt u hu
        · decide)]
      exact xs_congr fun i _ => by rw [(h.iter _).ite, it_add T (ep i) (ep j + c)]
  rw [key A B hA, key B A hB, xs_comm]
  refine xs_congr fun j _ => xs_congr fun i _ => ?_
  rw [show ep i + c + ep j = ep j + c + ep i by omega]
  cases A.testBit j <;> cases B.testBit i <;> simp
theorem gm_assoc (A B D : Nat) (hA : A < 2 ^ 128) (hB : B < 2 ^ 128) (_hD : D < 2 ^ 128) : gm T ep c (gm T ep c A B) D = gm T ep c A (gm T ep c B D) := by
  have st : ∀ n, gm T ep c A (it T n B) = it T n (gm T ep c A B) := by
    intro n
    induction n with
    | zero => rfl
    | succ n ih =>
      rw [it, gm_comm h hu he A _ hA (h.lt _ ((h.iter n).lt B hB)), gm_step h _ A ((h.iter n).lt B hB), gm_comm h hu he _ A ((h.iter n).lt B hB) hA, ih]; rfl
  have sm : ∀ n (f : Nat → Nat), gm T ep c A (xs n f) = xs n fun i => gm T ep c A (f i) := by
    intro n f
    induction n with
    | zero => exact gm_zero_right A
    | succ n ih => rw [xs, xs, gm_right, ih]
  have e : gm T ep c B D = xs 128 fun j => if D.testBit j then it T (ep j + c) B else 0 := rfl
  rw [e, sm]
  show (xs 128 fun j => if D.testBit j then it T (ep j + c) (gm T ep c A B) else 0) = _
  refine xs_congr fun j _ => ?_
  cases D.testBit j
  · simp only [Bool.false_eq_true, if_false]; exact (gm_zero_right A).symm
  · simp only [if_true]; exact (st _).symm
end

/-! the two shifts -/
theorem hlf_lin : Lin hlfN := ⟨hlfN_lt, fun a b _ _ => by
  unfold hlfN
  have e : (a ^^^ b) / 2 = a / 2 ^^^ b / 2 := by simpa using Nat.xor_div_two_pow (n := 1) (a := a) (b := b)
  have p : (a ^^^ b) % 2 = (a % 2 + b % 2) % 2 := by
    have := Nat.xor_mod_two_pow (n := 1) (a := a) (b := b)
    simp only [Nat.pow_one] at this
    rw [this]
    rcases Nat.mod_two_eq_zero_or_one a with h | h <;> rcases Nat.mod_two_eq_zero_or_one b with h' | h' <;> rw [h, h'] <;> rfl
  rw [e, p]
  rcases Nat.mod_two_eq_zero_or_one a with h | h <;> rcases Nat.mod_two_eq_zero_or_one b with h' | h' <;> rw [h, h']
  · simp
  · simp only [Nat.zero_add, Nat.zero_ne_one, if_false, Nat.xor_zero, show 1 % 2 = 1 from rfl, if_true]; ac_rfl
  · simp only [Nat.add_zero, Nat.zero_ne_one, if_false, Nat.xor_zero, show 1 % 2 = 1 from rfl, if_true]; ac_rfl
  · simp only [show (1 + 1) % 2 = 0 from rfl, Nat.zero_ne_one, if_false, if_true, Nat.xor_zero]
    rw [show ∀ x y z : Nat, (x ^^^ z) ^^^ (y ^^^ z) = (x ^^^ y) ^^^ (z ^^^ z) from fun x y z => by ac_rfl, Nat.xor_self, Nat.xor_zero]⟩
theorem le_testBit (a : Nat) (ha : a < 2 ^ 128) : (2 ^ 127 ≤ a) = (a.testBit 127 = true) := by
  rw [Nat.testBit_eq_decide_div_mod_eq, decide_eq_true_eq]
  apply propext
  constructor
  · intro h; have : a / 2 ^ 127 = 1 := by omega
    rw [this]
  · intro h; omega
theorem dbl_lin : Lin dblN := ⟨fun a _ => dblN_lt a, fun a b ha hb => by
  unfold dblN
  have e : (a ^^^ b) * 2 % 2 ^ 128 = (a * 2 % 2 ^ 128) ^^^ (b * 2 % 2 ^ 128) := by
    rw [← Nat.xor_mod_two_pow]
    congr 1
    have := Nat.shiftLeft_xor_distrib (a := a) (b := b) (i := 1)
    simpa [Nat.shiftLeft_eq] using this
  rw [e]
  simp only [le_testBit a ha, le_testBit b hb, le_testBit _ (Nat.xor_lt_two_pow ha hb), Nat.testBit_xor]
  cases a.testBit 127 <;> cases b.testBit 127
  · simp
  · simp only [Bool.false_xor, Bool.false_eq_true, if_true, if_false, Nat.xor_zero]; ac_rfl
  · simp only [Bool.xor_false, Bool.false_eq_true, if_true, if_false, Nat.xor_zero]; ac_rfl
  · simp only [Bool.xor_self, Bool.false_eq_true, if_true, if_false, Nat.xor_zero]
    rw [show ∀ x y z : Nat, (x ^^^ z) ^^^ (y ^^^ z) = (x ^^^ y) ^^^ (z ^^^ z) from fun x y z => by ac_rfl, Nat.xor_self, Nat.xor_zero]⟩

/-! Dot -/
def dg (A B : Nat) : Nat := gm hlfN (fun j => 127 - j) 1 A B
theorem dot_base : ∀ j, j < 128 → it hlfN (127 - j) (2 ^ 127) = 2 ^ j := by decide +kernel
theorem dot_sum (A B : Nat) (hA : A < 2 ^ 128) : ∀ k, dotN A B k = xs k fun j => if B.testBit j then it hlfN (k - j) A else 0
  | 0 => rfl
  | k + 1 => by
    have hs : hlfN (dotN A B k) = xs k fun j => if B.testBit j then it hlfN (k + 1 - j) A else 0 := by
      rw [dot_sum A B hA k, hlf_lin.xs (fun i _ => by
        split
        · exact (hlf_lin.iter _).lt A hA
        · decide)]
      exact xs_congr fun j hj => by rw [hlf_lin.ite, show k + 1 - j = (k - j) + 1 by omega]; rfl
    rw [dotN, xs, hlf_lin.xor _ _ (dotN_lt A B hA k) hA, hs]
    cases B.testBit k
    · simp
    · simp only [if_true, show k + 1 - k = 1 by omega]; rfl
theorem dot_gm (A B : Nat) (hA : A < 2 ^ 128) : dotN A B 128 = dg A B := by
  rw [dot_sum A B hA]
  exact xs_congr fun j hj => by rw [show 128 - j = 127 - j + 1 by omega]
theorem dot_comm (A B : Nat) (hA : A < 2 ^ 128) (hB : B < 2 ^ 128) : dotN A B 128 = dotN B A 128 := by
  rw [dot_gm A B hA, dot_gm B A hB]; exact gm_comm hlf_lin (by decide) dot_base A B hA hB
theorem dot_left (A A' B : Nat) (hA : A < 2 ^ 128) (hA' : A' < 2 ^ 128) : dotN (A ^^^ A') B 128 = dotN A B 128 ^^^ dotN A' B 128 := by
  rw [dot_gm A B hA, dot_gm A' B hA', dot_gm _ B (Nat.xor_lt_two_pow hA hA')]; exact gm_left hlf_lin A A' B hA hA'
theorem dot_right (A B B' : Nat) (hA : A < 2 ^ 128) : dotN A (B ^^^ B') 128 = dotN A B 128 ^^^ dotN A B' 128 := by
  rw [dot_gm A B hA, dot_gm A B' hA, dot_gm A _ hA]; exact gm_right A B B'
theorem dot_assoc (A B D : Nat) (hA : A < 2 ^ 128) (hB : B < 2 ^ 128) (hD : D < 2 ^ 128) : dotN (dotN A B 128) D 128 = dotN A (dotN B D 128) 128 := by
  have l : dg A B < 2 ^ 128 := gm_lt hlf_lin A B hA
  rw [dot_gm A B hA, dot_gm B D hB, dot_gm _ D l, dot_gm A _ hA]; exact gm_assoc hlf_lin (by decide) dot_base A B D hA hB hD
theorem dot_zero_left (B : Nat) : dotN 0 B 128 = 0 := by rw [dot_gm 0 B (by decide)]; exact gm_zero_left hlf_lin B
theorem dot_one (A : Nat) (hA : A < 2 ^ 128) : dotN A (2 ^ 127 + 2 ^ 126 + 2 ^ 121 + 1) 128 = A := by
  rw [dot_comm A _ hA (by decide), dot_gm _ _ (by decide)]
  show gm hlfN (fun j => 127 - j) 1 _ A = A
  unfold gm
  conv => rhs; rw [as_sum (T := hlfN) (u := 2 ^ 127) (ep := fun j => 127 - j) dot_base A hA]
  exact xs_congr fun j _ => by rw [it_add]; rfl

/-! Times -/
def tg (A B : Nat) : Nat := gm dblN (fun j => j) 0 A B
theorem times_base : ∀ j, j < 128 → it dblN j 1 = 2 ^ j := by decide +kernel
theorem times_sum (A B : Nat) (hA : A < 2 ^ 128) : ∀ k, timesN A B k = xs k fun j => if B.testBit (127 - j) then it dblN (k - 1 - j) A else 0
  | 0 => rfl
  | k + 1 => by
    have hs : dblN (timesN A B k) = xs k fun j => if B.testBit (127 - j) then it dblN (k - j) A else 0 := by
      rw [times_sum A B hA k, dbl_lin.xs (fun i _ => by
        split
        · exact (dbl_lin.iter _).lt A hA
        · decide)]
      exact xs_congr fun j hj => by rw [dbl_lin.ite, show k - j = (k - 1 - j) + 1 by omega]; rfl
    rw [timesN, xs, hs]
    cases B.testBit (127 - k)
    · simp
    · simp only [if_true, Nat.add_sub_cancel, Nat.sub_self]; rfl
theorem times_gm (A B : Nat) (hA : A < 2 ^ 128) : timesN A B 128 = tg A B := by
  rw [times_sum A B hA]
  exact xs_rev 128 (fun j => if B.testBit j then it dblN (j + 0) A else 0)
theorem tg_comm (A B : Nat) (hA : A < 2 ^ 128) (hB : B < 2 ^ 128) : tg A B = tg B A := gm_comm dbl_lin (u := 1) (by decide) times_base A B hA hB
theorem tg_left (A A' B : Nat) (hA : A < 2 ^ 128) (hA' : A' < 2 ^ 128) : tg (A ^^^ A') B = tg A B ^^^ tg A' B := gm_left dbl_lin A A' B hA hA'
theorem tg_right (A B B' : Nat) : tg A (B ^^^ B') = tg A B ^^^ tg A B' := gm_right A B B'
theorem tg_assoc (A B D : Nat) (hA : A < 2 ^ 128) (hB : B < 2 ^ 128) (hD : D < 2 ^ 128) : tg (tg A B) D = tg A (tg B D) := gm_assoc dbl_lin (u := 1) (by decide) times_base A B D hA hB hD
theorem tg_lt (A B : Nat) (hA : A < 2 ^ 128) : tg A B < 2 ^ 128 := gm_lt dbl_lin A B hA
theorem tg_zero (A : Nat) : tg A 0 = 0 := gm_zero_right A
theorem tg_zero_left (A : Nat) : tg 0 A = 0 := gm_zero_left dbl_lin A
theorem tg_one (A : Nat) (hA : A < 2 ^ 128) : tg A 1 = A := by
  rw [tg_comm A 1 hA (by decide)]
  unfold tg gm
  conv => rhs; rw [as_sum (T := dblN) (u := 1) (ep := fun j => j) times_base A hA]
  exact xs_congr fun j _ => rfl
theorem tg_two (A : Nat) (hA : A < 2 ^ 128) : tg A 2 = dblN A := by
  rw [tg_comm A 2 hA (by decide), show (2 : Nat) = dblN 1 from by decide +kernel]
  unfold tg
  rw [gm_step dbl_lin 1 A (by decide)]
  congr 1
  have := tg_one A hA
  rw [tg_comm A 1 hA (by decide)] at this
  exact this
end Go.Proofs.Ytfchbodbkdkcfaa.Alg
