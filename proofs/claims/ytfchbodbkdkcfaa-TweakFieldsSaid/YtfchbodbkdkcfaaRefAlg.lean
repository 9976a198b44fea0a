/- What the document's products of polynomials are: plain arithmetic. -/
import Derived.Test.YtfchbodbkdkcfaaRef5
import Derived.Test.YtfchbodbkdkcfaaFrob
namespace Go.Proofs.Ytfchbodbkdkcfaa.Ref
open Go.Proofs.Ytfchbodbkdkcfaa.Poly Go.Proofs.Ytfchbodbkdkcfaa.Alg

def phi (T : Nat → Nat) (N : Nat) : Nat := xs 255 fun i => if N.testBit i then it T i 1 else 0
theorem xs_single (f : Nat → Nat) (i : Nat) : ∀ n, xs n (fun j => if j = i then f j else 0) = if i < n then f i else 0
  | 0 => rfl
  | n + 1 => by
    rw [xs, xs_single f i n]
    by_cases h : n = i
    · subst h; simp
    · rw [if_neg h, Nat.xor_zero]
      by_cases h2 : i < n
      · rw [if_pos h2, if_pos (by omega)]
      · rw [if_neg h2, if_neg (by omega)]
theorem phi_xor (T : Nat → Nat) (M N : Nat) : phi T (M ^^^ N) = phi T M ^^^ phi T N := by
  unfold phi
  rw [← xs_xor]
  exact xs_congr fun i _ => by
    rw [Nat.testBit_xor]
    cases M.testBit i <;> cases N.testBit i <;> simp
theorem phi_zero (T : Nat → Nat) : phi T 0 = 0 := by
  unfold phi
  rw [xs_congr (g := fun _ => 0) (fun i _ => by simp), xs_zero]
theorem phi_pow (T : Nat → Nat) (i : Nat) (hi : i < 255) : phi T (2 ^ i) = it T i 1 := by
  unfold phi
  rw [xs_congr (g := fun j => if j = i then it T j 1 else 0) (fun j _ => by
    rw [Nat.testBit_two_pow]
    by_cases e : j = i
    · subst e; simp
    · rw [if_neg e, if_neg (by simp; exact fun h => e h.symm)]), xs_single, if_pos hi]
theorem phi_xs (T : Nat → Nat) (f : Nat → Nat) : ∀ n, phi T (xs n f) = xs n fun i => phi T (f i)
  | 0 => phi_zero T
  | n + 1 => by rw [xs, xs, phi_xor, phi_xs T f n]
/-- what is asked of a shift with its powers -/
structure Mod (T : Nat → Nat) (p : Nat → Nat) : Prop where
  lin : Lin T
  base : ∀ j, j < 128 → it T j 1 = 2 ^ j
  top : it T 128 1 = xs 4 fun q => it T (p q) 1
  lt : ∀ q, q < 4 → p q < 128
section
variable {T : Nat → Nat} {p : Nat → Nat} (h : Mod T p)
include h
theorem it_lt (i : Nat) : it T i 1 < 2 ^ 128 := (h.lin.iter i).lt 1 (by decide)
theorem top_at (i : Nat) (hi : 128 ≤ i) : it T i 1 = xs 4 fun q => it T (i - 128 + p q) 1 := by
  have e : i = (i - 128) + 128 := by omega
  conv => lhs; rw [e, it_add, h.top]
  rw [(h.lin.iter _).xs (fun q hq => it_lt h _)]
  exact xs_congr fun q _ => by rw [it_add]
theorem phi_stp (i N : Nat) (hi : 128 ≤ i) (hi2 : i < 255) : phi T (stp p i N) = phi T N := by
  unfold stp
  split
  · have e : phi T (pmk p i 4) = it T i 1 := by
      unfold pmk
      rw [phi_xs, top_at h i hi]
      exact xs_congr fun q hq => phi_pow T _ (by have := h.lt q hq; omega)
    rw [phi_xor, phi_xor, phi_pow T i hi2, e, Nat.xor_assoc, Nat.xor_self, Nat.xor_zero]
  · rfl
theorem stp_lt (i N : Nat) (hi : 128 ≤ i) (hN : N < 2 ^ (i + 1)) : stp p i N < 2 ^ i := by
  have hpm : pmk p i 4 < 2 ^ i := xs_lt fun q hq => Nat.pow_lt_pow_right (by decide) (by have := h.lt q hq; omega)
  unfold stp
  split
  · rename_i hb
    refine Nat.xor_lt_two_pow ?_ hpm
    have e1 := mod_bit N i
    rw [Nat.mod_eq_of_lt hN, hb] at e1
    simp only [if_true] at e1
    rw [e1, Nat.xor_assoc, Nat.xor_self, Nat.xor_zero]
    exact Nat.mod_lt _ (Nat.pow_pos (by decide))
  · rename_i hb
    have e1 := mod_bit N i
    rw [Nat.mod_eq_of_lt hN] at e1
    simp only [hb, Bool.false_eq_true, if_false, Nat.xor_zero] at e1
    rw [e1]
    exact Nat.mod_lt _ (Nat.pow_pos (by decide))
theorem rd_phi : ∀ (t N : Nat), t ≤ 127 → N < 2 ^ (128 + t) → phi T (rd p t N) = phi T N ∧ rd p t N < 2 ^ 128
  | 0, _, _, hN => ⟨rfl, hN⟩
  | t + 1, N, ht, hN => by
    have h1 := stp_lt h (128 + t) N (by omega) hN
    have h2 := phi_stp h (128 + t) N (by omega) (by omega)
    obtain ⟨h3, h4⟩ := rd_phi t _ (by omega) h1
    exact ⟨by rw [rd, h3, h2], h4⟩
theorem phi_small (N : Nat) (hN : N < 2 ^ 128) : phi T N = N := by
  have e : N = xs 128 fun i => if N.testBit i then 2 ^ i else 0 := by rw [xs_bits, Nat.mod_eq_of_lt hN]
  conv => lhs; rw [e]
  rw [phi_xs]
  conv => rhs; rw [e]
  exact xs_congr fun i hi => by
    cases N.testBit i
    · exact phi_zero T
    · simp only [if_true]; rw [phi_pow T i (by omega), h.base i hi]
theorem rd_is (t N : Nat) (ht : t ≤ 127) (hN : N < 2 ^ (128 + t)) : rd p t N = phi T N := by
  obtain ⟨h1, h2⟩ := rd_phi h t N ht hN
  rw [← h1, phi_small h _ h2]
theorem phi_mul (B i : Nat) (hB : B < 2 ^ 128) (hi : i < 128) : phi T (B * 2 ^ i) = it T i B := by
  have mx : ∀ n (f : Nat → Nat), (xs n f) * 2 ^ i = xs n fun j => f j * 2 ^ i := fun n f => by
    induction n with
    | zero => simp [xs]
    | succ n ih => rw [xs, xs, mul_xor, ih]
  have e : B = xs 128 fun j => if B.testBit j then 2 ^ j else 0 := by rw [xs_bits, Nat.mod_eq_of_lt hB]
  conv => lhs; rw [e]
  rw [mx, phi_xs]
  conv => rhs; rw [e]
  rw [(h.lin.iter i).xs (fun j hj => by
    split
    · exact Nat.pow_lt_pow_right (by decide) hj
    · decide)]
  exact xs_congr fun j hj => by
    cases B.testBit j
    · simp only [Bool.false_eq_true, if_false, Nat.zero_mul]; rw [phi_zero, (h.lin.iter i).zero]
    · simp only [if_true]
      rw [← Nat.pow_add, phi_pow T _ (by omega), ← h.base j hj, ← it_add, Nat.add_comm]
theorem phi_clm (A B : Nat) (hB : B < 2 ^ 128) : phi T (clm A B) = xs 128 fun i => if A.testBit i then it T i B else 0 := by
  unfold clm
  rw [phi_xs]
  exact xs_congr fun i hi => by
    cases A.testBit i
    · exact phi_zero T
    · simp only [if_true]; rw [Nat.mod_eq_of_lt hB, phi_mul h B i hB hi]
omit h in
theorem clm_lt (A B : Nat) : clm A B < 2 ^ 255 := xs_lt fun i hi => by
  split
  · have h1 : B % 2 ^ 128 < 2 ^ 128 := Nat.mod_lt _ (by decide)
    calc (B % 2 ^ 128) * 2 ^ i < 2 ^ 128 * 2 ^ i := (Nat.mul_lt_mul_right (Nat.pow_pos (by decide))).2 h1
      _ = 2 ^ (128 + i) := by rw [← Nat.pow_add]
      _ ≤ 2 ^ 255 := Nat.pow_le_pow_right (by decide) (by omega)
  · exact Nat.pow_pos (by decide)
theorem rd_clm (A B : Nat) (hB : B < 2 ^ 128) : rd p 127 (clm A B) = xs 128 fun i => if A.testBit i then it T i B else 0 := by
  rw [rd_is h 127 _ (Nat.le_refl _) (clm_lt A B), phi_clm h A B hB]
end

def p7 (k : Nat) : Nat := if k = 0 then 7 else if k = 1 then 2 else if k = 2 then 1 else 0
def pd (k : Nat) : Nat := if k = 0 then 127 else if k = 1 then 126 else if k = 2 then 121 else 0
def dbP (a : Nat) : Nat := (a * 2 % 2 ^ 128) ^^^ (if 2 ^ 127 ≤ a then 2 ^ 127 + 2 ^ 126 + 2 ^ 121 + 1 else 0)
theorem dbP_lin : Lin dbP := ⟨fun a _ => Nat.xor_lt_two_pow (Nat.mod_lt _ (by decide)) (by split <;> decide), fun a b ha hb => by
  unfold dbP
  have e : (a ^^^ b) * 2 % 2 ^ 128 = (a * 2 % 2 ^ 128) ^^^ (b * 2 % 2 ^ 128) := by
    rw [← Nat.xor_mod_two_pow]
    congr 1
    have := Nat.shiftLeft_xor_distrib (a := a) (b := b) (i := 1)
    simpa [Nat.shiftLeft_eq] using this
  rw [e]
  simp only [le_testBit a ha, le_testBit b hb, le_testBit _ (Nat.xor_lt_two_pow ha hb), Nat.testBit_xor]
  cases a.testBit 127 <;> cases b.testBit 127
  · simp
  · simp only [Bool.false_xor, Bool.false_eq_true, if_true, if_false, Nat.xor_zero]; ac_rfl
  · simp only [Bool.xor_false, Bool.false_eq_true, if_true, if_false, Nat.xor_zero]; ac_rfl
  · simp only [Bool.xor_self, Bool.false_eq_true, if_true, if_false, Nat.xor_zero]
    rw [show ∀ x y z : Nat, (x ^^^ z) ^^^ (y ^^^ z) = (x ^^^ y) ^^^ (z ^^^ z) from fun x y z => by ac_rfl, Nat.xor_self, Nat.xor_zero]⟩
theorem mod7 : Mod dblN p7 := ⟨dbl_lin, times_base, by decide +kernel, by decide⟩
theorem modP : Mod dbP pd := ⟨dbP_lin, by decide +kernel, by decide +kernel, by decide⟩
theorem hlf_dbP_base : ∀ j, j < 128 → hlfN (dbP (2 ^ j)) = 2 ^ j := by decide +kernel
theorem hlf_dbP (a : Nat) (ha : a < 2 ^ 128) : hlfN (dbP a) = a := by
  have e : a = xs 128 fun j => if a.testBit j then 2 ^ j else 0 := by rw [xs_bits, Nat.mod_eq_of_lt ha]
  have pw : ∀ i, i < 128 → (if a.testBit i then 2 ^ i else 0) < 2 ^ 128 := fun i hi => by
    split
    · exact Nat.pow_lt_pow_right (by decide) hi
    · decide
  conv => lhs; rw [e]
  rw [dbP_lin.xs pw, hlf_lin.xs (fun i hi => dbP_lin.lt _ (pw i hi))]
  conv => rhs; rw [e]
  exact xs_congr fun i hi => by
    rw [dbP_lin.ite, hlf_lin.ite]
    cases a.testBit i
    · rfl
    · exact hlf_dbP_base i hi
theorem hlf_it (B : Nat) (hB : B < 2 ^ 128) : ∀ i n, i ≤ n → it hlfN n (it dbP i B) = it hlfN (n - i) B
  | 0, n, _ => by rw [Nat.sub_zero]; rfl
  | i + 1, n, h => by
    obtain ⟨m, rfl⟩ : ∃ m, n = m + 1 := ⟨n - 1, by omega⟩
    have e : it hlfN (m + 1) (it dbP (i + 1) B) = it hlfN m (hlfN (dbP (it dbP i B))) := it_add hlfN 1 m _
    rw [e, hlf_dbP _ ((dbP_lin.iter i).lt B hB), hlf_it B hB i m (by omega), show m + 1 - (i + 1) = m - i by omega]
/-- the document's Dot -/
theorem dot_ref (A B : Nat) (hA : A < 2 ^ 128) (hB : B < 2 ^ 128) : it hlfN 128 (rd pd 127 (clm A B)) = dotN A B 128 := by
  rw [rd_clm modP A B hB, (hlf_lin.iter 128).xs (fun i _ => by
    split
    · exact (dbP_lin.iter i).lt B hB
    · decide), dot_comm A B hA hB, dot_sum B A hB]
  exact xs_congr fun i hi => by rw [(hlf_lin.iter 128).ite, hlf_it B hB i 128 (by omega)]
/-- the document's Times -/
theorem times_ref (a b : Nat) : revN (rd p7 127 (clm (revN a) (revN b))) = Frob.tm a b := by
  rw [rd_clm mod7 _ _ (revN_lt b), Frob.tm_comm]; rfl
/-- the document's Double -/
theorem double_ref (a : Nat) (ha : a < 2 ^ 128) : rd p7 1 (a * 2) = dblN a := by
  rw [rd_is mod7 1 _ (by decide) (by omega), show a * 2 = a * 2 ^ 1 from rfl, phi_mul mod7 a 1 ha (by decide)]; rfl
end Go.Proofs.Ytfchbodbkdkcfaa.Ref
