/- Double of the document's own functions. -/
import Derived.Test.YtfchbodbkdkcfaaRefAlg
namespace Go.Proofs.Ytfchbodbkdkcfaa.Ref
open Go.RowKit Go.Lib
open Go.Proofs.Ytfchbodbkdkcfaa.Blk Go.Proofs.Ytfchbodbkdkcfaa.Poly Go.Proofs.Ytfchbodbkdkcfaa.Field Go.Proofs.Ytfchbodbkdkcfaa.Ints Go.Proofs.Ytfchbodbkdkcfaa.Alg

theorem LI.four7 (w : World) : LI (w.alloc (.cells #[.int .i64 7, .int .i64 2, .int .i64 1, .int .i64 0] 3)) 3 w.heap.size 0 4 4 4 (fun k => (p7 k : Int)) (fun k => (p7 k : Int)) :=
  ⟨Arr.new w .i64 4 3 (fun k => (p7 k : Int)), by decide, by decide, by decide, fun i _ => by rw [Nat.zero_add]⟩
theorem LI.fourP (w : World) : LI (w.alloc (.cells #[.int .i64 127, .int .i64 126, .int .i64 121, .int .i64 0] 3)) 3 w.heap.size 0 4 4 4 (fun k => (pd k : Int)) (fun k => (pd k : Int)) :=
  ⟨Arr.new w .i64 4 3 (fun k => (pd k : Int)), by decide, by decide, by decide, fun i _ => by rw [Nat.zero_add]⟩
theorem LI.grown {w w' : World} {t : TypeId} {g off n cap m b : Nat} {F f : Nat → Int} (h : LI w t g off n cap m F f) (hg : w.grownBy w' (some b)) (hne : g ≠ b) : LI w' t g off n cap m F f := ⟨h.arr.grown hg hne, h.le, h.len, h.max, h.eq⟩
theorem LI.alloc {w : World} {t : TypeId} {g off n cap m : Nat} {F f : Nat → Int} (h : LI w t g off n cap m F f) (o : Obj) : LI (w.alloc o) t g off n cap m F f := ⟨h.arr.alloc o, h.le, h.len, h.max, h.eq⟩
theorem LI.first {w : World} {t : TypeId} {g off n cap m k : Nat} {F f : Nat → Int} (h : LI w t g off n cap m F f) (hk : k ≤ n) : LI w t g off k cap m F f := ⟨h.arr, h.le, Nat.le_trans hk h.len, h.max, fun i hi => h.eq i (by omega)⟩
theorem bit_double (a j : Nat) : bitI (a * 2) j = if j < 1 then 0 else bitI a (j - 1) := by
  unfold bitI
  cases j with
  | zero => simp [Nat.testBit_zero]
  | succ j =>
    have e : (a * 2).testBit (j + 1) = a.testBit j := by rw [Nat.testBit_succ, Nat.mul_div_cancel _ (by decide)]
    rw [e]; simp

structure R2 (a : Nat) (B : Nat) (w wr : World) : Prop where
  a : Arr wr B .u8 16 48 (fun i => (byt a i : Int))
  r : Arr wr (B + 1) .u8 16 48 (fun _ => 0)
  bel : Below B w wr
  size : B + 2 ≤ wr.heap.size
theorem r2_start (a : Nat) (w : World) : R2 a w.heap.size w ((w.alloc (.cells (arr .u8 16 fun i => (byt a i : Int)) 48)).alloc (.cells (arr .u8 16 fun _ => 0) 48)) :=
  ⟨(Arr.new w .u8 16 _ _).alloc _, by
    have := (Arr.new (w.alloc (.cells (arr .u8 16 fun i => (byt a i : Int)) 48)) .u8 16 48 fun _ => 0)
    simp only [World.size_alloc] at this
    exact this, ((Below.refl _ _).alloc (Nat.le_refl _) _).alloc (by simp) _, by simp⟩
theorem R2.belowN {a B N : Nat} {w wr w' : World} (h : R2 a B w wr) (hb : Below N wr w') (hN : B + 2 ≤ N) : R2 a B w w' :=
  ⟨h.a.below hb (by omega), h.r.below hb (by omega), h.bel.trans (hb.mono (by omega)), Nat.le_trans h.size hb.size⟩

set_option maxRecDepth 100000 in
set_option maxHeartbeats 1000000 in
theorem rdouble_any (a : Nat) (ha : a < 2 ^ 128) (w : World) : Calls Try.prog 22 #[B16 a] w fun e w' => e = .returned (B16 (dblN a)) ∧ Below w.heap.size w w' := by
  obtain ⟨I, hI⟩ := int_ty
  have TI := Lib.hid hI
  have H0 := Lib.hid (r2_start a w)
  have HA := Lib.hid ha
  rw [zero16] at H0
  clear hI ha
  go_enter Try.func22, Try.ntmps22
  go_upto_region 1 with fail
  generalize ((w.alloc (.cells (arr .u8 16 fun i => (byt a i : Int)) 48)).alloc (.cells #[.int .u8 0, .int .u8 0, .int .u8 0, .int .u8 0, .int .u8 0, .int .u8 0, .int .u8 0, .int .u8 0, .int .u8 0, .int .u8 0, .int .u8 0, .int .u8 0, .int .u8 0, .int .u8 0, .int .u8 0, .int .u8 0] 48)) = w1 at *
  have Z0 := Lib.hid (LI.single w1 3 0)
  go_wp2_with (first | (refine wpList_load_arr rfl 48 _ rfl _ rfl (H0.out.a.alloc _) Try.underlying48 rfl info16 ?_) | fail)
  refine (little_any a _).mono ?_
  rintro e w3 ⟨g, cap, m, F, rfl, hg, hl, hb3⟩
  have hs3 := hb3.size
  simp only [World.size_alloc] at hg hs3
  have S1 := H0.out.size
  have Z3 := Lib.hid (Z0.out.below hb3 (by simp))
  have L3 := Lib.hid hl
  have R3 := Lib.hid ((H0.out.belowN ((Below.refl w1.heap.size w1).alloc (Nat.le_refl _) (.cells #[.int .i64 0] 3)) S1).belowN hb3 (by simp; omega))
  clear hl hb3 H0 Z0
  go_wp2_with (first | (refine Held.p_wp rfl (w_append_ints TI.out _ _ rfl rfl Z3.out rfl L3.out (.inl (by omega)) (by omega) ?_); intro g4 o4 c4 m4 F4 w4 h4 hG4 hor) | fail)
  rcases hor with ⟨rfl, rfl, rfl, rfl, _⟩ | ⟨rfl, rfl, _, hG4n⟩
  · exact absurd h4.len (by omega)
  have hs4 := hG4n.size
  have L4 : Hid (LI w4 3 w3.heap.size 0 (128 + 1) c4 m4 F4 (bitI (a * 2))) := Lib.hid (h4.congr fun i _ => (bit_double a i).symm)
  have lt4 := h4.arr.lt
  have R4 : Hid (R2 a w.heap.size w w4) := Lib.hid (R3.out.belowN (Held.gb_below (B := w1.heap.size) hG4 (by omega) (by intro q hq; cases hq; omega)) S1)
  clear h4 hG4 hG4n Z3 L3 R3
  refine (reduced_any (a * 2) p7 (by decide) w3.heap.size (128 + 1) c4 m4 F4 1 rfl (by decide) w4.heap.size 0 4 4 (fun k => (p7 k : Int)) _ (LI.alloc L4.out _) (LI.four7 w4) (by omega)).mono ?_
  rintro e w5 ⟨rfl, ⟨G, hl5⟩, hG5, hs5⟩
  simp only [World.size_alloc] at hs5
  rw [double_ref a HA.out] at hl5
  have L5 := Lib.hid (LI.first (k := 128) hl5 (by omega))
  have R5 : Hid (R2 a w.heap.size w w5) := Lib.hid ((R4.out.belowN ((Below.refl w4.heap.size w4).alloc (Nat.le_refl _) _) R4.out.size).belowN (Held.gb_below (B := w3.heap.size) hG5 (by simp; omega) (by intro q hq; cases hq; omega)) (by omega))
  clear hl5 hG5 L4 R4
  go_wp2_with fail
  refine (fromLittle_any (dblN a) w3.heap.size 0 c4 m4 G w5 L5.out).mono ?_
  rintro e w6 ⟨rfl, hb6⟩
  rw [Nat.mod_eq_of_lt (dblN_lt a)]
  have R6 := Lib.hid (R5.out.belowN hb6 R5.out.size)
  clear hb6 R5 L5
  go_wp2_with (first | (refine wpList_store_arr rfl 48 _ _ rfl _ rfl rfl R6.out.r info16 ?_; intro w7 hA hG hS))
  exact ret_arr rfl rfl hA Try.underlying48 rfl info16 rfl ⟨rfl, R6.out.bel.grown hG R6.out.bel.size (by intro j hj; cases hj; omega)⟩
end Go.Proofs.Ytfchbodbkdkcfaa.Ref
