/- fromLittle, turned, plus of the document's own functions. -/
import Derived.Test.YtfchbodbkdkcfaaRef1
namespace Go.Proofs.Ytfchbodbkdkcfaa.Ref
open Go.RowKit Go.Lib
open Go.Proofs.Ytfchbodbkdkcfaa.Blk Go.Proofs.Ytfchbodbkdkcfaa.Poly Go.Proofs.Ytfchbodbkdkcfaa.Field Go.Proofs.Ytfchbodbkdkcfaa.Ints

theorem byt_mid (N q r : Nat) (hr : r ≤ 8) : byt (N % 2 ^ (8 * q + r)) q = N / 2 ^ (8 * q) % 2 ^ r := by
  unfold byt
  rw [pow256, Nat.pow_add, Nat.mod_mul_right_div_self]
  exact Nat.mod_eq_of_lt (Nat.lt_of_lt_of_le (Nat.mod_lt _ (Nat.pow_pos (by decide))) (Nat.pow_le_pow_right (n := 2) (by decide) hr))
theorem byt_above (N k q : Nat) (h : k ≤ 8 * q) : byt (N % 2 ^ k) q = 0 := by
  unfold byt
  rw [pow256, Nat.div_eq_of_lt (Nat.lt_of_lt_of_le (Nat.mod_lt _ (Nat.pow_pos (by decide))) (Nat.pow_le_pow_right (by decide) h))]
theorem byt_under (N k q : Nat) (h : 8 * q + 8 ≤ k) : byt (N % 2 ^ k) q = byt N q := by
  unfold byt
  obtain ⟨d, rfl⟩ : ∃ d, k = 8 * q + (8 + d) := ⟨k - (8 * q + 8), by omega⟩
  rw [pow256, Nat.pow_add, Nat.mod_mul_right_div_self, Nat.pow_add, show (256 : Nat) = 2 ^ 8 from rfl, Nat.mod_mul_right_mod]
/-- one bit more -/
theorem fl_step (N k : Nat) (hk : k < 128) : byt (N % 2 ^ k) (k / 8) + 2 ^ (k % 8) < 256 ∧ byt (N % 2 ^ k) (k / 8) < 2 ^ (k % 8) ∧ ∀ q, q < 16 → (byt (N % 2 ^ (k + 1)) q : Int) = if q = k / 8 then (if N.testBit k then ((byt (N % 2 ^ k) (k / 8) + 2 ^ (k % 8) : Nat) : Int) else byt (N % 2 ^ k) (k / 8)) else byt (N % 2 ^ k) q := by
  have hr : k % 8 < 8 := Nat.mod_lt _ (by decide)
  have hk8 : k = 8 * (k / 8) + k % 8 := by omega
  generalize k / 8 = q0 at hk8 ⊢
  generalize k % 8 = r at hk8 hr ⊢
  subst hk8
  have h1 := byt_mid N q0 r (by omega)
  have h2 := byt_mid N q0 (r + 1) (by omega)
  have hp : 2 ^ r ≤ 128 := Nat.pow_le_pow_right (n := 2) (i := r) (j := 7) (by decide) (by omega)
  have hm : N / 2 ^ (8 * q0) % 2 ^ r < 2 ^ r := Nat.mod_lt _ (Nat.pow_pos (by decide))
  refine ⟨by rw [h1]; omega, by rw [h1]; exact hm, fun q _ => ?_⟩
  by_cases e : q = q0
  · subst e
    rw [if_pos rfl, Nat.add_assoc, h2, h1, Nat.pow_succ, Nat.mod_mul]
    have tb : N.testBit (8 * q + r) = decide (N / 2 ^ (8 * q) / 2 ^ r % 2 = 1) := by rw [Nat.testBit_eq_decide_div_mod_eq, Nat.div_div_eq_div_mul, ← Nat.pow_add]
    rw [tb]
    rcases Nat.mod_two_eq_zero_or_one (N / 2 ^ (8 * q) / 2 ^ r) with h | h
    · rw [h]; simp
    · rw [h]; simp
  · rw [if_neg e]
    rcases Nat.lt_or_ge q q0 with h | h
    · rw [byt_under N _ q (by omega), byt_under N _ q (by omega)]
    · rw [byt_above N _ q (by omega), byt_above N _ q (by omega)]

structure FL (N : Nat) (B : Nat) (w wr : World) (k : Nat) : Prop where
  a : Arr wr B .u8 16 48 (fun _ => 0)
  b : Arr wr (B + 1) .u8 16 48 (fun q => (byt (N % 2 ^ k) q : Int))
  bel : Below B w wr
theorem fl_start (N : Nat) (w : World) : FL N w.heap.size w ((w.alloc (.cells (arr .u8 16 fun _ => 0) 48)).alloc (.cells (arr .u8 16 fun _ => 0) 48)) 0 :=
  ⟨(Arr.new w .u8 16 _ _).alloc _, by
    have := (Arr.new (w.alloc (.cells (arr .u8 16 fun _ => 0) 48)) .u8 16 48 fun _ => 0)
    simp only [World.size_alloc] at this
    exact this.congr fun i _ => by simp [byt, Nat.mod_one], ((Below.refl _ _).alloc (Nat.le_refl _) _).alloc (by simp) _⟩

set_option maxRecDepth 100000 in
set_option maxHeartbeats 1000000 in
theorem fromLittle_any (N : Nat) (g off cap m : Nat) (F : Nat → Int) (w : World) (h : LI w 3 g off 128 cap m F (bitI N)) : Calls Try.prog 34 #[.slice (some ⟨g, off, none⟩) 128 cap] w fun e w' =>
    e = .returned (B16 (N % 2 ^ 128)) ∧ Below w.heap.size w w' := by
  have H0 := Lib.hid (fl_start N w)
  rw [zero16] at H0
  have HL := Lib.hid h
  have HLT := Lib.hid h.arr.lt
  clear h
  go_enter Try.func34, Try.ntmps34
  go_wp2
  go_loopw [4] (fun i wr => ∃ k : Nat, k ≤ 128 ∧ i = .int .i64 k ∧ FL N w.heap.size w wr k) (fun i _ => 128 - (intOf i).toNat)
  case atStart => exact ⟨0, by omega, rfl, H0.out⟩
  case round =>
    obtain ⟨k, hk, rfl, hr⟩ := hrel
    have HR := Lib.hid hr
    clear hr
    by_cases hlt : k < 128
    · have cb := HR.out.b.cell (i := k / 8) (by omega)
      have fb := HR.out.b.free (k / 8)
      have cl := (HL.out.below HR.out.bel HLT.out).cell hlt
      have hx := byt_lt (N % 2 ^ k) (k / 8)
      obtain ⟨fs1, fs2, fs3⟩ := fl_step N k hlt
      have FS := Lib.hid fs3
      have BX : Hid (byt (N % 2 ^ k) (k / 8) + 2 ^ (k % 8) < 256 ∧ byt (N % 2 ^ k) (k / 8) < 2 ^ (k % 8)) := Lib.hid ⟨fs1, fs2⟩
      clear fs1 fs2 fs3
      generalize hxx : byt (N % 2 ^ k) (k / 8) = x at cb hx FS BX
      have HXX := Lib.hid hxx
      clear hxx
      unfold bitI at cl
      cases hb : N.testBit k
      · rw [hb] at cl
        simp only [Bool.false_eq_true, if_false] at cl
        have HBT := Lib.hid hb
        clear hb
        go_wp2
        go_region
        go_wp2
        go_roundw
        case rel =>
          refine ⟨k + 1, by omega, by go_num, ⟨HR.out.a.other (by simp) _, (HR.out.b.store (k / 8) _).congr fun q hq => ?_, (HR.out.bel.setCell (p := ⟨w.heap.size + 1, k / 8, none⟩) (by simp) _).drew⟩⟩
          rw [FS.out q hq, HBT.out]
          unfold upd
          split <;> simp
        case measure => simp [intOf]; omega
      · rw [hb] at cl
        simp only [if_true] at cl
        have HBT := Lib.hid hb
        clear hb
        go_wp2
        go_region
        go_wp2
        go_roundw
        case rel =>
          refine ⟨k + 1, by omega, by go_num, ⟨HR.out.a.other (by simp) _, (HR.out.b.store (k / 8) _).congr fun q hq => ?_, (HR.out.bel.setCell (p := ⟨w.heap.size + 1, k / 8, none⟩) (by simp) _).drew⟩⟩
          rw [FS.out q hq, HBT.out]
          unfold upd
          split
          · simp only [if_true]
            have e1 : wrap64 ((2 : Int) ^ (k % 8)) = ((2 ^ (k % 8) : Nat) : Int) := by
              have hp : 2 ^ (k % 8) ≤ 128 := Nat.pow_le_pow_right (n := 2) (i := k % 8) (j := 7) (by decide) (by have := Nat.mod_lt k (show 0 < 8 by decide); omega)
              rw [show ((2 : Int) ^ (k % 8)) = ((2 ^ (k % 8) : Nat) : Int) by simp]
              generalize 2 ^ (k % 8) = y at hp ⊢
              exact IntWalk.wrap64_in _ ⟨by omega, by omega⟩
            have := BX.out
            rw [e1]
            generalize 2 ^ (k % 8) = y at this ⊢
            omega
          · rfl
        case measure => simp [intOf]; omega
    · obtain rfl : k = 128 := by omega
      go_wp2_with (first | (refine wpList_load_arr rfl 48 _ rfl _ rfl HR.out.b Try.underlying48 rfl info16 ?_) | (refine wpList_store_arr rfl 48 _ _ rfl _ rfl rfl HR.out.a info16 ?_; intro w2 hA hG hS))
      exact ret_arr rfl rfl hA Try.underlying48 rfl info16 rfl ⟨rfl, HR.out.bel.grown hG (Nat.le_trans (Nat.le_refl _) HR.out.bel.size) (by intro j hj; cases hj; omega)⟩
end Go.Proofs.Ytfchbodbkdkcfaa.Ref
