/- Contracts of the document's own functions on bits (cofferref03). -/
import Derived.Test.YtfchbodbkdkcfaaInts
import Derived.Test.YtfchbodbkdkcfaaField
namespace Go.Proofs.Ytfchbodbkdkcfaa.Ref
open Go.RowKit Go.Lib
open Go.Proofs.Ytfchbodbkdkcfaa.Blk Go.Proofs.Ytfchbodbkdkcfaa.Poly Go.Proofs.Ytfchbodbkdkcfaa.Field Go.Proofs.Ytfchbodbkdkcfaa.Ints

theorem arr_single (x : Int) : arr .i64 1 (fun _ => x) = #[.int .i64 x] := rfl
theorem LI.single (w : World) (t : TypeId) (x : Int) : LI (w.alloc (.cells #[.int .i64 x] t)) t w.heap.size 0 1 1 1 (fun _ => x) (fun _ => x) :=
  ⟨Arr.new w .i64 1 t (fun _ => x), Nat.le_refl _, Nat.le_refl _, by decide, fun _ _ => rfl⟩
theorem bit_byt (n i k : Nat) (hk : k < 8) : (((byt n i : Int) / 2 ^ k).tmod 2) = bitI n (8 * i + k) := by
  have e : ((byt n i : Int) / 2 ^ k) = ((byt n i / 2 ^ k : Nat) : Int) := by simp
  rw [e, Int.tmod_eq_emod_of_nonneg (Int.natCast_nonneg _)]
  unfold bitI
  rw [← testBit_byt n i k hk, Nat.testBit_eq_decide_div_mod_eq]
  by_cases h : byt n i / 2 ^ k % 2 = 1
  · simp only [h, decide_true, if_true]; omega
  · simp only [h, decide_false, Bool.false_eq_true, if_false]; omega

set_option maxRecDepth 100000 in
set_option maxHeartbeats 1000000 in
theorem little_any (n : Nat) (w : World) : Calls Try.prog 33 #[B16 n] w fun e w' =>
    ∃ g cap m F, e = .returned (.slice (some ⟨g, 0, none⟩) 128 cap) ∧ w.heap.size ≤ g ∧ LI w' 3 g 0 128 cap m F (bitI n) ∧ Below w.heap.size w w' := by
  obtain ⟨I, hI⟩ := int_ty
  have TI := Lib.hid hI
  clear hI
  have A0 := Lib.hid (Arr.new w .u8 16 48 fun i => (byt n i : Int))
  have B0 := Lib.hid ((Below.refl w.heap.size w).alloc (Nat.le_refl _) (.cells (arr .u8 16 fun i => (byt n i : Int)) 48))
  have Z0 : Hid ((w.alloc (.cells (arr .u8 16 fun i => (byt n i : Int)) 48)).heap.size = w.heap.size + 1) := Lib.hid (by simp)
  go_enter Try.func33, Try.ntmps33
  go_wp2
  generalize w.alloc (.cells (arr .u8 16 fun i => (byt n i : Int)) 48) = w1 at *
  go_loopw [4, 3] (fun i l wr => ∃ k : Nat, k ≤ 16 ∧ i = .int .i64 k ∧ OL wr w1.heap.size 3 l (8 * k) (bitI n) ∧ Below w1.heap.size w1 wr) (fun i _ _ => 16 - (intOf i).toNat)
  case atStart => exact ⟨0, by omega, rfl, .inl ⟨rfl, rfl⟩, Below.refl _ _⟩
  case round =>
    obtain ⟨i, hi, rfl, hl, hb⟩ := hrel
    have HL := Lib.hid hl
    have HB := Lib.hid hb
    clear hl hb
    by_cases hlt : i < 16
    · go_wp2
      go_loopw [5, 3] (fun k l wr => ∃ j : Nat, j ≤ 8 ∧ k = .int .i64 j ∧ OL wr w1.heap.size 3 l (8 * i + j) (bitI n) ∧ Below w1.heap.size w1 wr) (fun k _ _ => 8 - (intOf k).toNat)
      case atStart => exact ⟨0, by omega, rfl, HL.out, HB.out⟩
      case round =>
        obtain ⟨j, hj, rfl, hl2, hb2⟩ := hrel
        have HL2 := Lib.hid hl2
        have HB2 := Lib.hid hb2
        clear hl2 hb2
        by_cases hlt2 : j < 8
        · have c1 := (A0.out.below HB2.out A0.out.lt).cell hlt
          have hx := byt_lt n i
          have BB : Hid ((((byt n i : Int) / 2 ^ j).tmod 2) = bitI n (8 * i + j)) := Lib.hid (bit_byt n i j hlt2)
          have hsz := HB2.out.size
          generalize byt n i = x at c1 hx BB
          have SG := Lib.hid (LI.single wr 3 (((x : Int) / 2 ^ j).tmod 2))
          have O2 : Hid (OL (wr.alloc (.cells #[.int .i64 (((x : Int) / 2 ^ j).tmod 2)] 3)) w1.heap.size 3 u3 (8 * i + j) (bitI n)) := Lib.hid (HL2.out.keep ((Below.refl _ _).alloc (Nat.le_refl _) _))
          go_wp2_with (first | (refine Held.p_wp rfl (w_append_ol TI.out w1.heap.size _ _ rfl (by simp; omega) rfl O2.out rfl SG.out ?_ (by decide) (by omega) ?_); (intro g hg; have := (OL.lt HL2.out hg).2; omega); intro v7 w7 h7 b7 g7) | fail)
          refine ⟨⟨j + 1, by omega, by omega, h7.congr fun q hq => ?_, HB2.out.trans (((Below.refl _ _).alloc hsz _).trans b7)⟩, by simp [intOf]; omega⟩
          by_cases e : q < 8 * i + j
          · rw [if_pos e]
          · obtain rfl : q = 8 * i + j := by omega
            rw [if_neg e, BB.out]
        · obtain rfl : j = 8 := by omega
          go_wp2
          go_roundw
          case rel => exact ⟨i + 1, by omega, by go_num, HL2.out, HB2.out⟩
          case measure => simp [intOf]; omega
    · obtain rfl : i = 16 := by omega
      go_wp2
      go_ret
      rcases HL.out with ⟨_, h0⟩ | ⟨g, cap, m, F, rfl, hg, hli⟩
      · omega
      · exact ⟨g, cap, m, F, rfl, by have := Z0.out; omega, hli, B0.out.trans (HB.out.mono (by have := Z0.out; omega))⟩
end Go.Proofs.Ytfchbodbkdkcfaa.Ref
