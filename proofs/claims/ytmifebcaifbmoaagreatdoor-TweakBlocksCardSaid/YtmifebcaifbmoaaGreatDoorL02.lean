/- Parts of the proof of TweakBlocks. Rj2: rijndael: the substitutions, made by going through the field. Rj3: rijndael: the inverse of the substitutions. Rj4: rijndael: tables of columns. -/
import Derived.Test.YtmifebcaifbmoaaGreatDoorL00
import Derived.Test.YtmifebcaifbmoaaGreatDoorL01
/- Rj2 -/
section
namespace Go.Proofs.YtmifebcaifbmoaaGreatDoor.Rj
open Go.RowKit Go.Lib Go.Proofs.YtmifebcaifbmoaaGreatDoor.Blk Go.Proofs.YtmifebcaifbmoaaGreatDoor.Aes

theorem lg_pw2 : ∀ i, i < 255 → lg (pw i) % 255 = i := by decide +kernel
theorem trn_lt (b n : Nat) (hb : b < 256) : trn b n < 256 := by
  unfold trn
  exact Nat.or_lt_two_pow (n := 8) (Nat.mod_lt _ (by decide)) (Nat.lt_of_le_of_lt (Nat.div_le_self _ _) hb)
theorem info256 : (Tryz.prog.info? 175).map (·.size) = some 256 := by kernel_rfl
/-- the table while it is made -/
structure SubT (f : Nat → Int) (i : Nat) : Prop where
  z : f 0 = 99
  s : ∀ j, 1 ≤ j → j ≤ i → f (pw j) = (S (pw j) : Nat)
theorem SubT.step {f : Nat → Int} {i : Nat} (h : SubT f i) (hi : i < 255) : SubT (upd f (pw (i + 1)) ((aff (qw (i + 1)) : Nat) : Int)) (i + 1) := by
  have hp : pw (i + 1) ≠ 0 := by
    have : ∀ i, i < 256 → pw i ≠ 0 := by decide +kernel
    exact this _ (by omega)
  refine ⟨?_, fun j h1 h2 => ?_⟩
  · unfold upd
    rw [if_neg (fun e => hp e.symm)]
    exact h.z
  · unfold upd
    split
    · rename_i e
      rw [S_pw (i + 1) (by omega) (by omega), e]
    · exact h.s j h1 (by
        rcases Nat.lt_or_ge i j with h3 | h3
        · obtain rfl : j = i + 1 := by omega
          rename_i e
          exact absurd rfl e
        · exact h3)
theorem SubT.all {f : Nat → Int} (h : SubT f 255) : ∀ b, b < 256 → f b = (S b : Nat) := fun b hb => by
  rcases Nat.eq_zero_or_pos b with rfl | hp
  · rw [h.z, S_zero]; rfl
  · obtain ⟨h1, h2, h3⟩ := lg_pw b hb hp
    rw [← h3]
    exact h.s _ h1 (by omega)
structure SubW (B : Nat) (w wr : World) (f : Nat → Int) (i : Nat) : Prop where
  r : Arr wr B .u8 256 175 (fun _ => 0)
  t : Arr wr (B + 1) .u8 256 175 f
  bel : Below B w wr
  sub : SubT f i

theorem times_pw (i : Nat) (hi : i < 255) (w : World) : Calls Tryz.prog 170 #[.int .u8 (pw i), .int .u8 3] w fun e w' => e = .returned (.int .u8 (pw (i + 1) : Nat)) ∧ w = w' := by
  rw [pw_succ i hi]
  exact times_any (pw i) 3 (pw_lt i (by omega)) (by decide) w
theorem times_qw (i : Nat) (hi : i < 255) (w : World) : Calls Tryz.prog 170 #[.int .u8 (qw i), .int .u8 246] w fun e w' => e = .returned (.int .u8 (qw (i + 1) : Nat)) ∧ w = w' := by
  rw [qw_succ i hi]
  exact times_any (qw i) 246 (qw_lt i (by omega)) (by decide) w
theorem turn_1 (b : Nat) (hb : b < 256) (w : World) : Calls Tryz.prog 171 #[.int .u8 b, .int .u64 1] w fun e w' => e = .returned (.int .u8 (trn b 1 : Nat)) ∧ w = w' := turn_any b 1 hb (by decide) (by decide) w
theorem turn_2 (b : Nat) (hb : b < 256) (w : World) : Calls Tryz.prog 171 #[.int .u8 b, .int .u64 2] w fun e w' => e = .returned (.int .u8 (trn b 2 : Nat)) ∧ w = w' := turn_any b 2 hb (by decide) (by decide) w
theorem turn_3 (b : Nat) (hb : b < 256) (w : World) : Calls Tryz.prog 171 #[.int .u8 b, .int .u64 3] w fun e w' => e = .returned (.int .u8 (trn b 3 : Nat)) ∧ w = w' := turn_any b 3 hb (by decide) (by decide) w
theorem turn_4 (b : Nat) (hb : b < 256) (w : World) : Calls Tryz.prog 171 #[.int .u8 b, .int .u64 4] w fun e w' => e = .returned (.int .u8 (trn b 4 : Nat)) ∧ w = w' := turn_any b 4 hb (by decide) (by decide) w
theorem aff_eq (q : Nat) (h : q < 256) : bits .xor .u8 (bits .xor .u8 (bits .xor .u8 (bits .xor .u8 (bits .xor .u8 (q : Int) (trn q 1 : Nat)) (trn q 2 : Nat)) (trn q 3 : Nat)) (trn q 4 : Nat)) 99 = ((aff q : Nat) : Int) := by
  have t1 := trn_lt q 1 h
  have t2 := trn_lt q 2 h
  have t3 := trn_lt q 3 h
  have t4 := trn_lt q 4 h
  rw [xor_u8 _ _ h t1, xor_u8 _ _ (xor_lt h t1) t2, xor_u8 _ _ (xor_lt (xor_lt h t1) t2) t3, xor_u8 _ _ (xor_lt (xor_lt (xor_lt h t1) t2) t3) t4, show ((99 : Int)) = ((99 : Nat) : Int) from rfl, xor_u8 _ _ (xor_lt (xor_lt (xor_lt (xor_lt h t1) t2) t3) t4) (by decide), aff]

set_option maxRecDepth 100000 in
set_option maxHeartbeats 2000000 in
theorem substitutions_any (w : World) : Calls Tryz.prog 145 #[] w fun e w' => e = .returned (.agg (arr .u8 256 fun i => (S i : Nat))) ∧ Below w.heap.size w w' := by
  have z256 : (Tryz.prog.info? 175).bind (·.zero) = some (.agg (arr .u8 256 fun _ => 0)) := by kernel_rfl
  go_enter Tryz.func145, Tryz.ntmps145
  go_upto_region 0 with fail
  refine wp_region_lit ?_
  refine New.p_newarr rfl 175 rfl .u8 256 z256 ?_
  intro w1 hr g1 s1
  refine wpList_nil ?_
  simp only [Act.put, sA9, sB9]
  have R1 := Lib.hid hr
  have G1 := Lib.hid g1
  have S1 := Lib.hid s1
  clear hr g1 s1
  go_upto_region 1 with fail
  refine wp_region_lit ?_
  refine New.p_newarr rfl 175 rfl .u8 256 z256 ?_
  intro w2 ht g2 s2
  refine wpList_nil ?_
  simp only [Act.put, sA9, sB9, sC9]
  have R2 := Lib.hid ht
  have G2 := Lib.hid g2
  rw [S1.out]
  have c0 := ht.cell (i := 0) (by decide)
  have f0 := ht.free 0
  rw [S1.out] at c0 f0
  have W0 : Hid (SubW w.heap.size w (w2.setCell ⟨w.heap.size + 1, 0, none⟩ (.int .u8 99)) (upd (fun _ => 0) 0 99) 0) := Lib.hid ⟨by
      have h := Arr.below (R1.out) (w' := w2) (B := w.heap.size + 1) ⟨g2.os, g2.tape, g2.output, g2.size, fun k hk => g2.block k (by have := S1.out; omega) (by simp)⟩ (by omega)
      exact h.other (by simp) _, by have := ht; rw [S1.out] at this; exact this.store 0 99,
      (((Below.refl w.heap.size w).grown G1.out (Nat.le_refl _) (by simp)).grown g2 (by have := S1.out; omega) (by simp)).setCell (by simp) _, ⟨rfl, fun j h1 h2 => by omega⟩⟩
  clear ht g2
  go_wp2
  go_loopw [2, 3] (fun p q wr => ∃ (i : Nat) (f : Nat → Int), i < 255 ∧ p = .int .u8 (pw i : Nat) ∧ q = .int .u8 (qw i : Nat) ∧ SubW w.heap.size w wr f i) (fun p _ _ => 255 - (lg (RowKit.intOf p).toNat % 255))
  case atStart => exact ⟨0, _, by decide, rfl, rfl, W0.out⟩
  case round =>
    obtain ⟨i, f, hi, rfl, rfl, hw⟩ := hrel
    have HW := Lib.hid hw
    have AF := Lib.hid (aff_eq (qw (i + 1)) (qw_lt _ (by omega)))
    have hp1 := pw_lt (i + 1) (by omega)
    have hq1 := qw_lt (i + 1) (by omega)
    have hcell := hw.t.cell hp1
    have hfr := hw.t.free (pw (i + 1))
    clear hw c0 f0
    go_wp2_with fail
    refine (times_pw i hi _).mono ?_
    rintro e w' ⟨rfl, rfl⟩
    go_wp2_with fail
    refine (times_qw i hi _).mono ?_
    rintro e w' ⟨rfl, rfl⟩
    go_wp2_with fail
    refine (turn_1 _ hq1 _).mono ?_
    rintro e w' ⟨rfl, rfl⟩
    go_wp2_with fail
    refine (turn_2 _ hq1 _).mono ?_
    rintro e w' ⟨rfl, rfl⟩
    go_wp2_with fail
    refine (turn_3 _ hq1 _).mono ?_
    rintro e w' ⟨rfl, rfl⟩
    go_wp2_with fail
    refine (turn_4 _ hq1 _).mono ?_
    rintro e w' ⟨rfl, rfl⟩
    by_cases hend : i + 1 = 255
    · obtain rfl : i = 254 := by omega
      have hb : (((pw (254 + 1) : Nat) : Int) == 1) = true := by decide +kernel
      go_upto_region 8 with fail
      rw [AF.out]
      have HX : Hid (SubW w.heap.size w (wr.setCell ⟨w.heap.size + 1, pw (254 + 1), none⟩ (.int .u8 (aff (qw (254 + 1)) : Nat))) (upd f (pw (254 + 1)) ((aff (qw (254 + 1)) : Nat) : Int)) 255) := Lib.hid ⟨HW.out.r.other (by simp) _, HW.out.t.store _ _, HW.out.bel.setCell (by simp) _, HW.out.sub.step hi⟩
      generalize wr.setCell ⟨w.heap.size + 1, pw (254 + 1), none⟩ (.int .u8 (aff (qw (254 + 1)) : Nat)) = w5 at *
      generalize upd f (pw (254 + 1)) ((aff (qw (254 + 1)) : Nat) : Int) = f5 at HX
      go_wp2_with (first | (refine wpList_load_arr rfl 175 _ rfl _ rfl HX.out.t Tryz.underlying175 rfl info256 ?_) | (refine wpList_store_arr rfl 175 _ _ rfl _ rfl rfl HX.out.r info256 ?_; intro w6 hA hG hS))
      refine ret_arr rfl rfl hA Tryz.underlying175 rfl info256 rfl ⟨?_, HX.out.bel.grown hG HX.out.bel.size (by simp)⟩
      exact congrArg (fun x => Ending.returned (.agg x)) (arr_congr fun i hi => HX.out.sub.all i hi)
    · have hne := pw_ne (i + 1) (by omega) (by omega)
      have hb : (((pw (i + 1) : Nat) : Int) == 1) = false := by simp; omega
      go_wp2
      go_roundw
      case rel => exact ⟨i + 1, _, by omega, rfl, rfl, HW.out.r.other (by simp) _, HW.out.t.store _ _, HW.out.bel.setCell (by simp) _, by rw [AF.out]; exact HW.out.sub.step hi⟩
      case measure =>
        have e1 := lg_pw2 i hi
        have e2 := lg_pw2 (i + 1) (by omega)
        simp only [RowKit.intOf, Int.toNat_natCast]
        rw [e1, e2]
        omega
end Go.Proofs.YtmifebcaifbmoaaGreatDoor.Rj
end

/- Rj3 -/
section
namespace Go.Proofs.YtmifebcaifbmoaaGreatDoor.Rj
open Go.RowKit Go.Lib Go.Proofs.YtmifebcaifbmoaaGreatDoor.Blk Go.Proofs.YtmifebcaifbmoaaGreatDoor.Aes

structure InvW (B : Nat) (w wr : World) (f : Nat → Int) (i : Nat) : Prop where
  r : Arr wr (B + 1) .u8 256 175 (fun _ => 0)
  t : Arr wr (B + 2) .u8 256 175 f
  bel : Below B w wr
  inv : ∀ j, j < i → f (S j) = (j : Int)
theorem inv_step {f : Nat → Int} {i : Nat} (hi : i < 256) (h : ∀ j, j < i → f (S j) = (j : Int)) : ∀ j, j < i + 1 → upd f (S i) (i : Int) (S j) = (j : Int) := fun j hj => by
  unfold upd
  split
  · rename_i e
    have := congrArg U e
    rw [US j (by omega), US i hi] at this
    omega
  · refine h j ?_
    rcases Nat.lt_or_ge j i with h' | h'
    · exact h'
    · obtain rfl : j = i := by omega
      rename_i e
      exact absurd rfl e
theorem bel_of_gb {_B : Nat} {w w' : World} (h : w.grownBy w' none) : Below w.heap.size w w' := ⟨h.os, h.tape, h.output, h.size, fun k hk => h.block k hk (by simp)⟩

set_option maxRecDepth 100000 in
set_option maxHeartbeats 2000000 in
theorem inverse_any (w : World) : Calls Tryz.prog 146 #[.agg (arr .u8 256 fun i => (S i : Nat))] w fun e w' => e = .returned (.agg (arr .u8 256 fun i => (U i : Nat))) ∧ Below w.heap.size w w' := by
  have z256 : (Tryz.prog.info? 175).bind (·.zero) = some (.agg (arr .u8 256 fun _ => 0)) := by kernel_rfl
  have hi1 : (Tryz.prog.info? 5).map (·.size) = some 1 := by kernel_rfl
  have IX := Lib.hid (fun (i : Nat) (hi : i < 256) (w : World) => New.run_index_arr (P := Tryz.prog) Tryz.underlying175 Tryz.underlying5 hi1 (fun i => ((S i : Nat) : Int)) i hi w)
  go_enter Tryz.func146, Tryz.ntmps146
  go_upto_region 0 with fail
  refine wp_region_lit ?_
  refine New.p_box rfl 175 _ rfl .u8 256 (fun i => ((S i : Nat) : Int)) rfl ?_
  intro w1 h1 g1 s1
  simp only [Act.put, sA9, sB9, sC9]
  refine New.p_newarr rfl 175 rfl .u8 256 z256 ?_
  intro w2 h2 g2 s2
  refine wpList_nil ?_
  simp only [Act.put, sA9, sB9, sC9]
  have A1 := Lib.hid (h1.below (bel_of_gb (_B := 0) g2) h1.lt)
  have A2 := Lib.hid h2
  have G2 := Lib.hid (((Below.refl w.heap.size w).grown g1 (Nat.le_refl _) (by simp)).grown g2 (by omega) (by simp))
  have S2 := Lib.hid (s2.trans (by rw [s1]))
  have S1 := Lib.hid s1
  clear h1 g1 s1 h2 g2 s2
  go_upto_region 1 with fail
  refine wp_region_lit ?_
  refine New.p_newarr rfl 175 rfl .u8 256 z256 ?_
  intro w3 h3 g3 s3
  refine wpList_nil ?_
  simp only [Act.put, sA9, sB9, sC9]
  have hW : Hid (InvW w.heap.size w w3 (fun _ => 0) 0) := Lib.hid ⟨by
      have := A2.out.below (bel_of_gb (_B := 0) g3) A2.out.lt
      rw [S1.out] at this
      exact this, by rw [S2.out] at h3; exact h3, G2.out.grown g3 (by have := S2.out; omega) (by simp), fun j hj => by omega⟩
  have HA := Lib.hid (A1.out.below (bel_of_gb (_B := 0) g3) A1.out.lt)
  rw [S1.out, S2.out]
  clear h3 g3 s3 A1 A2 G2 S1 S2
  go_wp2_with (refine wpList_load_arr rfl 175 _ rfl _ rfl HA.out Tryz.underlying175 rfl info256 ?_)
  go_loopw [7] (fun p wr => ∃ (i : Nat) (f : Nat → Int), i ≤ 256 ∧ p = .int .i64 i ∧ InvW w.heap.size w wr f i) (fun p _ => 256 - (RowKit.intOf p).toNat)
  case atStart => exact ⟨0, _, by decide, rfl, hW.out⟩
  case round =>
    obtain ⟨i, f, hi, rfl, hw⟩ := hrel
    have HW := Lib.hid hw
    by_cases hlt : i < 256
    · have ix := IX.out i hlt
      have hs := S_lt i hlt
      have hcell := hw.t.cell hs
      have hfr := hw.t.free (S i)
      clear hw
      go_wp2
      go_roundw
      case rel => exact ⟨i + 1, _, by omega, by go_num, HW.out.r.other (by simp) _, HW.out.t.store _ _, HW.out.bel.setCell (by simp; omega) _, inv_step hlt HW.out.inv⟩
      case measure => simp [RowKit.intOf]; omega
    · obtain rfl : i = 256 := by omega
      clear hw
      go_wp2_with (first | (refine wpList_load_arr rfl 175 _ rfl _ rfl HW.out.t Tryz.underlying175 rfl info256 ?_) | (refine wpList_store_arr rfl 175 _ _ rfl _ rfl rfl HW.out.r info256 ?_; intro w6 hA hG hS))
      refine ret_arr rfl rfl hA Tryz.underlying175 rfl info256 rfl ⟨?_, HW.out.bel.grown hG HW.out.bel.size (by simp)⟩
      exact congrArg (fun x => Ending.returned (.agg x)) (arr_congr fun i hi => by rw [← SU i hi, HW.out.inv _ (U_lt i hi), SU i hi])
end Go.Proofs.YtmifebcaifbmoaaGreatDoor.Rj
end

/- Rj4 -/
section
namespace Go.Proofs.YtmifebcaifbmoaaGreatDoor.Rj
open Go.RowKit Go.Lib Go.Proofs.YtmifebcaifbmoaaGreatDoor.Blk Go.Proofs.YtmifebcaifbmoaaGreatDoor.Aes

/-- place x of a table of columns: what byte x % 256 adds to a column, from row x / 256 -/
def tabB (box m : Nat → Nat) (x j : Nat) : Nat := gm (box (x % 256)) (m ((j + 4 - x / 256) % 4))
def tabW (box m : Nat → Nat) (x : Nat) : Nat := wd (tabB box m x)
theorem or_a (a b : Nat) (ha : a < 256) (hb : b < 256) : bits .or .u32 ((a * 16777216 : Nat) : Int) ((b * 65536 : Nat) : Int) = ((a * 16777216 + b * 65536 : Nat) : Int) := by
  rw [or_u32 _ _ (by omega) (by omega), show 16777216 = 2 ^ 24 by decide, or_add _ _ 24 (by omega)]
theorem or_b (a b c : Nat) (ha : a < 256) (hb : b < 256) (hc : c < 256) : bits .or .u32 ((a * 16777216 + b * 65536 : Nat) : Int) ((c * 256 : Nat) : Int) = ((a * 16777216 + b * 65536 + c * 256 : Nat) : Int) := by
  rw [or_u32 _ _ (by omega) (by omega), show a * 16777216 + b * 65536 = (a * 256 + b) * 2 ^ 16 by omega, or_add _ _ 16 (by omega)]
theorem or_c (a b c d : Nat) (ha : a < 256) (hb : b < 256) (hc : c < 256) (hd : d < 256) : bits .or .u32 ((a * 16777216 + b * 65536 + c * 256 : Nat) : Int) (d : Int) = ((a * 16777216 + b * 65536 + c * 256 + d : Nat) : Int) := by
  rw [or_u32 _ _ (by omega) (by omega), show a * 16777216 + b * 65536 + c * 256 = ((a * 256 + b) * 256 + c) * 2 ^ 8 by omega, or_add _ _ 8 (by omega)]
def rotN (r a b c d : Nat) : Nat := if r = 0 then a * 16777216 + b * 65536 + c * 256 + d else if r = 1 then d * 16777216 + a * 65536 + b * 256 + c else if r = 2 then c * 16777216 + d * 65536 + a * 256 + b else b * 16777216 + c * 65536 + d * 256 + a
theorem rotN_1 (a b c d : Nat) : rotN 1 a b c d = d * 16777216 + a * 65536 + b * 256 + c := (if_neg (by decide)).trans (if_pos rfl)
theorem rotN_2 (a b c d : Nat) : rotN 2 a b c d = c * 16777216 + d * 65536 + a * 256 + b := ((if_neg (by decide)).trans (if_neg (by decide))).trans (if_pos rfl)
theorem rotN_3 (a b c d : Nat) : rotN 3 a b c d = b * 16777216 + c * 65536 + d * 256 + a := ((if_neg (by decide)).trans (if_neg (by decide))).trans (if_neg (by decide))
theorem or_back (x y k : Nat) (h : x < 2 ^ k) : x ||| y * 2 ^ k = y * 2 ^ k + x := by rw [Nat.or_comm, or_add _ _ _ h]
section
variable {a b c d X : Nat} (ha : a < 256) (hb : b < 256) (hc : c < 256) (hd : d < 256) (hX : a * 16777216 + b * 65536 + c * 256 + d = X)
include ha hb hc hd hX
theorem rot_0 : bits .or .u32 (X : Int) 0 = (rotN 0 a b c d : Nat) := by
  have := or_u32 X 0 (by omega) (by decide)
  rw [Nat.or_zero] at this
  exact this.trans (by rw [rotN, if_pos rfl, hX])
set_option maxRecDepth 100000 in
theorem rot_1 : bits .or .u32 ((X : Int) / 256) ((X : Int) * 16777216 % 4294967296) = (rotN 1 a b c d : Nat) := by
  have e1 : ((X : Int) / 256) = ((X / 256 : Nat) : Int) := by omega
  have e2 : ((X : Int) * 16777216 % 4294967296) = (((d) * 16777216 : Nat) : Int) := by omega
  have h1 := or_u32 (X / 256) ((d) * 16777216) (by omega) (by omega)
  have h2 := or_back (X / 256) (d) 24 (by omega)
  rw [show (2 : Nat) ^ 24 = 16777216 by decide] at h2
  have h3 : (d) * 16777216 + X / 256 = d * 16777216 + a * 65536 + b * 256 + c := by
    have e : X / 256 = a * 65536 + b * 256 + c := by rw [← hX, show a * 16777216 + b * 65536 + c * 256 + d = 256 * (a * 65536 + b * 256 + c) + d by omega]; omega
    rw [e, ← Nat.add_assoc, ← Nat.add_assoc]
  rw [e1, e2, h1, h2, h3, rotN_1]
set_option maxRecDepth 100000 in
theorem rot_2 : bits .or .u32 ((X : Int) / 65536) ((X : Int) * 65536 % 4294967296) = (rotN 2 a b c d : Nat) := by
  have e1 : ((X : Int) / 65536) = ((X / 65536 : Nat) : Int) := by omega
  have e2 : ((X : Int) * 65536 % 4294967296) = (((c * 256 + d) * 65536 : Nat) : Int) := by omega
  have h1 := or_u32 (X / 65536) ((c * 256 + d) * 65536) (by omega) (by omega)
  have h2 := or_back (X / 65536) (c * 256 + d) 16 (by omega)
  rw [show (2 : Nat) ^ 16 = 65536 by decide] at h2
  have h3 : (c * 256 + d) * 65536 + X / 65536 = c * 16777216 + d * 65536 + a * 256 + b := by
    have e : X / 65536 = a * 256 + b := by rw [← hX, show a * 16777216 + b * 65536 + c * 256 + d = 65536 * (a * 256 + b) + (c * 256 + d) by omega]; omega
    rw [e, Nat.add_mul, Nat.mul_assoc, ← Nat.add_assoc]
  rw [e1, e2, h1, h2, h3, rotN_2]
set_option maxRecDepth 100000 in
theorem rot_3 : bits .or .u32 ((X : Int) / 16777216) ((X : Int) * 256 % 4294967296) = (rotN 3 a b c d : Nat) := by
  have e1 : ((X : Int) / 16777216) = ((X / 16777216 : Nat) : Int) := by omega
  have e2 : ((X : Int) * 256 % 4294967296) = (((b * 65536 + c * 256 + d) * 256 : Nat) : Int) := by omega
  have h1 := or_u32 (X / 16777216) ((b * 65536 + c * 256 + d) * 256) (by omega) (by omega)
  have h2 := or_back (X / 16777216) (b * 65536 + c * 256 + d) 8 (by omega)
  rw [show (2 : Nat) ^ 8 = 256 by decide] at h2
  have h3 : (b * 65536 + c * 256 + d) * 256 + X / 16777216 = b * 16777216 + c * 65536 + d * 256 + a := by
    clear e1 e2 h1 h2
    omega
  rw [e1, e2, h1, h2, h3, rotN_3]
end
theorem tab_val (box m : Nat → Nat) (i : Nat) (hi : i < 256) : ∀ r, r < 4 → tabW box m (r * 256 + i) = rotN r (gm (box i) (m 0)) (gm (box i) (m 1)) (gm (box i) (m 2)) (gm (box i) (m 3)) := fun r hr => by
  have e1 : (r * 256 + i) % 256 = i := by omega
  have e2 : (r * 256 + i) / 256 = r := by omega
  unfold tabW wd tabB
  rw [e1, e2]
  have hr0 : r = 0 ∨ r = 1 ∨ r = 2 ∨ r = 3 := by omega
  clear e1 e2
  generalize box i = s
  rcases hr0 with rfl | rfl | rfl | rfl
  · simp only [rotN, Nat.reduceAdd, Nat.reduceSub, Nat.reduceMod, if_true]
    generalize gm s (m 0) = a; generalize gm s (m 1) = b; generalize gm s (m 2) = c; generalize gm s (m 3) = d
    omega
  · simp only [rotN, Nat.reduceAdd, Nat.reduceSub, Nat.reduceMod, if_true, Nat.reduceEqDiff, if_false]
    generalize gm s (m 0) = a; generalize gm s (m 1) = b; generalize gm s (m 2) = c; generalize gm s (m 3) = d
    omega
  · simp only [rotN, Nat.reduceAdd, Nat.reduceSub, Nat.reduceMod, if_true, Nat.reduceEqDiff, if_false]
    generalize gm s (m 0) = a; generalize gm s (m 1) = b; generalize gm s (m 2) = c; generalize gm s (m 3) = d
    omega
  · simp only [rotN, Nat.reduceAdd, Nat.reduceSub, Nat.reduceMod, Nat.reduceEqDiff, if_false]
    generalize gm s (m 0) = a; generalize gm s (m 1) = b; generalize gm s (m 2) = c; generalize gm s (m 3) = d
    omega
structure ProW (box m : Nat → Nat) (B : Nat) (w wr : World) (f : Nat → Int) (i r : Nat) : Prop where
  z : Arr wr (B + 1) .u32 1024 189 (fun _ => 0)
  t : Arr wr (B + 2) .u32 1024 189 f
  bel : Below B w wr
  tab : ∀ x, x < 1024 → (x % 256 < i ∨ (x % 256 = i ∧ x / 256 < r)) → f x = (tabW box m x : Nat)
theorem ProW.below {box m : Nat → Nat} {B : Nat} {w wr w' : World} {f : Nat → Int} {i r : Nat} (h : ProW box m B w wr f i r) (hb : Below wr.heap.size wr w') (hB : w.heap.size = B) : ProW box m B w w' f i r :=
  ⟨h.z.below hb h.z.lt, h.t.below hb h.t.lt, h.bel.trans (hb.mono (by rw [← hB]; exact h.bel.size)), h.tab⟩
theorem info1024 : (Tryz.prog.info? 189).map (·.size) = some 1024 := by kernel_rfl
theorem tab_step {box m : Nat → Nat} {f : Nat → Int} {i r : Nat} (h : ∀ x, x < 1024 → (x % 256 < i ∨ (x % 256 = i ∧ x / 256 < r)) → f x = (tabW box m x : Nat)) :
    ∀ x, x < 1024 → (x % 256 < i ∨ (x % 256 = i ∧ x / 256 < r + 1)) → upd f (r * 256 + i) (tabW box m (r * 256 + i) : Nat) x = (tabW box m x : Nat) := fun x hx hc => by
  unfold upd
  split
  · rename_i e; rw [e]
  · rename_i e
    refine h x hx ?_
    omega

set_option maxRecDepth 100000 in
set_option maxHeartbeats 4000000 in
theorem products_any (box m : Nat → Nat) (hb : Byt box 256) (hm : Byt m 4) (g off cap : Nat) (w : World) (hc : ∀ d, d < 4 → w.cell? ⟨g, off + d, none⟩ = some (.int .u8 (m d : Nat))) :
    Calls Tryz.prog 147 #[.agg (arr .u8 256 fun i => (box i : Nat)), .slice (some ⟨g, off, none⟩) 4 cap] w fun e w' => e = .returned (.agg (arr .u32 1024 fun x => (tabW box m x : Nat))) ∧ Below w.heap.size w w' := by
  have z1024 : (Tryz.prog.info? 189).bind (·.zero) = some (.agg (arr .u32 1024 fun _ => 0)) := by kernel_rfl
  have hi1 : (Tryz.prog.info? 5).map (·.size) = some 1 := by kernel_rfl
  have IX := Lib.hid (fun (i : Nat) (hi : i < 256) (w : World) => New.run_index_arr (P := Tryz.prog) Tryz.underlying175 Tryz.underlying5 hi1 (fun i => ((box i : Nat) : Int)) i hi w)
  have HB := Lib.hid hb
  have HM := Lib.hid hm
  have HC := Lib.hid hc
  have hgl : g < w.heap.size := Frame.block_lt (hc 0 (by decide))
  clear hb hm hc
  go_enter Tryz.func147, Tryz.ntmps147
  go_upto_region 0 with fail
  refine wp_region_lit ?_
  refine New.p_box rfl 175 _ rfl .u8 256 (fun i => ((box i : Nat) : Int)) rfl ?_
  intro w1 h1 g1 s1
  simp only [Act.put, sA9, sB9, sC9]
  refine New.p_newarr rfl 189 rfl .u32 1024 z1024 ?_
  intro w2 h2 g2 s2
  refine wpList_nil ?_
  simp only [Act.put, sA9, sB9, sC9]
  have A1 := Lib.hid (h1.below (bel_of_gb (_B := 0) g2) h1.lt)
  have A2 := Lib.hid h2
  have G2 := Lib.hid (((Below.refl w.heap.size w).grown g1 (Nat.le_refl _) (by simp)).grown g2 (by omega) (by simp))
  have S2 := Lib.hid (s2.trans (by rw [s1]))
  have S1 := Lib.hid s1
  clear h1 g1 s1 h2 g2 s2
  go_upto_region 1 with fail
  refine wp_region_lit ?_
  refine New.p_newarr rfl 189 rfl .u32 1024 z1024 ?_
  intro w3 h3 g3 s3
  refine wpList_nil ?_
  simp only [Act.put, sA9, sB9, sC9]
  have hW : Hid (ProW box m w.heap.size w w3 (fun _ => 0) 0 0) := Lib.hid ⟨by
      have := A2.out.below (bel_of_gb (_B := 0) g3) A2.out.lt
      rw [S1.out] at this
      exact this, by rw [S2.out] at h3; exact h3, G2.out.grown g3 (by have := S2.out; omega) (by simp), fun x _ h => by omega⟩
  have HA := Lib.hid (A1.out.below (bel_of_gb (_B := 0) g3) A1.out.lt)
  rw [S1.out, S2.out]
  clear h3 g3 s3 A1 A2 G2 S1 S2
  go_wp2_with (refine wpList_load_arr rfl 175 _ rfl _ rfl HA.out Tryz.underlying175 rfl info256 ?_)
  go_loopw [11, 6, 7, 8, 9, 45] (fun p _ _ _ _ _ wr => ∃ (i : Nat) (f : Nat → Int), i ≤ 256 ∧ p = .int .i64 i ∧ ProW box m w.heap.size w wr f i 0) (fun p _ _ _ _ _ _ => 256 - (RowKit.intOf p).toNat)
  case atStart => exact ⟨0, _, by decide, rfl, hW.out⟩
  case round =>
    obtain ⟨i, f, hi, rfl, hw⟩ := hrel
    have HW := Lib.hid hw
    by_cases hlt : i < 256
    · have ix := IX.out i hlt
      have hbi := HB.out i hlt
      have hm0 := HM.out 0 (by decide)
      have hm1 := HM.out 1 (by decide)
      have hm2 := HM.out 2 (by decide)
      have hm3 := HM.out 3 (by decide)
      have c0 := (hw.bel.cell (p := ⟨g, off + 0, none⟩) hgl).trans (HC.out 0 (by decide))
      have c1 := (hw.bel.cell (p := ⟨g, off + 1, none⟩) hgl).trans (HC.out 1 (by decide))
      have c2 := (hw.bel.cell (p := ⟨g, off + 2, none⟩) hgl).trans (HC.out 2 (by decide))
      have c3 := (hw.bel.cell (p := ⟨g, off + 3, none⟩) hgl).trans (HC.out 3 (by decide))
      rw [Nat.add_zero] at c0
      have TV := Lib.hid (tab_val box m i hlt)
      clear hw
      generalize box i = s at *
      generalize m 0 = m0 at *
      generalize m 1 = m1 at *
      generalize m 2 = m2 at *
      generalize m 3 = m3 at *
      have k0 := gm_lt s m0 hbi
      have k1 := gm_lt s m1 hbi
      have k2 := gm_lt s m2 hbi
      have k3 := gm_lt s m3 hbi
      have or1 := or_a (gm s m0) (gm s m1) k0 k1
      have or2 := or_b (gm s m0) (gm s m1) (gm s m2) k0 k1 k2
      obtain ⟨X, hX⟩ : ∃ X, gm s m0 * 16777216 + gm s m1 * 65536 + gm s m2 * 256 + gm s m3 = X := ⟨_, rfl⟩
      have or3 := or_c (gm s m0) (gm s m1) (gm s m2) (gm s m3) k0 k1 k2 k3
      rw [hX] at or3
      have hXl : X < 4294967296 := by omega
      have HX := Lib.hid hX
      clear hX
      go_upto_region 5 with fail
      refine Step.wp_region_class (C := fun w' => Below wr.heap.size wr w') (by kernel_rfl) (by kernel_rfl) (Below.refl _ _).drew ?_
      refine Step.q_move rfl _ rfl (.int .u8 (s : Nat)) rfl ?_
      simp only [Act.put, sA9, sB9, sC9]
      refine Step.q_move rfl _ rfl (.slice (some ⟨g, off, none⟩) 4 cap) rfl ?_
      simp only [Act.put, sA9, sB9, sC9]
      refine Step.q_idx rfl _ 5 _ _ rfl g off 4 cap rfl 0 rfl (by decide) 1 Tryz.underlying22 (by kernel_rfl) ?_
      simp only [Act.put, sA9, sB9, sC9]
      skip
      refine Step.q_load1 rfl _ _ rfl (g) (off + 0 * 1) rfl (.int .u8 (m0 : Nat)) (fun w' hw' => (hw'.cell (p := ⟨g, off + 0 * 1, none⟩) (Frame.block_lt (c0))).trans (c0)) Tryz.underlying5 rfl ?_
      simp only [Act.put, sA9, sB9, sC9]
      refine Step.q_call rfl 170 [.tmp 15, .tmp 18] _ rfl Tryz.func170 (by kernel_rfl) rfl (.int .u8 (gm s m0 : Nat)) [.int .u8 (s : Nat), .int .u8 (m0 : Nat)] rfl (fun w' hw' => (times_any s m0 hbi hm0 w').mono fun e w2 h => ⟨h.1, by first | exact h.2 ▸ hw' | exact hw'.trans (h.2.mono hw'.size)⟩) ?_
      simp only [Act.put, sA9, sB9, sC9]
      refine Step.q_pure rfl (.int .u32 (gm s m0 : Nat)) (fun w' => by unfold execOp; go_simp; exact wrap32u _ (Int.natCast_nonneg _) (by omega)) ?_
      simp only [Act.put, sA9, sB9, sC9]
      refine Step.q_pure rfl (.int .u32 (gm s m0 * 16777216 : Nat)) (fun w' => by unfold execOp; go_simp; exact (wrap32u _ (by omega) (by omega)).trans (by omega)) ?_
      simp only [Act.put, sA9, sB9, sC9]
      refine Step.q_move rfl _ rfl (.int .u8 (s : Nat)) rfl ?_
      simp only [Act.put, sA9, sB9, sC9]
      refine Step.q_move rfl _ rfl (.slice (some ⟨g, off, none⟩) 4 cap) rfl ?_
      simp only [Act.put, sA9, sB9, sC9]
      refine Step.q_idx rfl _ 5 _ _ rfl g off 4 cap rfl 1 rfl (by decide) 1 Tryz.underlying22 (by kernel_rfl) ?_
      simp only [Act.put, sA9, sB9, sC9]
      skip
      refine Step.q_load1 rfl _ _ rfl (g) (off + 1 * 1) rfl (.int .u8 (m1 : Nat)) (fun w' hw' => (hw'.cell (p := ⟨g, off + 1 * 1, none⟩) (Frame.block_lt (c1))).trans (c1)) Tryz.underlying5 rfl ?_
      simp only [Act.put, sA9, sB9, sC9]
      refine Step.q_call rfl 170 [.tmp 22, .tmp 25] _ rfl Tryz.func170 (by kernel_rfl) rfl (.int .u8 (gm s m1 : Nat)) [.int .u8 (s : Nat), .int .u8 (m1 : Nat)] rfl (fun w' hw' => (times_any s m1 hbi hm1 w').mono fun e w2 h => ⟨h.1, by first | exact h.2 ▸ hw' | exact hw'.trans (h.2.mono hw'.size)⟩) ?_
      simp only [Act.put, sA9, sB9, sC9]
      refine Step.q_pure rfl (.int .u32 (gm s m1 : Nat)) (fun w' => by unfold execOp; go_simp; exact wrap32u _ (Int.natCast_nonneg _) (by omega)) ?_
      simp only [Act.put, sA9, sB9, sC9]
      refine Step.q_pure rfl (.int .u32 (gm s m1 * 65536 : Nat)) (fun w' => by unfold execOp; go_simp; exact (wrap32u _ (by omega) (by omega)).trans (by omega)) ?_
      simp only [Act.put, sA9, sB9, sC9]
      refine Step.q_pure rfl (.int .u32 (gm s m0 * 16777216 + gm s m1 * 65536 : Nat)) (fun w' => by unfold execOp; go_simp; exact or1) ?_
      simp only [Act.put, sA9, sB9, sC9]
      refine Step.q_move rfl _ rfl (.int .u8 (s : Nat)) rfl ?_
      simp only [Act.put, sA9, sB9, sC9]
      refine Step.q_move rfl _ rfl (.slice (some ⟨g, off, none⟩) 4 cap) rfl ?_
      simp only [Act.put, sA9, sB9, sC9]
      refine Step.q_idx rfl _ 5 _ _ rfl g off 4 cap rfl 2 rfl (by decide) 1 Tryz.underlying22 (by kernel_rfl) ?_
      simp only [Act.put, sA9, sB9, sC9]
      skip
      refine Step.q_load1 rfl _ _ rfl (g) (off + 2 * 1) rfl (.int .u8 (m2 : Nat)) (fun w' hw' => (hw'.cell (p := ⟨g, off + 2 * 1, none⟩) (Frame.block_lt (c2))).trans (c2)) Tryz.underlying5 rfl ?_
      simp only [Act.put, sA9, sB9, sC9]
      refine Step.q_call rfl 170 [.tmp 30, .tmp 33] _ rfl Tryz.func170 (by kernel_rfl) rfl (.int .u8 (gm s m2 : Nat)) [.int .u8 (s : Nat), .int .u8 (m2 : Nat)] rfl (fun w' hw' => (times_any s m2 hbi hm2 w').mono fun e w2 h => ⟨h.1, by first | exact h.2 ▸ hw' | exact hw'.trans (h.2.mono hw'.size)⟩) ?_
      simp only [Act.put, sA9, sB9, sC9]
      refine Step.q_pure rfl (.int .u32 (gm s m2 : Nat)) (fun w' => by unfold execOp; go_simp; exact wrap32u _ (Int.natCast_nonneg _) (by omega)) ?_
      simp only [Act.put, sA9, sB9, sC9]
      refine Step.q_pure rfl (.int .u32 (gm s m2 * 256 : Nat)) (fun w' => by unfold execOp; go_simp; exact (wrap32u _ (by omega) (by omega)).trans (by omega)) ?_
      simp only [Act.put, sA9, sB9, sC9]
      refine Step.q_pure rfl (.int .u32 (gm s m0 * 16777216 + gm s m1 * 65536 + gm s m2 * 256 : Nat)) (fun w' => by unfold execOp; go_simp; exact or2) ?_
      simp only [Act.put, sA9, sB9, sC9]
      refine Step.q_move rfl _ rfl (.int .u8 (s : Nat)) rfl ?_
      simp only [Act.put, sA9, sB9, sC9]
      refine Step.q_move rfl _ rfl (.slice (some ⟨g, off, none⟩) 4 cap) rfl ?_
      simp only [Act.put, sA9, sB9, sC9]
      refine Step.q_idx rfl _ 5 _ _ rfl g off 4 cap rfl 3 rfl (by decide) 1 Tryz.underlying22 (by kernel_rfl) ?_
      simp only [Act.put, sA9, sB9, sC9]
      skip
      refine Step.q_load1 rfl _ _ rfl (g) (off + 3 * 1) rfl (.int .u8 (m3 : Nat)) (fun w' hw' => (hw'.cell (p := ⟨g, off + 3 * 1, none⟩) (Frame.block_lt (c3))).trans (c3)) Tryz.underlying5 rfl ?_
      simp only [Act.put, sA9, sB9, sC9]
      refine Step.q_call rfl 170 [.tmp 38, .tmp 41] _ rfl Tryz.func170 (by kernel_rfl) rfl (.int .u8 (gm s m3 : Nat)) [.int .u8 (s : Nat), .int .u8 (m3 : Nat)] rfl (fun w' hw' => (times_any s m3 hbi hm3 w').mono fun e w2 h => ⟨h.1, by first | exact h.2 ▸ hw' | exact hw'.trans (h.2.mono hw'.size)⟩) ?_
      simp only [Act.put, sA9, sB9, sC9]
      refine Step.q_pure rfl (.int .u32 (gm s m3 : Nat)) (fun w' => by unfold execOp; go_simp; exact wrap32u _ (Int.natCast_nonneg _) (by omega)) ?_
      simp only [Act.put, sA9, sB9, sC9]
      refine Step.q_pure rfl (.int .u32 (X : Nat)) (fun w' => by unfold execOp; go_simp; exact or3) ?_
      simp only [Act.put, sA9, sB9, sC9]
      refine Step.q_assign rfl _ rfl (.int .u32 (X : Nat)) rfl ?_
      simp only [Act.put, sA9, sB9, sC9]
      refine wpQuiet_nil ?_
      intro w4 hb4
      have HW4 := Lib.hid (HW.out.below hb4 rfl)
      clear hb4 c0 c1 c2 c3 or1 or2 or3 ix
      go_wp2
      go_loopw [9, 45] (fun _ p w5 => ∃ (r : Nat) (f2 : Nat → Int), r ≤ 4 ∧ p = .int .i64 r ∧ ProW box m w.heap.size w w5 f2 i r) (fun _ p _ => 4 - (RowKit.intOf p).toNat)
      case atStart => exact ⟨0, f, by decide, rfl, HW4.out⟩
      case round =>
        obtain ⟨r, f2, hr, rfl, hw5⟩ := hrel
        have HW5 := Lib.hid hw5
        by_cases hr4 : r < 4
        · have hcell := hw5.t.cell (i := r * 256 + i) (by omega)
          have hfr := hw5.t.free (r * 256 + i)
          have tv := TV.out r hr4
          have TV5 := Lib.hid tv
          clear hw5 tv
          have hr0 : r = 0 ∨ r = 1 ∨ r = 2 ∨ r = 3 := by omega
          rcases hr0 with rfl | rfl | rfl | rfl
          · simp only [Nat.zero_mul, Nat.zero_add] at hcell hfr
            go_upto_region 9 with fail
            go_region
            go_wp2
            go_roundw
            case rel => exact ⟨1, _, by decide, rfl, HW5.out.z.other (by simp) _, HW5.out.t.store _ _, (HW5.out.bel.setCell (by simp; try omega) _).drew, by
              rw [rot_0 k0 k1 k2 k3 HX.out, ← TV5.out]
              have := tab_step HW5.out.tab
              simp only [Nat.zero_mul, Nat.zero_add] at this ⊢
              exact this⟩
            case measure => simp [RowKit.intOf]
          · simp only [Nat.one_mul] at hcell hfr
            go_upto_region 9 with fail
            go_region
            go_wp2
            go_roundw
            case rel => exact ⟨2, _, by decide, rfl, HW5.out.z.other (by simp) _, HW5.out.t.store _ _, (HW5.out.bel.setCell (by simp; try omega) _).drew, by
              rw [rot_1 k0 k1 k2 k3 HX.out, ← TV5.out]
              have := tab_step HW5.out.tab
              simp only [Nat.one_mul, Nat.reduceAdd] at this ⊢
              exact this⟩
            case measure => simp [RowKit.intOf]
          · simp only [Nat.reduceMul] at hcell hfr
            go_upto_region 9 with fail
            go_region
            go_wp2
            go_roundw
            case rel => exact ⟨3, _, by decide, rfl, HW5.out.z.other (by simp) _, HW5.out.t.store _ _, (HW5.out.bel.setCell (by simp; try omega) _).drew, by
              rw [rot_2 k0 k1 k2 k3 HX.out, ← TV5.out]
              have := tab_step HW5.out.tab
              simp only [Nat.reduceMul, Nat.reduceAdd] at this ⊢
              exact this⟩
            case measure => simp [RowKit.intOf]
          · simp only [Nat.reduceMul] at hcell hfr
            go_upto_region 9 with fail
            go_region
            go_wp2
            go_roundw
            case rel => exact ⟨4, _, by decide, rfl, HW5.out.z.other (by simp) _, HW5.out.t.store _ _, (HW5.out.bel.setCell (by simp; try omega) _).drew, by
              rw [rot_3 k0 k1 k2 k3 HX.out, ← TV5.out]
              have := tab_step HW5.out.tab
              simp only [Nat.reduceMul, Nat.reduceAdd] at this ⊢
              exact this⟩
            case measure => simp [RowKit.intOf]
        · obtain rfl : r = 4 := by omega
          clear hw5
          go_wp2
          go_roundw
          case rel => exact ⟨i + 1, f2, by omega, by go_num, HW5.out.z, HW5.out.t, HW5.out.bel, fun x hx hc => HW5.out.tab x hx (by omega)⟩
          case measure => simp [RowKit.intOf]; omega
    · obtain rfl : i = 256 := by omega
      clear hw
      go_wp2_with (first | (refine wpList_load_arr rfl 189 _ rfl _ rfl HW.out.t Tryz.underlying189 rfl info1024 ?_) | (refine wpList_store_arr rfl 189 _ _ rfl _ rfl rfl HW.out.z info1024 ?_; intro w6 hA hG hS))
      refine ret_arr rfl rfl hA Tryz.underlying189 rfl info1024 rfl ⟨?_, HW.out.bel.grown hG HW.out.bel.size (by simp)⟩
      exact congrArg (fun x => Ending.returned (.agg x)) (arr_congr fun x hx => HW.out.tab x hx (.inl (by omega)))
end Go.Proofs.YtmifebcaifbmoaaGreatDoor.Rj
end
