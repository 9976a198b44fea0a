/- Parts of the proof of TweakFlips. Rj2: rijndael: the substitutions, made by going through the field. Rj3: rijndael: the inverse of the substitutions. -/
import Derived.Test.YtmifebcaifbmoaaGreatDoorK01
/- Rj2 -/
section
namespace Go.Proofs.YtmifebcaifbmoaaGreatDoor.Rj
open Go.RowKit Go.Lib Go.Proofs.YtmifebcaifbmoaaGreatDoor.Blk Go.Proofs.YtmifebcaifbmoaaGreatDoor.Aes

theorem lg_pw2 : ∀ i, i < 255 → lg (pw i) % 255 = i := by decide +kernel
theorem trn_lt (b n : Nat) (hb : b < 256) : trn b n < 256 := by
  unfold trn
  exact Nat.or_lt_two_pow (n := 8) (Nat.mod_lt _ (by decide)) (Nat.lt_of_le_of_lt (Nat.div_le_self _ _) hb)
theorem info256 : (Tryz.prog.info? 175).map (·.size) = some 256 := by kernel_rfl
/-- the table while it is made -/
structure SubT (f : Nat → Int) (i : Nat) : Prop where
  z : f 0 = 99
  s : ∀ j, 1 ≤ j → j ≤ i → f (pw j) = (S (pw j) : Nat)
theorem SubT.step {f : Nat → Int} {i : Nat} (h : SubT f i) (hi : i < 255) : SubT (upd f (pw (i + 1)) ((aff (qw (i + 1)) : Nat) : Int)) (i + 1) := by
  have hp : pw (i + 1) ≠ 0 := by
    have : ∀ i, i < 256 → pw i ≠ 0 := by decide +kernel
    exact this _ (by omega)
  refine ⟨?_, fun j h1 h2 => ?_⟩
  · unfold upd
    rw [if_neg (fun e => hp e.symm)]
    exact h.z
  · unfold upd
    split
    · rename_i e
      rw [S_pw (i + 1) (by omega) (by omega), e]
    · exact h.s j h1 (by
        rcases Nat.lt_or_ge i j with h3 | h3
        · obtain rfl : j = i + 1 := by omega
          rename_i e
          exact absurd rfl e
        · exact h3)
theorem SubT.all {f : Nat → Int} (h : SubT f 255) : ∀ b, b < 256 → f b = (S b : Nat) := fun b hb => by
  rcases Nat.eq_zero_or_pos b with rfl | hp
  · rw [h.z, S_zero]; rfl
  · obtain ⟨h1, h2, h3⟩ := lg_pw b hb hp
    rw [← h3]
    exact h.s _ h1 (by omega)
structure SubW (B : Nat) (w wr : World) (f : Nat → Int) (i : Nat) : Prop where
  r : Arr wr B .u8 256 175 (fun _ => 0)
  t : Arr wr (B + 1) .u8 256 175 f
  bel : Below B w wr
  sub : SubT f i

theorem times_pw (i : Nat) (hi : i < 255) (w : World) : Calls Tryz.prog 170 #[.int .u8 (pw i), .int .u8 3] w fun e w' => e = .returned (.int .u8 (pw (i + 1) : Nat)) ∧ w = w' := by
  rw [pw_succ i hi]
  exact times_any (pw i) 3 (pw_lt i (by omega)) (by decide) w
theorem times_qw (i : Nat) (hi : i < 255) (w : World) : Calls Tryz.prog 170 #[.int .u8 (qw i), .int .u8 246] w fun e w' => e = .returned (.int .u8 (qw (i + 1) : Nat)) ∧ w = w' := by
  rw [qw_succ i hi]
  exact times_any (qw i) 246 (qw_lt i (by omega)) (by decide) w
theorem turn_1 (b : Nat) (hb : b < 256) (w : World) : Calls Tryz.prog 171 #[.int .u8 b, .int .u64 1] w fun e w' => e = .returned (.int .u8 (trn b 1 : Nat)) ∧ w = w' := turn_any b 1 hb (by decide) (by decide) w
theorem turn_2 (b : Nat) (hb : b < 256) (w : World) : Calls Tryz.prog 171 #[.int .u8 b, .int .u64 2] w fun e w' => e = .returned (.int .u8 (trn b 2 : Nat)) ∧ w = w' := turn_any b 2 hb (by decide) (by decide) w
theorem turn_3 (b : Nat) (hb : b < 256) (w : World) : Calls Tryz.prog 171 #[.int .u8 b, .int .u64 3] w fun e w' => e = .returned (.int .u8 (trn b 3 : Nat)) ∧ w = w' := turn_any b 3 hb (by decide) (by decide) w
theorem turn_4 (b : Nat) (hb : b < 256) (w : World) : Calls Tryz.prog 171 #[.int .u8 b, .int .u64 4] w fun e w' => e = .returned (.int .u8 (trn b 4 : Nat)) ∧ w = w' := turn_any b 4 hb (by decide) (by decide) w
theorem aff_eq (q : Nat) (h : q < 256) : bits .xor .u8 (bits .xor .u8 (bits .xor .u8 (bits .xor .u8 (bits .xor .u8 (q : Int) (trn q 1 : Nat)) (trn q 2 : Nat)) (trn q 3 : Nat)) (trn q 4 : Nat)) 99 = ((aff q : Nat) : Int) := by
  have t1 := trn_lt q 1 h
  have t2 := trn_lt q 2 h
  have t3 := trn_lt q 3 h
  have t4 := trn_lt q 4 h
  rw [xor_u8 _ _ h t1, xor_u8 _ _ (xor_lt h t1) t2, xor_u8 _ _ (xor_lt (xor_lt h t1) t2) t3, xor_u8 _ _ (xor_lt (xor_lt (xor_lt h t1) t2) t3) t4, show ((99 : Int)) = ((99 : Nat) : Int) from rfl, xor_u8 _ _ (xor_lt (xor_lt (xor_lt (xor_lt h t1) t2) t3) t4) (by decide), aff]

set_option maxRecDepth 100000 in
set_option maxHeartbeats 2000000 in
theorem substitutions_any (w : World) : Calls Tryz.prog 145 #[] w fun e w' => e = .returned (.agg (arr .u8 256 fun i => (S i : Nat))) ∧ Below w.heap.size w w' := by
  have z256 : (Tryz.prog.info? 175).bind (·.zero) = some (.agg (arr .u8 256 fun _ => 0)) := by kernel_rfl
  go_enter Tryz.func145, Tryz.ntmps145
  go_upto_region 0 with fail
  refine wp_region_lit ?_
  refine New.p_newarr rfl 175 rfl .u8 256 z256 ?_
  intro w1 hr g1 s1
  refine wpList_nil ?_
  simp only [Act.put, List.setIfInBounds_toArray, List.set_cons_zero]
  have R1 := Lib.hid hr
  have G1 := Lib.hid g1
  have S1 := Lib.hid s1
  clear hr g1 s1
  go_upto_region 1 with fail
  refine wp_region_lit ?_
  refine New.p_newarr rfl 175 rfl .u8 256 z256 ?_
  intro w2 ht g2 s2
  refine wpList_nil ?_
  simp only [Act.put, List.setIfInBounds_toArray, List.set_cons_zero, List.set_cons_succ]
  have R2 := Lib.hid ht
  have G2 := Lib.hid g2
  rw [S1.out]
  have c0 := ht.cell (i := 0) (by decide)
  have f0 := ht.free 0
  rw [S1.out] at c0 f0
  have W0 : Hid (SubW w.heap.size w (w2.setCell ⟨w.heap.size + 1, 0, none⟩ (.int .u8 99)) (upd (fun _ => 0) 0 99) 0) := Lib.hid ⟨by
      have h := Arr.below (R1.out) (w' := w2) (B := w.heap.size + 1) ⟨g2.os, g2.tape, g2.output, g2.size, fun k hk => g2.block k (by have := S1.out; omega) (by simp)⟩ (by omega)
      exact h.other (by simp) _, by have := ht; rw [S1.out] at this; exact this.store 0 99,
      (((Below.refl w.heap.size w).grown G1.out (Nat.le_refl _) (by simp)).grown g2 (by have := S1.out; omega) (by simp)).setCell (by simp) _, ⟨rfl, fun j h1 h2 => by omega⟩⟩
  clear ht g2
  go_wp2
  go_loopw [2, 3] (fun p q wr => ∃ (i : Nat) (f : Nat → Int), i < 255 ∧ p = .int .u8 (pw i : Nat) ∧ q = .int .u8 (qw i : Nat) ∧ SubW w.heap.size w wr f i) (fun p _ _ => 255 - (lg (intOf p).toNat % 255))
  case atStart => exact ⟨0, _, by decide, rfl, rfl, W0.out⟩
  case round =>
    obtain ⟨i, f, hi, rfl, rfl, hw⟩ := hrel
    have HW := Lib.hid hw
    have AF := Lib.hid (aff_eq (qw (i + 1)) (qw_lt _ (by omega)))
    have hp1 := pw_lt (i + 1) (by omega)
    have hq1 := qw_lt (i + 1) (by omega)
    have hcell := hw.t.cell hp1
    have hfr := hw.t.free (pw (i + 1))
    clear hw c0 f0
    go_wp2_with fail
    refine (times_pw i hi _).mono ?_
    rintro e w' ⟨rfl, rfl⟩
    go_wp2_with fail
    refine (times_qw i hi _).mono ?_
    rintro e w' ⟨rfl, rfl⟩
    go_wp2_with fail
    refine (turn_1 _ hq1 _).mono ?_
    rintro e w' ⟨rfl, rfl⟩
    go_wp2_with fail
    refine (turn_2 _ hq1 _).mono ?_
    rintro e w' ⟨rfl, rfl⟩
    go_wp2_with fail
    refine (turn_3 _ hq1 _).mono ?_
    rintro e w' ⟨rfl, rfl⟩
    go_wp2_with fail
    refine (turn_4 _ hq1 _).mono ?_
    rintro e w' ⟨rfl, rfl⟩
    by_cases hend : i + 1 = 255
    · obtain rfl : i = 254 := by omega
      have hb : (((pw (254 + 1) : Nat) : Int) == 1) = true := by decide +kernel
      go_upto_region 8 with fail
      rw [AF.out]
      have HX : Hid (SubW w.heap.size w (wr.setCell ⟨w.heap.size + 1, pw (254 + 1), none⟩ (.int .u8 (aff (qw (254 + 1)) : Nat))) (upd f (pw (254 + 1)) ((aff (qw (254 + 1)) : Nat) : Int)) 255) := Lib.hid ⟨HW.out.r.other (by simp) _, HW.out.t.store _ _, HW.out.bel.setCell (by simp) _, HW.out.sub.step hi⟩
      generalize wr.setCell ⟨w.heap.size + 1, pw (254 + 1), none⟩ (.int .u8 (aff (qw (254 + 1)) : Nat)) = w5 at *
      generalize upd f (pw (254 + 1)) ((aff (qw (254 + 1)) : Nat) : Int) = f5 at HX
      go_wp2_with (first | (refine wpList_load_arr rfl 175 _ rfl _ rfl HX.out.t Tryz.underlying175 rfl info256 ?_) | (refine wpList_store_arr rfl 175 _ _ rfl _ rfl rfl HX.out.r info256 ?_; intro w6 hA hG hS))
      refine ret_arr rfl rfl hA Tryz.underlying175 rfl info256 rfl ⟨?_, HX.out.bel.grown hG HX.out.bel.size (by simp)⟩
      exact congrArg (fun x => Ending.returned (.agg x)) (arr_congr fun i hi => HX.out.sub.all i hi)
    · have hne := pw_ne (i + 1) (by omega) (by omega)
      have hb : (((pw (i + 1) : Nat) : Int) == 1) = false := by simp; omega
      go_wp2
      go_roundw
      case rel => exact ⟨i + 1, _, by omega, rfl, rfl, HW.out.r.other (by simp) _, HW.out.t.store _ _, HW.out.bel.setCell (by simp) _, by rw [AF.out]; exact HW.out.sub.step hi⟩
      case measure =>
        have e1 := lg_pw2 i hi
        have e2 := lg_pw2 (i + 1) (by omega)
        simp only [intOf, Int.toNat_natCast]
        rw [e1, e2]
        omega
end Go.Proofs.YtmifebcaifbmoaaGreatDoor.Rj
end

/- Rj3 -/
section
namespace Go.Proofs.YtmifebcaifbmoaaGreatDoor.Rj
open Go.RowKit Go.Lib Go.Proofs.YtmifebcaifbmoaaGreatDoor.Blk Go.Proofs.YtmifebcaifbmoaaGreatDoor.Aes

structure InvW (B : Nat) (w wr : World) (f : Nat → Int) (i : Nat) : Prop where
  r : Arr wr (B + 1) .u8 256 175 (fun _ => 0)
  t : Arr wr (B + 2) .u8 256 175 f
  bel : Below B w wr
  inv : ∀ j, j < i → f (S j) = (j : Int)
theorem inv_step {f : Nat → Int} {i : Nat} (hi : i < 256) (h : ∀ j, j < i → f (S j) = (j : Int)) : ∀ j, j < i + 1 → upd f (S i) (i : Int) (S j) = (j : Int) := fun j hj => by
  unfold upd
  split
  · rename_i e
    have := congrArg U e
    rw [US j (by omega), US i hi] at this
    omega
  · refine h j ?_
    rcases Nat.lt_or_ge j i with h' | h'
    · exact h'
    · obtain rfl : j = i := by omega
      rename_i e
      exact absurd rfl e
theorem bel_of_gb {_B : Nat} {w w' : World} (h : w.grownBy w' none) : Below w.heap.size w w' := ⟨h.os, h.tape, h.output, h.size, fun k hk => h.block k hk (by simp)⟩

set_option maxRecDepth 100000 in
set_option maxHeartbeats 2000000 in
theorem inverse_any (w : World) : Calls Tryz.prog 146 #[.agg (arr .u8 256 fun i => (S i : Nat))] w fun e w' => e = .returned (.agg (arr .u8 256 fun i => (U i : Nat))) ∧ Below w.heap.size w w' := by
  have z256 : (Tryz.prog.info? 175).bind (·.zero) = some (.agg (arr .u8 256 fun _ => 0)) := by kernel_rfl
  have hi1 : (Tryz.prog.info? 5).map (·.size) = some 1 := by kernel_rfl
  have IX := Lib.hid (fun (i : Nat) (hi : i < 256) (w : World) => New.run_index_arr (P := Tryz.prog) Tryz.underlying175 Tryz.underlying5 hi1 (fun i => ((S i : Nat) : Int)) i hi w)
  go_enter Tryz.func146, Tryz.ntmps146
  go_upto_region 0 with fail
  refine wp_region_lit ?_
  refine New.p_box rfl 175 _ rfl .u8 256 (fun i => ((S i : Nat) : Int)) rfl ?_
  intro w1 h1 g1 s1
  simp only [Act.put, List.setIfInBounds_toArray, List.set_cons_zero, List.set_cons_succ]
  refine New.p_newarr rfl 175 rfl .u8 256 z256 ?_
  intro w2 h2 g2 s2
  refine wpList_nil ?_
  simp only [Act.put, List.setIfInBounds_toArray, List.set_cons_zero, List.set_cons_succ]
  have A1 := Lib.hid (h1.below (bel_of_gb (_B := 0) g2) h1.lt)
  have A2 := Lib.hid h2
  have G2 := Lib.hid (((Below.refl w.heap.size w).grown g1 (Nat.le_refl _) (by simp)).grown g2 (by omega) (by simp))
  have S2 := Lib.hid (s2.trans (by rw [s1]))
  have S1 := Lib.hid s1
  clear h1 g1 s1 h2 g2 s2
  go_upto_region 1 with fail
  refine wp_region_lit ?_
  refine New.p_newarr rfl 175 rfl .u8 256 z256 ?_
  intro w3 h3 g3 s3
  refine wpList_nil ?_
  simp only [Act.put, List.setIfInBounds_toArray, List.set_cons_zero, List.set_cons_succ]
  have hW : Hid (InvW w.heap.size w w3 (fun _ => 0) 0) := Lib.hid ⟨by
      have := A2.out.below (bel_of_gb (_B := 0) g3) A2.out.lt
      rw [S1.out] at this
      exact this, by rw [S2.out] at h3; exact h3, G2.out.grown g3 (by have := S2.out; omega) (by simp), fun j hj => by omega⟩
  have HA := Lib.hid (A1.out.below (bel_of_gb (_B := 0) g3) A1.out.lt)
  rw [S1.out, S2.out]
  clear h3 g3 s3 A1 A2 G2 S1 S2
  go_wp2_with (refine wpList_load_arr rfl 175 _ rfl _ rfl HA.out Tryz.underlying175 rfl info256 ?_)
  go_loopw [7] (fun p wr => ∃ (i : Nat) (f : Nat → Int), i ≤ 256 ∧ p = .int .i64 i ∧ InvW w.heap.size w wr f i) (fun p _ => 256 - (intOf p).toNat)
  case atStart => exact ⟨0, _, by decide, rfl, hW.out⟩
  case round =>
    obtain ⟨i, f, hi, rfl, hw⟩ := hrel
    have HW := Lib.hid hw
    by_cases hlt : i < 256
    · have ix := IX.out i hlt
      have hs := S_lt i hlt
      have hcell := hw.t.cell hs
      have hfr := hw.t.free (S i)
      clear hw
      go_wp2
      go_roundw
      case rel => exact ⟨i + 1, _, by omega, by go_num, HW.out.r.other (by simp) _, HW.out.t.store _ _, HW.out.bel.setCell (by simp; omega) _, inv_step hlt HW.out.inv⟩
      case measure => simp [intOf]; omega
    · obtain rfl : i = 256 := by omega
      clear hw
      go_wp2_with (first | (refine wpList_load_arr rfl 175 _ rfl _ rfl HW.out.t Tryz.underlying175 rfl info256 ?_) | (refine wpList_store_arr rfl 175 _ _ rfl _ rfl rfl HW.out.r info256 ?_; intro w6 hA hG hS))
      refine ret_arr rfl rfl hA Tryz.underlying175 rfl info256 rfl ⟨?_, HW.out.bel.grown hG HW.out.bel.size (by simp)⟩
      exact congrArg (fun x => Ending.returned (.agg x)) (arr_congr fun i hi => by rw [← SU i hi, HW.out.inv _ (U_lt i hi), SU i hi])
end Go.Proofs.YtmifebcaifbmoaaGreatDoor.Rj
end
