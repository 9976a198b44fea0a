/- Dot of the document's own functions. -/
import Derived.Test.YtfchbodbkdkcfaaRef7
namespace Go.Proofs.Ytfchbodbkdkcfaa.Ref
open Go.RowKit Go.Lib
open Go.Proofs.Ytfchbodbkdkcfaa.Blk Go.Proofs.Ytfchbodbkdkcfaa.Poly Go.Proofs.Ytfchbodbkdkcfaa.Field Go.Proofs.Ytfchbodbkdkcfaa.Ints Go.Proofs.Ytfchbodbkdkcfaa.Alg

def pmd (k : Nat) : Nat := xs k fun q => 2 ^ pd q
theorem hlf_even (N : Nat) (h : N.testBit 0 = false) : N / 2 = hlfN N := by
  unfold hlfN
  rw [Nat.testBit_zero] at h
  have : ¬ N % 2 = 1 := by simpa using h
  rw [if_neg this, Nat.xor_zero]
theorem hlf_odd (N : Nat) (h : N.testBit 0 = true) : ((N ^^^ pmd 4) ^^^ 2 ^ 128) / 2 = hlfN N := by
  unfold hlfN
  rw [Nat.testBit_zero] at h
  have h1 : N % 2 = 1 := by simpa using h
  rw [if_pos h1]
  have e : ∀ x y : Nat, (x ^^^ y) / 2 = x / 2 ^^^ y / 2 := fun x y => by simpa using Nat.xor_div_two_pow (n := 1) (a := x) (b := y)
  rw [Nat.xor_assoc, e]
  congr 1
theorem half_bit (M j : Nat) : bitI M (1 + j) = bitI (M / 2) j := by
  unfold bitI
  rw [Nat.testBit_div_two, Nat.add_comm]

/-- the state of the loop -/
structure DS (a b : Nat) (B gp : Nat) (w wr : World) : Prop where
  r : R3 a b B w wr
  p : LI wr 3 gp 0 4 4 4 (fun k => (pd k : Int)) (fun k => (pd k : Int))
  lt : B + 3 ≤ gp
theorem DS.below {a b B gp : Nat} {w wr w' : World} (h : DS a b B gp w wr) (hb : Below wr.heap.size wr w') : DS a b B gp w w' :=
  ⟨h.r.belowN hb h.r.size, h.p.below hb h.p.arr.lt, h.lt⟩
theorem DS.grown {a b B gp g : Nat} {w wr w' : World} (h : DS a b B gp w wr) (hg : wr.grownBy w' (some g)) (hB : B + 3 ≤ g) (hne : gp ≠ g) : DS a b B gp w w' :=
  ⟨h.r.belowN (Held.gb_below (B := B + 3) hg h.r.size (by intro q hq; cases hq; exact hB)) (Nat.le_refl _), LI.grown h.p hg hne, h.lt⟩

set_option maxRecDepth 100000 in
set_option maxHeartbeats 4000000 in
theorem rdot_any (a b : Nat) (ha : a < 2 ^ 128) (hb : b < 2 ^ 128) (w : World) : Calls Try.prog 24 #[B16 a, B16 b] w fun e w' => e = .returned (B16 (dotN a b 128)) ∧ Below w.heap.size w w' := by
  have H0 := Lib.hid (r3_start a b w)
  have HAB : Hid (a < 2 ^ 128 ∧ b < 2 ^ 128) := Lib.hid ⟨ha, hb⟩
  obtain ⟨I, hI⟩ := int_ty
  have TI := Lib.hid hI
  clear hI ha hb
  rw [zero16] at H0
  go_enter Try.func24, Try.ntmps24
  go_upto_region 1 with fail
  generalize (((w.alloc (.cells (arr .u8 16 fun i => (byt a i : Int)) 48)).alloc (.cells (arr .u8 16 fun i => (byt b i : Int)) 48)).alloc (.cells #[.int .u8 0, .int .u8 0, .int .u8 0, .int .u8 0, .int .u8 0, .int .u8 0, .int .u8 0, .int .u8 0, .int .u8 0, .int .u8 0, .int .u8 0, .int .u8 0, .int .u8 0, .int .u8 0, .int .u8 0, .int .u8 0] 48)) = w1 at *
  go_upto_region 2 with fail
  have D1 : Hid (DS a b w.heap.size w1.heap.size w (w1.alloc (.cells #[.int .i64 127, .int .i64 126, .int .i64 121, .int .i64 0] 3))) := Lib.hid ⟨H0.out.belowN ((Below.refl w1.heap.size w1).alloc (Nat.le_refl _) _) H0.out.size, LI.fourP w1, H0.out.size⟩
  clear H0
  generalize hgp : w1.heap.size = gp at *
  generalize w1.alloc (.cells #[.int .i64 127, .int .i64 126, .int .i64 121, .int .i64 0] 3) = w2 at *
  clear hgp
  go_cut [6] from 9 to 53 (fun s6 wx => ∃ g cap m G, s6 = .slice (some ⟨g, 0, none⟩) 128 cap ∧ LI wx 3 g 0 128 cap m G (bitI (rd pd 127 (clm a b))) ∧ DS a b w.heap.size gp w wx ∧ gp < g)
  case first =>
    refine Held.begin_ (S := fun w' => DS a b w.heap.size gp w w') 8 rfl (by kernel_rfl) (D1.out.below (Below.refl w2.heap.size w2).drew) ?_
    intro hS
    have SX := Lib.hid hS
    clear hS
    generalize w2.drew = v0 at SX ⊢
    refine Held.t_load (i := 0) rfl rfl (by kernel_rfl) (by kernel_rfl) (by kernel_rfl) SX.out _ _ rfl _ rfl (fun w' hw' => hw'.r.a) Try.underlying48 rfl info16 ?_
    simp only [Act.put, List.setIfInBounds_toArray, List.set_cons_zero, List.set_cons_succ]
    refine Held.t_load (i := 2) rfl rfl (by kernel_rfl) (by kernel_rfl) (by kernel_rfl) SX.out _ _ rfl _ rfl (fun w' hw' => hw'.r.b) Try.underlying48 rfl info16 ?_
    simp only [Act.put, List.setIfInBounds_toArray, List.set_cons_zero, List.set_cons_succ]
    refine Held.t_move (i := 5) rfl rfl (by kernel_rfl) (by kernel_rfl) (by kernel_rfl) SX.out _ rfl (.slice (some ⟨gp, 0, none⟩) 4 4) rfl ?_
    simp only [Act.put, List.setIfInBounds_toArray, List.set_cons_zero, List.set_cons_succ]
    refine Held.t_one (i := 1) rfl rfl (by kernel_rfl) ?_
    refine Held.w_callx 33 _ _ rfl Try.func33 (by kernel_rfl) rfl [B16 a] rfl (little_any a v0) ?_
    rintro e v1 ⟨ga, ca, ma, Fa, rfl, hga, hla, hb1⟩
    refine ⟨_, rfl, SX.out.below hb1, ?_⟩
    have SX1 := Lib.hid (SX.out.below hb1)
    have LA := Lib.hid hla
    clear SX hla hb1
    simp only [Act.put, List.setIfInBounds_toArray, List.set_cons_zero, List.set_cons_succ]
    refine Held.t_one (i := 3) rfl rfl (by kernel_rfl) ?_
    refine Held.w_callx 33 _ _ rfl Try.func33 (by kernel_rfl) rfl [B16 b] rfl (little_any b v1) ?_
    rintro e v2 ⟨gb, cb, mb, Fb, rfl, hgb, hlb, hb2⟩
    refine ⟨_, rfl, SX1.out.below hb2, ?_⟩
    have SX2 := Lib.hid (SX1.out.below hb2)
    have LA2 := Lib.hid (lbel LA.out hb2 LA.out.arr.lt)
    have LB := Lib.hid hlb
    clear SX1 LA hlb hb2
    simp only [Act.put, List.setIfInBounds_toArray, List.set_cons_zero, List.set_cons_succ]
    refine Held.t_one (i := 4) rfl rfl (by kernel_rfl) ?_
    refine Held.w_callx 36 _ _ rfl Try.func36 (by kernel_rfl) rfl [.slice (some ⟨ga, 0, none⟩) 128 ca, .slice (some ⟨gb, 0, none⟩) 128 cb] rfl (product_op a b ga ca ma Fa gb cb mb Fb v2 LA2.out LB.out) ?_
    rintro e v3 ⟨gC, rfl, hgC, hl, hb3⟩
    refine ⟨_, rfl, SX2.out.below hb3, ?_⟩
    have NE : Hid (gp < gC ∧ w.heap.size + 3 ≤ gC) := Lib.hid ⟨by have := SX2.out.p.arr.lt; omega, by have := SX2.out.r.size; omega⟩
    have SX3 := Lib.hid (SX2.out.below hb3)
    have LC := Lib.hid hl
    clear SX2 LA2 LB hl hb3 hgC
    simp only [Act.put, List.setIfInBounds_toArray, List.set_cons_zero, List.set_cons_succ]
    refine Held.t_one (i := 6) rfl rfl (by kernel_rfl) ?_
    refine Held.w_callx 35 _ _ rfl Try.func35 (by kernel_rfl) rfl [.slice (some ⟨gC, 0, none⟩) 255 255, .slice (some ⟨gp, 0, none⟩) 4 4] rfl (reduced_any (clm a b) pd (by decide) gC 255 255 255 _ 127 rfl (by decide) gp 0 4 4 _ v3 LC.out SX3.out.p (by have := NE.out; omega)) ?_
    rintro e v4 ⟨rfl, ⟨G, hl4⟩, hG4, hs4⟩
    have SX4 := Lib.hid (SX3.out.grown hG4 NE.out.2 (by have := NE.out; omega))
    refine ⟨_, rfl, SX4.out, ?_⟩
    simp only [Act.put, List.setIfInBounds_toArray, List.set_cons_zero, List.set_cons_succ]
    refine Held.t_assign (i := 7) rfl rfl (by kernel_rfl) (by kernel_rfl) (by kernel_rfl) SX4.out _ rfl (.slice (some ⟨gC, 0, none⟩) 128 255) rfl ?_
    simp only [Act.put, List.setIfInBounds_toArray, List.set_cons_zero, List.set_cons_succ]
    refine Held.t_end (by kernel_rfl) ?_
    go_wp2_with fail
    go_meet
    case rel => exact ⟨gC, 255, 255, G, rfl, LI.first (k := 128) hl4 (by decide), SX4.out, NE.out.1⟩
  obtain ⟨g, cap, m, G, rfl, hl, hD, hgt⟩ := hcut
  have L0 := Lib.hid hl
  have D0 := Lib.hid hD
  clear hl hD D1
  have N0 : Hid (rd pd 127 (clm a b) < 2 ^ 128) := Lib.hid (rd_phi modP 127 _ (Nat.le_refl _) (clm_lt _ _)).2
  have HE : Hid (it hlfN 128 (rd pd 127 (clm a b)) = dotN a b 128) := Lib.hid (dot_ref a b HAB.out.1 HAB.out.2)
  generalize rd pd 127 (clm a b) = N at L0 N0 HE
  go_wp2
  go_loopw [7, 6] (fun i s wr => ∃ (k g off cap m : Nat) (G : Nat → Int), k ≤ 128 ∧ i = .int .i64 k ∧ s = .slice (some ⟨g, off, none⟩) 128 cap ∧ LI wr 3 g off 128 cap m G (bitI (it hlfN k N)) ∧ DS a b w.heap.size gp w wr ∧ gp < g) (fun i _ _ => 128 - (intOf i).toNat)
  case atStart => exact ⟨0, g, 0, cap, m, G, by omega, rfl, rfl, L0.out, D0.out, hgt⟩
  case round =>
    obtain ⟨k, g2, off, cap2, m2, G2, hk, rfl, rfl, hl2, hD2, hgt2⟩ := hrel
    have L2 := Lib.hid hl2
    have D2 := Lib.hid hD2
    clear hl2 hD2
    by_cases hlt : k < 128
    · have IS : Hid (it hlfN (k + 1) N = hlfN (it hlfN k N)) := Lib.hid rfl
      have NL : Hid (it hlfN k N < 2 ^ 128) := Lib.hid ((hlf_lin.iter k).lt N N0.out)
      generalize it hlfN k N = M at L2 IS NL
      have Z2 := Lib.hid (LI.single wr 3 0)
      have L3 := Lib.hid (LI.alloc L2.out (.cells #[.int .i64 0] 3))
      have GL : Hid (g2 < wr.heap.size) := Lib.hid L2.out.arr.lt
      go_upto_region 7 with (first | (refine Held.p_wp rfl (w_append_ints TI.out _ _ rfl rfl L3.out rfl Z2.out (.inr (by have := GL.out; omega)) (by omega) ?_); intro g4 o4 c4 m4 F4 w4 h4 hG4 hor) | fail)
      have W4 : Hid (LI w4 3 g4 o4 129 c4 m4 F4 (bitI M)) := Lib.hid (h4.congr (fun i hi => by
        by_cases e : i < 128
        · rw [if_pos e]
        · rw [if_neg e]
          unfold bitI
          rw [Nat.testBit_lt_two_pow (Nat.lt_of_lt_of_le NL.out (Nat.pow_le_pow_right (by decide) (by omega)))]; simp))
      have G2B : Hid (w.heap.size + 3 ≤ g2) := Lib.hid (by have := D2.out.lt; omega)
      have D4 : Hid (DS a b w.heap.size gp w w4) := Lib.hid ((D2.out.below ((Below.refl wr.heap.size wr).alloc (Nat.le_refl _) _)).grown hG4 G2B.out (by omega))
      have GT : Hid (gp < g4) := Lib.hid (by
        have h1 := D2.out.p.arr.lt
        rcases hor with ⟨e, _⟩ | ⟨e, _⟩
        · omega
        · rw [e]; simp; omega)
      have LEN := W4.out.len
      clear h4 hG4 hor L2 L3 Z2 D2
      have c0 := W4.out.cell (i := 0) (by omega)
      rw [Nat.add_zero] at c0
      unfold bitI at c0
      have CUT : ∀ (wx : World) (F5 : Nat → Int) (M5 : Nat), LI wx 3 g4 o4 129 c4 m4 F5 (bitI M5) → M5 / 2 = hlfN M → LI wx 3 g4 (o4 + 1) 128 (c4 - 1) m4 F5 (bitI (it hlfN (k + 1) N)) := fun wx F5 M5 h he =>
        ⟨h.arr, by have := h.le; omega, by omega, by have := h.max; omega, fun i hi => by rw [Nat.add_assoc, h.eq (1 + i) (by omega), half_bit, he, IS.out]⟩
      have CU := Lib.hid CUT
      clear CUT
      cases hb : M.testBit 0
      · rw [hb] at c0
        simp only [Bool.false_eq_true, if_false] at c0
        have EV := Lib.hid (hlf_even M hb)
        clear hb
        go_wp2_with fail
        go_roundw
        case rel => exact ⟨k + 1, g4, o4 + 1, c4 - 1, m4, F4, by omega, by go_num, rfl, CU.out _ _ _ W4.out EV.out, D4.out, GT.out⟩
        case measure => simp [intOf]; omega
      · rw [hb] at c0
        simp only [if_true] at c0
        have OD := Lib.hid (hlf_odd M hb)
        clear hb
        go_wp2_with fail
        go_loopw [8] (fun j wr2 => ∃ (q : Nat) (G5 : Nat → Int), q ≤ 4 ∧ j = .int .i64 q ∧ LI wr2 3 g4 o4 129 c4 m4 G5 (bitI (M ^^^ pmd q)) ∧ w4.grownBy wr2 (some g4) ∧ wr2.heap.size = w4.heap.size) (fun j _ => 4 - (intOf j).toNat)
        case atStart => exact ⟨0, F4, by omega, rfl, by rw [show pmd 0 = 0 from rfl, Nat.xor_zero]; exact W4.out, gb_refl _ _, rfl⟩
        case round =>
          obtain ⟨q, G5, hq, rfl, hl5, hg5, hs5⟩ := hrel
          have HL5 := Lib.hid hl5
          have HG5 := Lib.hid hg5
          have HS5 := Lib.hid hs5
          clear hl5 hg5 hs5
          have hne : gp ≠ g4 := by have := GT.out; omega
          by_cases hq4 : q < 4
          · have hpd : pd q < 128 := modP.lt q hq4
            have PK : Hid (pmd (q + 1) = pmd q ^^^ 2 ^ pd q) := Lib.hid rfl
            have c2 := (LI.grown D4.out.p HG5.out hne).cell hq4
            rw [Nat.zero_add] at c2
            generalize pd q = x at hpd PK c2
            have c3 := HL5.out.cell (i := x) (by omega)
            have f3 := HL5.out.arr.free (o4 + x)
            have FB := Lib.hid (flip_one (M ^^^ pmd q) x)
            unfold bitI at c3
            cases hd : (M ^^^ pmd q).testBit x
            all_goals
              rw [hd] at c3
              simp only [Bool.false_eq_true, if_false, if_true] at c3
              have HD := Lib.hid hd
              clear hd
              go_wp2_with fail
              go_region
              go_wp2_with fail
              go_roundw
              case rel =>
                have key : ∀ v : Int, v = (if (!((M ^^^ pmd q).testBit x)) = true then 1 else 0) → LI (wr.setCell ⟨g4, o4 + x, none⟩ (.int .i64 v)) 3 g4 o4 129 c4 m4 (upd G5 (o4 + x) v) (bitI (M ^^^ pmd (q + 1))) := fun v hv =>
                  (HL5.out.store x v).congr (fun i hi => by
                    rw [PK.out, ← Nat.xor_assoc]
                    unfold upd bitI
                    rw [FB.out i]
                    by_cases e : i = x
                    · subst e; rw [if_pos rfl, if_pos rfl, hv]
                    · rw [if_neg e, if_neg e])
                have h2 := key _ (by rw [HD.out])
                exact ⟨q + 1, _, by omega, by go_num, ⟨h2.arr, h2.le, h2.len, h2.max, h2.eq⟩, gb_drew (gb_setCell HG5.out (o4 + x) _), by simp [HS5.out]⟩
              case measure => simp [intOf]; omega
          · obtain rfl : q = 4 := by omega
            have c5 := HL5.out.cell (i := 128) (by omega)
            have f5 := HL5.out.arr.free (o4 + 128)
            have B8 : Hid ((M ^^^ pmd 4).testBit 128 = false) := Lib.hid (Nat.testBit_lt_two_pow (Nat.xor_lt_two_pow NL.out (by decide)))
            unfold bitI at c5
            rw [B8.out] at c5
            simp only [Bool.false_eq_true, if_false] at c5
            go_wp2_with fail
            go_roundw
            case rel =>
              have h6 : LI (wr.setCell ⟨g4, o4 + 128, none⟩ (.int .i64 1)) 3 g4 o4 129 c4 m4 (upd G5 (o4 + 128) 1) (bitI ((M ^^^ pmd 4) ^^^ 2 ^ 128)) := (HL5.out.store 128 1).congr (fun i hi => by
                unfold upd bitI
                rw [flip_one]
                by_cases e : i = 128
                · subst e; rw [if_pos rfl, if_pos rfl, B8.out]; rfl
                · rw [if_neg e, if_neg e])
              exact ⟨k + 1, g4, o4 + 1, c4 - 1, m4, _, by omega, by go_num, rfl, CU.out _ _ _ h6 OD.out, D4.out.grown (gb_setCell HG5.out (o4 + 128) _) (by have := D4.out.lt; have := GT.out; omega) hne, GT.out⟩
            case measure => simp [intOf]; omega
    · obtain rfl : k = 128 := by omega
      go_wp2_with fail
      refine (fromLittle_any _ g2 off cap2 m2 G2 wr L2.out).mono ?_
      rintro e w6 ⟨rfl, hb6⟩
      have R6 := Lib.hid (D2.out.r.belowN hb6 D2.out.r.size)
      have E6 : Hid (it hlfN 128 N % 2 ^ 128 = dotN a b 128) := Lib.hid (by rw [Nat.mod_eq_of_lt ((hlf_lin.iter 128).lt N N0.out), HE.out])
      clear hb6
      generalize it hlfN 128 N % 2 ^ 128 = q at E6 ⊢
      go_wp2_with (first | (refine wpList_store_arr rfl 48 _ _ rfl _ rfl rfl R6.out.r info16 ?_; intro w8 hA hG hS))
      exact ret_arr rfl rfl hA Try.underlying48 rfl info16 rfl ⟨by rw [E6.out], R6.out.bel.grown hG R6.out.bel.size (by intro j hj; cases hj; omega)⟩
end Go.Proofs.Ytfchbodbkdkcfaa.Ref
