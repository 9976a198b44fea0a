/- TweakField. -/
import Derived.Test.YtfchbodbkdkcfaaHeld
import Derived.Test.YtfchbodbkdkcfaaFrob
namespace Go.Proofs.Ytfchbodbkdkcfaa.TField
open Go.RowKit Go.Lib
open Go.Proofs.Ytfchbodbkdkcfaa.Blk Go.Proofs.Ytfchbodbkdkcfaa.Poly Go.Proofs.Ytfchbodbkdkcfaa.Field Go.Proofs.Ytfchbodbkdkcfaa.Frob

theorem build_one (w : World) : (Instr.build 48 #[(15, .int .u8 1)]).run Try.prog w = .ok (B16 (2 ^ 120)) w := by kernel_rfl
theorem build_two (w : World) : (Instr.build 48 #[(15, .int .u8 2)]).run Try.prog w = .ok (B16 (2 ^ 121)) w := by kernel_rfl
theorem build_nil (w : World) : (Instr.build 48 #[]).run Try.prog w = .ok (B16 0) w := by kernel_rfl
theorem times_num (a b : Nat) (hb : b < 2 ^ 128) (w : World) : Calls Try.prog 19 #[B16 a, B16 b] w fun e w' => e = .returned (B16 (tm a b)) ∧ Below w.heap.size w w' := by
  have := times_any a b hb w
  rw [times_tm] at this
  exact this

/-- the boxes, and one -/
structure Box (a b c : Nat) (B : Nat) (w wr : World) : Prop where
  a : Arr wr B .u8 16 48 (fun i => (byt a i : Int))
  b : Arr wr (B + 1) .u8 16 48 (fun i => (byt b i : Int))
  c : Arr wr (B + 1 + 1) .u8 16 48 (fun i => (byt c i : Int))
  o : Arr wr (B + 1 + 1 + 1) .u8 16 48 (fun i => (byt (2 ^ 120) i : Int))
  bel : Below B w wr
  size : B + 4 ≤ wr.heap.size
section
variable {a b c B : Nat} {w wr : World} (s : Box a b c B w wr)
include s
theorem Box.la : B < wr.heap.size := by have := s.size; omega
theorem Box.lb : B + 1 < wr.heap.size := by have := s.size; omega
theorem Box.lc : B + 1 + 1 < wr.heap.size := by have := s.size; omega
theorem Box.lo : B + 1 + 1 + 1 < wr.heap.size := by have := s.size; omega
theorem Box.belowN {w' : World} {N : Nat} (hb : Below N wr w') (hN : B + 4 ≤ N) : Box a b c B w w' :=
  ⟨s.a.below hb (by omega), s.b.below hb (by omega), s.c.below hb (by omega), s.o.below hb (by omega), s.bel.trans (hb.mono (by omega)), Nat.le_trans s.size hb.size⟩
theorem Box.below {w' : World} (hb : Below wr.heap.size wr w') : Box a b c B w w' := s.belowN hb s.size
end

set_option maxRecDepth 100000 in
set_option maxHeartbeats 4000000 in
theorem law_any (a b c : Nat) (ha : a < 2 ^ 128) (hb : b < 2 ^ 128) (hc : c < 2 ^ 128) (w : World) :
    Calls Try.prog 9 #[B16 a, B16 b, B16 c] w fun e w' => e = .returned (.bool true) ∧ Below w.heap.size w w' := by
  have S1 := Lib.hid ((((Arr.new w .u8 16 48 fun i => (byt a i : Int)).alloc (.cells (arr .u8 16 fun i => (byt b i : Int)) 48)).alloc (.cells (arr .u8 16 fun i => (byt c i : Int)) 48)))
  have S2 := Lib.hid (((Arr.new (w.alloc (.cells (arr .u8 16 fun i => (byt a i : Int)) 48)) .u8 16 48 fun i => (byt b i : Int)).alloc (.cells (arr .u8 16 fun i => (byt c i : Int)) 48)))
  have S3 := Lib.hid ((Arr.new ((w.alloc (.cells (arr .u8 16 fun i => (byt a i : Int)) 48)).alloc (.cells (arr .u8 16 fun i => (byt b i : Int)) 48)) .u8 16 48 fun i => (byt c i : Int)))
  have HB := Lib.hid (((Below.refl w.heap.size w).alloc (Nat.le_refl _) (.cells (arr .u8 16 fun i => (byt a i : Int)) 48)).alloc (by simp) (.cells (arr .u8 16 fun i => (byt b i : Int)) 48) |>.alloc (by simp; omega) (.cells (arr .u8 16 fun i => (byt c i : Int)) 48))
  have hz := Lib.hid (Arr.new (((w.alloc (.cells (arr .u8 16 fun i => (byt a i : Int)) 48)).alloc (.cells (arr .u8 16 fun i => (byt b i : Int)) 48)).alloc (.cells (arr .u8 16 fun i => (byt c i : Int)) 48)) .u8 16 48 fun _ => 0)
  rw [zero16] at hz
  simp only [World.size_alloc] at S1 S2 S3 HB hz
  go_enter Try.func9, Try.ntmps9
  go_upto_region 1 with fail
  go_cut [7] from 11 to 91 (fun s7 wx => s7 = .pointer (some ⟨w.heap.size + 1 + 1 + 1, 0, none⟩) ∧ Box a b c w.heap.size w wx)
  case first =>
    refine wp_region_lit ?_
    refine Held.p_build rfl _ [(15, .const (.int .u8 1))] rfl (B16 (2 ^ 120)) [(15, .int .u8 1)] rfl build_one ?_
    simp only [Act.put, List.setIfInBounds_toArray, List.set_cons_zero, List.set_cons_succ]
    go_wp2_with (first | (refine wpList_store_arr (f := fun i => (byt (2 ^ 120) i : Int)) rfl 48 _ _ rfl _ rfl rfl hz.out info16 ?_; intro w2 hA hG hS) | fail)
    go_meet
    case rel => exact ⟨rfl, ⟨(S1.out.alloc _).grown hG (by omega), (S2.out.alloc _).grown hG (by omega), (S3.out.alloc _).grown hG (by omega), hA, (HB.out.alloc (by simp; omega) _).grown hG (by simp; omega) (by intro j hj; cases hj; omega), by rw [hS]; simp⟩⟩
  obtain ⟨rfl, hbox⟩ := hcut
  have S0 := Lib.hid hbox
  have LE : Hid (wc.heap.size ≤ wc.heap.size) := Lib.hid (Nat.le_refl _)
  clear hbox S1 S2 S3 HB hz
  go_wp2
  refine Eqs.wp_region_class (C := fun w' => Below wc.heap.size wc w') (by kernel_rfl) (by kernel_rfl) (Below.refl _ _).drew ?_
  refine Eqs.q_load rfl 48 _ rfl _ rfl (fun _ hs => S0.out.a.below hs S0.out.la) Try.underlying48 rfl info16 ?_
  simp only [Act.put, List.setIfInBounds_toArray, List.set_cons_zero, List.set_cons_succ]
  refine Eqs.q_load rfl 48 _ rfl _ rfl (fun _ hs => S0.out.b.below hs S0.out.lb) Try.underlying48 rfl info16 ?_
  simp only [Act.put, List.setIfInBounds_toArray, List.set_cons_zero, List.set_cons_succ]
  refine Eqs.q_call rfl 19 _ _ rfl Try.func19 (by kernel_rfl) rfl _ [B16 a, B16 b] rfl (fun w' hw' => (times_num a b hb w').mono fun e w2 ⟨he, hb⟩ => ⟨he, hw'.trans (hb.mono (Nat.le_trans LE.out hw'.size))⟩) ?_
  simp only [Act.put, List.setIfInBounds_toArray, List.set_cons_zero, List.set_cons_succ]
  refine Eqs.q_load rfl 48 _ rfl _ rfl (fun _ hs => S0.out.b.below hs S0.out.lb) Try.underlying48 rfl info16 ?_
  simp only [Act.put, List.setIfInBounds_toArray, List.set_cons_zero, List.set_cons_succ]
  refine Eqs.q_load rfl 48 _ rfl _ rfl (fun _ hs => S0.out.a.below hs S0.out.la) Try.underlying48 rfl info16 ?_
  simp only [Act.put, List.setIfInBounds_toArray, List.set_cons_zero, List.set_cons_succ]
  refine Eqs.q_call rfl 19 _ _ rfl Try.func19 (by kernel_rfl) rfl _ [B16 b, B16 a] rfl (fun w' hw' => (times_num b a ha w').mono fun e w2 ⟨he, hb⟩ => ⟨he, hw'.trans (hb.mono (Nat.le_trans LE.out hw'.size))⟩) ?_
  simp only [Act.put, List.setIfInBounds_toArray, List.set_cons_zero, List.set_cons_succ]
  refine Eqs.q_neq rfl _ _ _ _ rfl (tm a b) (tm b a) rfl rfl Try.underlying48 Try.underlying5 (by kernel_rfl) (by kernel_rfl) (tm_lt a b) (tm_lt b a) false (Eqs.ne_false (tm_comm a b)) ?_
  simp only [Act.put, List.setIfInBounds_toArray, List.set_cons_zero, List.set_cons_succ]
  refine Eqs.q_move rfl _ rfl (.bool false) rfl ?_
  simp only [Act.put, List.setIfInBounds_toArray, List.set_cons_zero, List.set_cons_succ]
  refine Eqs.q_load rfl 48 _ rfl _ rfl (fun _ hs => S0.out.a.below hs S0.out.la) Try.underlying48 rfl info16 ?_
  simp only [Act.put, List.setIfInBounds_toArray, List.set_cons_zero, List.set_cons_succ]
  refine Eqs.q_load rfl 48 _ rfl _ rfl (fun _ hs => S0.out.o.below hs S0.out.lo) Try.underlying48 rfl info16 ?_
  simp only [Act.put, List.setIfInBounds_toArray, List.set_cons_zero, List.set_cons_succ]
  refine Eqs.q_call rfl 19 _ _ rfl Try.func19 (by kernel_rfl) rfl _ [B16 a, B16 (2 ^ 120)] rfl (fun w' hw' => (times_num a (2 ^ 120) (show (2 ^ 120 : Nat) < 2 ^ 128 by decide) w').mono fun e w2 ⟨he, hb⟩ => ⟨he, hw'.trans (hb.mono (Nat.le_trans LE.out hw'.size))⟩) ?_
  simp only [Act.put, List.setIfInBounds_toArray, List.set_cons_zero, List.set_cons_succ]
  refine Eqs.q_load rfl 48 _ rfl _ rfl (fun _ hs => S0.out.a.below hs S0.out.la) Try.underlying48 rfl info16 ?_
  simp only [Act.put, List.setIfInBounds_toArray, List.set_cons_zero, List.set_cons_succ]
  refine Eqs.q_neq rfl _ _ _ _ rfl (tm a (2 ^ 120)) a rfl rfl Try.underlying48 Try.underlying5 (by kernel_rfl) (by kernel_rfl) (tm_lt a (2 ^ 120)) ha false (Eqs.ne_false (tm_one a ha)) ?_
  simp only [Act.put, List.setIfInBounds_toArray, List.set_cons_zero, List.set_cons_succ]
  refine Eqs.q_pick rfl _ _ _ rfl _ rfl (.bool false) rfl ?_
  simp only [Act.put, List.setIfInBounds_toArray, List.set_cons_zero, List.set_cons_succ]
  refine Eqs.q_move rfl _ rfl (.bool false) rfl ?_
  simp only [Act.put, List.setIfInBounds_toArray, List.set_cons_zero, List.set_cons_succ]
  refine Eqs.q_load rfl 48 _ rfl _ rfl (fun _ hs => S0.out.a.below hs S0.out.la) Try.underlying48 rfl info16 ?_
  simp only [Act.put, List.setIfInBounds_toArray, List.set_cons_zero, List.set_cons_succ]
  refine Eqs.q_build rfl _ [] rfl (B16 0) [] rfl build_nil ?_
  simp only [Act.put, List.setIfInBounds_toArray, List.set_cons_zero, List.set_cons_succ]
  refine Eqs.q_call rfl 19 _ _ rfl Try.func19 (by kernel_rfl) rfl _ [B16 a, B16 0] rfl (fun w' hw' => (times_num a 0 (show (0 : Nat) < 2 ^ 128 by decide) w').mono fun e w2 ⟨he, hb⟩ => ⟨he, hw'.trans (hb.mono (Nat.le_trans LE.out hw'.size))⟩) ?_
  simp only [Act.put, List.setIfInBounds_toArray, List.set_cons_zero, List.set_cons_succ]
  refine Eqs.q_build rfl _ [] rfl (B16 0) [] rfl build_nil ?_
  simp only [Act.put, List.setIfInBounds_toArray, List.set_cons_zero, List.set_cons_succ]
  refine Eqs.q_neq rfl _ _ _ _ rfl (tm a 0) 0 rfl rfl Try.underlying48 Try.underlying5 (by kernel_rfl) (by kernel_rfl) (tm_lt a 0) (show (0 : Nat) < 2 ^ 128 by decide) false (Eqs.ne_false (tm_zero a)) ?_
  simp only [Act.put, List.setIfInBounds_toArray, List.set_cons_zero, List.set_cons_succ]
  refine Eqs.q_pick rfl _ _ _ rfl _ rfl (.bool false) rfl ?_
  simp only [Act.put, List.setIfInBounds_toArray, List.set_cons_zero, List.set_cons_succ]
  refine wpQuiet_nil ?_
  intro w3 hs3
  have S3 := Lib.hid (S0.out.below hs3)
  clear S0 LE hs3
  have S0 := S3
  clear S3
  have LE : Hid (w3.heap.size ≤ w3.heap.size) := Lib.hid (Nat.le_refl _)
  go_wp2
  refine Eqs.wp_region_class (C := fun w' => Below w3.heap.size w3 w') (by kernel_rfl) (by kernel_rfl) (Below.refl _ _).drew ?_
  refine Eqs.q_load rfl 48 _ rfl _ rfl (fun _ hs => S0.out.a.below hs S0.out.la) Try.underlying48 rfl info16 ?_
  simp only [Act.put, List.setIfInBounds_toArray, List.set_cons_zero, List.set_cons_succ]
  refine Eqs.q_load rfl 48 _ rfl _ rfl (fun _ hs => S0.out.b.below hs S0.out.lb) Try.underlying48 rfl info16 ?_
  simp only [Act.put, List.setIfInBounds_toArray, List.set_cons_zero, List.set_cons_succ]
  refine Eqs.q_call rfl 19 _ _ rfl Try.func19 (by kernel_rfl) rfl _ [B16 a, B16 b] rfl (fun w' hw' => (times_num a b hb w').mono fun e w2 ⟨he, hb⟩ => ⟨he, hw'.trans (hb.mono (Nat.le_trans LE.out hw'.size))⟩) ?_
  simp only [Act.put, List.setIfInBounds_toArray, List.set_cons_zero, List.set_cons_succ]
  refine Eqs.q_load rfl 48 _ rfl _ rfl (fun _ hs => S0.out.c.below hs S0.out.lc) Try.underlying48 rfl info16 ?_
  simp only [Act.put, List.setIfInBounds_toArray, List.set_cons_zero, List.set_cons_succ]
  refine Eqs.q_call rfl 19 _ _ rfl Try.func19 (by kernel_rfl) rfl _ [B16 (tm a b), B16 c] rfl (fun w' hw' => (times_num (tm a b) c hc w').mono fun e w2 ⟨he, hb⟩ => ⟨he, hw'.trans (hb.mono (Nat.le_trans LE.out hw'.size))⟩) ?_
  simp only [Act.put, List.setIfInBounds_toArray, List.set_cons_zero, List.set_cons_succ]
  refine Eqs.q_load rfl 48 _ rfl _ rfl (fun _ hs => S0.out.a.below hs S0.out.la) Try.underlying48 rfl info16 ?_
  simp only [Act.put, List.setIfInBounds_toArray, List.set_cons_zero, List.set_cons_succ]
  refine Eqs.q_load rfl 48 _ rfl _ rfl (fun _ hs => S0.out.b.below hs S0.out.lb) Try.underlying48 rfl info16 ?_
  simp only [Act.put, List.setIfInBounds_toArray, List.set_cons_zero, List.set_cons_succ]
  refine Eqs.q_load rfl 48 _ rfl _ rfl (fun _ hs => S0.out.c.below hs S0.out.lc) Try.underlying48 rfl info16 ?_
  simp only [Act.put, List.setIfInBounds_toArray, List.set_cons_zero, List.set_cons_succ]
  refine Eqs.q_call rfl 19 _ _ rfl Try.func19 (by kernel_rfl) rfl _ [B16 b, B16 c] rfl (fun w' hw' => (times_num b c hc w').mono fun e w2 ⟨he, hb⟩ => ⟨he, hw'.trans (hb.mono (Nat.le_trans LE.out hw'.size))⟩) ?_
  simp only [Act.put, List.setIfInBounds_toArray, List.set_cons_zero, List.set_cons_succ]
  refine Eqs.q_call rfl 19 _ _ rfl Try.func19 (by kernel_rfl) rfl _ [B16 a, B16 (tm b c)] rfl (fun w' hw' => (times_num a (tm b c) (tm_lt b c) w').mono fun e w2 ⟨he, hb⟩ => ⟨he, hw'.trans (hb.mono (Nat.le_trans LE.out hw'.size))⟩) ?_
  simp only [Act.put, List.setIfInBounds_toArray, List.set_cons_zero, List.set_cons_succ]
  refine Eqs.q_neq rfl _ _ _ _ rfl (tm (tm a b) c) (tm a (tm b c)) rfl rfl Try.underlying48 Try.underlying5 (by kernel_rfl) (by kernel_rfl) (tm_lt (tm a b) c) (tm_lt a (tm b c)) false (Eqs.ne_false (tm_assoc a b c)) ?_
  simp only [Act.put, List.setIfInBounds_toArray, List.set_cons_zero, List.set_cons_succ]
  refine Eqs.q_move rfl _ rfl (.bool false) rfl ?_
  simp only [Act.put, List.setIfInBounds_toArray, List.set_cons_zero, List.set_cons_succ]
  refine Eqs.q_load rfl 48 _ rfl _ rfl (fun _ hs => S0.out.a.below hs S0.out.la) Try.underlying48 rfl info16 ?_
  simp only [Act.put, List.setIfInBounds_toArray, List.set_cons_zero, List.set_cons_succ]
  refine Eqs.q_load rfl 48 _ rfl _ rfl (fun _ hs => S0.out.b.below hs S0.out.lb) Try.underlying48 rfl info16 ?_
  simp only [Act.put, List.setIfInBounds_toArray, List.set_cons_zero, List.set_cons_succ]
  refine Eqs.q_load rfl 48 _ rfl _ rfl (fun _ hs => S0.out.c.below hs S0.out.lc) Try.underlying48 rfl info16 ?_
  simp only [Act.put, List.setIfInBounds_toArray, List.set_cons_zero, List.set_cons_succ]
  refine Eqs.q_call rfl 17 _ _ rfl Try.func17 (by kernel_rfl) rfl _ [B16 b, B16 c] rfl (fun w' hw' => (plus_num b c w').mono fun e w2 ⟨he, hb⟩ => ⟨he, hw'.trans (hb.mono (Nat.le_trans LE.out hw'.size))⟩) ?_
  simp only [Act.put, List.setIfInBounds_toArray, List.set_cons_zero, List.set_cons_succ]
  refine Eqs.q_call rfl 19 _ _ rfl Try.func19 (by kernel_rfl) rfl _ [B16 a, B16 (b ^^^ c)] rfl (fun w' hw' => (times_num a (b ^^^ c) (Nat.xor_lt_two_pow hb hc) w').mono fun e w2 ⟨he, hb⟩ => ⟨he, hw'.trans (hb.mono (Nat.le_trans LE.out hw'.size))⟩) ?_
  simp only [Act.put, List.setIfInBounds_toArray, List.set_cons_zero, List.set_cons_succ]
  refine Eqs.q_load rfl 48 _ rfl _ rfl (fun _ hs => S0.out.a.below hs S0.out.la) Try.underlying48 rfl info16 ?_
  simp only [Act.put, List.setIfInBounds_toArray, List.set_cons_zero, List.set_cons_succ]
  refine Eqs.q_load rfl 48 _ rfl _ rfl (fun _ hs => S0.out.b.below hs S0.out.lb) Try.underlying48 rfl info16 ?_
  simp only [Act.put, List.setIfInBounds_toArray, List.set_cons_zero, List.set_cons_succ]
  refine Eqs.q_call rfl 19 _ _ rfl Try.func19 (by kernel_rfl) rfl _ [B16 a, B16 b] rfl (fun w' hw' => (times_num a b hb w').mono fun e w2 ⟨he, hb⟩ => ⟨he, hw'.trans (hb.mono (Nat.le_trans LE.out hw'.size))⟩) ?_
  simp only [Act.put, List.setIfInBounds_toArray, List.set_cons_zero, List.set_cons_succ]
  refine Eqs.q_load rfl 48 _ rfl _ rfl (fun _ hs => S0.out.a.below hs S0.out.la) Try.underlying48 rfl info16 ?_
  simp only [Act.put, List.setIfInBounds_toArray, List.set_cons_zero, List.set_cons_succ]
  refine Eqs.q_load rfl 48 _ rfl _ rfl (fun _ hs => S0.out.c.below hs S0.out.lc) Try.underlying48 rfl info16 ?_
  simp only [Act.put, List.setIfInBounds_toArray, List.set_cons_zero, List.set_cons_succ]
  refine Eqs.q_call rfl 19 _ _ rfl Try.func19 (by kernel_rfl) rfl _ [B16 a, B16 c] rfl (fun w' hw' => (times_num a c hc w').mono fun e w2 ⟨he, hb⟩ => ⟨he, hw'.trans (hb.mono (Nat.le_trans LE.out hw'.size))⟩) ?_
  simp only [Act.put, List.setIfInBounds_toArray, List.set_cons_zero, List.set_cons_succ]
  refine Eqs.q_call rfl 17 _ _ rfl Try.func17 (by kernel_rfl) rfl _ [B16 (tm a b), B16 (tm a c)] rfl (fun w' hw' => (plus_num (tm a b) (tm a c) w').mono fun e w2 ⟨he, hb⟩ => ⟨he, hw'.trans (hb.mono (Nat.le_trans LE.out hw'.size))⟩) ?_
  simp only [Act.put, List.setIfInBounds_toArray, List.set_cons_zero, List.set_cons_succ]
  refine Eqs.q_neq rfl _ _ _ _ rfl (tm a (b ^^^ c)) ((tm a b) ^^^ (tm a c)) rfl rfl Try.underlying48 Try.underlying5 (by kernel_rfl) (by kernel_rfl) (tm_lt a (b ^^^ c)) (Nat.xor_lt_two_pow (tm_lt a b) (tm_lt a c)) false (Eqs.ne_false (tm_right a b c)) ?_
  simp only [Act.put, List.setIfInBounds_toArray, List.set_cons_zero, List.set_cons_succ]
  refine Eqs.q_pick rfl _ _ _ rfl _ rfl (.bool false) rfl ?_
  simp only [Act.put, List.setIfInBounds_toArray, List.set_cons_zero, List.set_cons_succ]
  refine wpQuiet_nil ?_
  intro w4 hs4
  have S4 := Lib.hid (S0.out.below hs4)
  clear S0 LE hs4
  go_upto_region 6 with fail
  go_cut [8, 9] from 11 to 91 (fun s8 s9 wx => ∃ X, s8 = .pointer (some ⟨X, 0, none⟩) ∧ w.heap.size + 4 ≤ X ∧ Box a b c w.heap.size w wx ∧ Arr wx X .u8 16 48 (fun i => (byt (2 ^ 120) i : Int)))
  case first =>
    have hz := Lib.hid (Arr.new w4 .u8 16 48 fun _ => 0)
    rw [zero16] at hz
    go_wp2_with (first | (refine wpList_load_arr rfl 48 _ rfl _ rfl S4.out.o Try.underlying48 rfl info16 ?_) | (refine wpList_store_arr rfl 48 _ _ rfl _ rfl rfl hz.out info16 ?_; intro w2 hA hG hS) | fail)
    go_meet
    case rel => exact ⟨_, rfl, S4.out.size, S4.out.belowN ((Below.refl w4.heap.size w4).alloc (Nat.le_refl _) _ |>.trans (Held.gb_below hG (by simp) (by intro g hg; cases hg; exact Nat.le_refl _))) S4.out.size, hA⟩
  obtain ⟨X, rfl, hX, hbox, hx⟩ := hcut
  have S5 := Lib.hid hbox
  have X5 := Lib.hid hx
  clear hbox hx S4
  go_upto_region 7 with fail
  go_cut [9] from 11 to 91 (fun s9 wx => ∃ Y, s9 = .pointer (some ⟨Y, 0, none⟩) ∧ w.heap.size + 4 ≤ Y ∧ Y ≠ X ∧ Box a b c w.heap.size w wx ∧ Arr wx X .u8 16 48 (fun i => (byt (2 ^ 120) i : Int)) ∧ Arr wx Y .u8 16 48 (fun i => (byt a i : Int)))
  case first =>
    have hz := Lib.hid (Arr.new wc .u8 16 48 fun _ => 0)
    rw [zero16] at hz
    go_wp2_with (first | (refine wpList_load_arr rfl 48 _ rfl _ rfl S5.out.a Try.underlying48 rfl info16 ?_) | (refine wpList_store_arr rfl 48 _ _ rfl _ rfl rfl hz.out info16 ?_; intro w2 hA hG hS) | fail)
    go_meet
    case rel =>
      have hb2 := (Below.refl wc.heap.size wc).alloc (Nat.le_refl _) (.cells (arr .u8 16 fun _ => 0) 48) |>.trans (Held.gb_below (B := wc.heap.size) hG (by simp) (by intro g hg; cases hg; exact Nat.le_refl _))
      exact ⟨_, rfl, S5.out.size, fun h => by have := X5.out.lt; omega, S5.out.belowN hb2 S5.out.size, X5.out.below hb2 X5.out.lt, hA⟩
  obtain ⟨Y, rfl, hY, hYX, hbox, hx, hy⟩ := hcut
  have S6 := Lib.hid hbox
  have X6 := Lib.hid hx
  have Y6 := Lib.hid hy
  clear hbox hx hy S5 X5
  go_wp2
  go_loopw [10] (fun i wr => ∃ k : Nat, k ≤ 128 ∧ i = .int .i64 k ∧ Box a b c w.heap.size w wr ∧ Arr wr X .u8 16 48 (fun i => (byt (lx a k) i : Int)) ∧ Arr wr Y .u8 16 48 (fun i => (byt (ly a k) i : Int))) (fun i _ => 128 - (intOf i).toNat)
  case atStart => exact ⟨0, by omega, rfl, S6.out, X6.out, Y6.out⟩
  case round =>
    obtain ⟨k, hk, rfl, hbox, hx, hy⟩ := hrel
    have S0 := Lib.hid hbox
    have X0 := Lib.hid hx
    have Y0 := Lib.hid hy
    clear hbox hx hy
    by_cases hlt : k < 128
    · have LY : Hid (ly a k < 2 ^ 128) := Lib.hid (ly_lt a ha k)
      go_upto_region 11 with fail
      refine wp_region_lit ?_
      refine Held.p_load rfl _ _ rfl _ rfl X0.out Try.underlying48 rfl info16 ?_
      simp only [Act.put, List.setIfInBounds_toArray, List.set_cons_zero, List.set_cons_succ]
      refine Held.p_load rfl _ _ rfl _ rfl Y0.out Try.underlying48 rfl info16 ?_
      simp only [Act.put, List.setIfInBounds_toArray, List.set_cons_zero, List.set_cons_succ]
      refine Held.p_wp rfl (Held.w_call 19 _ _ rfl Try.func19 (by kernel_rfl) rfl [B16 (lx a k), B16 (ly a k)] rfl (times_num (lx a k) (ly a k) LY.out _) ?_)
      intro w7 hb7
      simp only [Act.put, List.setIfInBounds_toArray, List.set_cons_zero, List.set_cons_succ]
      refine Held.p_store _ _ _ rfl X rfl (f := fun i => (byt (tm (lx a k) (ly a k)) i : Int)) rfl (X0.out.below hb7 X0.out.lt) info16 rfl ?_
      intro w8 hA8 hG8 hS8
      simp only [Act.put]
      refine Held.p_nil ?_
      have hb8 : Below (w.heap.size + 4) w7 w8 := Held.gb_below hG8 (Nat.le_trans S0.out.size hb7.size) (by intro g hg; cases hg; omega)
      have S8 := Lib.hid ((S0.out.below hb7).belowN hb8 (Nat.le_refl _))
      have X8 := Lib.hid hA8
      have Y8 := Lib.hid ((Y0.out.below hb7 Y0.out.lt).grown hG8 hYX)
      clear hA8 hG8 hS8 hb7 hb8 S0 X0 Y0
      go_upto_region 12 with fail
      refine wp_region_lit ?_
      refine Held.p_load rfl _ _ rfl _ rfl Y8.out Try.underlying48 rfl info16 ?_
      simp only [Act.put, List.setIfInBounds_toArray, List.set_cons_zero, List.set_cons_succ]
      refine Held.p_load rfl _ _ rfl _ rfl Y8.out Try.underlying48 rfl info16 ?_
      simp only [Act.put, List.setIfInBounds_toArray, List.set_cons_zero, List.set_cons_succ]
      refine Held.p_wp rfl (Held.w_call 19 _ _ rfl Try.func19 (by kernel_rfl) rfl [B16 (ly a k), B16 (ly a k)] rfl (times_num (ly a k) (ly a k) LY.out _) ?_)
      intro w9 hb9
      simp only [Act.put, List.setIfInBounds_toArray, List.set_cons_zero, List.set_cons_succ]
      refine Held.p_store _ _ _ rfl Y rfl (f := fun i => (byt (tm (ly a k) (ly a k)) i : Int)) rfl (Y8.out.below hb9 Y8.out.lt) info16 rfl ?_
      intro w10 hA10 hG10 hS10
      simp only [Act.put]
      refine Held.p_nil ?_
      have hb10 : Below (w.heap.size + 4) w9 w10 := Held.gb_below hG10 (Nat.le_trans S8.out.size hb9.size) (by intro g hg; cases hg; omega)
      have S10 := Lib.hid ((S8.out.below hb9).belowN hb10 (Nat.le_refl _))
      have Y10 := Lib.hid hA10
      have X10 := Lib.hid ((X8.out.below hb9 X8.out.lt).grown hG10 (Ne.symm hYX))
      clear hA10 hG10 hS10 hb9 hb10 S8 X8 Y8
      go_wp2_with fail
      go_roundw
      case rel => exact ⟨k + 1, by omega, by go_num, S10.out, X10.out, Y10.out⟩
      case measure => simp [intOf]; omega
    · obtain rfl : k = 128 := by omega
      go_upto_region 13 with fail
      refine wp_region_lit ?_
      by_cases hz : a = 0
      · -- a is zero
        refine Held.p_load rfl 48 _ rfl _ rfl (S0.out.a) Try.underlying48 rfl info16 ?_
        simp only [Act.put, List.setIfInBounds_toArray, List.set_cons_zero, List.set_cons_succ]
        refine Held.p_build rfl _ [] rfl (B16 0) [] rfl build_nil ?_
        simp only [Act.put, List.setIfInBounds_toArray, List.set_cons_zero, List.set_cons_succ]
        refine Held.p_neq rfl _ _ _ _ rfl a 0 rfl rfl Try.underlying48 Try.underlying5 (by kernel_rfl) (by kernel_rfl) ha (show (0 : Nat) < 2 ^ 128 by decide) false (by rw [hz]; rfl) ?_
        simp only [Act.put, List.setIfInBounds_toArray, List.set_cons_zero, List.set_cons_succ]
        refine Held.p_move rfl _ rfl (.bool false) rfl ?_
        simp only [Act.put, List.setIfInBounds_toArray, List.set_cons_zero, List.set_cons_succ]
        refine Held.p_skip rfl ?_
        simp only [Act.put, List.setIfInBounds_toArray, List.set_cons_zero, List.set_cons_succ]
        refine Held.p_skip rfl ?_
        simp only [Act.put, List.setIfInBounds_toArray, List.set_cons_zero, List.set_cons_succ]
        refine Held.p_skip rfl ?_
        simp only [Act.put, List.setIfInBounds_toArray, List.set_cons_zero, List.set_cons_succ]
        refine Held.p_pick rfl _ _ _ rfl _ rfl (.bool false) rfl ?_
        simp only [Act.put, List.setIfInBounds_toArray, List.set_cons_zero, List.set_cons_succ]
        refine Held.p_move rfl _ rfl (.bool false) rfl ?_
        simp only [Act.put, List.setIfInBounds_toArray, List.set_cons_zero, List.set_cons_succ]
        refine Held.p_load rfl 48 _ rfl _ rfl (Y0.out) Try.underlying48 rfl info16 ?_
        simp only [Act.put, List.setIfInBounds_toArray, List.set_cons_zero, List.set_cons_succ]
        refine Held.p_load rfl 48 _ rfl _ rfl (S0.out.a) Try.underlying48 rfl info16 ?_
        simp only [Act.put, List.setIfInBounds_toArray, List.set_cons_zero, List.set_cons_succ]
        refine Held.p_neq rfl _ _ _ _ rfl (ly a 128) a rfl rfl Try.underlying48 Try.underlying5 (by kernel_rfl) (by kernel_rfl) (ly_lt a ha 128) ha false (Eqs.ne_false (ly_end a ha)) ?_
        simp only [Act.put, List.setIfInBounds_toArray, List.set_cons_zero, List.set_cons_succ]
        refine Held.p_pick rfl _ _ _ rfl _ rfl (.bool false) rfl ?_
        simp only [Act.put, List.setIfInBounds_toArray, List.set_cons_zero, List.set_cons_succ]
        refine Held.p_nil ?_
        have LE : Hid (wr.heap.size ≤ wr.heap.size) := Lib.hid (Nat.le_refl _)
        go_upto_region 15 with fail
        refine Eqs.wp_region_class (C := fun w' => Below wr.heap.size wr w') (by kernel_rfl) (by kernel_rfl) (Below.refl _ _).drew ?_
        refine Eqs.q_load rfl 48 _ rfl _ rfl (fun _ hs => S0.out.a.below hs S0.out.la) Try.underlying48 rfl info16 ?_
        simp only [Act.put, List.setIfInBounds_toArray, List.set_cons_zero, List.set_cons_succ]
        refine Eqs.q_call rfl 21 _ _ rfl Try.func21 (by kernel_rfl) rfl _ [B16 a] rfl (fun w' hw' => (double_num a ha w').mono fun e w2 ⟨he, hb⟩ => ⟨he, hw'.trans (hb.mono (Nat.le_trans LE.out hw'.size))⟩) ?_
        simp only [Act.put, List.setIfInBounds_toArray, List.set_cons_zero, List.set_cons_succ]
        refine Eqs.q_call rfl 20 _ _ rfl Try.func20 (by kernel_rfl) rfl _ [B16 (dblN a)] rfl (fun w' hw' => (turned_num (dblN a) w').mono fun e w2 ⟨he, hb⟩ => ⟨he, hw'.trans (hb.mono (Nat.le_trans LE.out hw'.size))⟩) ?_
        simp only [Act.put, List.setIfInBounds_toArray, List.set_cons_zero, List.set_cons_succ]
        refine Eqs.q_load rfl 48 _ rfl _ rfl (fun _ hs => S0.out.a.below hs S0.out.la) Try.underlying48 rfl info16 ?_
        simp only [Act.put, List.setIfInBounds_toArray, List.set_cons_zero, List.set_cons_succ]
        refine Eqs.q_call rfl 20 _ _ rfl Try.func20 (by kernel_rfl) rfl _ [B16 a] rfl (fun w' hw' => (turned_num a w').mono fun e w2 ⟨he, hb⟩ => ⟨he, hw'.trans (hb.mono (Nat.le_trans LE.out hw'.size))⟩) ?_
        simp only [Act.put, List.setIfInBounds_toArray, List.set_cons_zero, List.set_cons_succ]
        refine Eqs.q_build rfl _ [(15, .const (.int .u8 2))] rfl (B16 (2 ^ 121)) [(15, .int .u8 2)] rfl build_two ?_
        simp only [Act.put, List.setIfInBounds_toArray, List.set_cons_zero, List.set_cons_succ]
        refine Eqs.q_call rfl 19 _ _ rfl Try.func19 (by kernel_rfl) rfl _ [B16 (revN a), B16 (2 ^ 121)] rfl (fun w' hw' => (times_num (revN a) (2 ^ 121) (show (2 ^ 121 : Nat) < 2 ^ 128 by decide) w').mono fun e w2 ⟨he, hb⟩ => ⟨he, hw'.trans (hb.mono (Nat.le_trans LE.out hw'.size))⟩) ?_
        simp only [Act.put, List.setIfInBounds_toArray, List.set_cons_zero, List.set_cons_succ]
        refine Eqs.q_eql rfl _ _ _ _ rfl (revN (dblN a)) (tm (revN a) (2 ^ 121)) rfl rfl Try.underlying48 Try.underlying5 (by kernel_rfl) (by kernel_rfl) (revN_lt (dblN a)) (tm_lt (revN a) (2 ^ 121)) true (Eqs.eq_true (double_tm a ha)) ?_
        simp only [Act.put, List.setIfInBounds_toArray, List.set_cons_zero, List.set_cons_succ]
        refine Eqs.q_assign rfl _ rfl (.bool true) rfl ?_
        simp only [Act.put, List.setIfInBounds_toArray, List.set_cons_zero, List.set_cons_succ]
        refine wpQuiet_nil ?_
        intro w11 hs11
        have S11 := Lib.hid (S0.out.below hs11)
        go_wp2
        go_ret
        exact ⟨rfl, S11.out.bel⟩
      · -- a is not zero
        refine Held.p_load rfl 48 _ rfl _ rfl (S0.out.a) Try.underlying48 rfl info16 ?_
        simp only [Act.put, List.setIfInBounds_toArray, List.set_cons_zero, List.set_cons_succ]
        refine Held.p_build rfl _ [] rfl (B16 0) [] rfl build_nil ?_
        simp only [Act.put, List.setIfInBounds_toArray, List.set_cons_zero, List.set_cons_succ]
        refine Held.p_neq rfl _ _ _ _ rfl a 0 rfl rfl Try.underlying48 Try.underlying5 (by kernel_rfl) (by kernel_rfl) ha (show (0 : Nat) < 2 ^ 128 by decide) true (by simp [hz]) ?_
        simp only [Act.put, List.setIfInBounds_toArray, List.set_cons_zero, List.set_cons_succ]
        refine Held.p_move rfl _ rfl (.bool true) rfl ?_
        simp only [Act.put, List.setIfInBounds_toArray, List.set_cons_zero, List.set_cons_succ]
        refine Held.p_load rfl 48 _ rfl _ rfl (X0.out) Try.underlying48 rfl info16 ?_
        simp only [Act.put, List.setIfInBounds_toArray, List.set_cons_zero, List.set_cons_succ]
        refine Held.p_load rfl 48 _ rfl _ rfl (S0.out.o) Try.underlying48 rfl info16 ?_
        simp only [Act.put, List.setIfInBounds_toArray, List.set_cons_zero, List.set_cons_succ]
        refine Held.p_neq rfl _ _ _ _ rfl (lx a 128) (2 ^ 120) rfl rfl Try.underlying48 Try.underlying5 (by kernel_rfl) (by kernel_rfl) (lx_lt a 128) (show (2 ^ 120 : Nat) < 2 ^ 128 by decide) false (Eqs.ne_false (lx_end a ha hz)) ?_
        simp only [Act.put, List.setIfInBounds_toArray, List.set_cons_zero, List.set_cons_succ]
        refine Held.p_pick rfl _ _ _ rfl _ rfl (.bool false) rfl ?_
        simp only [Act.put, List.setIfInBounds_toArray, List.set_cons_zero, List.set_cons_succ]
        refine Held.p_move rfl _ rfl (.bool false) rfl ?_
        simp only [Act.put, List.setIfInBounds_toArray, List.set_cons_zero, List.set_cons_succ]
        refine Held.p_load rfl 48 _ rfl _ rfl (Y0.out) Try.underlying48 rfl info16 ?_
        simp only [Act.put, List.setIfInBounds_toArray, List.set_cons_zero, List.set_cons_succ]
        refine Held.p_load rfl 48 _ rfl _ rfl (S0.out.a) Try.underlying48 rfl info16 ?_
        simp only [Act.put, List.setIfInBounds_toArray, List.set_cons_zero, List.set_cons_succ]
        refine Held.p_neq rfl _ _ _ _ rfl (ly a 128) a rfl rfl Try.underlying48 Try.underlying5 (by kernel_rfl) (by kernel_rfl) (ly_lt a ha 128) ha false (Eqs.ne_false (ly_end a ha)) ?_
        simp only [Act.put, List.setIfInBounds_toArray, List.set_cons_zero, List.set_cons_succ]
        refine Held.p_pick rfl _ _ _ rfl _ rfl (.bool false) rfl ?_
        simp only [Act.put, List.setIfInBounds_toArray, List.set_cons_zero, List.set_cons_succ]
        refine Held.p_nil ?_
        have LE : Hid (wr.heap.size ≤ wr.heap.size) := Lib.hid (Nat.le_refl _)
        go_upto_region 15 with fail
        refine Eqs.wp_region_class (C := fun w' => Below wr.heap.size wr w') (by kernel_rfl) (by kernel_rfl) (Below.refl _ _).drew ?_
        refine Eqs.q_load rfl 48 _ rfl _ rfl (fun _ hs => S0.out.a.below hs S0.out.la) Try.underlying48 rfl info16 ?_
        simp only [Act.put, List.setIfInBounds_toArray, List.set_cons_zero, List.set_cons_succ]
        refine Eqs.q_call rfl 21 _ _ rfl Try.func21 (by kernel_rfl) rfl _ [B16 a] rfl (fun w' hw' => (double_num a ha w').mono fun e w2 ⟨he, hb⟩ => ⟨he, hw'.trans (hb.mono (Nat.le_trans LE.out hw'.size))⟩) ?_
        simp only [Act.put, List.setIfInBounds_toArray, List.set_cons_zero, List.set_cons_succ]
        refine Eqs.q_call rfl 20 _ _ rfl Try.func20 (by kernel_rfl) rfl _ [B16 (dblN a)] rfl (fun w' hw' => (turned_num (dblN a) w').mono fun e w2 ⟨he, hb⟩ => ⟨he, hw'.trans (hb.mono (Nat.le_trans LE.out hw'.size))⟩) ?_
        simp only [Act.put, List.setIfInBounds_toArray, List.set_cons_zero, List.set_cons_succ]
        refine Eqs.q_load rfl 48 _ rfl _ rfl (fun _ hs => S0.out.a.below hs S0.out.la) Try.underlying48 rfl info16 ?_
        simp only [Act.put, List.setIfInBounds_toArray, List.set_cons_zero, List.set_cons_succ]
        refine Eqs.q_call rfl 20 _ _ rfl Try.func20 (by kernel_rfl) rfl _ [B16 a] rfl (fun w' hw' => (turned_num a w').mono fun e w2 ⟨he, hb⟩ => ⟨he, hw'.trans (hb.mono (Nat.le_trans LE.out hw'.size))⟩) ?_
        simp only [Act.put, List.setIfInBounds_toArray, List.set_cons_zero, List.set_cons_succ]
        refine Eqs.q_build rfl _ [(15, .const (.int .u8 2))] rfl (B16 (2 ^ 121)) [(15, .int .u8 2)] rfl build_two ?_
        simp only [Act.put, List.setIfInBounds_toArray, List.set_cons_zero, List.set_cons_succ]
        refine Eqs.q_call rfl 19 _ _ rfl Try.func19 (by kernel_rfl) rfl _ [B16 (revN a), B16 (2 ^ 121)] rfl (fun w' hw' => (times_num (revN a) (2 ^ 121) (show (2 ^ 121 : Nat) < 2 ^ 128 by decide) w').mono fun e w2 ⟨he, hb⟩ => ⟨he, hw'.trans (hb.mono (Nat.le_trans LE.out hw'.size))⟩) ?_
        simp only [Act.put, List.setIfInBounds_toArray, List.set_cons_zero, List.set_cons_succ]
        refine Eqs.q_eql rfl _ _ _ _ rfl (revN (dblN a)) (tm (revN a) (2 ^ 121)) rfl rfl Try.underlying48 Try.underlying5 (by kernel_rfl) (by kernel_rfl) (revN_lt (dblN a)) (tm_lt (revN a) (2 ^ 121)) true (Eqs.eq_true (double_tm a ha)) ?_
        simp only [Act.put, List.setIfInBounds_toArray, List.set_cons_zero, List.set_cons_succ]
        refine Eqs.q_assign rfl _ rfl (.bool true) rfl ?_
        simp only [Act.put, List.setIfInBounds_toArray, List.set_cons_zero, List.set_cons_succ]
        refine wpQuiet_nil ?_
        intro w11 hs11
        have S11 := Lib.hid (S0.out.below hs11)
        go_wp2
        go_ret
        exact ⟨rfl, S11.out.bel⟩
end Go.Proofs.Ytfchbodbkdkcfaa.TField
