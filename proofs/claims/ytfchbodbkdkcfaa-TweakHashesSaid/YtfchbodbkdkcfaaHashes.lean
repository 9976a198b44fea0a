/- TweakHashes. -/
import Derived.Test.YtfchbodbkdkcfaaHeld
import Derived.Test.YtfchbodbkdkcfaaAlg
namespace Go.Proofs.Ytfchbodbkdkcfaa.Hashes
open Go.RowKit Go.Lib
open Go.Proofs.Ytfchbodbkdkcfaa.Blk Go.Proofs.Ytfchbodbkdkcfaa.Poly Go.Proofs.Ytfchbodbkdkcfaa.Field Go.Proofs.Ytfchbodbkdkcfaa.Polyval Go.Proofs.Ytfchbodbkdkcfaa.Lists

theorem build_one (w : World) : (Instr.build 48 #[(0, .int .u8 1), (15, .int .u8 194)]).run Try.prog w = .ok (B16 (2 ^ 127 + 2 ^ 126 + 2 ^ 121 + 1)) w := by kernel_rfl
theorem build_nil (w : World) : (Instr.build 48 #[]).run Try.prog w = .ok (B16 0) w := by kernel_rfl

/-- the boxes -/
structure Box (h a b : Nat) (B : Nat) (w wr : World) : Prop where
  h : Arr wr B .u8 16 48 (fun i => (byt h i : Int))
  a : Arr wr (B + 1) .u8 16 48 (fun i => (byt a i : Int))
  b : Arr wr (B + 1 + 1) .u8 16 48 (fun i => (byt b i : Int))
  bel : Below B w wr
  size : B + 3 ≤ wr.heap.size
theorem Box.lh {h a b B : Nat} {w wr : World} (s : Box h a b B w wr) : B < wr.heap.size := by have := s.size; omega
theorem Box.la {h a b B : Nat} {w wr : World} (s : Box h a b B w wr) : B + 1 < wr.heap.size := by have := s.size; omega
theorem Box.lb {h a b B : Nat} {w wr : World} (s : Box h a b B w wr) : B + 1 + 1 < wr.heap.size := by have := s.size; omega
theorem Box.below {h a b B : Nat} {w wr w' : World} (s : Box h a b B w wr) (hb : Below wr.heap.size wr w') : Box h a b B w w' :=
  ⟨s.h.below hb s.lh, s.a.below hb s.la, s.b.below hb s.lb, s.bel.trans (hb.mono (by have := s.size; omega)), Nat.le_trans s.size hb.size⟩
theorem box_start (h a b : Nat) (w : World) : Box h a b w.heap.size w (((w.alloc (.cells (arr .u8 16 fun i => (byt h i : Int)) 48)).alloc (.cells (arr .u8 16 fun i => (byt a i : Int)) 48)).alloc (.cells (arr .u8 16 fun i => (byt b i : Int)) 48)) :=
  ⟨((Arr.new w .u8 16 _ _).alloc _).alloc _, by have := (Arr.new (w.alloc (.cells (arr .u8 16 fun i => (byt h i : Int)) 48)) .u8 16 48 fun i => (byt a i : Int)).alloc (.cells (arr .u8 16 fun i => (byt b i : Int)) 48); simpa using this,
    by have := (Arr.new ((w.alloc (.cells (arr .u8 16 fun i => (byt h i : Int)) 48)).alloc (.cells (arr .u8 16 fun i => (byt a i : Int)) 48)) .u8 16 48 fun i => (byt b i : Int)); simpa using this,
    (((Below.refl _ _).alloc (Nat.le_refl _) _).alloc (by simp) _).alloc (by simp; omega) _, by simp⟩

set_option maxRecDepth 100000 in
set_option maxHeartbeats 4000000 in
theorem law_any (h a b : Nat) (hh : h < 2 ^ 128) (ha : a < 2 ^ 128) (hb : b < 2 ^ 128) (p : Option Addr) (cap : Nat) (ns : List Nat) (w : World) (hcap : ns.length ≤ cap) (hns : ∀ n ∈ ns, n < 2 ^ 128) (hsl : SL w p ns) :
    Calls Try.prog 8 #[B16 h, B16 a, B16 b, .slice p ns.length cap] w fun e w' => e = .returned (.bool true) ∧ Below w.heap.size w w' := by
  have S1 := Lib.hid (box_start h a b w)
  have HH := Lib.hid hh
  have HA := Lib.hid ha
  have HB := Lib.hid hb
  have HS := Lib.hid hsl
  have HN := Lib.hid hns
  clear hh ha hb hsl hns
  generalize hlen : ns.length = len at *
  have HL := Lib.hid hlen
  clear hlen
  go_enter Try.func8, Try.ntmps8
  go_upto_if 17 with fail
  go_cut [3] from 9 to 122 (fun s3 wx => ∃ (ms : List Nat) (c : Nat), s3 = .slice p ms.length c ∧ ms.length ≤ 40 ∧ ms = ns.take 40 ∧ Box h a b w.heap.size w wx)
  case first =>
    by_cases hgt : 40 < len
    · rcases HS.out with ⟨rfl, h0⟩ | ⟨bl, off, rfl, h1, h2⟩
      · exfalso
        have := HL.out
        rw [h0] at this
        simp at this
        omega
      · go_wp2
        go_meet
        case rel => exact ⟨ns.take 40, cap, by have := HL.out; rw [List.length_take, this, Nat.min_eq_left (by omega)], by rw [List.length_take]; omega, rfl, S1.out⟩
    · go_wp2
      go_meet
      case rel => exact ⟨ns, cap, by rw [HL.out], by rw [HL.out]; omega, by rw [List.take_of_length_le (by rw [HL.out]; omega)], S1.out⟩
  case rest =>
    obtain ⟨ms, c, rfl, hm40, hms, hbox⟩ := hcut
    have S0 := Lib.hid hbox
    have hsl : SL w p ms := by rw [hms]; exact HS.out.take 40
    have hnm : ∀ n ∈ ms, n < 2 ^ 128 := fun n hn => HN.out n (List.mem_of_mem_take (by rw [← hms]; exact hn))
    have HS2 := Lib.hid hsl
    have HN2 := Lib.hid hnm
    have LE : Hid (wc.heap.size ≤ wc.heap.size) := Lib.hid (Nat.le_refl _)
    clear hbox hms hsl hnm
    have hh := HH.out
    have ha := HA.out
    have hb := HB.out
    clear HH HA HB
    go_wp2
    refine Eqs.wp_region_class (C := fun w' => Below wc.heap.size wc w') (by kernel_rfl) (by kernel_rfl) (Below.refl _ _).drew ?_
    refine Eqs.q_load rfl 48 _ rfl _ rfl (fun _ hs => S0.out.a.below hs S0.out.la) Try.underlying48 rfl info16 ?_
    simp only [Act.put, List.setIfInBounds_toArray, List.set_cons_zero, List.set_cons_succ]
    refine Eqs.q_load rfl 48 _ rfl _ rfl (fun _ hs => S0.out.b.below hs S0.out.lb) Try.underlying48 rfl info16 ?_
    simp only [Act.put, List.setIfInBounds_toArray, List.set_cons_zero, List.set_cons_succ]
    refine Eqs.q_call rfl 16 _ _ rfl Try.func16 (by kernel_rfl) rfl _ [B16 a, B16 b] rfl (fun w' hw' => (dot_any a b ha w').mono fun e w2 ⟨he, hb⟩ => ⟨he, hw'.trans (hb.mono (Nat.le_trans LE.out hw'.size))⟩) ?_
    simp only [Act.put, List.setIfInBounds_toArray, List.set_cons_zero, List.set_cons_succ]
    refine Eqs.q_load rfl 48 _ rfl _ rfl (fun _ hs => S0.out.b.below hs S0.out.lb) Try.underlying48 rfl info16 ?_
    simp only [Act.put, List.setIfInBounds_toArray, List.set_cons_zero, List.set_cons_succ]
    refine Eqs.q_load rfl 48 _ rfl _ rfl (fun _ hs => S0.out.a.below hs S0.out.la) Try.underlying48 rfl info16 ?_
    simp only [Act.put, List.setIfInBounds_toArray, List.set_cons_zero, List.set_cons_succ]
    refine Eqs.q_call rfl 16 _ _ rfl Try.func16 (by kernel_rfl) rfl _ [B16 b, B16 a] rfl (fun w' hw' => (dot_any b a hb w').mono fun e w2 ⟨he, hb⟩ => ⟨he, hw'.trans (hb.mono (Nat.le_trans LE.out hw'.size))⟩) ?_
    simp only [Act.put, List.setIfInBounds_toArray, List.set_cons_zero, List.set_cons_succ]
    refine Eqs.q_neq rfl _ _ _ _ rfl (dotN a b 128) (dotN b a 128) rfl rfl Try.underlying48 Try.underlying5 (by kernel_rfl) (by kernel_rfl) (dotN_lt a b ha 128) (dotN_lt b a hb 128) false (Eqs.ne_false (Alg.dot_comm a b ha hb)) ?_
    simp only [Act.put, List.setIfInBounds_toArray, List.set_cons_zero, List.set_cons_succ]
    refine Eqs.q_move rfl _ rfl (.bool false) rfl ?_
    simp only [Act.put, List.setIfInBounds_toArray, List.set_cons_zero, List.set_cons_succ]
    refine Eqs.q_load rfl 48 _ rfl _ rfl (fun _ hs => S0.out.a.below hs S0.out.la) Try.underlying48 rfl info16 ?_
    simp only [Act.put, List.setIfInBounds_toArray, List.set_cons_zero, List.set_cons_succ]
    refine Eqs.q_load rfl 48 _ rfl _ rfl (fun _ hs => S0.out.b.below hs S0.out.lb) Try.underlying48 rfl info16 ?_
    simp only [Act.put, List.setIfInBounds_toArray, List.set_cons_zero, List.set_cons_succ]
    refine Eqs.q_load rfl 48 _ rfl _ rfl (fun _ hs => S0.out.h.below hs S0.out.lh) Try.underlying48 rfl info16 ?_
    simp only [Act.put, List.setIfInBounds_toArray, List.set_cons_zero, List.set_cons_succ]
    refine Eqs.q_call rfl 17 _ _ rfl Try.func17 (by kernel_rfl) rfl _ [B16 b, B16 h] rfl (fun w' hw' => (plus_num b h w').mono fun e w2 ⟨he, hb⟩ => ⟨he, hw'.trans (hb.mono (Nat.le_trans LE.out hw'.size))⟩) ?_
    simp only [Act.put, List.setIfInBounds_toArray, List.set_cons_zero, List.set_cons_succ]
    refine Eqs.q_call rfl 16 _ _ rfl Try.func16 (by kernel_rfl) rfl _ [B16 a, B16 (b ^^^ h)] rfl (fun w' hw' => (dot_any a (b ^^^ h) ha w').mono fun e w2 ⟨he, hb⟩ => ⟨he, hw'.trans (hb.mono (Nat.le_trans LE.out hw'.size))⟩) ?_
    simp only [Act.put, List.setIfInBounds_toArray, List.set_cons_zero, List.set_cons_succ]
    refine Eqs.q_load rfl 48 _ rfl _ rfl (fun _ hs => S0.out.a.below hs S0.out.la) Try.underlying48 rfl info16 ?_
    simp only [Act.put, List.setIfInBounds_toArray, List.set_cons_zero, List.set_cons_succ]
    refine Eqs.q_load rfl 48 _ rfl _ rfl (fun _ hs => S0.out.b.below hs S0.out.lb) Try.underlying48 rfl info16 ?_
    simp only [Act.put, List.setIfInBounds_toArray, List.set_cons_zero, List.set_cons_succ]
    refine Eqs.q_call rfl 16 _ _ rfl Try.func16 (by kernel_rfl) rfl _ [B16 a, B16 b] rfl (fun w' hw' => (dot_any a b ha w').mono fun e w2 ⟨he, hb⟩ => ⟨he, hw'.trans (hb.mono (Nat.le_trans LE.out hw'.size))⟩) ?_
    simp only [Act.put, List.setIfInBounds_toArray, List.set_cons_zero, List.set_cons_succ]
    refine Eqs.q_load rfl 48 _ rfl _ rfl (fun _ hs => S0.out.a.below hs S0.out.la) Try.underlying48 rfl info16 ?_
    simp only [Act.put, List.setIfInBounds_toArray, List.set_cons_zero, List.set_cons_succ]
    refine Eqs.q_load rfl 48 _ rfl _ rfl (fun _ hs => S0.out.h.below hs S0.out.lh) Try.underlying48 rfl info16 ?_
    simp only [Act.put, List.setIfInBounds_toArray, List.set_cons_zero, List.set_cons_succ]
    refine Eqs.q_call rfl 16 _ _ rfl Try.func16 (by kernel_rfl) rfl _ [B16 a, B16 h] rfl (fun w' hw' => (dot_any a h ha w').mono fun e w2 ⟨he, hb⟩ => ⟨he, hw'.trans (hb.mono (Nat.le_trans LE.out hw'.size))⟩) ?_
    simp only [Act.put, List.setIfInBounds_toArray, List.set_cons_zero, List.set_cons_succ]
    refine Eqs.q_call rfl 17 _ _ rfl Try.func17 (by kernel_rfl) rfl _ [B16 (dotN a b 128), B16 (dotN a h 128)] rfl (fun w' hw' => (plus_num (dotN a b 128) (dotN a h 128) w').mono fun e w2 ⟨he, hb⟩ => ⟨he, hw'.trans (hb.mono (Nat.le_trans LE.out hw'.size))⟩) ?_
    simp only [Act.put, List.setIfInBounds_toArray, List.set_cons_zero, List.set_cons_succ]
    refine Eqs.q_neq rfl _ _ _ _ rfl (dotN a (b ^^^ h) 128) ((dotN a b 128) ^^^ (dotN a h 128)) rfl rfl Try.underlying48 Try.underlying5 (by kernel_rfl) (by kernel_rfl) (dotN_lt a (b ^^^ h) ha 128) (Nat.xor_lt_two_pow (dotN_lt a b ha 128) (dotN_lt a h ha 128)) false (Eqs.ne_false (Alg.dot_right a b h ha)) ?_
    simp only [Act.put, List.setIfInBounds_toArray, List.set_cons_zero, List.set_cons_succ]
    refine Eqs.q_pick rfl _ _ _ rfl _ rfl (.bool false) rfl ?_
    simp only [Act.put, List.setIfInBounds_toArray, List.set_cons_zero, List.set_cons_succ]
    refine Eqs.q_move rfl _ rfl (.bool false) rfl ?_
    simp only [Act.put, List.setIfInBounds_toArray, List.set_cons_zero, List.set_cons_succ]
    refine Eqs.q_load rfl 48 _ rfl _ rfl (fun _ hs => S0.out.a.below hs S0.out.la) Try.underlying48 rfl info16 ?_
    simp only [Act.put, List.setIfInBounds_toArray, List.set_cons_zero, List.set_cons_succ]
    refine Eqs.q_load rfl 48 _ rfl _ rfl (fun _ hs => S0.out.b.below hs S0.out.lb) Try.underlying48 rfl info16 ?_
    simp only [Act.put, List.setIfInBounds_toArray, List.set_cons_zero, List.set_cons_succ]
    refine Eqs.q_call rfl 16 _ _ rfl Try.func16 (by kernel_rfl) rfl _ [B16 a, B16 b] rfl (fun w' hw' => (dot_any a b ha w').mono fun e w2 ⟨he, hb⟩ => ⟨he, hw'.trans (hb.mono (Nat.le_trans LE.out hw'.size))⟩) ?_
    simp only [Act.put, List.setIfInBounds_toArray, List.set_cons_zero, List.set_cons_succ]
    refine Eqs.q_load rfl 48 _ rfl _ rfl (fun _ hs => S0.out.h.below hs S0.out.lh) Try.underlying48 rfl info16 ?_
    simp only [Act.put, List.setIfInBounds_toArray, List.set_cons_zero, List.set_cons_succ]
    refine Eqs.q_call rfl 16 _ _ rfl Try.func16 (by kernel_rfl) rfl _ [B16 (dotN a b 128), B16 h] rfl (fun w' hw' => (dot_any (dotN a b 128) h (dotN_lt a b ha 128) w').mono fun e w2 ⟨he, hb⟩ => ⟨he, hw'.trans (hb.mono (Nat.le_trans LE.out hw'.size))⟩) ?_
    simp only [Act.put, List.setIfInBounds_toArray, List.set_cons_zero, List.set_cons_succ]
    refine Eqs.q_load rfl 48 _ rfl _ rfl (fun _ hs => S0.out.a.below hs S0.out.la) Try.underlying48 rfl info16 ?_
    simp only [Act.put, List.setIfInBounds_toArray, List.set_cons_zero, List.set_cons_succ]
    refine Eqs.q_load rfl 48 _ rfl _ rfl (fun _ hs => S0.out.b.below hs S0.out.lb) Try.underlying48 rfl info16 ?_
    simp only [Act.put, List.setIfInBounds_toArray, List.set_cons_zero, List.set_cons_succ]
    refine Eqs.q_load rfl 48 _ rfl _ rfl (fun _ hs => S0.out.h.below hs S0.out.lh) Try.underlying48 rfl info16 ?_
    simp only [Act.put, List.setIfInBounds_toArray, List.set_cons_zero, List.set_cons_succ]
    refine Eqs.q_call rfl 16 _ _ rfl Try.func16 (by kernel_rfl) rfl _ [B16 b, B16 h] rfl (fun w' hw' => (dot_any b h hb w').mono fun e w2 ⟨he, hb⟩ => ⟨he, hw'.trans (hb.mono (Nat.le_trans LE.out hw'.size))⟩) ?_
    simp only [Act.put, List.setIfInBounds_toArray, List.set_cons_zero, List.set_cons_succ]
    refine Eqs.q_call rfl 16 _ _ rfl Try.func16 (by kernel_rfl) rfl _ [B16 a, B16 (dotN b h 128)] rfl (fun w' hw' => (dot_any a (dotN b h 128) ha w').mono fun e w2 ⟨he, hb⟩ => ⟨he, hw'.trans (hb.mono (Nat.le_trans LE.out hw'.size))⟩) ?_
    simp only [Act.put, List.setIfInBounds_toArray, List.set_cons_zero, List.set_cons_succ]
    refine Eqs.q_neq rfl _ _ _ _ rfl (dotN (dotN a b 128) h 128) (dotN a (dotN b h 128) 128) rfl rfl Try.underlying48 Try.underlying5 (by kernel_rfl) (by kernel_rfl) (dotN_lt (dotN a b 128) h (dotN_lt a b ha 128) 128) (dotN_lt a (dotN b h 128) ha 128) false (Eqs.ne_false (Alg.dot_assoc a b h ha hb hh)) ?_
    simp only [Act.put, List.setIfInBounds_toArray, List.set_cons_zero, List.set_cons_succ]
    refine Eqs.q_pick rfl _ _ _ rfl _ rfl (.bool false) rfl ?_
    simp only [Act.put, List.setIfInBounds_toArray, List.set_cons_zero, List.set_cons_succ]
    refine wpQuiet_nil ?_
    intro w3 hs3
    have S3 := Lib.hid (S0.out.below hs3)
    clear S0 LE hs3
    have S0 := S3
    clear S3
    have LE : Hid (w3.heap.size ≤ w3.heap.size) := Lib.hid (Nat.le_refl _)
    go_wp2
    refine Eqs.wp_region_class (C := fun w' => Below w3.heap.size w3 w') (by kernel_rfl) (by kernel_rfl) (Below.refl _ _).drew ?_
    refine Eqs.q_load rfl 48 _ rfl _ rfl (fun _ hs => S0.out.a.below hs S0.out.la) Try.underlying48 rfl info16 ?_
    simp only [Act.put, List.setIfInBounds_toArray, List.set_cons_zero, List.set_cons_succ]
    refine Eqs.q_build rfl _ [(0, .const (.int .u8 1)), (15, .const (.int .u8 194))] rfl (B16 (2 ^ 127 + 2 ^ 126 + 2 ^ 121 + 1)) [(0, .int .u8 1), (15, .int .u8 194)] rfl build_one ?_
    simp only [Act.put, List.setIfInBounds_toArray, List.set_cons_zero, List.set_cons_succ]
    refine Eqs.q_call rfl 16 _ _ rfl Try.func16 (by kernel_rfl) rfl _ [B16 a, B16 (2 ^ 127 + 2 ^ 126 + 2 ^ 121 + 1)] rfl (fun w' hw' => (dot_any a (2 ^ 127 + 2 ^ 126 + 2 ^ 121 + 1) ha w').mono fun e w2 ⟨he, hb⟩ => ⟨he, hw'.trans (hb.mono (Nat.le_trans LE.out hw'.size))⟩) ?_
    simp only [Act.put, List.setIfInBounds_toArray, List.set_cons_zero, List.set_cons_succ]
    refine Eqs.q_load rfl 48 _ rfl _ rfl (fun _ hs => S0.out.a.below hs S0.out.la) Try.underlying48 rfl info16 ?_
    simp only [Act.put, List.setIfInBounds_toArray, List.set_cons_zero, List.set_cons_succ]
    refine Eqs.q_neq rfl _ _ _ _ rfl (dotN a (2 ^ 127 + 2 ^ 126 + 2 ^ 121 + 1) 128) a rfl rfl Try.underlying48 Try.underlying5 (by kernel_rfl) (by kernel_rfl) (dotN_lt a (2 ^ 127 + 2 ^ 126 + 2 ^ 121 + 1) ha 128) ha false (Eqs.ne_false (Alg.dot_one a ha)) ?_
    simp only [Act.put, List.setIfInBounds_toArray, List.set_cons_zero, List.set_cons_succ]
    refine Eqs.q_move rfl _ rfl (.bool false) rfl ?_
    simp only [Act.put, List.setIfInBounds_toArray, List.set_cons_zero, List.set_cons_succ]
    refine Eqs.q_load rfl 48 _ rfl _ rfl (fun _ hs => S0.out.h.below hs S0.out.lh) Try.underlying48 rfl info16 ?_
    simp only [Act.put, List.setIfInBounds_toArray, List.set_cons_zero, List.set_cons_succ]
    refine Eqs.q_call rfl 18 _ _ rfl Try.func18 (by kernel_rfl) rfl _ [B16 h, .slice none 0 0] rfl (fun w' hw' => (polyval_nil h 0 w').mono fun e w2 ⟨he, hb⟩ => ⟨he, hw'.trans (hb.mono (Nat.le_trans LE.out hw'.size))⟩) ?_
    simp only [Act.put, List.setIfInBounds_toArray, List.set_cons_zero, List.set_cons_succ]
    refine Eqs.q_build rfl _ [] rfl (B16 0) [] rfl build_nil ?_
    simp only [Act.put, List.setIfInBounds_toArray, List.set_cons_zero, List.set_cons_succ]
    refine Eqs.q_neq rfl _ _ _ _ rfl (polyN h []) 0 rfl rfl Try.underlying48 Try.underlying5 (by kernel_rfl) (by kernel_rfl) (show (0 : Nat) < 2 ^ 128 by decide) (show (0 : Nat) < 2 ^ 128 by decide) false (Eqs.ne_false rfl) ?_
    simp only [Act.put, List.setIfInBounds_toArray, List.set_cons_zero, List.set_cons_succ]
    refine Eqs.q_pick rfl _ _ _ rfl _ rfl (.bool false) rfl ?_
    simp only [Act.put, List.setIfInBounds_toArray, List.set_cons_zero, List.set_cons_succ]
    refine wpQuiet_nil ?_
    intro w4 hs4
    have S4 := Lib.hid (S0.out.below hs4)
    clear S0 LE hs4
    have SL4 : Hid (SL w4 p ms) := Lib.hid (HS2.out.below S4.out.bel (fun q hq => by
      rcases HS2.out with ⟨h1, _⟩ | ⟨bl, off, h1, h2, _⟩
      · rw [h1] at hq; cases hq
      · rw [h1] at hq; cases hq; exact h2))
    go_wp2_with (first | (refine wpList_load_arr rfl 48 _ rfl _ rfl S4.out.h Try.underlying48 rfl info16 ?_) | fail)
    refine (polyval_sl h ms p c w4 HN2.out SL4.out (by omega)).mono ?_
    rintro e w5 ⟨rfl, hb5⟩
    have S5 := Lib.hid (S4.out.below hb5)
    clear S4 SL4 hb5
    have hx : Hid (polyN h ms < 2 ^ 128) := Lib.hid (polyN_lt h ms 0 (by decide) HN2.out)
    generalize hxe : polyN h ms = x at hx ⊢
    have HXE := Lib.hid hxe
    clear hxe
    have hz := Lib.hid (Arr.new w5 .u8 16 48 fun _ => 0)
    rw [zero16] at hz
    go_wp2_with (first | (refine wpList_store_arr rfl 48 _ _ rfl _ rfl (by rfl) hz.out info16 ?_; intro w6 hA hG hS) | fail)
    have S6 : Hid (Box h a b w.heap.size w w6 ∧ Arr w6 w5.heap.size .u8 16 48 (fun i => (byt x i : Int)) ∧ w5.heap.size < w6.heap.size ∧ SL w6 p ms) := Lib.hid (by
      have hlt : w5.heap.size < w6.heap.size := by rw [hS]; simp
      have hbl : Below w5.heap.size w5 w6 := (((Below.refl _ _).alloc (Nat.le_refl _) _).trans (Held.gb_below hG (by simp) (by intro g hg; cases hg; omega)))
      have hb6 := S5.out.below hbl
      exact ⟨hb6, hA, hlt, HS2.out.below hb6.bel (fun q hq => by
        rcases HS2.out with ⟨h1, _⟩ | ⟨bl, off, h1, h2, _⟩
        · rw [h1] at hq; cases hq
        · rw [h1] at hq; cases hq; exact h2)⟩)
    clear hz hA hG hS
    obtain ⟨I, Z, hI, hZ, hI1, hI2, hI3⟩ := info_block
    have HI : Hid (Try.prog.info? 48 = some I ∧ I.zero = some Z ∧ I.size = 16 ∧ I.bytes = 16 ∧ Z.cells.size = 16) := Lib.hid ⟨hI, hZ, hI1, hI2, hI3⟩
    clear hI hZ hI1 hI2 hI3
    go_wp2
    go_loopw [12, 10, 11] (fun i m s wr => ∃ k : Nat, k ≤ ms.length ∧ i = .int .i64 k ∧ wr.ownsRow w6.heap.size 48 16 m k (flat (ms.take k)) ∧ wr.ownsRow w6.heap.size 48 16 s k (flat ((ms.take k).map (· ^^^ b))) ∧
      (∀ g, m.ownBlock = some g → s.ownBlock ≠ some g) ∧ Below w6.heap.size w6 wr) (fun i _ _ _ => ms.length - (intOf i).toNat)
    case atStart => exact ⟨0, by omega, rfl, ⟨by simp [flat], .inl ⟨rfl, rfl⟩⟩, ⟨by simp [flat], .inl ⟨rfl, rfl⟩⟩, fun g hg => (by cases hg), Below.refl _ _⟩
    case round =>
      obtain ⟨k, hk, rfl, hm, hs, hap, hbw⟩ := hrel
      have HM := Lib.hid hm
      have HSS := Lib.hid hs
      have HAP := Lib.hid hap
      have HBW := Lib.hid hbw
      clear hm hs hap hbw
      by_cases hlt : k < ms.length
      · rcases S6.out.2.2.2 with ⟨rfl, h0⟩ | ⟨bl, off, rfl, hbl, hblk⟩
        · rw [h0] at hlt; exact absurd hlt (by simp)
        have HBL : Hid (bl < w6.heap.size ∧ w6.rangeAt bl (off + k * 16) (arr .u8 16 fun j => (byt (ms.getD k 0) j : Int)).toList) := Lib.hid ⟨by
          rcases HS2.out with ⟨h1, _⟩ | ⟨bl', off', h1, h2, _⟩
          · cases h1
          · cases h1; exact Nat.lt_of_lt_of_le h2 S6.out.1.bel.size, hblk k hlt⟩
        clear hblk hbl
        have T1 := Lib.hid (flat_take ms k hlt)
        have T2 := Lib.hid (flat_take_map (· ^^^ b) ms k hlt)
        have NK : Hid (ms.getD k 0 < 2 ^ 128) := Lib.hid (HN2.out _ (by simp [List.getD_eq_getElem?_getD, List.getElem?_eq_getElem hlt]))
        generalize ms.getD k 0 = nk at HBL T1 T2 NK
        have hrg : Hid (wr.rangeAt bl (off + k * 16) (arr .u8 16 fun j => (byt nk j : Int)).toList) := Lib.hid fun j v hv => by
          rw [HBW.out.cell (p := ⟨bl, off + k * 16 + j, none⟩) HBL.out.1]; exact HBL.out.2 j v hv
        have hsz := HBW.out.size
        have O1 : Hid ((wr.alloc (.cells (arr .u8 16 fun j => (byt nk j : Int)) 48)).ownsRow w6.heap.size 48 16 u10 k (flat (ms.take k))) := Lib.hid (Held.own_of HM.out fun g hg => Below.heap_alloc _ _ _ (Held.own_lt HM.out hg).2)
        go_upto_region 13 with fail
        refine wp_region_lit ?_
        refine Held.p_move rfl _ rfl u10 rfl ?_
        simp only [Act.put, List.setIfInBounds_toArray, List.set_cons_zero, List.set_cons_succ]
        refine Held.p_move rfl _ rfl (.slice (some ⟨bl, off, none⟩) ms.length c) rfl ?_
        simp only [Act.put, List.setIfInBounds_toArray, List.set_cons_zero, List.set_cons_succ]
        refine Held.p_move rfl _ rfl (.int .i64 k) rfl ?_
        simp only [Act.put, List.setIfInBounds_toArray, List.set_cons_zero, List.set_cons_succ]
        refine Held.p_index rfl _ _ _ _ rfl bl off ms.length c rfl k rfl hlt 16 Try.underlying49 info16 ?_
        simp only [Act.put, List.setIfInBounds_toArray, List.set_cons_zero, List.set_cons_succ]
        refine Held.p_load_mid rfl _ _ rfl bl _ rfl hrg.out Try.underlying48 rfl info16 ?_
        simp only [Act.put, List.setIfInBounds_toArray, List.set_cons_zero, List.set_cons_succ]
        refine Held.p_wp rfl (Held.w_one (n := 16) _ 48 _ rfl rfl Try.underlying49 info16 (by kernel_rfl) (by decide) (by decide) ?_)
        simp only [Act.put, List.setIfInBounds_toArray, List.set_cons_zero, List.set_cons_succ]
        refine Held.p_wp rfl (Held.w_append _ _ _ rfl w6.heap.size 48 I Z 16 16 Try.underlying49 HI.out.1 HI.out.2.1 HI.out.2.2.1 HI.out.2.2.2.1 HI.out.2.2.2.2 (by decide) u10 k _ rfl O1.out _ 1 1 _ rfl (by simp [arr]) (arr_news (Arr.new wr .u8 16 48 _)) (arr_one16 _) (by simp [maxLen]; omega) (by omega) (by simp; omega) ?_)
        intro m7 w7 hown7 hg7 hnil7 hat7
        simp only [Act.put, List.setIfInBounds_toArray, List.set_cons_zero, List.set_cons_succ]
        refine Held.p_assign rfl _ rfl m7 rfl ?_
        simp only [Act.put, List.setIfInBounds_toArray, List.set_cons_zero, List.set_cons_succ]
        go_wp2_with fail
        have HB7 : Hid (Below w6.heap.size w6 w7) := Lib.hid (HBW.out.trans ((Below.refl _ wr).alloc (by omega) _ |>.trans (Held.gb_below hg7 (by simp; omega) (fun g hg => (Held.own_lt HM.out hg).1))))
        have OS7 : Hid (w7.ownsRow w6.heap.size 48 16 u11 k (flat ((ms.take k).map (· ^^^ b)))) := Lib.hid (Held.own_of HSS.out fun g hg => by
          have hl := (Held.own_lt HSS.out hg).2
          rw [hg7.block g (by simp; omega) (fun e => HAP.out g e.symm hg), Below.heap_alloc _ _ _ hl])
        have AP7 : Hid (∀ g, m7.ownBlock = some g → u11.ownBlock ≠ some g) := Lib.hid fun g hg hs => by
          rcases hat7 with e | e
          · exact HAP.out g (e ▸ hg) hs
          · rw [hg] at e
            have hl := (Held.own_lt HSS.out hs).2
            simp at e
            omega
        have OM7 : Hid (w7.ownsRow w6.heap.size 48 16 m7 (k + 1) (flat (ms.take (k + 1)))) := Lib.hid (by rw [T1.out]; exact hown7)
        clear hown7 hg7 hnil7 hat7 O1 hrg
        refine Held.begin_ (S := fun w' => Below w6.heap.size w6 w') 10 rfl (by kernel_rfl) HB7.out.drew ?_
        intro hS7
        have HB8 : Hid (Below w6.heap.size w6 w7.drew) := Lib.hid hS7
        have OS8 : Hid (w7.drew.ownsRow w6.heap.size 48 16 u11 k (flat ((ms.take k).map (· ^^^ b)))) := Lib.hid (Held.own_of OS7.out fun g hg => rfl)
        have OM8 : Hid (w7.drew.ownsRow w6.heap.size 48 16 m7 (k + 1) (flat (ms.take (k + 1)))) := Lib.hid (Held.own_of OM7.out fun g hg => rfl)
        clear hS7 OS7 OM7 HB7
        generalize w7.drew = w8 at HB8 OS8 OM8 ⊢
        refine Held.t_move (i := 0) rfl rfl (by kernel_rfl) (by kernel_rfl) (by kernel_rfl) HB8.out _ rfl u11 rfl ?_
        simp only [Act.put, List.setIfInBounds_toArray, List.set_cons_zero, List.set_cons_succ]
        refine Held.t_move (i := 1) rfl rfl (by kernel_rfl) (by kernel_rfl) (by kernel_rfl) HB8.out _ rfl (.slice (some ⟨bl, off, none⟩) ms.length c) rfl ?_
        simp only [Act.put, List.setIfInBounds_toArray, List.set_cons_zero, List.set_cons_succ]
        refine Held.t_move (i := 2) rfl rfl (by kernel_rfl) (by kernel_rfl) (by kernel_rfl) HB8.out _ rfl (.int .i64 k) rfl ?_
        simp only [Act.put, List.setIfInBounds_toArray, List.set_cons_zero, List.set_cons_succ]
        refine Held.t_index (i := 3) rfl rfl (by kernel_rfl) (by kernel_rfl) (by kernel_rfl) HB8.out _ _ _ _ rfl bl off ms.length c rfl k rfl hlt 16 Try.underlying49 info16 ?_
        simp only [Act.put, List.setIfInBounds_toArray, List.set_cons_zero, List.set_cons_succ]
        refine Held.t_load_mid (i := 4) rfl rfl (by kernel_rfl) (by kernel_rfl) (by kernel_rfl) HB8.out _ _ rfl bl _ rfl (fun w' hw' => fun j v hv => by rw [hw'.cell (p := ⟨bl, off + k * 16 + j, none⟩) HBL.out.1]; exact HBL.out.2 j v hv) Try.underlying48 rfl info16 ?_
        simp only [Act.put, List.setIfInBounds_toArray, List.set_cons_zero, List.set_cons_succ]
        refine Held.t_load (i := 5) rfl rfl (by kernel_rfl) (by kernel_rfl) (by kernel_rfl) HB8.out _ _ rfl _ rfl (fun w' hw' => S6.out.1.b.below hw' S6.out.1.lb) Try.underlying48 rfl info16 ?_
        simp only [Act.put, List.setIfInBounds_toArray, List.set_cons_zero, List.set_cons_succ]
        refine Held.t_one (i := 6) rfl rfl (by kernel_rfl) ?_
        refine Held.w_call 17 _ _ rfl Try.func17 (by kernel_rfl) rfl [B16 nk, B16 b] rfl (plus_num nk b w8) ?_
        intro w9 hb9
        have HB9 : Hid (Below w6.heap.size w6 w9) := Lib.hid (HB8.out.trans (hb9.mono HB8.out.size))
        have OS9 : Hid (w9.ownsRow w6.heap.size 48 16 u11 k (flat ((ms.take k).map (· ^^^ b)))) := Lib.hid (Held.own_of OS8.out fun g hg => hb9.block g (Held.own_lt OS8.out hg).2)
        have OM9 : Hid (w9.ownsRow w6.heap.size 48 16 m7 (k + 1) (flat (ms.take (k + 1)))) := Lib.hid (Held.own_of OM8.out fun g hg => hb9.block g (Held.own_lt OM8.out hg).2)
        clear hb9 OS8 OM8 HB8
        refine ⟨HB9.out, ?_⟩
        simp only [Act.put, List.setIfInBounds_toArray, List.set_cons_zero, List.set_cons_succ]
        refine Held.t_one (i := 7) rfl rfl (by kernel_rfl) ?_
        refine Held.w_one (n := 16) (k := .u8) (f := fun i => (byt (nk ^^^ b) i : Int)) _ 48 _ rfl rfl Try.underlying49 info16 (by kernel_rfl) (by decide) (by decide) ?_
        have hsz9 := HB9.out.size
        have HB10 : Hid (Below w6.heap.size w6 (w9.alloc (.cells (arr .u8 16 fun j => (byt (nk ^^^ b) j : Int)) 48))) := Lib.hid (HB9.out.alloc (by omega) _)
        have OS10 : Hid ((w9.alloc (.cells (arr .u8 16 fun j => (byt (nk ^^^ b) j : Int)) 48)).ownsRow w6.heap.size 48 16 u11 k (flat ((ms.take k).map (· ^^^ b)))) := Lib.hid (Held.own_of OS9.out fun g hg => Below.heap_alloc _ _ _ (Held.own_lt OS9.out hg).2)
        refine ⟨HB10.out, ?_⟩
        simp only [Act.put, List.setIfInBounds_toArray, List.set_cons_zero, List.set_cons_succ]
        refine Held.t_one (i := 8) rfl rfl (by kernel_rfl) ?_
        refine Held.w_append _ _ _ rfl w6.heap.size 48 I Z 16 16 Try.underlying49 HI.out.1 HI.out.2.1 HI.out.2.2.1 HI.out.2.2.2.1 HI.out.2.2.2.2 (by decide) u11 k _ rfl OS10.out _ 1 1 _ rfl (by simp [arr]) (arr_news (Arr.new w9 .u8 16 48 _)) (arr_one16 _) (by simp [maxLen]; omega) (by omega) (by simp; omega) ?_
        intro s11 w11 hown11 hg11 hnil11 hat11
        have HB11 : Hid (Below w6.heap.size w6 w11) := Lib.hid (HB10.out.trans (Held.gb_below hg11 (by simp; omega) (fun g hg => (Held.own_lt OS9.out hg).1)))
        have OM11 : Hid (w11.ownsRow w6.heap.size 48 16 m7 (k + 1) (flat (ms.take (k + 1)))) := Lib.hid (Held.own_of OM9.out fun g hg => by
          have hl := (Held.own_lt OM9.out hg).2
          rw [hg11.block g (by simp; omega) (fun e => AP7.out g hg e.symm), Below.heap_alloc _ _ _ hl])
        have AP11 : Hid (∀ g, m7.ownBlock = some g → s11.ownBlock ≠ some g) := Lib.hid fun g hg hs => by
          rcases hat11 with e | e
          · exact AP7.out g hg (e ▸ hs)
          · rw [hs] at e
            have hl := (Held.own_lt OM9.out hg).2
            simp at e
            omega
        have OS11 : Hid (w11.ownsRow w6.heap.size 48 16 s11 (k + 1) (flat ((ms.take (k + 1)).map (· ^^^ b)))) := Lib.hid (by rw [T2.out]; exact hown11)
        clear hown11 hg11 hnil11 hat11
        refine ⟨HB11.out, ?_⟩
        simp only [Act.put, List.setIfInBounds_toArray, List.set_cons_zero, List.set_cons_succ]
        refine Held.t_assign (i := 9) rfl rfl (by kernel_rfl) (by kernel_rfl) (by kernel_rfl) HB11.out _ rfl s11 rfl ?_
        simp only [Act.put, List.setIfInBounds_toArray, List.set_cons_zero, List.set_cons_succ]
        refine Held.t_end (by kernel_rfl) ?_
        go_wp2
        go_roundw
        case rel => exact ⟨k + 1, by omega, by go_num, OM11.out, OS11.out, AP11.out, HB11.out⟩
        case measure => simp [intOf]; omega
      · obtain rfl : k = ms.length := by omega
        have OM : Hid (wr.ownsRow w6.heap.size 48 16 u10 ms.length (flat ms)) := Lib.hid (by have := HM.out; rw [List.take_length] at this; exact this)
        have OS : Hid (wr.ownsRow w6.heap.size 48 16 u11 ms.length (flat (ms.map (· ^^^ b)))) := Lib.hid (by have := HSS.out; rw [List.take_length] at this; exact this)
        have SB : Hid (Box h a b w.heap.size w wr) := Lib.hid (S6.out.1.below HBW.out)
        have XB : Hid (Arr wr w5.heap.size .u8 16 48 (fun i => (byt x i : Int)) ∧ w5.heap.size < wr.heap.size) := Lib.hid ⟨S6.out.2.1.below HBW.out S6.out.2.2.1, Nat.lt_of_lt_of_le S6.out.2.2.1 HBW.out.size⟩
        have hsz := HBW.out.size
        clear HM HSS
        have O1 : Hid ((wr.alloc (.cells (arr .u8 16 fun j => (byt a j : Int)) 48)).ownsRow w6.heap.size 48 16 u10 ms.length (flat ms)) := Lib.hid (Held.own_of OM.out fun g hg => Below.heap_alloc _ _ _ (Held.own_lt OM.out hg).2)
        go_upto_region 15 with fail
        refine wp_region_lit ?_
        refine Held.p_move rfl _ rfl u10 rfl ?_
        simp only [Act.put, List.setIfInBounds_toArray, List.set_cons_zero, List.set_cons_succ]
        refine Held.p_load rfl _ _ rfl _ rfl SB.out.a Try.underlying48 rfl info16 ?_
        simp only [Act.put, List.setIfInBounds_toArray, List.set_cons_zero, List.set_cons_succ]
        refine Held.p_wp rfl (Held.w_one (n := 16) (k := .u8) (f := fun i => (byt a i : Int)) _ 48 _ rfl rfl Try.underlying49 info16 (by kernel_rfl) (by decide) (by decide) ?_)
        simp only [Act.put, List.setIfInBounds_toArray, List.set_cons_zero, List.set_cons_succ]
        refine Held.p_wp rfl (Held.w_append _ _ _ rfl w6.heap.size 48 I Z 16 16 Try.underlying49 HI.out.1 HI.out.2.1 HI.out.2.2.1 HI.out.2.2.2.1 HI.out.2.2.2.2 (by decide) u10 ms.length _ rfl O1.out _ 1 1 _ rfl (by simp [arr]) (arr_news (Arr.new wr .u8 16 48 _)) (arr_one16 _) (by simp [maxLen]; omega) (by omega) (by simp; omega) ?_)
        intro m7 w7 hown7 hg7 hnil7 hat7
        simp only [Act.put, List.setIfInBounds_toArray, List.set_cons_zero, List.set_cons_succ]
        refine Held.p_assign rfl _ rfl m7 rfl ?_
        simp only [Act.put, List.setIfInBounds_toArray, List.set_cons_zero, List.set_cons_succ]
        have HB7 : Hid (Below w6.heap.size wr w7) := Lib.hid (((Below.refl _ wr).alloc (by omega) _ |>.trans (Held.gb_below hg7 (by simp; omega) (fun g hg => (Held.own_lt OM.out hg).1))))
        have OS7 : Hid (w7.ownsRow w6.heap.size 48 16 u11 ms.length (flat (ms.map (· ^^^ b)))) := Lib.hid (Held.own_of OS.out fun g hg => by
          have hl := (Held.own_lt OS.out hg).2
          rw [hg7.block g (by simp; omega) (fun e => HAP.out g e.symm hg), Below.heap_alloc _ _ _ hl])
        have S0 : Hid (Box h a b w.heap.size w w7) := Lib.hid (S6.out.1.below (HBW.out.trans HB7.out))
        have X0 : Hid (Arr w7 w5.heap.size .u8 16 48 (fun i => (byt x i : Int)) ∧ w5.heap.size < w7.heap.size) := Lib.hid ⟨S6.out.2.1.below (HBW.out.trans HB7.out) S6.out.2.2.1, Nat.lt_of_lt_of_le XB.out.2 HB7.out.size⟩
        obtain ⟨p7, cap7, e7, _, hs7⟩ := SL.own (ns := ms ++ [a]) (n := ms.length + 1) (by rw [flat_snoc]; exact hown7)
        obtain ⟨p8, cap8, e8, _, hs8⟩ := SL.own OS7.out
        have SM := Lib.hid hs7
        have SS := Lib.hid hs8
        clear hown7 hg7 hnil7 hat7 O1 OM OS OS7 HB7 XB SB HAP hs7 hs8
        subst e7 e8
        have HNA : Hid (∀ n ∈ ms ++ [a], n < 2 ^ 128) := Lib.hid fun n hn => by
          rcases List.mem_append.1 hn with h1 | h1
          · exact HN2.out n h1
          · rw [List.mem_singleton.1 h1]; exact ha
        have HNS : Hid (∀ n ∈ ms.map (· ^^^ b), n < 2 ^ 128) := Lib.hid fun n hn => by
          obtain ⟨q, hq, rfl⟩ := List.mem_map.1 hn
          exact Nat.xor_lt_two_pow (HN2.out q hq) hb
        have HNR : Hid (∀ n ∈ List.replicate ms.length b, n < 2 ^ 128) := Lib.hid fun n hn => by rw [(List.mem_replicate.1 hn).2]; exact hb
        have LE : Hid (w7.heap.size ≤ w7.heap.size) := Lib.hid (Nat.le_refl _)
        go_upto_region 16 with fail
        refine Eqs.wp_region_class (C := fun w' => Below w7.heap.size w7 w') (by kernel_rfl) (by kernel_rfl) (Below.refl _ _).drew ?_
        refine Eqs.q_load rfl 48 _ rfl _ rfl (fun _ hs => S0.out.h.below hs S0.out.lh) Try.underlying48 rfl info16 ?_
        simp only [Act.put, List.setIfInBounds_toArray, List.set_cons_zero, List.set_cons_succ]
        refine Eqs.q_move rfl _ rfl (.slice p7 (ms ++ [a]).length cap7) rfl ?_
        simp only [Act.put, List.setIfInBounds_toArray, List.set_cons_zero, List.set_cons_succ]
        refine Eqs.q_call rfl 18 _ _ rfl Try.func18 (by kernel_rfl) rfl _ [B16 h, .slice p7 (ms ++ [a]).length cap7] rfl (fun w' hw' => (polyval_sl h (ms ++ [a]) p7 cap7 w' HNA.out (SM.out.keep hw') (by simp; omega)).mono fun e w2 ⟨he, hb⟩ => ⟨he, hw'.trans (hb.mono (Nat.le_trans LE.out hw'.size))⟩) ?_
        simp only [Act.put, List.setIfInBounds_toArray, List.set_cons_zero, List.set_cons_succ]
        refine Eqs.q_load rfl 48 _ rfl _ rfl (fun _ hs => X0.out.1.below hs X0.out.2) Try.underlying48 rfl info16 ?_
        simp only [Act.put, List.setIfInBounds_toArray, List.set_cons_zero, List.set_cons_succ]
        refine Eqs.q_load rfl 48 _ rfl _ rfl (fun _ hs => S0.out.a.below hs S0.out.la) Try.underlying48 rfl info16 ?_
        simp only [Act.put, List.setIfInBounds_toArray, List.set_cons_zero, List.set_cons_succ]
        refine Eqs.q_call rfl 17 _ _ rfl Try.func17 (by kernel_rfl) rfl _ [B16 x, B16 a] rfl (fun w' hw' => (plus_num x a w').mono fun e w2 ⟨he, hb⟩ => ⟨he, hw'.trans (hb.mono (Nat.le_trans LE.out hw'.size))⟩) ?_
        simp only [Act.put, List.setIfInBounds_toArray, List.set_cons_zero, List.set_cons_succ]
        refine Eqs.q_load rfl 48 _ rfl _ rfl (fun _ hs => S0.out.h.below hs S0.out.lh) Try.underlying48 rfl info16 ?_
        simp only [Act.put, List.setIfInBounds_toArray, List.set_cons_zero, List.set_cons_succ]
        refine Eqs.q_call rfl 16 _ _ rfl Try.func16 (by kernel_rfl) rfl _ [B16 (x ^^^ a), B16 h] rfl (fun w' hw' => (dot_any (x ^^^ a) h (Nat.xor_lt_two_pow hx.out ha) w').mono fun e w2 ⟨he, hb⟩ => ⟨he, hw'.trans (hb.mono (Nat.le_trans LE.out hw'.size))⟩) ?_
        simp only [Act.put, List.setIfInBounds_toArray, List.set_cons_zero, List.set_cons_succ]
        refine Eqs.q_neq rfl _ _ _ _ rfl (polyN h (ms ++ [a])) (dotN (x ^^^ a) h 128) rfl rfl Try.underlying48 Try.underlying5 (by kernel_rfl) (by kernel_rfl) (polyN_bound h _ HNA.out) (dotN_lt (x ^^^ a) h (Nat.xor_lt_two_pow hx.out ha) 128) false (Eqs.ne_false (by rw [polyN_append, HXE.out])) ?_
        simp only [Act.put, List.setIfInBounds_toArray, List.set_cons_zero, List.set_cons_succ]
        refine wpQuiet_nil ?_
        intro w8 hs8
        have S8 := Lib.hid (S0.out.below hs8)
        have X8 : Hid (Arr w8 w5.heap.size .u8 16 48 (fun i => (byt x i : Int)) ∧ w5.heap.size < w8.heap.size) := Lib.hid ⟨X0.out.1.below hs8 X0.out.2, Nat.lt_of_lt_of_le X0.out.2 hs8.size⟩
        have SS8 := Lib.hid (SS.out.keep hs8)
        clear S0 X0 SS LE SM hs8
        go_upto_region 18 with fail
        go_cut [13] from 15 to 122 (fun s wx => s = .slice none 0 0 ∧ w8 = wx)
        case first =>
          go_wp2
          go_meet
          case rel => exact ⟨rfl, rfl⟩
        obtain ⟨rfl, rfl⟩ := hcut
        go_wp2
        go_loopw [14, 13] (fun i m wr => ∃ k : Nat, k ≤ ms.length ∧ i = .int .i64 k ∧ wr.ownsRow w8.heap.size 48 16 m k (flat (List.replicate k b)) ∧ Below w8.heap.size w8 wr) (fun i _ _ => ms.length - (intOf i).toNat)
        case atStart => exact ⟨0, by omega, rfl, ⟨by simp [flat], .inl ⟨rfl, rfl⟩⟩, Below.refl _ _⟩
        case round =>
          obtain ⟨k, hk, rfl, hm, hbw⟩ := hrel
          have HM := Lib.hid hm
          have HBW := Lib.hid hbw
          have hsz := hbw.size
          clear hm hbw
          by_cases hlt : k < ms.length
          · have O1 : Hid ((wr.alloc (.cells (arr .u8 16 fun j => (byt b j : Int)) 48)).ownsRow w8.heap.size 48 16 u13 k (flat (List.replicate k b))) := Lib.hid (Held.own_of HM.out fun g hg => Below.heap_alloc _ _ _ (Held.own_lt HM.out hg).2)
            go_upto_region 20 with fail
            refine wp_region_lit ?_
            refine Held.p_move rfl _ rfl (.int .i64 k) rfl ?_
            simp only [Act.put, List.setIfInBounds_toArray, List.set_cons_zero, List.set_cons_succ]
            refine Held.p_move rfl _ rfl (.slice p ms.length c) rfl ?_
            simp only [Act.put, List.setIfInBounds_toArray, List.set_cons_zero, List.set_cons_succ]
            refine Held.p_len rfl _ _ _ rfl p ms.length c rfl Try.underlying49 ?_
            simp only [Act.put, List.setIfInBounds_toArray, List.set_cons_zero, List.set_cons_succ]
            refine Held.p_lss rfl _ _ _ _ rfl k ms.length rfl rfl true (decide_eq_true hlt) ?_
            simp only [Act.put, List.setIfInBounds_toArray, List.set_cons_zero, List.set_cons_succ]
            refine Held.p_nil ?_
            go_upto_region 22 with fail
            refine wp_region_lit ?_
            refine Held.p_move rfl _ rfl u13 rfl ?_
            simp only [Act.put, List.setIfInBounds_toArray, List.set_cons_zero, List.set_cons_succ]
            refine Held.p_load rfl _ _ rfl _ rfl (S8.out.b.below HBW.out S8.out.lb) Try.underlying48 rfl info16 ?_
            simp only [Act.put, List.setIfInBounds_toArray, List.set_cons_zero, List.set_cons_succ]
            refine Held.p_wp rfl (Held.w_one (n := 16) (k := .u8) (f := fun i => (byt b i : Int)) _ 48 _ rfl rfl Try.underlying49 info16 (by kernel_rfl) (by decide) (by decide) ?_)
            simp only [Act.put, List.setIfInBounds_toArray, List.set_cons_zero, List.set_cons_succ]
            refine Held.p_wp rfl (Held.w_append _ _ _ rfl w8.heap.size 48 I Z 16 16 Try.underlying49 HI.out.1 HI.out.2.1 HI.out.2.2.1 HI.out.2.2.2.1 HI.out.2.2.2.2 (by decide) u13 k _ rfl O1.out _ 1 1 _ rfl (by simp [arr]) (arr_news (Arr.new wr .u8 16 48 _)) (arr_one16 _) (by simp [maxLen]; omega) (by omega) (by simp; omega) ?_)
            intro m9 w9 hown9 hg9 hnil9 hat9
            simp only [Act.put, List.setIfInBounds_toArray, List.set_cons_zero, List.set_cons_succ]
            refine Held.p_assign rfl _ rfl m9 rfl ?_
            simp only [Act.put, List.setIfInBounds_toArray, List.set_cons_zero, List.set_cons_succ]
            have HB9 : Hid (Below w8.heap.size w8 w9) := Lib.hid (HBW.out.trans (((Below.refl _ wr).alloc (by omega) _ |>.trans (Held.gb_below hg9 (by simp; omega) (fun g hg => (Held.own_lt HM.out hg).1)))))
            have OM9 : Hid (w9.ownsRow w8.heap.size 48 16 m9 (k + 1) (flat (List.replicate (k + 1) b))) := Lib.hid (by rw [List.replicate_succ', flat_snoc]; exact hown9)
            clear hown9 hg9 hnil9 hat9 O1
            go_wp2_with fail
            go_roundw
            case rel => exact ⟨k + 1, by omega, by go_num, OM9.out, HB9.out⟩
            case measure => simp [intOf]; omega
          · obtain rfl : k = ms.length := by omega
            obtain ⟨p9, cap9, e9, _, hs9⟩ := SL.own HM.out
            have SR := Lib.hid hs9
            have S0 := Lib.hid (S8.out.below HBW.out)
            have X0 : Hid (Arr wr w5.heap.size .u8 16 48 (fun i => (byt x i : Int)) ∧ w5.heap.size < wr.heap.size) := Lib.hid ⟨X8.out.1.below HBW.out X8.out.2, Nat.lt_of_lt_of_le X8.out.2 HBW.out.size⟩
            have SS := Lib.hid (SS8.out.keep HBW.out)
            clear HM hs9
            subst e9
            have LE : Hid (wr.heap.size ≤ wr.heap.size) := Lib.hid (Nat.le_refl _)
            go_upto_region 20 with fail
            refine wp_region_lit ?_
            refine Held.p_move rfl _ rfl (.int .i64 ms.length) rfl ?_
            simp only [Act.put, List.setIfInBounds_toArray, List.set_cons_zero, List.set_cons_succ]
            refine Held.p_move rfl _ rfl (.slice p ms.length c) rfl ?_
            simp only [Act.put, List.setIfInBounds_toArray, List.set_cons_zero, List.set_cons_succ]
            refine Held.p_len rfl _ _ _ rfl p ms.length c rfl Try.underlying49 ?_
            simp only [Act.put, List.setIfInBounds_toArray, List.set_cons_zero, List.set_cons_succ]
            refine Held.p_lss rfl _ _ _ _ rfl ms.length ms.length rfl rfl false (decide_eq_false (Nat.lt_irrefl _)) ?_
            simp only [Act.put, List.setIfInBounds_toArray, List.set_cons_zero, List.set_cons_succ]
            refine Held.p_nil ?_
            go_upto_region 23 with fail
            refine Eqs.wp_region_class (C := fun w' => Below wr.heap.size wr w') (by kernel_rfl) (by kernel_rfl) (Below.refl _ _).drew ?_
            refine Eqs.q_load rfl 48 _ rfl _ rfl (fun _ hs => S0.out.h.below hs S0.out.lh) Try.underlying48 rfl info16 ?_
            simp only [Act.put, List.setIfInBounds_toArray, List.set_cons_zero, List.set_cons_succ]
            refine Eqs.q_move rfl _ rfl (.slice p8 (ms.map (· ^^^ b)).length cap8) rfl ?_
            simp only [Act.put, List.setIfInBounds_toArray, List.set_cons_zero, List.set_cons_succ]
            refine Eqs.q_call rfl 18 _ _ rfl Try.func18 (by kernel_rfl) rfl _ [B16 h, .slice p8 (ms.map (· ^^^ b)).length cap8] rfl (fun w' hw' => (polyval_sl h (ms.map (· ^^^ b)) p8 cap8 w' HNS.out (SS.out.keep hw') (by simp; omega)).mono fun e w2 ⟨he, hb⟩ => ⟨he, hw'.trans (hb.mono (Nat.le_trans LE.out hw'.size))⟩) ?_
            simp only [Act.put, List.setIfInBounds_toArray, List.set_cons_zero, List.set_cons_succ]
            refine Eqs.q_load rfl 48 _ rfl _ rfl (fun _ hs => X0.out.1.below hs X0.out.2) Try.underlying48 rfl info16 ?_
            simp only [Act.put, List.setIfInBounds_toArray, List.set_cons_zero, List.set_cons_succ]
            refine Eqs.q_load rfl 48 _ rfl _ rfl (fun _ hs => S0.out.h.below hs S0.out.lh) Try.underlying48 rfl info16 ?_
            simp only [Act.put, List.setIfInBounds_toArray, List.set_cons_zero, List.set_cons_succ]
            refine Eqs.q_move rfl _ rfl (.slice p9 (List.replicate ms.length b).length cap9) rfl ?_
            simp only [Act.put, List.setIfInBounds_toArray, List.set_cons_zero, List.set_cons_succ]
            refine Eqs.q_call rfl 18 _ _ rfl Try.func18 (by kernel_rfl) rfl _ [B16 h, .slice p9 (List.replicate ms.length b).length cap9] rfl (fun w' hw' => (polyval_sl h (List.replicate ms.length b) p9 cap9 w' HNR.out (SR.out.keep hw') (by simp; omega)).mono fun e w2 ⟨he, hb⟩ => ⟨he, hw'.trans (hb.mono (Nat.le_trans LE.out hw'.size))⟩) ?_
            simp only [Act.put, List.setIfInBounds_toArray, List.set_cons_zero, List.set_cons_succ]
            refine Eqs.q_call rfl 17 _ _ rfl Try.func17 (by kernel_rfl) rfl _ [B16 x, B16 (polyN h (List.replicate ms.length b))] rfl (fun w' hw' => (plus_num x (polyN h (List.replicate ms.length b)) w').mono fun e w2 ⟨he, hb⟩ => ⟨he, hw'.trans (hb.mono (Nat.le_trans LE.out hw'.size))⟩) ?_
            simp only [Act.put, List.setIfInBounds_toArray, List.set_cons_zero, List.set_cons_succ]
            refine Eqs.q_eql rfl _ _ _ _ rfl (polyN h (ms.map (· ^^^ b))) (x ^^^ (polyN h (List.replicate ms.length b))) rfl rfl Try.underlying48 Try.underlying5 (by kernel_rfl) (by kernel_rfl) (polyN_bound h _ HNS.out) (Nat.xor_lt_two_pow hx.out (polyN_bound h _ HNR.out)) true (Eqs.eq_true (by rw [polyN_adds h b hb ms HN2.out, HXE.out])) ?_
            simp only [Act.put, List.setIfInBounds_toArray, List.set_cons_zero, List.set_cons_succ]
            refine Eqs.q_assign rfl _ rfl (.bool true) rfl ?_
            simp only [Act.put, List.setIfInBounds_toArray, List.set_cons_zero, List.set_cons_succ]
            refine wpQuiet_nil ?_
            intro w10 hs10
            have S10 := Lib.hid (S0.out.below hs10)
            go_wp2
            go_ret
            exact ⟨rfl, S10.out.bel⟩
end Go.Proofs.Ytfchbodbkdkcfaa.Hashes
