/- turned, plus of the document's own functions. -/
import Derived.Test.YtfchbodbkdkcfaaRef2
namespace Go.Proofs.Ytfchbodbkdkcfaa.Ref
open Go.RowKit Go.Lib
open Go.Proofs.Ytfchbodbkdkcfaa.Blk Go.Proofs.Ytfchbodbkdkcfaa.Poly Go.Proofs.Ytfchbodbkdkcfaa.Field Go.Proofs.Ytfchbodbkdkcfaa.Ints

set_option maxHeartbeats 400000 in
theorem rturned_any (f : Nat → Int) (w : World) : Calls Try.prog 37 #[A16 f] w fun e w' => e = .returned (A16 fun i => f (15 - i)) ∧ Below w.heap.size w w' := by
  have H0 := Lib.hid (turn_start f w)
  rw [zero16] at H0
  go_enter Try.func37, Try.ntmps37
  go_wp2
  go_loopw [4] (fun i wr => ∃ k : Nat, k ≤ 16 ∧ i = .int .i64 k ∧ TurnRel f w.heap.size w wr k) (fun i _ => 16 - (intOf i).toNat)
  case atStart => exact ⟨0, by omega, rfl, H0.out⟩
  case round =>
    obtain ⟨k, hk, rfl, hr⟩ := hrel
    have HR := Lib.hid hr
    by_cases hlt : k < 16
    · have ca := hr.a.cell (i := 15 - k) (by omega)
      have cc := hr.c.cell hlt
      have fa := hr.c.free k
      have ei : ((15 - k : Nat) : Int) = 15 - (k : Int) := by omega
      clear hr
      simp only [Nat.lt_irrefl, if_false] at cc
      go_wp2
      go_roundw
      case rel =>
        refine ⟨k + 1, by omega, by go_num, HR.out.a.other (by simp; omega) _, HR.out.b.other (by simp) _, (HR.out.c.store k _).congr fun i hi => ?_, HR.out.bel.setCell (p := ⟨w.heap.size + 1 + 1, k, none⟩) (by simp; omega) _⟩
        unfold upd
        dsimp only
        by_cases e : i = k
        · subst e; rw [if_pos rfl, if_pos (by omega)]
        · by_cases e' : i < k
          · rw [if_neg e, if_pos e', if_pos (by omega)]
          · rw [if_neg e, if_neg e', if_neg (by omega)]
      case measure => simp [intOf]; omega
    · obtain rfl : k = 16 := by omega
      clear hr
      go_wp2_with (first | (refine wpList_load_arr rfl 48 _ rfl _ rfl HR.out.c Try.underlying48 rfl info16 ?_) | (refine wpList_store_arr rfl 48 _ _ rfl _ rfl rfl HR.out.b info16 ?_; intro w2 hA hG hS))
      refine ret_arr rfl rfl hA Try.underlying48 rfl info16 rfl ⟨?_, HR.out.bel.grown hG (Nat.le_trans (by simp) HR.out.bel.size) (by simp)⟩
      exact congrArg (fun x => Ending.returned (.agg x)) (arr_congr fun i hi => by simp [hi])
theorem rturned_num (a : Nat) (w : World) : Calls Try.prog 37 #[B16 a] w fun e w' => e = .returned (B16 (revN a)) ∧ Below w.heap.size w w' :=
  (rturned_any _ w).mono fun _ _ ⟨he, hb⟩ => ⟨by rw [he]; exact congrArg (fun x => Ending.returned (.agg x)) (arr_congr fun i hi => by rw [byt_rev _ _ hi]), hb⟩



structure RPlus (f g : Nat → Int) (B : Nat) (w wr : World) (k : Nat) : Prop where
  a : Arr wr B .u8 16 48 f
  b : Arr wr (B + 1) .u8 16 48 g
  c : Arr wr (B + 1 + 1) .u8 16 48 (fun _ => 0)
  d : Arr wr (B + 1 + 1 + 1) .u8 16 48 (fun i => if i < k then xorB (f i) (g i) else 0)
  bel : Below B w wr
theorem rplus_start (f g : Nat → Int) (w : World) : RPlus f g w.heap.size w ((((w.alloc (.cells (arr .u8 16 f) 48)).alloc (.cells (arr .u8 16 g) 48)).alloc (.cells (arr .u8 16 fun _ => 0) 48)).alloc (.cells (arr .u8 16 fun _ => 0) 48)) 0 := by
  have h := three_of f g w
  refine ⟨h.a.alloc _, h.b.alloc _, h.c.alloc _, ?_, h.bel.alloc (by simp; omega) _⟩
  have := (Arr.new (((w.alloc (.cells (arr .u8 16 f) 48)).alloc (.cells (arr .u8 16 g) 48)).alloc (.cells (arr .u8 16 fun _ => 0) 48)) .u8 16 48 fun _ => 0)
  simp only [World.size_alloc] at this
  exact this.congr fun i _ => by simp

set_option maxHeartbeats 400000 in
theorem rplus_any (f g : Nat → Int) (w : World) : Calls Try.prog 38 #[A16 f, A16 g] w fun e w' => e = .returned (A16 fun i => xorB (f i) (g i)) ∧ Below w.heap.size w w' := by
  have H0 := Lib.hid (rplus_start f g w)
  rw [zero16] at H0
  go_enter Try.func38, Try.ntmps38
  go_wp2
  go_loopw [6] (fun i wr => ∃ k : Nat, k ≤ 16 ∧ i = .int .i64 k ∧ RPlus f g w.heap.size w wr k) (fun i _ => 16 - (intOf i).toNat)
  case atStart => exact ⟨0, by omega, rfl, H0.out⟩
  case round =>
    obtain ⟨k, hk, rfl, hr⟩ := hrel
    have HR := Lib.hid hr
    by_cases hlt : k < 16
    · have ca := hr.a.cell hlt
      have cb := hr.b.cell hlt
      have cd := hr.d.cell hlt
      have fd := hr.d.free k
      clear hr
      simp only [Nat.lt_irrefl, if_false] at cd
      go_wp2
      go_region
      go_wp2
      go_roundw
      case rel =>
        refine ⟨k + 1, by omega, by go_num, HR.out.a.other (by simp; omega) _, HR.out.b.other (by simp) _, HR.out.c.other (by simp) _, (HR.out.d.store k _).congr fun i hi => ?_, (HR.out.bel.setCell (p := ⟨w.heap.size + 1 + 1 + 1, k, none⟩) (by simp; omega) _).drew⟩
        unfold upd
        dsimp only
        by_cases e : i = k
        · subst e; rw [if_pos rfl, if_pos (by omega)]; rfl
        · by_cases e' : i < k
          · rw [if_neg e, if_pos e', if_pos (by omega)]
          · rw [if_neg e, if_neg e', if_neg (by omega)]
      case measure => simp [intOf]; omega
    · obtain rfl : k = 16 := by omega
      clear hr
      go_wp2_with (first | (refine wpList_load_arr rfl 48 _ rfl _ rfl HR.out.d Try.underlying48 rfl info16 ?_) | (refine wpList_store_arr rfl 48 _ _ rfl _ rfl rfl HR.out.c info16 ?_; intro w2 hA hG hS))
      refine ret_arr rfl rfl hA Try.underlying48 rfl info16 rfl ⟨?_, HR.out.bel.grown hG (Nat.le_trans (by simp) HR.out.bel.size) (by simp; omega)⟩
      exact congrArg (fun x => Ending.returned (.agg x)) (arr_congr fun i hi => by simp [hi])
theorem rplus_num (a b : Nat) (w : World) : Calls Try.prog 38 #[B16 a, B16 b] w fun e w' => e = .returned (B16 (a ^^^ b)) ∧ Below w.heap.size w w' :=
  (rplus_any _ _ w).mono fun _ _ ⟨he, hb⟩ => ⟨by rw [he]; exact congrArg (fun x => Ending.returned (.agg x)) (arr_congr fun i _ => by rw [xorB_nat _ _ (byt_lt _ _) (byt_lt _ _), byt_xor]), hb⟩
end Go.Proofs.Ytfchbodbkdkcfaa.Ref
