/- Parts of the proof of TweakBlocks. FieldT: Contracts of the program's functions on blocks. -/
import Derived.Test.YtmifebcaifbmoaaGreatDoorChecked
import Derived.Test.YtmifebcaifbmoaaGreatDoorL00
import Derived.Deep.Cut
import Derived.Deep.CutRange
import Derived.Deep.QuietTactic
import Derived.BigQuiet
import Derived.LoopTactic
import Derived.Laws.AppendOwnNone
import Derived.Laws.OwnMore
import Derived.Maps.AppendAt
import Derived.ArgAppend
import Derived.WalkSmall
import Derived.WalkSpells
import Derived.Lib.SmallJoins
import Derived.Deep.Slices
import Derived.ChangeSlices
import Derived.ChangeMaps5
import Derived.Test.YtmifebcaifbmoaaGreatDoorL10
/- FieldT -/
section
namespace Go.Proofs.YtmifebcaifbmoaaGreatDoor.Field
open Go.RowKit Go.Lib
open Go.Proofs.YtmifebcaifbmoaaGreatDoor.Blk Go.Proofs.YtmifebcaifbmoaaGreatDoor.Poly

theorem info16 : (Tryz.prog.info? 27).map (·.size) = some 16 := by kernel_rfl

def xorB (x y : Int) : Int := bits .xor .u8 x y

theorem plus_step (f g : Nat → Int) (k : Nat) : ∀ i, i < 16 → upd (fun i => if i < k then xorB (f i) (g i) else f i) k (bits .xor .u8 (f k) (g k)) i = (if i < k + 1 then xorB (f i) (g i) else f i) := by
  intro i _
  unfold upd xorB
  dsimp only
  by_cases h : i = k
  · subst h; simp
  · by_cases h' : i < k
    · rw [if_neg h, if_pos h', if_pos (by omega)]
    · rw [if_neg h, if_neg h', if_neg (by omega)]
/-- the three blocks of plus -/
structure PlusRel (f g : Nat → Int) (B : Nat) (w wr : World) (k : Nat) : Prop where
  a : Arr wr B .u8 16 27 (fun i => if i < k then xorB (f i) (g i) else f i)
  b : Arr wr (B + 1) .u8 16 27 g
  c : Arr wr (B + 1 + 1) .u8 16 27 (fun _ => 0)
  bel : Below B w wr

set_option maxHeartbeats 400000 in
/-- a block as a number -/
abbrev B16 (n : Nat) : Value := A16 fun i => (byt n i : Int)
theorem xorB_nat (a b : Nat) (ha : a < 256) (hb : b < 256) : xorB (a : Int) (b : Int) = ((a ^^^ b : Nat) : Int) := xor_u8 a b ha hb
set_option maxHeartbeats 400000 in
theorem halves_any (f : Nat → Nat) (hf : ∀ i, f i < 256) (lw : Nat) (ix : Nat → Nat) (hix : ∀ k : Nat, k < 16 → bits .xor .i64 (lw : Int) (k : Int) = (ix k : Int) ∧ ix k < 16) (w : World) :
    Calls Tryz.prog 99 #[A16 fun i => (f i : Int), .int .i64 lw] w fun e w' => e = .returned (.tuple #[.int .u64 (lowN (fun k => f (ix (8 + k))) 8 : Nat), .int .u64 (lowN (fun k => f (ix k)) 8 : Nat)]) ∧ Below w.heap.size w w' := by
  have H0 : Hid (Arr (w.alloc (.cells (arr .u8 16 fun i => (f i : Int)) 27)) w.heap.size .u8 16 27 fun i => (f i : Int)) := Lib.hid (Arr.new w .u8 16 _ _)
  have HB : Hid (Below w.heap.size w (w.alloc (.cells (arr .u8 16 fun i => (f i : Int)) 27))) := Lib.hid ((Below.refl _ _).alloc (Nat.le_refl _) _)
  have HI := Lib.hid hix
  have HF := Lib.hid hf
  clear hix hf
  have S1 : Hid (∀ k, k < 8 → bits .or .u64 (lowN (fun k => f (ix k)) k : Nat) (IntKind.u64.wrap (IntKind.u64.wrap (f (ix k) : Int) * 2 ^ (8 * k))) = (lowN (fun k => f (ix k)) (k + 1) : Nat)) :=
    Lib.hid fun k hk => or_step _ _ k (lowN_lt _ (fun _ => HF.out _) _) (HF.out _) hk
  have S2 : Hid (∀ k, k < 8 → bits .or .u64 (lowN (fun k => f (ix (8 + k))) k : Nat) (IntKind.u64.wrap (IntKind.u64.wrap (f (ix (8 + k)) : Int) * 2 ^ (8 * k))) = (lowN (fun k => f (ix (8 + k))) (k + 1) : Nat)) :=
    Lib.hid fun k hk => or_step _ _ k (lowN_lt _ (fun _ => HF.out _) _) (HF.out _) hk
  have z1 : lowN (fun k => f (ix k)) 0 = 0 := rfl
  have z2 : lowN (fun k => f (ix (8 + k))) 0 = 0 := rfl
  generalize lowN (fun k => f (ix k)) = L at *
  generalize lowN (fun k => f (ix (8 + k))) = M at *
  have Z1 := Lib.hid z1
  have Z2 := Lib.hid z2
  clear z1 z2
  go_enter Tryz.func99, Tryz.ntmps99
  go_wp2
  go_loop [9, 8, 7, 6] (fun i _ l h => ∃ k : Nat, k ≤ 8 ∧ i = .int .i64 k ∧ l = .int .u64 (L k : Nat) ∧ h = .int .u64 (M k : Nat)) (fun i _ _ _ => 8 - (RowKit.intOf i).toNat)
  case atStart => exact ⟨0, by omega, rfl, by rw [Z1.out]; rfl, by rw [Z2.out]; rfl⟩
  case round =>
    obtain ⟨k, hk, rfl, rfl, rfl⟩ := hrel
    by_cases hlt : k < 8
    · obtain ⟨x1, x2⟩ := HI.out k (by omega)
      obtain ⟨y1, y2⟩ := HI.out (8 + k) (by omega)
      have c1 := H0.out.cell x2
      have c2 := H0.out.cell y2
      rw [show (((8 + k : Nat) : Int)) = 8 + (k : Int) by omega] at y1
      have T1 := Lib.hid (S1.out k hlt)
      have T2 := Lib.hid (S2.out k hlt)
      go_wp2
      go_round
      case rel => exact ⟨k + 1, by omega, by go_num, by rw [← T1.out], by rw [← T2.out]⟩
      case measure => simp [RowKit.intOf]; omega
    · obtain rfl : k = 8 := by omega
      go_wp2
      go_ret2
      exact ⟨rfl, HB.out⟩

theorem halves_rev (n : Nat) (w : World) :
    Calls Tryz.prog 99 #[B16 n, .int .i64 15] w fun e w' => e = .returned (.tuple #[.int .u64 (revN n / 2 ^ 64 : Nat), .int .u64 (revN n % 2 ^ 64 : Nat)]) ∧ Below w.heap.size w w' := by
  have h := halves_any (byt n) (byt_lt n) 15 (fun k => 15 - k) (fun k hk => ⟨by
    have : k = 0 ∨ k = 1 ∨ k = 2 ∨ k = 3 ∨ k = 4 ∨ k = 5 ∨ k = 6 ∨ k = 7 ∨ k = 8 ∨ k = 9 ∨ k = 10 ∨ k = 11 ∨ k = 12 ∨ k = 13 ∨ k = 14 ∨ k = 15 := by omega
    rcases this with rfl | rfl | rfl | rfl | rfl | rfl | rfl | rfl | rfl | rfl | rfl | rfl | rfl | rfl | rfl | rfl <;> decide, by omega⟩) w
  have e0 : lowN (fun k => byt n (15 - k)) 8 = revN n % 2 ^ 64 := by
    have e1 : lowN (fun k => byt n (15 - k)) 8 = lowN (byt (revN n)) 8 := lowN_congr fun i hi => by rw [byt_rev _ _ (by omega)]
    rw [e1, lowN_byt]
  have e : lowN (fun k => byt n (15 - (8 + k))) 8 = revN n / 2 ^ 64 := by
    have e1 : lowN (fun k => byt n (15 - (8 + k))) 8 = lowN (byt (revN n / 256 ^ 8)) 8 := lowN_congr fun i hi => by
      rw [← byt_rev _ _ (by omega)]; unfold byt; rw [Nat.div_div_eq_div_mul, ← Nat.pow_add]
    rw [e1, lowN_byt, pow256]
    exact Nat.mod_eq_of_lt (by rw [Nat.div_lt_iff_lt_mul (by decide)]; exact revN_lt n)
  rw [e, e0] at h
  exact h

/-! little, big, xor, turned -/
structure TwoRel (f g : Nat → Int) (n : Nat) (B : Nat) (w wr : World) (k : Nat) : Prop where
  a : Arr wr B .u8 16 27 f
  b : Arr wr (B + 1) .u8 16 27 (fun i => if i < k ∨ (8 ≤ i ∧ i < 8 + n) then g i else 0)
  bel : Below B w wr

set_option maxHeartbeats 400000 in
theorem little_any (h l : Nat) (hl : l < 2 ^ 64) (w : World) : Calls Tryz.prog 100 #[.int .u64 h, .int .u64 l] w fun e w' => e = .returned (B16 (h * 2 ^ 64 + l)) ∧ Below w.heap.size w w' := by
  have H0 : Hid (TwoRel (fun _ => 0) (fun i => (byt (h * 2 ^ 64 + l) i : Int)) 0 w.heap.size w ((w.alloc (.cells (arr .u8 16 fun _ => 0) 27)).alloc (.cells (arr .u8 16 fun _ => 0) 27)) 0) :=
    Lib.hid ⟨(Arr.new w .u8 16 _ _).alloc _, by have := (Arr.new (w.alloc (.cells (arr .u8 16 fun _ => 0) 27)) .u8 16 27 fun _ => 0); simp only [World.size_alloc] at this; exact this.congr fun i _ => by rw [if_neg (by omega)],
      ((Below.refl _ _).alloc (Nat.le_refl _) _).alloc (by simp) _⟩
  rw [show arr .u8 16 (fun _ => 0) = #[.int .u8 0, .int .u8 0, .int .u8 0, .int .u8 0, .int .u8 0, .int .u8 0, .int .u8 0, .int .u8 0, .int .u8 0, .int .u8 0, .int .u8 0, .int .u8 0, .int .u8 0, .int .u8 0, .int .u8 0, .int .u8 0] from rfl] at H0
  have HL := Lib.hid hl
  go_enter Tryz.func100, Tryz.ntmps100
  go_wp2
  go_loopw [7, 6] (fun i _ wr => ∃ k : Nat, k ≤ 8 ∧ i = .int .i64 k ∧ TwoRel (fun _ => 0) (fun i => (byt (h * 2 ^ 64 + l) i : Int)) k w.heap.size w wr k) (fun i _ _ => 8 - (RowKit.intOf i).toNat)
  case atStart => exact ⟨0, by omega, rfl, H0.out⟩
  case round =>
    obtain ⟨k, hk, rfl, hr⟩ := hrel
    have HR := Lib.hid hr
    by_cases hlt : k < 8
    · have ca := hr.b.cell (i := k) (by omega)
      have cb := hr.b.cell (i := 8 + k) (by omega)
      have fa := hr.b.free k
      have fb := hr.b.free (8 + k)
      clear hr
      generalize (if k < k ∨ (8 ≤ k ∧ k < 8 + k) then (byt (h * 2 ^ 64 + l) k : Int) else 0) = x1 at ca
      generalize (if 8 + k < k ∨ (8 ≤ 8 + k ∧ 8 + k < 8 + k) then (byt (h * 2 ^ 64 + l) (8 + k) : Int) else 0) = x2 at cb
      go_wp2
      go_region
      go_wp2
      go_roundw
      case rel =>
        refine ⟨k + 1, by omega, by go_num, (HR.out.a.other (by simp) _).other (by simp) _, ?_, ((HR.out.bel.setCell (p := ⟨w.heap.size + 1, k, none⟩) (by simp) _).setCell (p := ⟨w.heap.size + 1, 8 + k, none⟩) (by simp) _).drew⟩
        refine ((HR.out.b.store k _).store (8 + k) _).congr fun i hi => ?_
        unfold upd
        dsimp only
        by_cases e1 : i = 8 + k
        · subst e1
          rw [if_pos rfl, if_pos (by omega), byt_pair_hi _ _ _ HL.out, byt_int]
        · rw [if_neg e1]
          by_cases e2 : i = k
          · subst e2
            rw [if_pos rfl, if_pos (by omega), byt_pair_lo _ _ _ HL.out hlt, byt_int]
          · rw [if_neg e2]
            by_cases e3 : i < k ∨ 8 ≤ i ∧ i < 8 + k
            · rw [if_pos e3, if_pos (by omega)]
            · rw [if_neg e3, if_neg (by omega)]
      case measure => simp [RowKit.intOf]; omega
    · obtain rfl : k = 8 := by omega
      clear hr
      go_wp2_with (first | (refine wpList_load_arr rfl 27 _ rfl _ rfl HR.out.b Tryz.underlying27 rfl info16 ?_) | (refine wpList_store_arr rfl 27 _ _ rfl _ rfl rfl HR.out.a info16 ?_; intro w2 hA hG hS))
      refine ret_arr rfl rfl hA Tryz.underlying27 rfl info16 rfl ⟨?_, HR.out.bel.grown hG (Nat.le_trans (by simp) HR.out.bel.size) (by simp)⟩
      exact congrArg (fun x => Ending.returned (.agg x)) (arr_congr fun i hi => by rw [if_pos (by omega)])

theorem zero16 : arr .u8 16 (fun _ => 0) = #[.int .u8 0, .int .u8 0, .int .u8 0, .int .u8 0, .int .u8 0, .int .u8 0, .int .u8 0, .int .u8 0, .int .u8 0, .int .u8 0, .int .u8 0, .int .u8 0, .int .u8 0, .int .u8 0, .int .u8 0, .int .u8 0] := rfl
theorem three_start (f g : Nat → Int) (w : World) : PlusRel f g w.heap.size w (((w.alloc (.cells (arr .u8 16 f) 27)).alloc (.cells (arr .u8 16 g) 27)).alloc (.cells (arr .u8 16 fun _ => 0) 27)) 0 :=
  ⟨((Arr.new w .u8 16 _ f).alloc _ |>.alloc _).congr (by intros; simp), by have := (Arr.new (w.alloc (.cells (arr .u8 16 f) 27)) .u8 16 27 g).alloc (.cells (arr .u8 16 fun _ => 0) 27); simpa using this,
      by have := (Arr.new ((w.alloc (.cells (arr .u8 16 f) 27)).alloc (.cells (arr .u8 16 g) 27)) .u8 16 27 fun _ => 0); simpa using this,
      (((Below.refl _ _).alloc (Nat.le_refl _) _).alloc (by simp) _).alloc (by simp; omega) _⟩

set_option maxHeartbeats 400000 in
theorem xor_any (f g : Nat → Int) (w : World) : Calls Tryz.prog 55 #[A16 f, A16 g] w fun e w' => e = .returned (A16 fun i => xorB (f i) (g i)) ∧ Below w.heap.size w w' := by
  have H0 := Lib.hid (three_start f g w)
  rw [zero16] at H0
  go_enter Tryz.func55, Tryz.ntmps55
  go_wp2
  go_loopw [6, 5] (fun i _ wr => ∃ k : Nat, k ≤ 16 ∧ i = .int .i64 k ∧ PlusRel f g w.heap.size w wr k) (fun i _ _ => 16 - (RowKit.intOf i).toNat)
  case atStart => exact ⟨0, by omega, rfl, H0.out⟩
  case round =>
    obtain ⟨k, hk, rfl, hr⟩ := hrel
    have HR := Lib.hid hr
    by_cases hlt : k < 16
    · have ca := hr.a.cell hlt
      have cb := hr.b.cell hlt
      have fa := hr.a.free k
      clear hr
      simp only [Nat.lt_irrefl, if_false] at ca
      go_wp2
      go_region
      go_wp2
      go_roundw
      case rel => exact ⟨k + 1, by omega, by go_num, (HR.out.a.store k _).congr (plus_step f g k), HR.out.b.other (by simp) _, HR.out.c.other (by simp; omega) _, (HR.out.bel.setCell (p := ⟨w.heap.size, k, none⟩) (Nat.le_refl _) _).drew⟩
      case measure => simp [RowKit.intOf]; omega
    · obtain rfl : k = 16 := by omega
      clear hr
      go_wp2_with (first | (refine wpList_load_arr rfl 27 _ rfl _ rfl HR.out.a Tryz.underlying27 rfl info16 ?_) | (refine wpList_store_arr rfl 27 _ _ rfl _ rfl rfl HR.out.c info16 ?_; intro w2 hA hG hS))
      refine ret_arr rfl rfl hA Tryz.underlying27 rfl info16 rfl ⟨?_, HR.out.bel.grown hG (Nat.le_trans (by simp) HR.out.bel.size) (by simp; omega)⟩
      exact congrArg (fun x => Ending.returned (.agg x)) (arr_congr fun i hi => by simp [hi])
theorem xor_num (a b : Nat) (w : World) : Calls Tryz.prog 55 #[B16 a, B16 b] w fun e w' => e = .returned (B16 (a ^^^ b)) ∧ Below w.heap.size w w' :=
  (xor_any _ _ w).mono fun _ _ ⟨he, hb⟩ => ⟨by rw [he]; exact congrArg (fun x => Ending.returned (.agg x)) (arr_congr fun i _ => by rw [xorB_nat _ _ (byt_lt _ _) (byt_lt _ _), byt_xor]), hb⟩

set_option maxHeartbeats 400000 in
/-! slices.Reverse over sixteen bytes -/
def swp (f : Nat → Int) (k : Nat) : Nat → Int := fun i => if i < k ∨ 15 - k < i then f (15 - i) else f i
set_option maxHeartbeats 400000 in
theorem reverse_any (f : Nat → Int) (b : Nat) (t : TypeId) (w : World) (ha : Arr w b .u8 16 t f) : Calls Tryz.prog 158 #[.slice (some ⟨b, 0, none⟩) 16 16] w fun e w' => e = .returned (.tuple #[]) ∧ Arr w' b .u8 16 t (fun i => f (15 - i)) ∧ w.grownBy w' (some b) ∧ w'.heap.size = w.heap.size := by
  have HA := Lib.hid ha
  clear ha
  go_enter Tryz.func158, Tryz.ntmps158
  go_wp2
  go_loopw [2, 3] (fun i j wr => ∃ k : Nat, k ≤ 8 ∧ i = .int .i64 k ∧ j = .int .i64 (15 - k) ∧ Arr wr b .u8 16 t (swp f k) ∧ w.grownBy wr (some b) ∧ wr.heap.size = w.heap.size) (fun i _ _ => 8 - (RowKit.intOf i).toNat)
  case atStart => exact ⟨0, by omega, rfl, by simp, HA.out.congr fun i hi => by unfold swp; rw [if_neg (by omega)], ⟨rfl, rfl, rfl, Nat.le_refl _, fun _ _ _ => rfl⟩, rfl⟩
  case round =>
    obtain ⟨k, hk, rfl, rfl, hr, hg, hs⟩ := hrel
    have HR := Lib.hid hr
    have HG := Lib.hid hg
    have HS := Lib.hid hs
    clear hg hs
    by_cases hlt : k < 8
    · have ca := hr.cell (i := k) (by omega)
      have cb := hr.cell (i := 15 - k) (by omega)
      have fa := hr.free k
      have fb := hr.free (15 - k)
      have ei : ((15 : Int) - (k : Int)).toNat = 15 - k := by omega
      have s1 : swp f k k = f k := by unfold swp; rw [if_neg (by omega)]
      have s2 : swp f k (15 - k) = f (15 - k) := by unfold swp; rw [if_neg (by omega)]
      rw [s1] at ca
      rw [s2] at cb
      clear hr s1 s2
      go_wp2
      go_region
      go_wp2
      go_roundw
      case rel =>
        refine ⟨k + 1, by omega, by go_num, by go_num, ((HR.out.store k _).store (15 - k) _).congr fun i hi => ?_, gb_drew (gb_setCell (gb_setCell HG.out k _) (15 - k) _), by simp [HS.out]⟩
        unfold upd swp
        by_cases e1 : i = 15 - k
        · subst e1
          rw [if_pos rfl, if_pos (by omega), show 15 - (15 - k) = k by omega]
        · rw [if_neg e1]
          by_cases e2 : i = k
          · subst e2
            rw [if_pos rfl, if_pos (by omega)]
          · rw [if_neg e2]
            by_cases e3 : i < k ∨ 15 - k < i
            · rw [if_pos e3, if_pos (by omega)]
            · rw [if_neg e3, if_neg (by omega)]
      case measure => simp [RowKit.intOf]; omega
    · obtain rfl : k = 8 := by omega
      clear hr
      go_wp2
      go_end0
      refine ⟨rfl, HR.out.congr fun i hi => ?_, HG.out, HS.out⟩
      unfold swp
      rw [if_pos (by omega)]

set_option maxHeartbeats 400000 in
theorem big_any (h l : Nat) (hl : l < 2 ^ 64) (w : World) : Calls Tryz.prog 113 #[.int .u64 h, .int .u64 l] w fun e w' => e = .returned (B16 (revN (h * 2 ^ 64 + l))) ∧ Below w.heap.size w w' := by
  have HL := Lib.hid hl
  clear hl
  have z0 := Lib.hid (Arr.new w .u8 16 27 fun _ => 0)
  have hb0 : Hid (Below w.heap.size w (w.alloc (.cells (arr .u8 16 fun _ => 0) 27))) := Lib.hid ((Below.refl _ _).alloc (Nat.le_refl _) _)
  rw [zero16] at z0 hb0
  go_enter Tryz.func113, Tryz.ntmps113
  go_wp2_with fail
  refine (little_any h l HL.out _).mono ?_
  rintro e w1 ⟨rfl, hb1⟩
  have hs1 := hb1.size
  simp only [World.size_alloc] at hs1
  have HB1 := Lib.hid (hb0.out.trans (hb1.mono (by simp)))
  have Z0 := Lib.hid (z0.out.below hb1 (by simp))
  have z1 := Lib.hid (Arr.new w1 .u8 16 27 fun _ => 0)
  rw [zero16] at z1
  clear hb1
  go_wp2_with (first | (refine wpList_store_arr rfl 27 _ _ rfl _ rfl rfl z1.out info16 ?_; intro w2 hA hG hS) | fail)
  refine (reverse_any _ _ _ _ hA).mono ?_
  rintro e w3 ⟨rfl, hA3, hg3, hs3⟩
  have hG2 : Hid (Below w.heap.size w w2) := Lib.hid ((HB1.out.alloc (by omega) _).grown hG (by simp; omega) (by intro k hk; cases hk; omega))
  have HB3 : Hid (Below w.heap.size w w3) := Lib.hid (hG2.out.grown hg3 (by rw [hS]; simp; omega) (by intro k hk; cases hk; omega))
  have Z3 := Lib.hid ((((Z0.out.alloc _).grown hG (by omega)).grown hg3 (by omega)))
  have A3 := Lib.hid hA3
  have hss : w.heap.size + 2 ≤ w3.heap.size := by rw [hs3, hS]; simp; omega
  clear hA3 hg3 hs3 hA hG hS
  go_wp2_with (first | (refine wpList_load_arr rfl 27 _ rfl _ rfl A3.out Tryz.underlying27 rfl info16 ?_) | (refine wpList_store_arr rfl 27 _ _ rfl _ rfl rfl Z3.out info16 ?_; intro w4 hA hG hS))
  refine ret_arr rfl rfl hA Tryz.underlying27 rfl info16 rfl ⟨?_, HB3.out.grown hG (by omega) (by intro k hk; cases hk; omega)⟩
  exact congrArg (fun x => Ending.returned (.agg x)) (arr_congr fun i hi => by rw [byt_rev _ _ hi])

/-! Double -/
/-- the product with x, modulo x^128 + x^7 + x^2 + x + 1 -/
def dblB (f : Nat → Nat) (i : Nat) : Nat := f i * 2 % 256 + (if i = 0 then 0 else f (i - 1) / 128)

set_option maxHeartbeats 400000 in
theorem double_any (f : Nat → Nat) (hf : ∀ i, f i < 256) (w : World) : Calls Tryz.prog 166 #[A16 fun i => (f i : Int)] w fun e w' =>
    e = .returned (A16 fun i => if i = 0 then xorB (dblB f 0) ((f 15 / 128 : Nat) * 135) else (dblB f i : Int)) ∧ Below w.heap.size w w' := by
  have HF := Lib.hid hf
  clear hf
  have z0 := Lib.hid ((Arr.new w .u8 16 27 fun i => (f i : Int)).alloc (.cells (arr .u8 16 fun _ => 0) 27))
  have z1 := Lib.hid (Arr.new (w.alloc (.cells (arr .u8 16 fun i => (f i : Int)) 27)) .u8 16 27 fun _ => 0)
  have hb0 : Hid (Below w.heap.size w ((w.alloc (.cells (arr .u8 16 fun i => (f i : Int)) 27)).alloc (.cells (arr .u8 16 fun _ => 0) 27))) := Lib.hid (((Below.refl _ _).alloc (Nat.le_refl _) _).alloc (by simp) _)
  simp only [World.size_alloc] at z1
  rw [zero16] at z0 hb0 z1
  rw [← zero16] at z1
  go_enter Tryz.func166, Tryz.ntmps166
  go_wp2
  go_loopw [6, 4, 5, 3] (fun i _ _ c wr => ∃ k : Nat, k ≤ 16 ∧ i = .int .i64 k ∧ c = .int .u8 (if k = 0 then 0 else f (k - 1) / 128 : Nat) ∧ Arr wr w.heap.size .u8 16 27 (fun i => if i < k then (dblB f i : Int) else (f i : Int)) ∧ Arr wr (w.heap.size + 1) .u8 16 27 (fun _ => 0) ∧ Below w.heap.size w wr) (fun i _ _ _ _ => 16 - (RowKit.intOf i).toNat)
  case atStart => exact ⟨0, by omega, rfl, rfl, z0.out.congr fun i _ => by rw [if_neg (by omega)], z1.out, hb0.out⟩
  case round =>
    obtain ⟨k, hk, rfl, rfl, hr, hz, hb⟩ := hrel
    have HR := Lib.hid hr
    have HZ := Lib.hid hz
    have HB := Lib.hid hb
    clear hz hb
    by_cases hlt : k < 16
    · have ca := hr.cell hlt
      have fa := hr.free k
      simp only [Nat.lt_irrefl, if_false] at ca
      clear hr
      have hx := HF.out k
      have hc2 : (if k = 0 then 0 else f (k - 1) / 128 : Nat) < 2 := by
        split
        · omega
        · have := HF.out (k - 1); omega
      generalize hc : (if k = 0 then 0 else f (k - 1) / 128 : Nat) = c at *
      have HC := Lib.hid hc
      clear hc
      have HV : Hid (bits .or .u8 ((f k : Int) * 2 % 256) (c : Int) = (dblB f k : Int)) := Lib.hid (by
        rw [bits_join .u8 8 (by decide) (fun n h1 h2 => wraps_u8 n h1 h2) 1 _ _ (by omega) (by omega) (by omega) (by omega) (by omega) (by omega)]
        unfold dblB
        rw [HC.out]
        simp)
      go_wp2
      go_roundw
      case rel =>
        refine ⟨k + 1, by omega, by go_num, ?_, (HR.out.store k _).congr fun i hi => ?_, HZ.out.other (by simp) _, HB.out.setCell (p := ⟨w.heap.size, k, none⟩) (Nat.le_refl _) _⟩
        · simp
        · unfold upd
          dsimp only
          by_cases e : i = k
          · subst e; rw [if_pos rfl, if_pos (by omega), HV.out]
          · by_cases e' : i < k
            · rw [if_neg e, if_pos e', if_pos (by omega)]
            · rw [if_neg e, if_neg e', if_neg (by omega)]
      case measure => simp [RowKit.intOf]; omega
    · obtain rfl : k = 16 := by omega
      have ca := hr.cell (i := 0) (by omega)
      have fa := hr.free 0
      simp only [show (0 : Nat) < 16 by omega, if_true] at ca
      have H15 := HF.out 15
      clear hr
      have H2 : Hid (Arr (wr.setCell ⟨w.heap.size, 0, none⟩ (.int .u8 (bits .xor .u8 (dblB f 0 : Int) ((f 15 / 128 : Nat) * 135)))) w.heap.size .u8 16 27 (fun i => if i = 0 then xorB (dblB f 0) ((f 15 / 128 : Nat) * 135) else (dblB f i : Int))) :=
        Lib.hid ((HR.out.store 0 _).congr fun i hi => by
          unfold upd xorB
          dsimp only
          by_cases e : i = 0
          · rw [if_pos e, if_pos e]
          · rw [if_neg e, if_neg e, if_pos hi])
      have H3 := Lib.hid (HZ.out.other (a := ⟨w.heap.size, 0, none⟩) (by simp) (.int .u8 (bits .xor .u8 (dblB f 0 : Int) ((f 15 / 128 : Nat) * 135))))
      have H4 := Lib.hid (HB.out.setCell (p := ⟨w.heap.size, 0, none⟩) (Nat.le_refl _) (.int .u8 (bits .xor .u8 (dblB f 0 : Int) ((f 15 / 128 : Nat) * 135))))
      have hsz := H4.out.size
      have hsz2 := HZ.out.lt
      simp only [show ¬ ((16 : Nat) = 0) by decide, if_false, show 16 - 1 = 15 by rfl]
      go_wp2_with (first | (refine wpList_load_arr rfl 27 _ rfl _ rfl H2.out Tryz.underlying27 rfl info16 ?_) | (refine wpList_store_arr rfl 27 _ _ rfl _ rfl rfl H3.out info16 ?_; intro w2 hA hG hS))
      refine ret_arr rfl rfl hA Tryz.underlying27 rfl info16 rfl ⟨rfl, H4.out.grown hG hsz (by intro k hk; cases hk; omega)⟩

theorem double_num (a : Nat) (ha : a < 2 ^ 128) (w : World) : Calls Tryz.prog 166 #[B16 a] w fun e w' => e = .returned (B16 (dblN a)) ∧ Below w.heap.size w w' :=
  (double_any (byt a) (byt_lt a) w).mono fun _ _ ⟨he, hb⟩ => ⟨by
    rw [he]
    refine congrArg (fun x => Ending.returned (.agg x)) (arr_congr fun i hi => ?_)
    by_cases h : i = 0
    · subst h
      have h1 : byt a 15 < 256 := byt_lt a 15
      rw [if_pos rfl, byt_dblN_zero a ha]
      exact xorB_nat _ _ (by unfold dblB; have := byt_lt a 0; simp; omega) (byt_top a)
    · rw [if_neg h, byt_dblN_succ a ha i (by omega) hi]
      unfold dblB
      rw [if_neg h], hb⟩

structure Three (f g : Nat → Int) (B : Nat) (w wr : World) : Prop where
  a : Arr wr B .u8 16 27 f
  b : Arr wr (B + 1) .u8 16 27 g
  c : Arr wr (B + 1 + 1) .u8 16 27 (fun _ => 0)
  bel : Below B w wr
theorem three_of (f g : Nat → Int) (w : World) : Three f g w.heap.size w (((w.alloc (.cells (arr .u8 16 f) 27)).alloc (.cells (arr .u8 16 g) 27)).alloc (.cells (arr .u8 16 fun _ => 0) 27)) :=
  have h := three_start f g w
  ⟨h.a.congr (by intros; simp), h.b, h.c, h.bel⟩
theorem Three.below {f g : Nat → Int} {B : Nat} {w wr w2 : World} (h : Three f g B w wr) (hb : Below wr.heap.size wr w2) (hs : B + 3 ≤ wr.heap.size) : Three f g B w w2 :=
  ⟨h.a.below hb (by omega), h.b.below hb (by omega), h.c.below hb (by omega), h.bel.trans (hb.mono (by omega))⟩

set_option maxRecDepth 100000 in
set_option maxHeartbeats 400000 in
theorem times_any (a b : Nat) (hb : b < 2 ^ 128) (w : World) : Calls Tryz.prog 137 #[B16 a, B16 b] w fun e w' => e = .returned (B16 (revN (timesN (revN a) (revN b) 128))) ∧ Below w.heap.size w w' := by
  have H0 := Lib.hid (three_of (fun i => (byt a i : Int)) (fun i => (byt b i : Int)) w)
  rw [zero16] at H0
  go_enter Tryz.func137, Tryz.ntmps137
  go_wp2_with (first | (refine wpList_load_arr rfl 27 _ rfl _ rfl H0.out.a Tryz.underlying27 rfl info16 ?_) | fail)
  refine (halves_rev a _).mono ?_
  rintro e w1 ⟨rfl, hb1⟩
  have H1 := Lib.hid (H0.out.below hb1 (by simp))
  have hs1 : w.heap.size + 3 ≤ w1.heap.size := by have := hb1.size; simp at this; omega
  clear hb1
  generalize hA : revN a = A at *
  have hAlt : A < 2 ^ 128 := by rw [← hA]; exact revN_lt a
  have HA := Lib.hid hA
  have HL := Lib.hid hAlt
  have HBB := Lib.hid hb
  clear hA H0 hb
  have HBt := Lib.hid (times_bit b)
  have HT := Lib.hid (timesN_lt A (revN b) hAlt)
  have HT0 : Hid (timesN A (revN b) 0 = 0) := Lib.hid rfl
  have HTs : Hid (∀ k, timesN A (revN b) (k + 1) = if (revN b).testBit (127 - k) then dblN (timesN A (revN b) k) ^^^ A else dblN (timesN A (revN b) k)) := Lib.hid fun k => rfl
  clear hAlt
  generalize htm : timesN A (revN b) = tm at *
  have HTM := Lib.hid htm
  clear htm
  go_wp2
  go_loopw [15, 9, 7, 8] (fun i _ h l wr => ∃ k : Nat, k ≤ 128 ∧ i = .int .i64 k ∧ h = .int .u64 (tm k / 2 ^ 64 : Nat) ∧ l = .int .u64 (tm k % 2 ^ 64 : Nat) ∧ wr = w1) (fun i _ _ _ _ => 128 - (RowKit.intOf i).toNat)
  case atStart => exact ⟨0, by omega, rfl, by rw [HT0.out]; rfl, by rw [HT0.out]; rfl, rfl⟩
  case round =>
    obtain ⟨k, hk, rfl, rfl, rfl, rfl⟩ := hrel
    by_cases hlt : k < 128
    · have cb := H1.out.b.cell (i := k / 8) (by omega)
      have hbit := HBt.out k hlt
      have R1 := Lib.hid (dbl_hi (tm k) (HT.out k))
      have R2 := Lib.hid (dbl_lo (tm k) (HT.out k))
      have R3 := Lib.hid (xor_hi (dblN (tm k)) A (dblN_lt _) HL.out)
      have R4 := Lib.hid (xor_lo (dblN (tm k)) A)
      have R5 := Lib.hid (HTs.out k)
      generalize tm k / 2 ^ 64 = h at *
      generalize tm k % 2 ^ 64 = l at *
      have hx := byt_lt b (k / 8)
      generalize byt b (k / 8) = x at *
      cases hq : (revN b).testBit (127 - k)
      all_goals
        rw [hq] at hbit R5
        clear hq
        go_wp2
        go_roundw
        case rel =>
          refine ⟨k + 1, by omega, by go_num, ?_, ?_, by first | rfl | trivial⟩
          · first
              | (rw [R1.out, R5.out]; rfl)
              | (rw [R1.out, R3.out, R5.out]; rfl)
          · first
              | (rw [R2.out, R5.out]; rfl)
              | (rw [R2.out, R4.out, R5.out]; rfl)
        case measure => simp [RowKit.intOf]; omega
    · obtain rfl : k = 128 := by omega
      have e128 : Hid (tm 128 / 2 ^ 64 * 2 ^ 64 + tm 128 % 2 ^ 64 = tm 128) := Lib.hid (Nat.div_add_mod' _ _)
      have hlo : Hid (tm 128 % 2 ^ 64 < 2 ^ 64) := Lib.hid (Nat.mod_lt _ (by decide))
      generalize tm 128 / 2 ^ 64 = h at *
      generalize tm 128 % 2 ^ 64 = l at *
      go_wp2_with fail
      refine (big_any h l hlo.out _).mono ?_
      rintro e w2 ⟨rfl, hb2⟩
      rw [e128.out]
      have hs2 := hb2.size
      have C2 := Lib.hid (H1.out.c.below hb2 (by omega))
      have B2 := Lib.hid (H1.out.bel.trans (hb2.mono (by omega)))
      clear hb2
      go_wp2_with (first | (refine wpList_store_arr rfl 27 _ _ rfl _ rfl rfl C2.out info16 ?_; intro w4 hA hG hS))
      exact ret_arr rfl rfl hA Tryz.underlying27 rfl info16 rfl ⟨by rw [HA.out, HTM.out], B2.out.grown hG (by omega) (by intro k hk; cases hk; omega)⟩

end Go.Proofs.YtmifebcaifbmoaaGreatDoor.Field
end
