/- rijndael: a block as a state. -/
import Derived.Test.YtcgjhjijfhgclaaGreatDoorMRj8
import Derived.Test.YtcgjhjijfhgclaaGreatDoorMRj7
import Derived.Test.YtcgjhjijfhgclaaGreatDoorMLocks
import Derived.WalkKit
import Derived.WalkSpells
import Derived.Laws.ResultCell
namespace Go.Proofs.YtcgjhjijfhgclaaGreatDoor.Rj
open Go.RowKit Go.Lib Go.Proofs.YtcgjhjijfhgclaaGreatDoor.Blk Go.Proofs.YtcgjhjijfhgclaaGreatDoor.Aes Go.Proofs.YtcgjhjijfhgclaaGreatDoor.Seg

theorem info16 : (Tryz.prog.info? 27).map (·.size) = some 16 := by kernel_rfl
structure LoW (st : Nat → Nat) (B : Nat) (w wr : World) (f : Nat → Int) : Prop where
  b : Arr wr B .u8 16 27 (fun i => (st i : Nat))
  z : Arr wr (B + 1) .u32 4 189 (fun _ => 0)
  s : Arr wr (B + 2) .u32 4 189 f
  bel : Below B w wr

set_option maxRecDepth 100000 in
set_option maxHeartbeats 4000000 in
theorem load_any (st : Nat → Nat) (hs : Byt st 16) (w : World) : Calls Tryz.prog 144 #[.agg (arr .u8 16 fun i => (st i : Nat))] w fun e w' => e = .returned (.agg (arr .u32 4 fun c => (colW st c : Nat))) ∧ Below w.heap.size w w' := by
  have z4 : (Tryz.prog.info? 189).bind (·.zero) = some (.agg (arr .u32 4 fun _ => 0)) := by kernel_rfl
  have HS := Lib.hid hs
  clear hs
  go_enter Tryz.func144, Tryz.ntmps144
  go_upto_region 0 with fail
  refine wp_region_lit ?_
  refine New.p_box rfl 27 _ rfl .u8 16 (fun i => ((st i : Nat) : Int)) rfl ?_
  intro w1 a1 g1 s1
  simp only [Act.put, List.setIfInBounds_toArray, List.set_cons_zero, List.set_cons_succ]
  refine New.p_newarr rfl 189 rfl .u32 4 z4 ?_
  intro w2 a2 g2 s2
  refine wpList_nil ?_
  simp only [Act.put, List.setIfInBounds_toArray, List.set_cons_zero, List.set_cons_succ]
  rw [s1] at a2 s2 ⊢
  have A1 := Lib.hid (bel_arr (_B := 0) a1 (bel_of_gb (_B := 0) g2))
  have A2 := Lib.hid a2
  have B2 := Lib.hid (((Below.refl w.heap.size w).grown g1 (Nat.le_refl _) (by simp)).grown g2 (by omega) (by simp))
  have S2 := Lib.hid s2
  clear a1 g1 s1 a2 g2 s2
  go_upto_region 1 with fail
  refine wp_region_lit ?_
  refine New.p_newarr rfl 189 rfl .u32 4 z4 ?_
  intro w3 a3 g3 s3
  refine wpList_nil ?_
  simp only [Act.put, List.setIfInBounds_toArray, List.set_cons_zero, List.set_cons_succ]
  rw [S2.out] at a3 ⊢
  have W3 : Hid (LoW st w.heap.size w w3 fun _ => 0) := Lib.hid ⟨bel_arr (_B := 0) A1.out (bel_of_gb (_B := 0) g3), bel_arr (_B := 0) A2.out (bel_of_gb (_B := 0) g3), a3, B2.out.grown g3 (by have := S2.out; omega) (by simp)⟩
  clear A1 A2 B2 S2 a3 g3 s3
  go_wp2
  go_loopw [5, 4] (fun p _ wr => ∃ (i : Nat) (f : Nat → Int), i ≤ 4 ∧ p = .int .i64 i ∧ LoW st w.heap.size w wr f ∧ ∀ c, c < i → f c = (colW st c : Nat)) (fun p _ _ => 4 - (intOf p).toNat)
  case atStart => exact ⟨0, _, by decide, rfl, W3.out, fun c h => by omega⟩
  case round =>
    obtain ⟨i, f, hi, rfl, hw, hf⟩ := hrel
    have HW := Lib.hid hw
    have HF := Lib.hid hf
    by_cases hlt : i < 4
    · have hcell := hw.s.cell hlt
      have hfr := hw.s.free i
      have NB := Lib.hid (number_any (fun j => st (4 * i + j)) (colW_byt HS.out hlt) w.heap.size (4 * i) (16 - 4 * i) (16 - 4 * i) wr (fun j hj => hw.b.cell (by omega)) (by omega) (Nat.le_refl _) (by omega))
      have hl := colW_lt HS.out hlt
      have CW := Lib.hid (show wd (fun j => st (4 * i + j)) = colW st i from rfl)
      rw [CW.out] at NB
      clear hw hf
      go_wp2_with (refine Still.p_sliceA rfl 27 5 _ _ rfl w.heap.size rfl (4 * i) 16 _ rfl (by omega) (by omega) Tryz.underlying27 (by kernel_rfl) ?_)
      refine NB.out.mono ?_
      rintro e w' ⟨rfl, rfl⟩
      have hm : ((colW st i : Nat) : Int) < 4294967296 := by omega
      go_wp2
      go_roundw
      case rel =>
        refine ⟨i + 1, _, by omega, by go_num, ⟨HW.out.b.other (by simp; omega) _, HW.out.z.other (by simp) _, HW.out.s.store i _, HW.out.bel.setCell (by simp; omega) _⟩, fun c hc => ?_⟩
        unfold upd
        by_cases e : c = i
        · rw [if_pos e, e]
        · rw [if_neg e]
          exact HF.out c (by omega)
      case measure => simp [intOf]; omega
    · obtain rfl : i = 4 := by omega
      clear hw hf
      go_wp2_with (first | (refine wpList_load_arr rfl 189 _ rfl _ rfl HW.out.s Tryz.underlying189 rfl info4 ?_) | (refine wpList_store_arr rfl 189 _ _ rfl _ rfl rfl HW.out.z info4 ?_; intro w7 hA hG hS))
      refine ret_arr rfl rfl hA Tryz.underlying189 rfl info4 rfl ⟨?_, HW.out.bel.grown hG HW.out.bel.size (fun j hj => by cases hj; exact Nat.le_succ _)⟩
      exact congrArg (fun x => Ending.returned (.agg x)) (arr_congr fun c hc => HF.out c hc)
end Go.Proofs.YtcgjhjijfhgclaaGreatDoor.Rj

namespace Go.Proofs.YtcgjhjijfhgclaaGreatDoor.Rj
open Go.RowKit Go.Lib Go.Proofs.YtcgjhjijfhgclaaGreatDoor.Blk Go.Proofs.YtcgjhjijfhgclaaGreatDoor.Aes Go.Proofs.YtcgjhjijfhgclaaGreatDoor.Seg

def layF (off i : Nat) (f : Nat → Nat) (h : Nat → Int) : Nat → Int := fun x => if off ≤ x ∧ x < off + i then (f (x - off) : Nat) else h x
theorem layF_step (off i : Nat) (f : Nat → Nat) (h : Nat → Int) : ∀ x, upd (layF off i f h) (off + i) (f i : Nat) x = layF off (i + 1) f h x := fun x => by
  unfold upd layF
  by_cases e : x = off + i
  · subst e
    rw [if_pos rfl, if_pos (by omega), show off + i - off = i by omega]
  · rw [if_neg e]
    by_cases c : off ≤ x ∧ x < off + i
    · rw [if_pos c, if_pos (by omega)]
    · rw [if_neg c, if_neg (by omega)]

set_option maxRecDepth 100000 in
set_option maxHeartbeats 4000000 in
theorem lay_any (f : Nat → Nat) (hf : Byt f 4) (g off len cap : Nat) (T : TypeId) (h : Nat → Int) (w : World) (hA : Arr w g .u8 16 T h) (ho : off + 4 ≤ 16) (h4 : 4 ≤ len) (hlm : len ≤ 9223372036854775807) :
    Calls Tryz.prog 161 #[.slice (some ⟨g, off, none⟩) len cap, .int .i64 4, .int .u64 (wd f : Nat)] w fun e w' => e = .returned (.tuple #[]) ∧ Arr w' g .u8 16 T (layF off 4 f h) ∧ w.grownBy w' (some g) := by
  have HA := Lib.hid hA
  have e0 := wd_0 hf
  have e1 := wd_1 hf
  have e2 := wd_2 hf
  have e3 := wd_3 hf
  have f0 := hf 0 (by decide)
  have B0 : Hid (((wd f : Nat) : Int) / 16777216 = (f 0 : Nat)) := Lib.hid (by omega)
  have B1 : Hid (((wd f : Nat) : Int) / 65536 % 256 = (f 1 : Nat)) := Lib.hid (by omega)
  have B2 : Hid (((wd f : Nat) : Int) / 256 % 256 = (f 2 : Nat)) := Lib.hid (by omega)
  have B3 : Hid (((wd f : Nat) : Int) % 256 = (f 3 : Nat)) := Lib.hid (by omega)
  have LS := Lib.hid (fun i => layF_step off i f h)
  have hwd := wd_lt hf
  clear hA e0 e1 e2 e3 f0 hf
  go_enter Tryz.func161, Tryz.ntmps161
  go_wp2
  go_loopw [8, 6] (fun p _ wr => ∃ i : Nat, i ≤ 4 ∧ p = .int .i64 i ∧ Arr wr g .u8 16 T (layF off i f h) ∧ w.grownBy wr (some g)) (fun p _ _ => 4 - (intOf p).toNat)
  case atStart => exact ⟨0, by decide, rfl, HA.out.congr fun x _ => by unfold layF; rw [if_neg (by omega)], gb_refl w _⟩
  case round =>
    obtain ⟨i, hi, rfl, ha, hg⟩ := hrel
    have HA2 := Lib.hid ha
    have HG := Lib.hid hg
    by_cases hlt : i < 4
    · have hcell := ha.cell (i := off + i) (by omega)
      have hfr := ha.free (off + i)
      clear ha hg
      have hi0 : i = 0 ∨ i = 1 ∨ i = 2 ∨ i = 3 := by omega
      rcases hi0 with rfl | rfl | rfl | rfl
      · rw [Nat.add_zero] at hcell hfr
        go_wp2
        go_roundw
        case rel => exact ⟨1, by decide, rfl, ((HA2.out.store off _).congr fun x _ => by rw [B0.out]; exact LS.out 0 x), gb_setCell HG.out _ _⟩
        case measure => simp [intOf]
      · go_wp2
        go_roundw
        case rel => exact ⟨2, by decide, rfl, ((HA2.out.store (off + 1) _).congr fun x _ => by rw [B1.out]; exact LS.out 1 x), gb_setCell HG.out _ _⟩
        case measure => simp [intOf]
      · go_wp2
        go_roundw
        case rel => exact ⟨3, by decide, rfl, ((HA2.out.store (off + 2) _).congr fun x _ => by rw [B2.out]; exact LS.out 2 x), gb_setCell HG.out _ _⟩
        case measure => simp [intOf]
      · go_wp2
        go_roundw
        case rel => exact ⟨4, by decide, rfl, ((HA2.out.store (off + 3) _).congr fun x _ => by rw [B3.out]; exact LS.out 3 x), gb_setCell HG.out _ _⟩
        case measure => simp [intOf]
    · obtain rfl : i = 4 := by omega
      clear ha hg
      go_wp2
      go_end0
      exact ⟨rfl, HA2.out, HG.out⟩
structure BlkW (st : Nat → Nat) (B : Nat) (w wr : World) (f : Nat → Int) : Prop where
  b : Arr wr B .u32 4 189 (fun c => (colW st c : Nat))
  z : Arr wr (B + 1) .u8 16 27 (fun _ => 0)
  s : Arr wr (B + 2) .u8 16 27 f
  bel : Below B w wr

set_option maxRecDepth 100000 in
set_option maxHeartbeats 4000000 in
theorem block_any (st : Nat → Nat) (hs : Byt st 16) (w : World) : Calls Tryz.prog 145 #[.agg (arr .u32 4 fun c => (colW st c : Nat))] w fun e w' => e = .returned (.agg (arr .u8 16 fun i => (st i : Nat))) ∧ Below w.heap.size w w' := by
  have z16 : (Tryz.prog.info? 27).bind (·.zero) = some (.agg (arr .u8 16 fun _ => 0)) := by kernel_rfl
  have hi1 : (Tryz.prog.info? 107).map (·.size) = some 1 := by kernel_rfl
  have IX := Lib.hid (fun (i : Nat) (hi : i < 4) (w : World) => New.run_index_arr (P := Tryz.prog) Tryz.underlying189 Tryz.underlying107 hi1 (fun c => ((colW st c : Nat) : Int)) i hi w)
  have HS := Lib.hid hs
  clear hs
  go_enter Tryz.func145, Tryz.ntmps145
  go_upto_region 0 with fail
  refine wp_region_lit ?_
  refine New.p_box rfl 189 _ rfl .u32 4 (fun c => ((colW st c : Nat) : Int)) rfl ?_
  intro w1 a1 g1 s1
  simp only [Act.put, List.setIfInBounds_toArray, List.set_cons_zero, List.set_cons_succ]
  refine New.p_newarr rfl 27 rfl .u8 16 z16 ?_
  intro w2 a2 g2 s2
  refine wpList_nil ?_
  simp only [Act.put, List.setIfInBounds_toArray, List.set_cons_zero, List.set_cons_succ]
  rw [s1] at a2 s2 ⊢
  have A1 := Lib.hid (bel_arr (_B := 0) a1 (bel_of_gb (_B := 0) g2))
  have A2 := Lib.hid a2
  have B2 := Lib.hid (((Below.refl w.heap.size w).grown g1 (Nat.le_refl _) (by simp)).grown g2 (by omega) (by simp))
  have S2 := Lib.hid s2
  clear a1 g1 s1 a2 g2 s2
  go_upto_region 1 with fail
  refine wp_region_lit ?_
  refine New.p_newarr rfl 27 rfl .u8 16 z16 ?_
  intro w3 a3 g3 s3
  refine wpList_nil ?_
  simp only [Act.put, List.setIfInBounds_toArray, List.set_cons_zero, List.set_cons_succ]
  rw [S2.out] at a3 ⊢
  have W3 : Hid (BlkW st w.heap.size w w3 fun _ => 0) := Lib.hid ⟨bel_arr (_B := 0) A1.out (bel_of_gb (_B := 0) g3), bel_arr (_B := 0) A2.out (bel_of_gb (_B := 0) g3), a3, B2.out.grown g3 (by have := S2.out; omega) (by simp)⟩
  clear A1 A2 B2 S2 a3 g3 s3
  go_wp2_with (refine wpList_load_arr rfl 189 _ rfl _ rfl W3.out.b Tryz.underlying189 rfl info4 ?_)
  go_loopw [7, 4, 5] (fun p _ _ wr => ∃ (i : Nat) (f : Nat → Int), i ≤ 4 ∧ p = .int .i64 i ∧ BlkW st w.heap.size w wr f ∧ ∀ x, x < 4 * i → f x = (st x : Nat)) (fun p _ _ _ => 4 - (intOf p).toNat)
  case atStart => exact ⟨0, _, by decide, rfl, W3.out, fun c h => by omega⟩
  case round =>
    obtain ⟨i, f, hi, rfl, hw, hf⟩ := hrel
    have HW := Lib.hid hw
    have HF := Lib.hid hf
    by_cases hlt : i < 4
    · have ix := IX.out i hlt
      have hl := colW_lt HS.out hlt
      have LY := Lib.hid (lay_any (fun j => st (4 * i + j)) (colW_byt HS.out hlt) (w.heap.size + 2) (4 * i) (16 - 4 * i) (16 - 4 * i) 27 f wr hw.s (by omega) (by omega) (by omega))
      have CW := Lib.hid (show wd (fun j => st (4 * i + j)) = colW st i from rfl)
      rw [CW.out] at LY
      clear hw hf
      go_wp2_with (refine Still.p_sliceA rfl 27 5 _ _ rfl (w.heap.size + 2) rfl (4 * i) 16 _ rfl (by omega) (by omega) Tryz.underlying27 (by kernel_rfl) ?_)
      refine LY.out.mono ?_
      rintro e w' ⟨rfl, ha, hg⟩
      have HW2 : Hid (BlkW st w.heap.size w w' (layF (4 * i) 4 (fun j => st (4 * i + j)) f)) := Lib.hid ⟨HW.out.b.grown hg (by omega), HW.out.z.grown hg (by omega), ha, HW.out.bel.grown hg HW.out.bel.size (fun j hj => by cases hj; omega)⟩
      clear ha hg
      go_wp2
      go_roundw
      case rel =>
        refine ⟨i + 1, _, by omega, by go_num, HW2.out, fun x hx => ?_⟩
        unfold layF
        by_cases e : 4 * i ≤ x ∧ x < 4 * i + 4
        · rw [if_pos e]
          dsimp only
          rw [show 4 * i + (x - 4 * i) = x by omega]
        · rw [if_neg e]
          exact HF.out x (by omega)
      case measure => simp [intOf]; omega
    · obtain rfl : i = 4 := by omega
      clear hw hf
      go_wp2_with (first | (refine wpList_load_arr rfl 27 _ rfl _ rfl HW.out.s Tryz.underlying27 rfl info16 ?_) | (refine wpList_store_arr rfl 27 _ _ rfl _ rfl rfl HW.out.z info16 ?_; intro w7 hA hG hS))
      refine ret_arr rfl rfl hA Tryz.underlying27 rfl info16 rfl ⟨?_, HW.out.bel.grown hG HW.out.bel.size (fun j hj => by cases hj; exact Nat.le_succ _)⟩
      exact congrArg (fun x => Ending.returned (.agg x)) (arr_congr fun c hc => HF.out c (by omega))
end Go.Proofs.YtcgjhjijfhgclaaGreatDoor.Rj

namespace Go.Proofs.YtcgjhjijfhgclaaGreatDoor.Rj
open Go.RowKit Go.Lib Go.Proofs.YtcgjhjijfhgclaaGreatDoor.Blk Go.Proofs.YtcgjhjijfhgclaaGreatDoor.Aes Go.Proofs.YtcgjhjijfhgclaaGreatDoor.Seg

structure EcW (f g : Nat → Int) (B : Nat) (w w' : World) : Prop where
  a : Arr w' B .u8 16 27 f
  z : Arr w' (B + 1) .u8 16 27 g
  bel : Below B w w'
theorem EcW.next {f g : Nat → Int} {B : Nat} {w w1 w2 : World} (h : EcW f g B w w1) (hb : Below w1.heap.size w1 w2) (hB : B ≤ w1.heap.size) : EcW f g B w w2 :=
  ⟨bel_arr (_B := 0) h.a hb, bel_arr (_B := 0) h.z hb, h.bel.trans (hb.mono hB)⟩
theorem EcW.drew {f g : Nat → Int} {B : Nat} {w w1 : World} (h : EcW f g B w w1) : EcW f g B w w1.drew := ⟨h.a, h.z, h.bel.drew⟩
structure EcA (f : Nat → Int) (B : Nat) (w w' : World) : Prop where
  a : Arr w' B .u8 16 27 f
  bel : Below B w w'
theorem EcW.toA {f g : Nat → Int} {B : Nat} {w w1 : World} (h : EcW f g B w w1) : EcA f B w w1 := ⟨h.a, h.bel⟩
theorem gb_setRow (w : World) (b : Nat) (c : Array Value) : w.grownBy (w.setRow b c) (some b) := ⟨rfl, rfl, rfl, by simp, fun x _ hc => setRow_other w b x _ (fun e => hc (by rw [e]))⟩
theorem Arr_of_row {w : World} {b n : Nat} {k : IntKind} {t : TypeId} {f g : Nat → Int} (h : Arr w b k n t g) : Arr (w.setRow b (arr k n f)) b k n t f := setRow_heap w b _ _ t _ h
theorem EcW.le {f g : Nat → Int} {B : Nat} {w w1 : World} (h : EcW f g B w w1) : B ≤ w1.heap.size := by have := h.a.lt; omega

set_option maxRecDepth 100000 in
set_option maxHeartbeats 8000000 in
theorem encrypt_any (k : Nat → Nat → Nat) (nr : Nat) (h1 : 1 ≤ nr) (h14 : nr ≤ 14) (hk : ∀ r, r ≤ nr → Byt (k r) 16) (st : Nat → Nat) (hs : Byt st 16) (tb wb wo cap : Nat) (w : World) (hT : TabAt w tb)
    (hw : ∀ r c, r ≤ nr → c < 4 → w.cell? ⟨wb, wo + (4 * r + c), none⟩ = some (.int .u32 (colW (k r) c : Nat))) :
    Calls Tryz.prog 129 #[.pointer (some ⟨tb, 0, none⟩), .slice (some ⟨wb, wo, none⟩) (4 * nr + 4) cap, .agg (arr .u8 16 fun i => (st i : Nat))] w
      fun e w' => e = .returned (.agg (arr .u8 16 fun i => (thrB mE S 1 k nr st i : Nat))) ∧ Below w.heap.size w w' := by
  have z16 : (Tryz.prog.info? 27).bind (·.zero) = some (.agg (arr .u8 16 fun _ => 0)) := by kernel_rfl
  have HR : Hid (ThR S mE k nr wb wo tb 512 tb 0 w) := Lib.hid (by
    obtain ⟨C, hC, hc⟩ := hT
    exact ⟨hw, fun x hx => by rw [cell_of_row w tb _ _ _ _ hC]; exact hc.e x hx, fun x hx => by rw [cell_of_row w tb _ _ _ _ hC]; exact hc.s x hx⟩)
  have LD := Lib.hid (fun w => load_any st hs w)
  have TH := Lib.hid (fun w hR => through_any S mE S_byt 1 (by decide) k nr h1 h14 hk st hs wb wo cap tb 512 tb 0 w hR)
  have BK := Lib.hid (fun w => block_any (thrB mE S 1 k nr st) (thrB_byt S_byt hs hk) w)
  clear hT hw hk hs
  go_enter Tryz.func129, Tryz.ntmps129
  go_upto_region 0 with fail
  refine wp_region_lit ?_
  refine New.p_box rfl 27 _ rfl .u8 16 (fun i => ((st i : Nat) : Int)) rfl ?_
  intro w1 a1 g1 s1
  simp only [Act.put, List.setIfInBounds_toArray, List.set_cons_zero, List.set_cons_succ]
  refine New.p_newarr rfl 27 rfl .u8 16 z16 ?_
  intro w2 a2 g2 s2
  refine wpList_nil ?_
  simp only [Act.put, List.setIfInBounds_toArray, List.set_cons_zero, List.set_cons_succ]
  rw [s1] at a2 s2 ⊢
  have E2 : Hid (EcW (fun i => ((st i : Nat) : Int)) (fun _ => 0) w.heap.size w w2) := Lib.hid ⟨bel_arr (_B := 0) a1 (bel_of_gb (_B := 0) g2), a2, ((Below.refl w.heap.size w).grown g1 (Nat.le_refl _) (by simp)).grown g2 (by omega) (by simp)⟩
  clear a1 g1 s1 a2 g2 s2
  go_upto_region 1 with fail
  refine Step.begin_ (S := fun w' => EcA (fun i => ((st i : Nat) : Int)) w.heap.size w w') 12 rfl (by kernel_rfl) E2.out.drew.toA ?_
  intro hS
  have SX := Lib.hid hS
  have S2 := Lib.hid E2.out.drew
  clear hS
  refine Step.t_load (i := 0) rfl rfl (by kernel_rfl) (by kernel_rfl) (by kernel_rfl) SX.out _ _ rfl _ rfl (fun w' hw' => hw'.a) Tryz.underlying27 rfl info16 ?_
  simp only [Act.put, List.setIfInBounds_toArray, List.set_cons_zero, List.set_cons_succ]
  refine Step.t_move (i := 2) rfl rfl (by kernel_rfl) (by kernel_rfl) (by kernel_rfl) SX.out _ rfl _ rfl ?_
  simp only [Act.put, List.setIfInBounds_toArray, List.set_cons_zero, List.set_cons_succ]
  refine Step.t_move (i := 3) rfl rfl (by kernel_rfl) (by kernel_rfl) (by kernel_rfl) SX.out _ rfl _ rfl ?_
  simp only [Act.put, List.setIfInBounds_toArray, List.set_cons_zero, List.set_cons_succ]
  refine Step.t_val (i := 4) rfl rfl (by kernel_rfl) (by kernel_rfl) (by kernel_rfl) SX.out (.pointer (some ⟨tb, 0, none⟩)) (fun w _ => by rfl) ?_
  simp only [Act.put, List.setIfInBounds_toArray, List.set_cons_zero, List.set_cons_succ]
  refine Tree.t_field (i := 5) rfl rfl (by kernel_rfl) (by kernel_rfl) (by kernel_rfl) SX.out _ _ _ rfl tb 0 rfl Tryz.underlying196 rfl (sz := 1024) (by kernel_rfl) (by decide) 512 rfl ?_
  simp only [Act.put, List.setIfInBounds_toArray, List.set_cons_zero, List.set_cons_succ]
  refine Step.t_move (i := 6) rfl rfl (by kernel_rfl) (by kernel_rfl) (by kernel_rfl) SX.out _ rfl _ rfl ?_
  simp only [Act.put, List.setIfInBounds_toArray, List.set_cons_zero, List.set_cons_succ]
  refine Step.t_val (i := 7) rfl rfl (by kernel_rfl) (by kernel_rfl) (by kernel_rfl) SX.out (.pointer (some ⟨tb, 0, none⟩)) (fun w _ => by rfl) ?_
  simp only [Act.put, List.setIfInBounds_toArray, List.set_cons_zero, List.set_cons_succ]
  refine Tree.t_field (i := 8) rfl rfl (by kernel_rfl) (by kernel_rfl) (by kernel_rfl) SX.out _ _ _ rfl tb 0 rfl Tryz.underlying196 rfl (sz := 256) (by kernel_rfl) (by decide) 0 rfl ?_
  simp only [Act.put, List.setIfInBounds_toArray, List.set_cons_zero, List.set_cons_succ]
  refine Step.t_one (i := 1) rfl rfl (by kernel_rfl) ?_
  refine Step.w_callx 144 _ _ rfl Tryz.func144 (by kernel_rfl) rfl _ rfl (LD.out _) ?_
  rintro e w3 ⟨rfl, hb3⟩
  refine ⟨_, rfl, (S2.out.next hb3 S2.out.le).toA, ?_⟩
  have S3 := Lib.hid (S2.out.next hb3 S2.out.le)
  clear hb3
  simp only [Act.put, List.setIfInBounds_toArray, List.set_cons_zero, List.set_cons_succ]
  refine Step.t_one (i := 9) rfl rfl (by kernel_rfl) ?_
  refine Step.w_callx 143 _ _ rfl Tryz.func143 (by kernel_rfl) rfl _ rfl (TH.out _ (HR.out.below S3.out.bel)) ?_
  rintro e w4 ⟨rfl, hb4⟩
  refine ⟨_, rfl, (S3.out.next hb4 S3.out.le).toA, ?_⟩
  have S4 := Lib.hid (S3.out.next hb4 S3.out.le)
  clear hb4
  simp only [Act.put, List.setIfInBounds_toArray, List.set_cons_zero, List.set_cons_succ]
  refine Step.t_one (i := 10) rfl rfl (by kernel_rfl) ?_
  refine Step.w_callx 145 _ _ rfl Tryz.func145 (by kernel_rfl) rfl _ rfl (BK.out _) ?_
  rintro e w5 ⟨rfl, hb5⟩
  refine ⟨_, rfl, (S4.out.next hb5 S4.out.le).toA, ?_⟩
  have S5 := Lib.hid (S4.out.next hb5 S4.out.le)
  clear hb5
  simp only [Act.put, List.setIfInBounds_toArray, List.set_cons_zero, List.set_cons_succ]
  refine Step.t_one (i := 11) rfl rfl (by kernel_rfl) ?_
  refine wp_store_row 27 _ _ rfl (w.heap.size + 1) _ rfl rfl _ _ S5.out.z (by rw [arr_size]; exact info16) (by rw [arr_size, arr_size]) (arr_one _ _ _) ?_
  have hA := Arr_of_row (f := fun i => ((thrB mE S 1 k nr st i : Nat) : Int)) S5.out.z
  have hG := gb_setRow w5 (w.heap.size + 1) (arr .u8 16 fun i => ((thrB mE S 1 k nr st i : Nat) : Int))
  generalize w5.setRow (w.heap.size + 1) (arr .u8 16 fun i => ((thrB mE S 1 k nr st i : Nat) : Int)) = w6 at *
  have BL := Lib.hid (S5.out.bel.grown hG S5.out.le (fun j hj => by cases hj; exact Nat.le_succ _))
  refine ⟨⟨S5.out.a.grown hG (by omega), BL.out⟩, ?_⟩
  simp only [Act.put]
  refine Step.t_end (by kernel_rfl) ?_
  clear hG
  go_wp2
  exact ret_arr rfl rfl hA Tryz.underlying27 rfl info16 rfl ⟨rfl, BL.out⟩

set_option maxRecDepth 100000 in
set_option maxHeartbeats 8000000 in
theorem decrypt_any (k : Nat → Nat → Nat) (nr : Nat) (h1 : 1 ≤ nr) (h14 : nr ≤ 14) (hk : ∀ r, r ≤ nr → Byt (k r) 16) (st : Nat → Nat) (hs : Byt st 16) (tb wb wo cap : Nat) (w : World) (hT : TabAt w tb)
    (hw : ∀ r c, r ≤ nr → c < 4 → w.cell? ⟨wb, wo + (4 * r + c), none⟩ = some (.int .u32 (colW (k r) c : Nat))) :
    Calls Tryz.prog 130 #[.pointer (some ⟨tb, 0, none⟩), .slice (some ⟨wb, wo, none⟩) (4 * nr + 4) cap, .agg (arr .u8 16 fun i => (st i : Nat))] w
      fun e w' => e = .returned (.agg (arr .u8 16 fun i => (thrB mD U 3 k nr st i : Nat))) ∧ Below w.heap.size w w' := by
  have z16 : (Tryz.prog.info? 27).bind (·.zero) = some (.agg (arr .u8 16 fun _ => 0)) := by kernel_rfl
  have HR : Hid (ThR U mD k nr wb wo tb 1536 tb 256 w) := Lib.hid (by
    obtain ⟨C, hC, hc⟩ := hT
    exact ⟨hw, fun x hx => by rw [cell_of_row w tb _ _ _ _ hC]; exact hc.d x hx, fun x hx => by rw [cell_of_row w tb _ _ _ _ hC]; exact hc.u x hx⟩)
  have LD := Lib.hid (fun w => load_any st hs w)
  have TH := Lib.hid (fun w hR => through_any U mD U_byt 3 (by decide) k nr h1 h14 hk st hs wb wo cap tb 1536 tb 256 w hR)
  have BK := Lib.hid (fun w => block_any (thrB mD U 3 k nr st) (thrB_byt U_byt hs hk) w)
  clear hT hw hk hs
  go_enter Tryz.func130, Tryz.ntmps130
  go_upto_region 0 with fail
  refine wp_region_lit ?_
  refine New.p_box rfl 27 _ rfl .u8 16 (fun i => ((st i : Nat) : Int)) rfl ?_
  intro w1 a1 g1 s1
  simp only [Act.put, List.setIfInBounds_toArray, List.set_cons_zero, List.set_cons_succ]
  refine New.p_newarr rfl 27 rfl .u8 16 z16 ?_
  intro w2 a2 g2 s2
  refine wpList_nil ?_
  simp only [Act.put, List.setIfInBounds_toArray, List.set_cons_zero, List.set_cons_succ]
  rw [s1] at a2 s2 ⊢
  have E2 : Hid (EcW (fun i => ((st i : Nat) : Int)) (fun _ => 0) w.heap.size w w2) := Lib.hid ⟨bel_arr (_B := 0) a1 (bel_of_gb (_B := 0) g2), a2, ((Below.refl w.heap.size w).grown g1 (Nat.le_refl _) (by simp)).grown g2 (by omega) (by simp)⟩
  clear a1 g1 s1 a2 g2 s2
  go_upto_region 1 with fail
  refine Step.begin_ (S := fun w' => EcA (fun i => ((st i : Nat) : Int)) w.heap.size w w') 12 rfl (by kernel_rfl) E2.out.drew.toA ?_
  intro hS
  have SX := Lib.hid hS
  have S2 := Lib.hid E2.out.drew
  clear hS
  refine Step.t_load (i := 0) rfl rfl (by kernel_rfl) (by kernel_rfl) (by kernel_rfl) SX.out _ _ rfl _ rfl (fun w' hw' => hw'.a) Tryz.underlying27 rfl info16 ?_
  simp only [Act.put, List.setIfInBounds_toArray, List.set_cons_zero, List.set_cons_succ]
  refine Step.t_move (i := 2) rfl rfl (by kernel_rfl) (by kernel_rfl) (by kernel_rfl) SX.out _ rfl _ rfl ?_
  simp only [Act.put, List.setIfInBounds_toArray, List.set_cons_zero, List.set_cons_succ]
  refine Step.t_move (i := 3) rfl rfl (by kernel_rfl) (by kernel_rfl) (by kernel_rfl) SX.out _ rfl _ rfl ?_
  simp only [Act.put, List.setIfInBounds_toArray, List.set_cons_zero, List.set_cons_succ]
  refine Step.t_val (i := 4) rfl rfl (by kernel_rfl) (by kernel_rfl) (by kernel_rfl) SX.out (.pointer (some ⟨tb, 0, none⟩)) (fun w _ => by rfl) ?_
  simp only [Act.put, List.setIfInBounds_toArray, List.set_cons_zero, List.set_cons_succ]
  refine Tree.t_field (i := 5) rfl rfl (by kernel_rfl) (by kernel_rfl) (by kernel_rfl) SX.out _ _ _ rfl tb 0 rfl Tryz.underlying196 rfl (sz := 1024) (by kernel_rfl) (by decide) 1536 rfl ?_
  simp only [Act.put, List.setIfInBounds_toArray, List.set_cons_zero, List.set_cons_succ]
  refine Step.t_move (i := 6) rfl rfl (by kernel_rfl) (by kernel_rfl) (by kernel_rfl) SX.out _ rfl _ rfl ?_
  simp only [Act.put, List.setIfInBounds_toArray, List.set_cons_zero, List.set_cons_succ]
  refine Step.t_val (i := 7) rfl rfl (by kernel_rfl) (by kernel_rfl) (by kernel_rfl) SX.out (.pointer (some ⟨tb, 0, none⟩)) (fun w _ => by rfl) ?_
  simp only [Act.put, List.setIfInBounds_toArray, List.set_cons_zero, List.set_cons_succ]
  refine Tree.t_field (i := 8) rfl rfl (by kernel_rfl) (by kernel_rfl) (by kernel_rfl) SX.out _ _ _ rfl tb 0 rfl Tryz.underlying196 rfl (sz := 256) (by kernel_rfl) (by decide) 256 rfl ?_
  simp only [Act.put, List.setIfInBounds_toArray, List.set_cons_zero, List.set_cons_succ]
  refine Step.t_one (i := 1) rfl rfl (by kernel_rfl) ?_
  refine Step.w_callx 144 _ _ rfl Tryz.func144 (by kernel_rfl) rfl _ rfl (LD.out _) ?_
  rintro e w3 ⟨rfl, hb3⟩
  refine ⟨_, rfl, (S2.out.next hb3 S2.out.le).toA, ?_⟩
  have S3 := Lib.hid (S2.out.next hb3 S2.out.le)
  clear hb3
  simp only [Act.put, List.setIfInBounds_toArray, List.set_cons_zero, List.set_cons_succ]
  refine Step.t_one (i := 9) rfl rfl (by kernel_rfl) ?_
  refine Step.w_callx 143 _ _ rfl Tryz.func143 (by kernel_rfl) rfl _ rfl (TH.out _ (HR.out.below S3.out.bel)) ?_
  rintro e w4 ⟨rfl, hb4⟩
  refine ⟨_, rfl, (S3.out.next hb4 S3.out.le).toA, ?_⟩
  have S4 := Lib.hid (S3.out.next hb4 S3.out.le)
  clear hb4
  simp only [Act.put, List.setIfInBounds_toArray, List.set_cons_zero, List.set_cons_succ]
  refine Step.t_one (i := 10) rfl rfl (by kernel_rfl) ?_
  refine Step.w_callx 145 _ _ rfl Tryz.func145 (by kernel_rfl) rfl _ rfl (BK.out _) ?_
  rintro e w5 ⟨rfl, hb5⟩
  refine ⟨_, rfl, (S4.out.next hb5 S4.out.le).toA, ?_⟩
  have S5 := Lib.hid (S4.out.next hb5 S4.out.le)
  clear hb5
  simp only [Act.put, List.setIfInBounds_toArray, List.set_cons_zero, List.set_cons_succ]
  refine Step.t_one (i := 11) rfl rfl (by kernel_rfl) ?_
  refine wp_store_row 27 _ _ rfl (w.heap.size + 1) _ rfl rfl _ _ S5.out.z (by rw [arr_size]; exact info16) (by rw [arr_size, arr_size]) (arr_one _ _ _) ?_
  have hA := Arr_of_row (f := fun i => ((thrB mD U 3 k nr st i : Nat) : Int)) S5.out.z
  have hG := gb_setRow w5 (w.heap.size + 1) (arr .u8 16 fun i => ((thrB mD U 3 k nr st i : Nat) : Int))
  generalize w5.setRow (w.heap.size + 1) (arr .u8 16 fun i => ((thrB mD U 3 k nr st i : Nat) : Int)) = w6 at *
  have BL := Lib.hid (S5.out.bel.grown hG S5.out.le (fun j hj => by cases hj; exact Nat.le_succ _))
  refine ⟨⟨S5.out.a.grown hG (by omega), BL.out⟩, ?_⟩
  simp only [Act.put]
  refine Step.t_end (by kernel_rfl) ?_
  clear hG
  go_wp2
  exact ret_arr rfl rfl hA Tryz.underlying27 rfl info16 rfl ⟨rfl, BL.out⟩
end Go.Proofs.YtcgjhjijfhgclaaGreatDoor.Rj

namespace Go.Proofs.YtcgjhjijfhgclaaGreatDoor.Rj
open Go.RowKit Go.Lib Go.Proofs.YtcgjhjijfhgclaaGreatDoor.Blk Go.Proofs.YtcgjhjijfhgclaaGreatDoor.Aes Go.Proofs.YtcgjhjijfhgclaaGreatDoor.Seg
open Go.RowKit (wrap32)
open Go.RwLone (rlock_open runlock_deferred)

/-- what is set and set back -/
theorem set_back {w : World} {b i : Nat} {cs : Array Value} {t : TypeId} (hg : w.heap[b]? = some (.cells cs t (0, 0))) (u : Value) {v : Value} (hv : cs[i]? = some v) : (w.setCell ⟨b, i, none⟩ u).setCell ⟨b, i, none⟩ v = w := by
  have h1 := heap_setCell_same w b i cs t u hg
  have h2 := heap_setCell_same _ b i _ t v h1
  have e : (cs.setIfInBounds i u).setIfInBounds i v = cs := by
    refine Array.ext_getElem? fun k => ?_
    by_cases hk : i = k
    · subst hk
      have hl := (Array.getElem?_eq_some_iff.1 hv).1
      rw [Array.getElem?_setIfInBounds_self_of_lt (by simpa using hl), hv]
    · rw [Array.getElem?_setIfInBounds_ne hk, Array.getElem?_setIfInBounds_ne hk]
  rw [e] at h2
  have hh : ((w.setCell ⟨b, i, none⟩ u).setCell ⟨b, i, none⟩ v).heap = w.heap := by
    refine Array.ext_getElem? fun k => ?_
    by_cases hk : k = b
    · subst hk; exact h2.trans hg.symm
    · simp [World.setCell, Array.getElem?_modify, Ne.symm hk]
  show { w with heap := _ } = w
  have : ((w.setCell ⟨b, i, none⟩ u).setCell ⟨b, i, none⟩ v) = { w with heap := ((w.setCell ⟨b, i, none⟩ u).setCell ⟨b, i, none⟩ v).heap } := rfl
  exact this.trans (by rw [hh])

/-- a key's cells: an open lock, the size, the tables, both schedules -/
def keyC (size : Int) (tb wb bb n : Nat) : Array Value := #[.int .i32 0, .int .u32 0, .int .u32 0, .int .u32 0, .int .i32 0, .int .i32 0, .int .i64 size, .pointer (some ⟨tb, 0, none⟩), .slice (some ⟨wb, 0, none⟩) n n, .slice (some ⟨bb, 0, none⟩) n n]

set_option maxRecDepth 100000 in
set_option maxHeartbeats 4000000 in
theorem schedule_any (size : Int) (tb wb bb n : Nat) (kb : Nat) (b : Bool) (w : World) (hk : w.heap[kb]? = some (.cells (keyC size tb wb bb n) 167 (0, 0))) :
    Calls Tryz.prog 128 #[.pointer (some ⟨kb, 0, none⟩), .bool b] w
      fun e w' => e = .returned (.tuple #[.slice (some ⟨if b then bb else wb, 0, none⟩) n n, .int .i64 0]) ∧ w' = w := by
  have c0 : w.cell? ⟨kb, 0, none⟩ = some (.int .i32 0) := by rw [cell_of_row w kb 0 _ _ _ hk]; rfl
  have c2 : w.cell? ⟨kb, 0 + 2, none⟩ = some (.int .u32 0) := by rw [cell_of_row w kb _ _ _ _ hk]; rfl
  have c3 : w.cell? ⟨kb, 0 + 3, none⟩ = some (.int .u32 0) := by rw [cell_of_row w kb _ _ _ _ hk]; rfl
  have c4 : w.cell? ⟨kb, 0 + 4, none⟩ = some (.int .i32 0) := by rw [cell_of_row w kb _ _ _ _ hk]; rfl
  have c8 : w.cell? ⟨kb, 8, none⟩ = some (.slice (some ⟨wb, 0, none⟩) n n) := by rw [cell_of_row w kb _ _ _ _ hk]; rfl
  have c9 : w.cell? ⟨kb, 9, none⟩ = some (.slice (some ⟨bb, 0, none⟩) n n) := by rw [cell_of_row w kb _ _ _ _ hk]; rfl
  have hz : w.frozen? ⟨kb, 0 + 4, none⟩ = false := by simp [World.frozen?, hk]
  have d8 : (w.setCell ⟨kb, 4, none⟩ (.int .i32 1)).cell? ⟨kb, 8, none⟩ = some (.slice (some ⟨wb, 0, none⟩) n n) := (World.cell?_setCell_other _ ⟨kb, 4, none⟩ ⟨kb, 8, none⟩ _ (by simp)).trans c8
  have d9 : (w.setCell ⟨kb, 4, none⟩ (.int .i32 1)).cell? ⟨kb, 9, none⟩ = some (.slice (some ⟨bb, 0, none⟩) n n) := (World.cell?_setCell_other _ ⟨kb, 4, none⟩ ⟨kb, 9, none⟩ _ (by simp)).trans c9
  have SB := Lib.hid (set_back hk (.int .i32 1) (i := 4) (v := .int .i32 0) rfl)
  have HK := Lib.hid hk
  have W1 : wrap32 (0 + 1) = 1 := by unfold wrap32; rfl
  have W0 : wrap32 (1 + -1) = 0 := by unfold wrap32; rfl
  have O1 := rlock_open rwRLib kb 0 0 _ _ w c0 c3 c4 hz (by rw [W1]; decide)
  rw [W1] at O1
  replace O1 := Lib.hid O1
  have O2 := (runlock_deferred rwRLib kb 0 1 (.int .i32 0) (.int .u32 0) .returning (w.setCell ⟨kb, 4, none⟩ (.int .i32 1)) ((World.cell?_setCell_other _ ⟨kb, 4, none⟩ ⟨kb, 0, none⟩ _ (by simp)).trans c0) ((World.cell?_setCell_other _ ⟨kb, 4, none⟩ ⟨kb, 0 + 2, none⟩ _ (by simp)).trans c2) (World.cell?_setCell_same w _ _ c4) (by simpa using hz) (by rw [W0]; decide))
  rw [W0] at O2
  replace O2 := Lib.hid O2
  have hnil := fun (a : Option Addr) (n c : Nat) (w : World) => Lib.run_eql_slice_nil (P := Tryz.prog) w 122 107 a n c 0 0 Tryz.underlying122
  clear hk c0 c2 c3 c4 c8 c9 hz
  cases b
  all_goals
    go_enter_defers Tryz.func128, Tryz.ntmps128
    go_wp2_with (go_at_call 141; refine O1.out.mono ?_; rintro e w' ⟨rfl, rfl⟩)
    refine leaves_cons (f := 142) (args := #[.pointer (some ⟨kb, 0, none⟩)]) (by simp) (by simp [go_sem]) ?_
    refine O2.out.mono ?_
    rintro e u' w'' ⟨rfl, rfl, rfl⟩
    exact ⟨_, results_tmp2 rfl _ _ _, rfl, SB.out⟩
end Go.Proofs.YtcgjhjijfhgclaaGreatDoor.Rj

namespace Go.Proofs.YtcgjhjijfhgclaaGreatDoor.Rj
open Go.RowKit Go.Lib Go.Proofs.YtcgjhjijfhgclaaGreatDoor.Blk Go.Proofs.YtcgjhjijfhgclaaGreatDoor.Aes Go.Proofs.YtcgjhjijfhgclaaGreatDoor.Seg

structure KeyAt (size : Int) (k : Nat → Nat → Nat) (nr tb wb bb kb : Nat) (w : World) : Prop where
  c : w.heap[kb]? = some (.cells (keyC size tb wb bb (4 * nr + 4)) 167 (0, 0))
  t : TabAt w tb
  ws : ∀ r c, r ≤ nr → c < 4 → w.cell? ⟨wb, 0 + (4 * r + c), none⟩ = some (.int .u32 (colW (k r) c : Nat))
  bs : ∀ r c, r ≤ nr → c < 4 → w.cell? ⟨bb, 0 + (4 * r + c), none⟩ = some (.int .u32 (colW (backK k nr r) c : Nat))
theorem KeyAt.below {size : Int} {k : Nat → Nat → Nat} {nr tb wb bb kb : Nat} {w w' : World} (h : KeyAt size k nr tb wb bb kb w) (hb : Below w.heap.size w w') : KeyAt size k nr tb wb bb kb w' :=
  ⟨(hb.block kb (Array.getElem?_eq_some_iff.1 h.c).1).trans h.c, h.t.below hb, fun r c hr hc => (hb.cell (p := ⟨wb, 0 + (4 * r + c), none⟩) (Frame.block_lt (h.ws r c hr hc))).trans (h.ws r c hr hc), fun r c hr hc => (hb.cell (p := ⟨bb, 0 + (4 * r + c), none⟩) (Frame.block_lt (h.bs r c hr hc))).trans (h.bs r c hr hc)⟩
theorem KeyAt.t7 {size : Int} {k : Nat → Nat → Nat} {nr tb wb bb kb : Nat} {w : World} (h : KeyAt size k nr tb wb bb kb w) : w.cell? ⟨kb, 7, none⟩ = some (.pointer (some ⟨tb, 0, none⟩)) := by rw [cell_of_row w kb _ _ _ _ h.c]; rfl

theorem ret_row_tmp {P : Program} {fn : Func} {p u : Tmp} {ty : TypeId} {a : Act} {w : World} {R : Ending → World → Prop} {b : Nat} {k : IntKind} {n : Nat} {t : TypeId} {f : Nat → Int} {d : TypeDesc} (h : fn.results = #[.cell p ty, .tmp u])
    (hp : a.tmps.getD p undef = .pointer (some ⟨b, 0, none⟩)) (hA : Arr w b k n t f) (hu : P.underlying ty = some d) (hd : (match d with | .struct _ | .array _ _ => true | _ => false) = true)
    (hi : (P.info? ty).map (·.size) = some n) (hdf : a.defers = []) {v : Value} (hv : a.tmps.getD u undef = v) (hR : R (.returned (.tuple #[.agg (arr k n f), v])) w) : bodyPost P fn R .ret a w := by
  subst hv
  refine bodyPost_ret (v := .tuple #[.agg (arr k n f), a.tmps.getD u undef]) ?_ hdf hR
  have hp' : (asAddr (a.tmps.getD p undef)).run P w = .ok ⟨b, 0, none⟩ w := by rw [hp]; rfl
  rw [results_cell_tmp h, hp']
  simp only [Result.andThen_ok, run_loadVar_row w b t ty _ _ d hA hu hd (by rw [arr_size]; exact hi)]

set_option maxRecDepth 100000 in
set_option maxHeartbeats 8000000 in
theorem encryptKey_any (size : Int) (k : Nat → Nat → Nat) (nr : Nat) (h1 : 1 ≤ nr) (h14 : nr ≤ 14) (hk : ∀ r, r ≤ nr → Byt (k r) 16) (st : Nat → Nat) (hs : Byt st 16) (tb wb bb kb : Nat) (w : World) (hK : KeyAt size k nr tb wb bb kb w) :
    Calls Tryz.prog 113 #[.pointer (some ⟨kb, 0, none⟩), .agg (arr .u8 16 fun i => (st i : Nat))] w
      fun e w' => e = .returned (.tuple #[.agg (arr .u8 16 fun i => (thrB mE S 1 k nr st i : Nat)), .int .i64 0]) ∧ Below w.heap.size w w' := by
  have z16 : (Tryz.prog.info? 27).bind (·.zero) = some (.agg (arr .u8 16 fun _ => 0)) := by kernel_rfl
  have HK := Lib.hid hK
  have SC := Lib.hid (fun w (h : KeyAt size k nr tb wb bb kb w) => schedule_any size tb wb bb (4 * nr + 4) kb false w h.c)
  have EN := Lib.hid (fun w (h : KeyAt size k nr tb wb bb kb w) => encrypt_any k nr h1 h14 hk st hs tb wb 0 (4 * nr + 4) w h.t h.ws)
  clear hK hk hs
  go_enter Tryz.func113, Tryz.ntmps113
  go_upto_region 0 with fail
  refine wp_region_lit ?_
  refine New.p_box rfl 27 _ rfl .u8 16 (fun i => ((st i : Nat) : Int)) rfl ?_
  intro w1 a1 g1 s1
  simp only [Act.put, List.setIfInBounds_toArray, List.set_cons_zero, List.set_cons_succ]
  refine New.p_newarr rfl 27 rfl .u8 16 z16 ?_
  intro w2 a2 g2 s2
  simp only [Act.put, List.setIfInBounds_toArray, List.set_cons_zero, List.set_cons_succ]
  refine Step.p_assign rfl _ rfl (.int .i64 0) rfl ?_
  refine wpList_nil ?_
  simp only [Act.put, List.setIfInBounds_toArray, List.set_cons_zero, List.set_cons_succ]
  rw [s1] at a2 s2 ⊢
  have E2 : Hid (EcW (fun i => ((st i : Nat) : Int)) (fun _ => 0) w.heap.size w w2) := Lib.hid ⟨bel_arr (_B := 0) a1 (bel_of_gb (_B := 0) g2), a2, ((Below.refl w.heap.size w).grown g1 (Nat.le_refl _) (by simp)).grown g2 (by omega) (by simp)⟩
  clear a1 g1 s1 a2 g2 s2
  go_wp2_with (go_at_call 128; refine (SC.out _ (HK.out.below E2.out.bel)).mono ?_; rintro e w' ⟨rfl, rfl⟩)
  refine Step.begin_ (S := fun w' => EcA (fun i => ((st i : Nat) : Int)) w.heap.size w w') 9 rfl (by kernel_rfl) E2.out.drew.toA ?_
  intro hS
  have SX := Lib.hid hS
  have S2 := Lib.hid E2.out.drew
  clear hS
  refine Step.t_move (i := 0) rfl rfl (by kernel_rfl) (by kernel_rfl) (by kernel_rfl) SX.out _ rfl _ rfl ?_
  simp only [Act.put, List.setIfInBounds_toArray, List.set_cons_zero, List.set_cons_succ]
  refine Step.t_val (i := 1) rfl rfl (by kernel_rfl) (by kernel_rfl) (by kernel_rfl) SX.out (.pointer (some ⟨kb, 0, none⟩)) (fun w _ => by rfl) ?_
  simp only [Act.put, List.setIfInBounds_toArray, List.set_cons_zero, List.set_cons_succ]
  refine Tree.t_field (i := 2) rfl rfl (by kernel_rfl) (by kernel_rfl) (by kernel_rfl) SX.out _ _ _ rfl kb 0 rfl Tryz.underlying167 rfl (sz := 1) (by kernel_rfl) (by decide) 7 rfl ?_
  simp only [Act.put, List.setIfInBounds_toArray, List.set_cons_zero, List.set_cons_succ]
  refine Tree.t_load1 (i := 3) rfl rfl (by kernel_rfl) (by kernel_rfl) (by kernel_rfl) SX.out _ _ rfl kb 7 rfl (.pointer (some ⟨tb, 0, none⟩)) (fun w' hw' => (HK.out.below hw'.bel).t7) Tryz.underlying165 rfl ?_
  simp only [Act.put, List.setIfInBounds_toArray, List.set_cons_zero, List.set_cons_succ]
  refine Step.t_move (i := 4) rfl rfl (by kernel_rfl) (by kernel_rfl) (by kernel_rfl) SX.out _ rfl _ rfl ?_
  simp only [Act.put, List.setIfInBounds_toArray, List.set_cons_zero, List.set_cons_succ]
  refine Step.t_load (i := 5) rfl rfl (by kernel_rfl) (by kernel_rfl) (by kernel_rfl) SX.out _ _ rfl _ rfl (fun w' hw' => hw'.a) Tryz.underlying27 rfl info16 ?_
  simp only [Act.put, List.setIfInBounds_toArray, List.set_cons_zero, List.set_cons_succ]
  refine Step.t_one (i := 6) rfl rfl (by kernel_rfl) ?_
  refine Step.w_callx 129 _ _ rfl Tryz.func129 (by kernel_rfl) rfl _ rfl (EN.out _ (HK.out.below SX.out.bel)) ?_
  rintro e w3 ⟨rfl, hb3⟩
  refine ⟨_, rfl, (S2.out.next hb3 S2.out.le).toA, ?_⟩
  have S3 := Lib.hid (S2.out.next hb3 S2.out.le)
  clear hb3
  simp only [Act.put, List.setIfInBounds_toArray, List.set_cons_zero, List.set_cons_succ]
  refine Step.t_one (i := 7) rfl rfl (by kernel_rfl) ?_
  refine wp_store_row 27 _ _ rfl (w.heap.size + 1) _ rfl rfl _ _ S3.out.z (by rw [arr_size]; exact info16) (by rw [arr_size, arr_size]) (arr_one _ _ _) ?_
  have hA := Arr_of_row (f := fun i => (((thrB mE S 1 k nr st i : Nat) : Nat) : Int)) S3.out.z
  have hG := gb_setRow w3 (w.heap.size + 1) (arr .u8 16 fun i => (((thrB mE S 1 k nr st i : Nat) : Nat) : Int))
  generalize w3.setRow (w.heap.size + 1) (arr .u8 16 fun i => (((thrB mE S 1 k nr st i : Nat) : Nat) : Int)) = w6 at *
  have BL := Lib.hid (S3.out.bel.grown hG S3.out.le (fun j hj => by cases hj; exact Nat.le_succ _))
  have S6 : EcA (fun i => ((st i : Nat) : Int)) w.heap.size w w6 := ⟨S3.out.a.grown hG (by omega), BL.out⟩
  refine ⟨S6, ?_⟩
  simp only [Act.put]
  refine Step.t_assign (i := 8) rfl rfl (by kernel_rfl) (by kernel_rfl) (by kernel_rfl) S6 _ rfl (.int .i64 0) rfl ?_
  simp only [Act.put, List.setIfInBounds_toArray, List.set_cons_zero, List.set_cons_succ]
  refine Step.t_end (by kernel_rfl) ?_
  clear hG
  go_wp2
  exact ret_row_tmp rfl rfl hA Tryz.underlying27 rfl info16 rfl rfl ⟨rfl, BL.out⟩

set_option maxRecDepth 100000 in
set_option maxHeartbeats 8000000 in
theorem decryptKey_any (size : Int) (k : Nat → Nat → Nat) (nr : Nat) (h1 : 1 ≤ nr) (h14 : nr ≤ 14) (hk : ∀ r, r ≤ nr → Byt (k r) 16) (st : Nat → Nat) (hs : Byt st 16) (tb wb bb kb : Nat) (w : World) (hK : KeyAt size k nr tb wb bb kb w) :
    Calls Tryz.prog 114 #[.pointer (some ⟨kb, 0, none⟩), .agg (arr .u8 16 fun i => (st i : Nat))] w
      fun e w' => e = .returned (.tuple #[.agg (arr .u8 16 fun i => (thrB mD U 3 (backK k nr) nr st i : Nat)), .int .i64 0]) ∧ Below w.heap.size w w' := by
  have z16 : (Tryz.prog.info? 27).bind (·.zero) = some (.agg (arr .u8 16 fun _ => 0)) := by kernel_rfl
  have HK := Lib.hid hK
  have SC := Lib.hid (fun w (h : KeyAt size k nr tb wb bb kb w) => schedule_any size tb wb bb (4 * nr + 4) kb true w h.c)
  have EN := Lib.hid (fun w (h : KeyAt size k nr tb wb bb kb w) => decrypt_any (backK k nr) nr h1 h14 (backK_byt hk) st hs tb bb 0 (4 * nr + 4) w h.t h.bs)
  clear hK hk hs
  go_enter Tryz.func114, Tryz.ntmps114
  go_upto_region 0 with fail
  refine wp_region_lit ?_
  refine New.p_box rfl 27 _ rfl .u8 16 (fun i => ((st i : Nat) : Int)) rfl ?_
  intro w1 a1 g1 s1
  simp only [Act.put, List.setIfInBounds_toArray, List.set_cons_zero, List.set_cons_succ]
  refine New.p_newarr rfl 27 rfl .u8 16 z16 ?_
  intro w2 a2 g2 s2
  simp only [Act.put, List.setIfInBounds_toArray, List.set_cons_zero, List.set_cons_succ]
  refine Step.p_assign rfl _ rfl (.int .i64 0) rfl ?_
  refine wpList_nil ?_
  simp only [Act.put, List.setIfInBounds_toArray, List.set_cons_zero, List.set_cons_succ]
  rw [s1] at a2 s2 ⊢
  have E2 : Hid (EcW (fun i => ((st i : Nat) : Int)) (fun _ => 0) w.heap.size w w2) := Lib.hid ⟨bel_arr (_B := 0) a1 (bel_of_gb (_B := 0) g2), a2, ((Below.refl w.heap.size w).grown g1 (Nat.le_refl _) (by simp)).grown g2 (by omega) (by simp)⟩
  clear a1 g1 s1 a2 g2 s2
  go_wp2_with (go_at_call 128; refine (SC.out _ (HK.out.below E2.out.bel)).mono ?_; rintro e w' ⟨rfl, rfl⟩)
  refine Step.begin_ (S := fun w' => EcA (fun i => ((st i : Nat) : Int)) w.heap.size w w') 9 rfl (by kernel_rfl) E2.out.drew.toA ?_
  intro hS
  have SX := Lib.hid hS
  have S2 := Lib.hid E2.out.drew
  clear hS
  refine Step.t_move (i := 0) rfl rfl (by kernel_rfl) (by kernel_rfl) (by kernel_rfl) SX.out _ rfl _ rfl ?_
  simp only [Act.put, List.setIfInBounds_toArray, List.set_cons_zero, List.set_cons_succ]
  refine Step.t_val (i := 1) rfl rfl (by kernel_rfl) (by kernel_rfl) (by kernel_rfl) SX.out (.pointer (some ⟨kb, 0, none⟩)) (fun w _ => by rfl) ?_
  simp only [Act.put, List.setIfInBounds_toArray, List.set_cons_zero, List.set_cons_succ]
  refine Tree.t_field (i := 2) rfl rfl (by kernel_rfl) (by kernel_rfl) (by kernel_rfl) SX.out _ _ _ rfl kb 0 rfl Tryz.underlying167 rfl (sz := 1) (by kernel_rfl) (by decide) 7 rfl ?_
  simp only [Act.put, List.setIfInBounds_toArray, List.set_cons_zero, List.set_cons_succ]
  refine Tree.t_load1 (i := 3) rfl rfl (by kernel_rfl) (by kernel_rfl) (by kernel_rfl) SX.out _ _ rfl kb 7 rfl (.pointer (some ⟨tb, 0, none⟩)) (fun w' hw' => (HK.out.below hw'.bel).t7) Tryz.underlying165 rfl ?_
  simp only [Act.put, List.setIfInBounds_toArray, List.set_cons_zero, List.set_cons_succ]
  refine Step.t_move (i := 4) rfl rfl (by kernel_rfl) (by kernel_rfl) (by kernel_rfl) SX.out _ rfl _ rfl ?_
  simp only [Act.put, List.setIfInBounds_toArray, List.set_cons_zero, List.set_cons_succ]
  refine Step.t_load (i := 5) rfl rfl (by kernel_rfl) (by kernel_rfl) (by kernel_rfl) SX.out _ _ rfl _ rfl (fun w' hw' => hw'.a) Tryz.underlying27 rfl info16 ?_
  simp only [Act.put, List.setIfInBounds_toArray, List.set_cons_zero, List.set_cons_succ]
  refine Step.t_one (i := 6) rfl rfl (by kernel_rfl) ?_
  refine Step.w_callx 130 _ _ rfl Tryz.func130 (by kernel_rfl) rfl _ rfl (EN.out _ (HK.out.below SX.out.bel)) ?_
  rintro e w3 ⟨rfl, hb3⟩
  refine ⟨_, rfl, (S2.out.next hb3 S2.out.le).toA, ?_⟩
  have S3 := Lib.hid (S2.out.next hb3 S2.out.le)
  clear hb3
  simp only [Act.put, List.setIfInBounds_toArray, List.set_cons_zero, List.set_cons_succ]
  refine Step.t_one (i := 7) rfl rfl (by kernel_rfl) ?_
  refine wp_store_row 27 _ _ rfl (w.heap.size + 1) _ rfl rfl _ _ S3.out.z (by rw [arr_size]; exact info16) (by rw [arr_size, arr_size]) (arr_one _ _ _) ?_
  have hA := Arr_of_row (f := fun i => (((thrB mD U 3 (backK k nr) nr st i : Nat) : Nat) : Int)) S3.out.z
  have hG := gb_setRow w3 (w.heap.size + 1) (arr .u8 16 fun i => (((thrB mD U 3 (backK k nr) nr st i : Nat) : Nat) : Int))
  generalize w3.setRow (w.heap.size + 1) (arr .u8 16 fun i => (((thrB mD U 3 (backK k nr) nr st i : Nat) : Nat) : Int)) = w6 at *
  have BL := Lib.hid (S3.out.bel.grown hG S3.out.le (fun j hj => by cases hj; exact Nat.le_succ _))
  have S6 : EcA (fun i => ((st i : Nat) : Int)) w.heap.size w w6 := ⟨S3.out.a.grown hG (by omega), BL.out⟩
  refine ⟨S6, ?_⟩
  simp only [Act.put]
  refine Step.t_assign (i := 8) rfl rfl (by kernel_rfl) (by kernel_rfl) (by kernel_rfl) S6 _ rfl (.int .i64 0) rfl ?_
  simp only [Act.put, List.setIfInBounds_toArray, List.set_cons_zero, List.set_cons_succ]
  refine Step.t_end (by kernel_rfl) ?_
  clear hG
  go_wp2
  exact ret_row_tmp rfl rfl hA Tryz.underlying27 rfl info16 rfl rfl ⟨rfl, BL.out⟩
end Go.Proofs.YtcgjhjijfhgclaaGreatDoor.Rj

namespace Go.Proofs.YtcgjhjijfhgclaaGreatDoor.Rj
open Go.RowKit Go.Lib Go.Proofs.YtcgjhjijfhgclaaGreatDoor.Blk Go.Proofs.YtcgjhjijfhgclaaGreatDoor.Aes Go.Proofs.YtcgjhjijfhgclaaGreatDoor.Seg

theorem back_wd {x : Nat → Nat} (hx : Byt x 4) :
    tabW U mD (0 * 256 + S (x 0)) ^^^ tabW U mD (1 * 256 + S (x 1)) ^^^ tabW U mD (2 * 256 + S (x 2)) ^^^ tabW U mD (3 * 256 + S (x 3)) = wd (colB mD x) := by
  have b0 := S_lt _ (hx 0 (by decide))
  have b1 := S_lt _ (hx 1 (by decide))
  have b2 := S_lt _ (hx 2 (by decide))
  have b3 := S_lt _ (hx 3 (by decide))
  rw [tab_wd _ _ _ _ b0, tab_wd _ _ _ _ b1, tab_wd _ _ _ _ b2, tab_wd _ _ _ _ b3]
  have B : ∀ y r, y < 256 → Byt (fun j => gm (U y) (mD ((j + 4 - r) % 4))) 4 := fun y r hy j _ => gm_lt _ _ (U_byt y hy)
  rw [wd_xor (B _ _ b0) (B _ _ b1), wd_xor (byt_xor (B _ _ b0) (B _ _ b1)) (B _ _ b2), wd_xor (byt_xor (byt_xor (B _ _ b0) (B _ _ b1)) (B _ _ b2)) (B _ _ b3)]
  refine wd_congr fun j hj => ?_
  rw [US _ (hx 0 (by decide)), US _ (hx 1 (by decide)), US _ (hx 2 (by decide)), US _ (hx 3 (by decide))]
  unfold colB
  rw [show (j + 4 - 0) % 4 = j % 4 by omega, show j + 4 - 1 = j + 3 by omega, show j + 4 - 2 = j + 2 by omega, show j + 4 - 3 = j + 1 by omega]
/-- of a column -/
theorem back_col {s : Nat → Nat} (hs : Byt s 16) {c : Nat} (hc : c < 4) :
    tabW U mD (0 * 256 + S (s (4 * c + 0))) ^^^ tabW U mD (1 * 256 + S (s (4 * c + 1))) ^^^ tabW U mD (2 * 256 + S (s (4 * c + 2))) ^^^ tabW U mD (3 * 256 + S (s (4 * c + 3))) = colW (colsB mD s) c := by
  rw [back_wd (x := fun j => s (4 * c + j)) (colW_byt hs hc)]
  refine wd_congr fun j hj => ?_
  unfold colsB
  rw [show (4 * c + j) / 4 = c by omega, show (4 * c + j) % 4 = j by omega]
/-- what is stored at 4*r + c -/
theorem back_keep {k : Nat → Nat → Nat} {nr r : Nat} (c : Nat) (h : ¬ (0 < r ∧ r < nr)) : colW (backK k nr r) c = colW (k (nr - r)) c := by
  refine wd_congr fun j hj => ?_
  unfold backK
  rw [if_neg h]
theorem back_turn {k : Nat → Nat → Nat} {nr r : Nat} (c : Nat) (h : 0 < r ∧ r < nr) : colW (backK k nr r) c = colW (colsB mD (k (nr - r))) c := by
  refine wd_congr fun j hj => ?_
  unfold backK
  rw [if_pos h]
end Go.Proofs.YtcgjhjijfhgclaaGreatDoor.Rj
