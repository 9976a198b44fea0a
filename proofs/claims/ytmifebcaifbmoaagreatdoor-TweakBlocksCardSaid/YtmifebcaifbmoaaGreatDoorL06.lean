/- Parts of the proof of TweakBlocks. Rj9: rijndael: a word read from bytes, a word laid into bytes. Rj10: rijndael: a block as a state. Rj11: rijndael: a state as a block. Rj12: rijndael: a block through the tables, both ways. Locks: The numbers under which the program holds sync.RWMutex, and that it does (the reader's side). -/
import Derived.Test.YtmifebcaifbmoaaGreatDoorL04
import Derived.Test.YtmifebcaifbmoaaGreatDoorL05
import Derived.Test.YtmifebcaifbmoaaGreatDoorChecked
import Derived.Test.YtmifebcaifbmoaaGreatDoorL00
import Derived.Deep.Cut
import Derived.Deep.CutRange
import Derived.Deep.QuietTactic
import Derived.BigQuiet
import Derived.LoopTactic
import Derived.Laws.AppendOwnNone
import Derived.Laws.OwnMore
import Derived.Maps.AppendAt
import Derived.ArgAppend
import Derived.WalkSmall
import Derived.WalkSpells
import Derived.Lib.SmallJoins
import Derived.Deep.Slices
import Derived.ChangeSlices
import Derived.ChangeMaps5
import Derived.Conc.RwLone
/- Rj9 -/
section
namespace Go.Proofs.YtmifebcaifbmoaaGreatDoor.Rj
open Go.RowKit Go.Lib Go.Proofs.YtmifebcaifbmoaaGreatDoor.Blk Go.Proofs.YtmifebcaifbmoaaGreatDoor.Aes Go.Proofs.YtmifebcaifbmoaaGreatDoor.Seg

/-- the first i bytes as a number -/
def nwN (f : Nat → Nat) : Nat → Nat
  | 0 => 0
  | i + 1 => nwN f i * 256 + f i
theorem nw_wd (f : Nat → Nat) : nwN f 4 = wd f := by
  simp only [nwN, wd]
  omega
theorem nw_lt {f : Nat → Nat} {n : Nat} (hf : Byt f n) : ∀ i, i ≤ n → i ≤ 4 → nwN f i < 256 ^ i
  | 0, _, _ => by simp [nwN]
  | i + 1, h, h4 => by
    have h1 := nw_lt hf i (by omega) (by omega)
    have h2 := hf i (by omega)
    rw [nwN, Nat.pow_succ]
    have : nwN f i * 256 + 256 ≤ 256 ^ i * 256 := by
      have : (nwN f i + 1) * 256 ≤ 256 ^ i * 256 := Nat.mul_le_mul_right _ h1
      omega
    omega
theorem or_u64' (a b : Nat) (ha : a < 2 ^ 64) (hb : b < 2 ^ 64) : bits .or .u64 a b = ((a ||| b : Nat) : Int) := (bits_nat .u64 64 (by decide) (fun n h1 h2 => by rw [IntKind.wrap_u64]; omega) a b ha hb).2
theorem nw_step (a x : Nat) (ha : a < 16777216) (hx : x < 256) : bits .or .u64 ((a : Int) * 256) (x : Int) = ((a * 256 + x : Nat) : Int) := by
  have e : ((a : Int) * 256) = ((a * 256 : Nat) : Int) := by omega
  rw [e, or_u64' _ _ (by omega) (by omega), show a * 256 = a * 2 ^ 8 by omega, or_add _ _ 8 (by omega)]

set_option maxHeartbeats 2000000 in
theorem number_any (f : Nat → Nat) (hf : Byt f 4) (g off len cap : Nat) (w : World) (hc : ∀ j, j < 4 → w.cell? ⟨g, off + j, none⟩ = some (.int .u8 (f j : Nat))) (h4 : 4 ≤ len) (hlc : len ≤ cap) (hcm : cap ≤ 9223372036854775807) :
    Calls Tryz.prog 93 #[.slice (some ⟨g, off, none⟩) len cap, .int .i64 4] w fun e w' => e = .returned (.int .u64 (wd f : Nat)) ∧ w = w' := by
  have HF := Lib.hid hf
  have HC := Lib.hid hc
  have HE := Lib.hid (nw_wd f)
  clear hf hc
  go_enter Tryz.func93, Tryz.ntmps93
  go_wp2
  go_loop [12, 7, 5] (fun p _ s => ∃ i : Nat, i ≤ 4 ∧ p = .int .i64 i ∧ s = .int .u64 (nwN f i : Nat)) (fun p _ _ => 4 - (RowKit.intOf p).toNat)
  case atStart => exact ⟨0, by decide, rfl, rfl⟩
  case round =>
    obtain ⟨i, hi, rfl, rfl⟩ := hrel
    by_cases hlt : i < 4
    · have hcell := HC.out i hlt
      have hl := nw_lt HF.out i (by omega) (by omega)
      have hx := HF.out i hlt
      have hl3 : nwN f i < 16777216 := by
        have : 256 ^ i ≤ 256 ^ 3 := Nat.pow_le_pow_right (by decide) (by omega)
        omega
      have ST := Lib.hid (nw_step (nwN f i) (f i) hl3 hx)
      have E := Lib.hid (show nwN f (i + 1) = nwN f i * 256 + f i from rfl)
      clear hl
      generalize nwN f i = a at *
      generalize f i = x at *
      go_wp2
      go_round
      case rel => exact ⟨i + 1, by omega, by go_num, by rw [E.out, ← ST.out]⟩
      case measure => simp [RowKit.intOf]; omega
    · obtain rfl : i = 4 := by omega
      rw [HE.out]
      go_wp2
      go_ret
      exact ⟨rfl, rfl⟩
end Go.Proofs.YtmifebcaifbmoaaGreatDoor.Rj
end

/- Rj10 -/
section
namespace Go.Proofs.YtmifebcaifbmoaaGreatDoor.Rj
open Go.RowKit Go.Lib Go.Proofs.YtmifebcaifbmoaaGreatDoor.Blk Go.Proofs.YtmifebcaifbmoaaGreatDoor.Aes Go.Proofs.YtmifebcaifbmoaaGreatDoor.Seg

theorem info16 : (Tryz.prog.info? 27).map (·.size) = some 16 := by kernel_rfl
structure LoW (st : Nat → Nat) (B : Nat) (w wr : World) (f : Nat → Int) : Prop where
  b : Arr wr B .u8 16 27 (fun i => (st i : Nat))
  z : Arr wr (B + 1) .u32 4 195 (fun _ => 0)
  s : Arr wr (B + 2) .u32 4 195 f
  bel : Below B w wr

set_option maxRecDepth 100000 in
set_option maxHeartbeats 4000000 in
theorem load_any (st : Nat → Nat) (hs : Byt st 16) (w : World) : Calls Tryz.prog 151 #[.agg (arr .u8 16 fun i => (st i : Nat))] w fun e w' => e = .returned (.agg (arr .u32 4 fun c => (colW st c : Nat))) ∧ Below w.heap.size w w' := by
  have z4 : (Tryz.prog.info? 195).bind (·.zero) = some (.agg (arr .u32 4 fun _ => 0)) := by kernel_rfl
  have HS := Lib.hid hs
  clear hs
  go_enter Tryz.func151, Tryz.ntmps151
  go_upto_region 0 with fail
  refine wp_region_lit ?_
  refine New.p_box rfl 27 _ rfl .u8 16 (fun i => ((st i : Nat) : Int)) rfl ?_
  intro w1 a1 g1 s1
  simp only [Act.put, sA9, sB9, sC9]
  refine New.p_newarr rfl 195 rfl .u32 4 z4 ?_
  intro w2 a2 g2 s2
  refine wpList_nil ?_
  simp only [Act.put, sA9, sB9, sC9]
  rw [s1] at a2 s2 ⊢
  have A1 := Lib.hid (bel_arr (_B := 0) a1 (bel_of_gb (_B := 0) g2))
  have A2 := Lib.hid a2
  have B2 := Lib.hid (((Below.refl w.heap.size w).grown g1 (Nat.le_refl _) (by simp)).grown g2 (by omega) (by simp))
  have S2 := Lib.hid s2
  clear a1 g1 s1 a2 g2 s2
  go_upto_region 1 with fail
  refine wp_region_lit ?_
  refine New.p_newarr rfl 195 rfl .u32 4 z4 ?_
  intro w3 a3 g3 s3
  refine wpList_nil ?_
  simp only [Act.put, sA9, sB9, sC9]
  rw [S2.out] at a3 ⊢
  have W3 : Hid (LoW st w.heap.size w w3 fun _ => 0) := Lib.hid ⟨bel_arr (_B := 0) A1.out (bel_of_gb (_B := 0) g3), bel_arr (_B := 0) A2.out (bel_of_gb (_B := 0) g3), a3, B2.out.grown g3 (by have := S2.out; omega) (by simp)⟩
  clear A1 A2 B2 S2 a3 g3 s3
  go_wp2
  go_loopw [5, 4] (fun p _ wr => ∃ (i : Nat) (f : Nat → Int), i ≤ 4 ∧ p = .int .i64 i ∧ LoW st w.heap.size w wr f ∧ ∀ c, c < i → f c = (colW st c : Nat)) (fun p _ _ => 4 - (RowKit.intOf p).toNat)
  case atStart => exact ⟨0, _, by decide, rfl, W3.out, fun c h => by omega⟩
  case round =>
    obtain ⟨i, f, hi, rfl, hw, hf⟩ := hrel
    have HW := Lib.hid hw
    have HF := Lib.hid hf
    by_cases hlt : i < 4
    · have hcell := hw.s.cell hlt
      have hfr := hw.s.free i
      have NB := Lib.hid (number_any (fun j => st (4 * i + j)) (colW_byt HS.out hlt) w.heap.size (4 * i) (16 - 4 * i) (16 - 4 * i) wr (fun j hj => hw.b.cell (by omega)) (by omega) (Nat.le_refl _) (by omega))
      have hl := colW_lt HS.out hlt
      have CW := Lib.hid (show wd (fun j => st (4 * i + j)) = colW st i from rfl)
      rw [CW.out] at NB
      clear hw hf
      go_wp2_with (refine Still.p_sliceA rfl 27 5 _ _ rfl w.heap.size rfl (4 * i) 16 _ rfl (by omega) (by omega) Tryz.underlying27 (by kernel_rfl) ?_)
      refine NB.out.mono ?_
      rintro e w' ⟨rfl, rfl⟩
      have hm : ((colW st i : Nat) : Int) < 4294967296 := by omega
      go_wp2
      go_roundw
      case rel =>
        refine ⟨i + 1, _, by omega, by go_num, ⟨HW.out.b.other (by simp; omega) _, HW.out.z.other (by simp) _, HW.out.s.store i _, HW.out.bel.setCell (by simp; omega) _⟩, fun c hc => ?_⟩
        unfold upd
        by_cases e : c = i
        · rw [if_pos e, e]
        · rw [if_neg e]
          exact HF.out c (by omega)
      case measure => simp [RowKit.intOf]; omega
    · obtain rfl : i = 4 := by omega
      clear hw hf
      go_wp2_with (first | (refine wpList_load_arr rfl 195 _ rfl _ rfl HW.out.s Tryz.underlying195 rfl info4 ?_) | (refine wpList_store_arr rfl 195 _ _ rfl _ rfl rfl HW.out.z info4 ?_; intro w7 hA hG hS))
      refine ret_arr rfl rfl hA Tryz.underlying195 rfl info4 rfl ⟨?_, HW.out.bel.grown hG HW.out.bel.size (fun j hj => by cases hj; exact Nat.le_succ _)⟩
      exact congrArg (fun x => Ending.returned (.agg x)) (arr_congr fun c hc => HF.out c hc)
end Go.Proofs.YtmifebcaifbmoaaGreatDoor.Rj
end

/- Rj11 -/
section
namespace Go.Proofs.YtmifebcaifbmoaaGreatDoor.Rj
open Go.RowKit Go.Lib Go.Proofs.YtmifebcaifbmoaaGreatDoor.Blk Go.Proofs.YtmifebcaifbmoaaGreatDoor.Aes Go.Proofs.YtmifebcaifbmoaaGreatDoor.Seg

def layF (off i : Nat) (f : Nat → Nat) (h : Nat → Int) : Nat → Int := fun x => if off ≤ x ∧ x < off + i then (f (x - off) : Nat) else h x
theorem layF_step (off i : Nat) (f : Nat → Nat) (h : Nat → Int) : ∀ x, upd (layF off i f h) (off + i) (f i : Nat) x = layF off (i + 1) f h x := fun x => by
  unfold upd layF
  by_cases e : x = off + i
  · subst e
    rw [if_pos rfl, if_pos (by omega), show off + i - off = i by omega]
  · rw [if_neg e]
    by_cases c : off ≤ x ∧ x < off + i
    · rw [if_pos c, if_pos (by omega)]
    · rw [if_neg c, if_neg (by omega)]

set_option maxRecDepth 100000 in
set_option maxHeartbeats 4000000 in
theorem lay_any (f : Nat → Nat) (hf : Byt f 4) (g off len cap : Nat) (T : TypeId) (h : Nat → Int) (w : World) (hA : Arr w g .u8 16 T h) (ho : off + 4 ≤ 16) (h4 : 4 ≤ len) (hlm : len ≤ 9223372036854775807) :
    Calls Tryz.prog 180 #[.slice (some ⟨g, off, none⟩) len cap, .int .i64 4, .int .u64 (wd f : Nat)] w fun e w' => e = .returned (.tuple #[]) ∧ Arr w' g .u8 16 T (layF off 4 f h) ∧ w.grownBy w' (some g) := by
  have HA := Lib.hid hA
  have e0 := wd_0 hf
  have e1 := wd_1 hf
  have e2 := wd_2 hf
  have e3 := wd_3 hf
  have f0 := hf 0 (by decide)
  have B0 : Hid (((wd f : Nat) : Int) / 16777216 = (f 0 : Nat)) := Lib.hid (by omega)
  have B1 : Hid (((wd f : Nat) : Int) / 65536 % 256 = (f 1 : Nat)) := Lib.hid (by omega)
  have B2 : Hid (((wd f : Nat) : Int) / 256 % 256 = (f 2 : Nat)) := Lib.hid (by omega)
  have B3 : Hid (((wd f : Nat) : Int) % 256 = (f 3 : Nat)) := Lib.hid (by omega)
  have LS := Lib.hid (fun i => layF_step off i f h)
  have hwd := wd_lt hf
  clear hA e0 e1 e2 e3 f0 hf
  go_enter Tryz.func180, Tryz.ntmps180
  go_wp2
  go_loopw [8, 6] (fun p _ wr => ∃ i : Nat, i ≤ 4 ∧ p = .int .i64 i ∧ Arr wr g .u8 16 T (layF off i f h) ∧ w.grownBy wr (some g)) (fun p _ _ => 4 - (RowKit.intOf p).toNat)
  case atStart => exact ⟨0, by decide, rfl, HA.out.congr fun x _ => by unfold layF; rw [if_neg (by omega)], gb_refl w _⟩
  case round =>
    obtain ⟨i, hi, rfl, ha, hg⟩ := hrel
    have HA2 := Lib.hid ha
    have HG := Lib.hid hg
    by_cases hlt : i < 4
    · have hcell := ha.cell (i := off + i) (by omega)
      have hfr := ha.free (off + i)
      clear ha hg
      have hi0 : i = 0 ∨ i = 1 ∨ i = 2 ∨ i = 3 := by omega
      rcases hi0 with rfl | rfl | rfl | rfl
      · rw [Nat.add_zero] at hcell hfr
        go_wp2
        go_roundw
        case rel => exact ⟨1, by decide, rfl, ((HA2.out.store off _).congr fun x _ => by rw [B0.out]; exact LS.out 0 x), gb_setCell HG.out _ _⟩
        case measure => simp [RowKit.intOf]
      · go_wp2
        go_roundw
        case rel => exact ⟨2, by decide, rfl, ((HA2.out.store (off + 1) _).congr fun x _ => by rw [B1.out]; exact LS.out 1 x), gb_setCell HG.out _ _⟩
        case measure => simp [RowKit.intOf]
      · go_wp2
        go_roundw
        case rel => exact ⟨3, by decide, rfl, ((HA2.out.store (off + 2) _).congr fun x _ => by rw [B2.out]; exact LS.out 2 x), gb_setCell HG.out _ _⟩
        case measure => simp [RowKit.intOf]
      · go_wp2
        go_roundw
        case rel => exact ⟨4, by decide, rfl, ((HA2.out.store (off + 3) _).congr fun x _ => by rw [B3.out]; exact LS.out 3 x), gb_setCell HG.out _ _⟩
        case measure => simp [RowKit.intOf]
    · obtain rfl : i = 4 := by omega
      clear ha hg
      go_wp2
      go_end0
      exact ⟨rfl, HA2.out, HG.out⟩
structure BlkW (st : Nat → Nat) (B : Nat) (w wr : World) (f : Nat → Int) : Prop where
  b : Arr wr B .u32 4 195 (fun c => (colW st c : Nat))
  z : Arr wr (B + 1) .u8 16 27 (fun _ => 0)
  s : Arr wr (B + 2) .u8 16 27 f
  bel : Below B w wr

set_option maxRecDepth 100000 in
set_option maxHeartbeats 4000000 in
theorem block_any (st : Nat → Nat) (hs : Byt st 16) (w : World) : Calls Tryz.prog 152 #[.agg (arr .u32 4 fun c => (colW st c : Nat))] w fun e w' => e = .returned (.agg (arr .u8 16 fun i => (st i : Nat))) ∧ Below w.heap.size w w' := by
  have z16 : (Tryz.prog.info? 27).bind (·.zero) = some (.agg (arr .u8 16 fun _ => 0)) := by kernel_rfl
  have hi1 : (Tryz.prog.info? 132).map (·.size) = some 1 := by kernel_rfl
  have IX := Lib.hid (fun (i : Nat) (hi : i < 4) (w : World) => New.run_index_arr (P := Tryz.prog) Tryz.underlying195 Tryz.underlying132 hi1 (fun c => ((colW st c : Nat) : Int)) i hi w)
  have HS := Lib.hid hs
  clear hs
  go_enter Tryz.func152, Tryz.ntmps152
  go_upto_region 0 with fail
  refine wp_region_lit ?_
  refine New.p_box rfl 195 _ rfl .u32 4 (fun c => ((colW st c : Nat) : Int)) rfl ?_
  intro w1 a1 g1 s1
  simp only [Act.put, sA9, sB9, sC9]
  refine New.p_newarr rfl 27 rfl .u8 16 z16 ?_
  intro w2 a2 g2 s2
  refine wpList_nil ?_
  simp only [Act.put, sA9, sB9, sC9]
  rw [s1] at a2 s2 ⊢
  have A1 := Lib.hid (bel_arr (_B := 0) a1 (bel_of_gb (_B := 0) g2))
  have A2 := Lib.hid a2
  have B2 := Lib.hid (((Below.refl w.heap.size w).grown g1 (Nat.le_refl _) (by simp)).grown g2 (by omega) (by simp))
  have S2 := Lib.hid s2
  clear a1 g1 s1 a2 g2 s2
  go_upto_region 1 with fail
  refine wp_region_lit ?_
  refine New.p_newarr rfl 27 rfl .u8 16 z16 ?_
  intro w3 a3 g3 s3
  refine wpList_nil ?_
  simp only [Act.put, sA9, sB9, sC9]
  rw [S2.out] at a3 ⊢
  have W3 : Hid (BlkW st w.heap.size w w3 fun _ => 0) := Lib.hid ⟨bel_arr (_B := 0) A1.out (bel_of_gb (_B := 0) g3), bel_arr (_B := 0) A2.out (bel_of_gb (_B := 0) g3), a3, B2.out.grown g3 (by have := S2.out; omega) (by simp)⟩
  clear A1 A2 B2 S2 a3 g3 s3
  go_wp2_with (refine wpList_load_arr rfl 195 _ rfl _ rfl W3.out.b Tryz.underlying195 rfl info4 ?_)
  go_loopw [7, 4, 5] (fun p _ _ wr => ∃ (i : Nat) (f : Nat → Int), i ≤ 4 ∧ p = .int .i64 i ∧ BlkW st w.heap.size w wr f ∧ ∀ x, x < 4 * i → f x = (st x : Nat)) (fun p _ _ _ => 4 - (RowKit.intOf p).toNat)
  case atStart => exact ⟨0, _, by decide, rfl, W3.out, fun c h => by omega⟩
  case round =>
    obtain ⟨i, f, hi, rfl, hw, hf⟩ := hrel
    have HW := Lib.hid hw
    have HF := Lib.hid hf
    by_cases hlt : i < 4
    · have ix := IX.out i hlt
      have hl := colW_lt HS.out hlt
      have LY := Lib.hid (lay_any (fun j => st (4 * i + j)) (colW_byt HS.out hlt) (w.heap.size + 2) (4 * i) (16 - 4 * i) (16 - 4 * i) 27 f wr hw.s (by omega) (by omega) (by omega))
      have CW := Lib.hid (show wd (fun j => st (4 * i + j)) = colW st i from rfl)
      rw [CW.out] at LY
      clear hw hf
      go_wp2_with (refine Still.p_sliceA rfl 27 5 _ _ rfl (w.heap.size + 2) rfl (4 * i) 16 _ rfl (by omega) (by omega) Tryz.underlying27 (by kernel_rfl) ?_)
      refine LY.out.mono ?_
      rintro e w' ⟨rfl, ha, hg⟩
      have HW2 : Hid (BlkW st w.heap.size w w' (layF (4 * i) 4 (fun j => st (4 * i + j)) f)) := Lib.hid ⟨HW.out.b.grown hg (by omega), HW.out.z.grown hg (by omega), ha, HW.out.bel.grown hg HW.out.bel.size (fun j hj => by cases hj; omega)⟩
      clear ha hg
      go_wp2
      go_roundw
      case rel =>
        refine ⟨i + 1, _, by omega, by go_num, HW2.out, fun x hx => ?_⟩
        unfold layF
        by_cases e : 4 * i ≤ x ∧ x < 4 * i + 4
        · rw [if_pos e]
          dsimp only
          rw [show 4 * i + (x - 4 * i) = x by omega]
        · rw [if_neg e]
          exact HF.out x (by omega)
      case measure => simp [RowKit.intOf]; omega
    · obtain rfl : i = 4 := by omega
      clear hw hf
      go_wp2_with (first | (refine wpList_load_arr rfl 27 _ rfl _ rfl HW.out.s Tryz.underlying27 rfl info16 ?_) | (refine wpList_store_arr rfl 27 _ _ rfl _ rfl rfl HW.out.z info16 ?_; intro w7 hA hG hS))
      refine ret_arr rfl rfl hA Tryz.underlying27 rfl info16 rfl ⟨?_, HW.out.bel.grown hG HW.out.bel.size (fun j hj => by cases hj; exact Nat.le_succ _)⟩
      exact congrArg (fun x => Ending.returned (.agg x)) (arr_congr fun c hc => HF.out c (by omega))
end Go.Proofs.YtmifebcaifbmoaaGreatDoor.Rj
end

/- Rj12 -/
section
namespace Go.Proofs.YtmifebcaifbmoaaGreatDoor.Rj
open Go.RowKit Go.Lib Go.Proofs.YtmifebcaifbmoaaGreatDoor.Blk Go.Proofs.YtmifebcaifbmoaaGreatDoor.Aes Go.Proofs.YtmifebcaifbmoaaGreatDoor.Seg

structure EcW (f g : Nat → Int) (B : Nat) (w w' : World) : Prop where
  a : Arr w' B .u8 16 27 f
  z : Arr w' (B + 1) .u8 16 27 g
  bel : Below B w w'
theorem EcW.next {f g : Nat → Int} {B : Nat} {w w1 w2 : World} (h : EcW f g B w w1) (hb : Below w1.heap.size w1 w2) (hB : B ≤ w1.heap.size) : EcW f g B w w2 :=
  ⟨bel_arr (_B := 0) h.a hb, bel_arr (_B := 0) h.z hb, h.bel.trans (hb.mono hB)⟩
theorem EcW.drew {f g : Nat → Int} {B : Nat} {w w1 : World} (h : EcW f g B w w1) : EcW f g B w w1.drew := ⟨h.a, h.z, h.bel.drew⟩
structure EcA (f : Nat → Int) (B : Nat) (w w' : World) : Prop where
  a : Arr w' B .u8 16 27 f
  bel : Below B w w'
theorem EcW.toA {f g : Nat → Int} {B : Nat} {w w1 : World} (h : EcW f g B w w1) : EcA f B w w1 := ⟨h.a, h.bel⟩
theorem gb_setRow (w : World) (b : Nat) (c : Array Value) : w.grownBy (w.setRow b c) (some b) := ⟨rfl, rfl, rfl, by simp, fun x _ hc => setRow_other w b x _ (fun e => hc (by rw [e]))⟩
theorem Arr_of_row {w : World} {b n : Nat} {k : IntKind} {t : TypeId} {f g : Nat → Int} (h : Arr w b k n t g) : Arr (w.setRow b (arr k n f)) b k n t f := setRow_heap w b _ _ t _ h
theorem EcW.le {f g : Nat → Int} {B : Nat} {w w1 : World} (h : EcW f g B w w1) : B ≤ w1.heap.size := by have := h.a.lt; omega

set_option maxRecDepth 100000 in
set_option maxHeartbeats 8000000 in
theorem encrypt_any (k : Nat → Nat → Nat) (nr : Nat) (h1 : 1 ≤ nr) (h14 : nr ≤ 14) (hk : ∀ r, r ≤ nr → Byt (k r) 16) (st : Nat → Nat) (hs : Byt st 16) (tb wb wo cap : Nat) (w : World) (hT : TabAt w tb)
    (hw : ∀ r c, r ≤ nr → c < 4 → w.cell? ⟨wb, wo + (4 * r + c), none⟩ = some (.int .u32 (colW (k r) c : Nat))) :
    Calls Tryz.prog 97 #[.pointer (some ⟨tb, 0, none⟩), .slice (some ⟨wb, wo, none⟩) (4 * nr + 4) cap, .agg (arr .u8 16 fun i => (st i : Nat))] w
      fun e w' => e = .returned (.agg (arr .u8 16 fun i => (thrB mE S 1 k nr st i : Nat))) ∧ Below w.heap.size w w' := by
  have z16 : (Tryz.prog.info? 27).bind (·.zero) = some (.agg (arr .u8 16 fun _ => 0)) := by kernel_rfl
  have HR : Hid (ThR S mE k nr wb wo tb 512 tb 0 w) := Lib.hid (by
    obtain ⟨C, hC, hc⟩ := hT
    exact ⟨hw, fun x hx => by rw [cell_of_row w tb _ _ _ _ hC]; exact hc.e x hx, fun x hx => by rw [cell_of_row w tb _ _ _ _ hC]; exact hc.s x hx⟩)
  have LD := Lib.hid (fun w => load_any st hs w)
  have TH := Lib.hid (fun w hR => through_any S mE S_byt 1 (by decide) k nr h1 h14 hk st hs wb wo cap tb 512 tb 0 w hR)
  have BK := Lib.hid (fun w => block_any (thrB mE S 1 k nr st) (thrB_byt S_byt hs hk) w)
  clear hT hw hk hs
  go_enter Tryz.func97, Tryz.ntmps97
  go_upto_region 0 with fail
  refine wp_region_lit ?_
  refine New.p_box rfl 27 _ rfl .u8 16 (fun i => ((st i : Nat) : Int)) rfl ?_
  intro w1 a1 g1 s1
  simp only [Act.put, sA9, sB9, sC9]
  refine New.p_newarr rfl 27 rfl .u8 16 z16 ?_
  intro w2 a2 g2 s2
  refine wpList_nil ?_
  simp only [Act.put, sA9, sB9, sC9]
  rw [s1] at a2 s2 ⊢
  have E2 : Hid (EcW (fun i => ((st i : Nat) : Int)) (fun _ => 0) w.heap.size w w2) := Lib.hid ⟨bel_arr (_B := 0) a1 (bel_of_gb (_B := 0) g2), a2, ((Below.refl w.heap.size w).grown g1 (Nat.le_refl _) (by simp)).grown g2 (by omega) (by simp)⟩
  clear a1 g1 s1 a2 g2 s2
  go_upto_region 1 with fail
  refine Step.begin_ (S := fun w' => EcA (fun i => ((st i : Nat) : Int)) w.heap.size w w') 12 rfl (by kernel_rfl) E2.out.drew.toA ?_
  intro hS
  have SX := Lib.hid hS
  have S2 := Lib.hid E2.out.drew
  clear hS
  refine Step.t_load (i := 0) rfl rfl (by kernel_rfl) (by kernel_rfl) (by kernel_rfl) SX.out _ _ rfl _ rfl (fun w' hw' => hw'.a) Tryz.underlying27 rfl info16 ?_
  simp only [Act.put, sA9, sB9, sC9]
  refine Step.t_move (i := 2) rfl rfl (by kernel_rfl) (by kernel_rfl) (by kernel_rfl) SX.out _ rfl _ rfl ?_
  simp only [Act.put, sA9, sB9, sC9]
  refine Step.t_move (i := 3) rfl rfl (by kernel_rfl) (by kernel_rfl) (by kernel_rfl) SX.out _ rfl _ rfl ?_
  simp only [Act.put, sA9, sB9, sC9]
  refine Step.t_val (i := 4) rfl rfl (by kernel_rfl) (by kernel_rfl) (by kernel_rfl) SX.out (.pointer (some ⟨tb, 0, none⟩)) (fun w _ => by rfl) ?_
  simp only [Act.put, sA9, sB9, sC9]
  refine Tree.t_field (i := 5) rfl rfl (by kernel_rfl) (by kernel_rfl) (by kernel_rfl) SX.out _ _ _ rfl tb 0 rfl Tryz.underlying191 rfl (sz := 1024) (by kernel_rfl) (by decide) 512 rfl ?_
  simp only [Act.put, sA9, sB9, sC9]
  refine Step.t_move (i := 6) rfl rfl (by kernel_rfl) (by kernel_rfl) (by kernel_rfl) SX.out _ rfl _ rfl ?_
  simp only [Act.put, sA9, sB9, sC9]
  refine Step.t_val (i := 7) rfl rfl (by kernel_rfl) (by kernel_rfl) (by kernel_rfl) SX.out (.pointer (some ⟨tb, 0, none⟩)) (fun w _ => by rfl) ?_
  simp only [Act.put, sA9, sB9, sC9]
  refine Tree.t_field (i := 8) rfl rfl (by kernel_rfl) (by kernel_rfl) (by kernel_rfl) SX.out _ _ _ rfl tb 0 rfl Tryz.underlying191 rfl (sz := 256) (by kernel_rfl) (by decide) 0 rfl ?_
  simp only [Act.put, sA9, sB9, sC9]
  refine Step.t_one (i := 1) rfl rfl (by kernel_rfl) ?_
  refine Step.w_callx 151 _ _ rfl Tryz.func151 (by kernel_rfl) rfl _ rfl (LD.out _) ?_
  rintro e w3 ⟨rfl, hb3⟩
  refine ⟨_, rfl, (S2.out.next hb3 S2.out.le).toA, ?_⟩
  have S3 := Lib.hid (S2.out.next hb3 S2.out.le)
  clear hb3
  simp only [Act.put, sA9, sB9, sC9]
  refine Step.t_one (i := 9) rfl rfl (by kernel_rfl) ?_
  refine Step.w_callx 150 _ _ rfl Tryz.func150 (by kernel_rfl) rfl _ rfl (TH.out _ (HR.out.below S3.out.bel)) ?_
  rintro e w4 ⟨rfl, hb4⟩
  refine ⟨_, rfl, (S3.out.next hb4 S3.out.le).toA, ?_⟩
  have S4 := Lib.hid (S3.out.next hb4 S3.out.le)
  clear hb4
  simp only [Act.put, sA9, sB9, sC9]
  refine Step.t_one (i := 10) rfl rfl (by kernel_rfl) ?_
  refine Step.w_callx 152 _ _ rfl Tryz.func152 (by kernel_rfl) rfl _ rfl (BK.out _) ?_
  rintro e w5 ⟨rfl, hb5⟩
  refine ⟨_, rfl, (S4.out.next hb5 S4.out.le).toA, ?_⟩
  have S5 := Lib.hid (S4.out.next hb5 S4.out.le)
  clear hb5
  simp only [Act.put, sA9, sB9, sC9]
  refine Step.t_one (i := 11) rfl rfl (by kernel_rfl) ?_
  refine wp_store_row 27 _ _ rfl (w.heap.size + 1) _ rfl rfl _ _ S5.out.z (by rw [arr_size]; exact info16) (by rw [arr_size, arr_size]) (arr_one _ _ _) ?_
  have hA := Arr_of_row (f := fun i => ((thrB mE S 1 k nr st i : Nat) : Int)) S5.out.z
  have hG := gb_setRow w5 (w.heap.size + 1) (arr .u8 16 fun i => ((thrB mE S 1 k nr st i : Nat) : Int))
  generalize w5.setRow (w.heap.size + 1) (arr .u8 16 fun i => ((thrB mE S 1 k nr st i : Nat) : Int)) = w6 at *
  have BL := Lib.hid (S5.out.bel.grown hG S5.out.le (fun j hj => by cases hj; exact Nat.le_succ _))
  refine ⟨⟨S5.out.a.grown hG (by omega), BL.out⟩, ?_⟩
  simp only [Act.put]
  refine Step.t_end (by kernel_rfl) ?_
  clear hG
  go_wp2
  exact ret_arr rfl rfl hA Tryz.underlying27 rfl info16 rfl ⟨rfl, BL.out⟩

set_option maxRecDepth 100000 in
set_option maxHeartbeats 8000000 in
theorem decrypt_any (k : Nat → Nat → Nat) (nr : Nat) (h1 : 1 ≤ nr) (h14 : nr ≤ 14) (hk : ∀ r, r ≤ nr → Byt (k r) 16) (st : Nat → Nat) (hs : Byt st 16) (tb wb wo cap : Nat) (w : World) (hT : TabAt w tb)
    (hw : ∀ r c, r ≤ nr → c < 4 → w.cell? ⟨wb, wo + (4 * r + c), none⟩ = some (.int .u32 (colW (k r) c : Nat))) :
    Calls Tryz.prog 181 #[.pointer (some ⟨tb, 0, none⟩), .slice (some ⟨wb, wo, none⟩) (4 * nr + 4) cap, .agg (arr .u8 16 fun i => (st i : Nat))] w
      fun e w' => e = .returned (.agg (arr .u8 16 fun i => (thrB mD U 3 k nr st i : Nat))) ∧ Below w.heap.size w w' := by
  have z16 : (Tryz.prog.info? 27).bind (·.zero) = some (.agg (arr .u8 16 fun _ => 0)) := by kernel_rfl
  have HR : Hid (ThR U mD k nr wb wo tb 1536 tb 256 w) := Lib.hid (by
    obtain ⟨C, hC, hc⟩ := hT
    exact ⟨hw, fun x hx => by rw [cell_of_row w tb _ _ _ _ hC]; exact hc.d x hx, fun x hx => by rw [cell_of_row w tb _ _ _ _ hC]; exact hc.u x hx⟩)
  have LD := Lib.hid (fun w => load_any st hs w)
  have TH := Lib.hid (fun w hR => through_any U mD U_byt 3 (by decide) k nr h1 h14 hk st hs wb wo cap tb 1536 tb 256 w hR)
  have BK := Lib.hid (fun w => block_any (thrB mD U 3 k nr st) (thrB_byt U_byt hs hk) w)
  clear hT hw hk hs
  go_enter Tryz.func181, Tryz.ntmps181
  go_upto_region 0 with fail
  refine wp_region_lit ?_
  refine New.p_box rfl 27 _ rfl .u8 16 (fun i => ((st i : Nat) : Int)) rfl ?_
  intro w1 a1 g1 s1
  simp only [Act.put, sA9, sB9, sC9]
  refine New.p_newarr rfl 27 rfl .u8 16 z16 ?_
  intro w2 a2 g2 s2
  refine wpList_nil ?_
  simp only [Act.put, sA9, sB9, sC9]
  rw [s1] at a2 s2 ⊢
  have E2 : Hid (EcW (fun i => ((st i : Nat) : Int)) (fun _ => 0) w.heap.size w w2) := Lib.hid ⟨bel_arr (_B := 0) a1 (bel_of_gb (_B := 0) g2), a2, ((Below.refl w.heap.size w).grown g1 (Nat.le_refl _) (by simp)).grown g2 (by omega) (by simp)⟩
  clear a1 g1 s1 a2 g2 s2
  go_upto_region 1 with fail
  refine Step.begin_ (S := fun w' => EcA (fun i => ((st i : Nat) : Int)) w.heap.size w w') 12 rfl (by kernel_rfl) E2.out.drew.toA ?_
  intro hS
  have SX := Lib.hid hS
  have S2 := Lib.hid E2.out.drew
  clear hS
  refine Step.t_load (i := 0) rfl rfl (by kernel_rfl) (by kernel_rfl) (by kernel_rfl) SX.out _ _ rfl _ rfl (fun w' hw' => hw'.a) Tryz.underlying27 rfl info16 ?_
  simp only [Act.put, sA9, sB9, sC9]
  refine Step.t_move (i := 2) rfl rfl (by kernel_rfl) (by kernel_rfl) (by kernel_rfl) SX.out _ rfl _ rfl ?_
  simp only [Act.put, sA9, sB9, sC9]
  refine Step.t_move (i := 3) rfl rfl (by kernel_rfl) (by kernel_rfl) (by kernel_rfl) SX.out _ rfl _ rfl ?_
  simp only [Act.put, sA9, sB9, sC9]
  refine Step.t_val (i := 4) rfl rfl (by kernel_rfl) (by kernel_rfl) (by kernel_rfl) SX.out (.pointer (some ⟨tb, 0, none⟩)) (fun w _ => by rfl) ?_
  simp only [Act.put, sA9, sB9, sC9]
  refine Tree.t_field (i := 5) rfl rfl (by kernel_rfl) (by kernel_rfl) (by kernel_rfl) SX.out _ _ _ rfl tb 0 rfl Tryz.underlying191 rfl (sz := 1024) (by kernel_rfl) (by decide) 1536 rfl ?_
  simp only [Act.put, sA9, sB9, sC9]
  refine Step.t_move (i := 6) rfl rfl (by kernel_rfl) (by kernel_rfl) (by kernel_rfl) SX.out _ rfl _ rfl ?_
  simp only [Act.put, sA9, sB9, sC9]
  refine Step.t_val (i := 7) rfl rfl (by kernel_rfl) (by kernel_rfl) (by kernel_rfl) SX.out (.pointer (some ⟨tb, 0, none⟩)) (fun w _ => by rfl) ?_
  simp only [Act.put, sA9, sB9, sC9]
  refine Tree.t_field (i := 8) rfl rfl (by kernel_rfl) (by kernel_rfl) (by kernel_rfl) SX.out _ _ _ rfl tb 0 rfl Tryz.underlying191 rfl (sz := 256) (by kernel_rfl) (by decide) 256 rfl ?_
  simp only [Act.put, sA9, sB9, sC9]
  refine Step.t_one (i := 1) rfl rfl (by kernel_rfl) ?_
  refine Step.w_callx 151 _ _ rfl Tryz.func151 (by kernel_rfl) rfl _ rfl (LD.out _) ?_
  rintro e w3 ⟨rfl, hb3⟩
  refine ⟨_, rfl, (S2.out.next hb3 S2.out.le).toA, ?_⟩
  have S3 := Lib.hid (S2.out.next hb3 S2.out.le)
  clear hb3
  simp only [Act.put, sA9, sB9, sC9]
  refine Step.t_one (i := 9) rfl rfl (by kernel_rfl) ?_
  refine Step.w_callx 150 _ _ rfl Tryz.func150 (by kernel_rfl) rfl _ rfl (TH.out _ (HR.out.below S3.out.bel)) ?_
  rintro e w4 ⟨rfl, hb4⟩
  refine ⟨_, rfl, (S3.out.next hb4 S3.out.le).toA, ?_⟩
  have S4 := Lib.hid (S3.out.next hb4 S3.out.le)
  clear hb4
  simp only [Act.put, sA9, sB9, sC9]
  refine Step.t_one (i := 10) rfl rfl (by kernel_rfl) ?_
  refine Step.w_callx 152 _ _ rfl Tryz.func152 (by kernel_rfl) rfl _ rfl (BK.out _) ?_
  rintro e w5 ⟨rfl, hb5⟩
  refine ⟨_, rfl, (S4.out.next hb5 S4.out.le).toA, ?_⟩
  have S5 := Lib.hid (S4.out.next hb5 S4.out.le)
  clear hb5
  simp only [Act.put, sA9, sB9, sC9]
  refine Step.t_one (i := 11) rfl rfl (by kernel_rfl) ?_
  refine wp_store_row 27 _ _ rfl (w.heap.size + 1) _ rfl rfl _ _ S5.out.z (by rw [arr_size]; exact info16) (by rw [arr_size, arr_size]) (arr_one _ _ _) ?_
  have hA := Arr_of_row (f := fun i => ((thrB mD U 3 k nr st i : Nat) : Int)) S5.out.z
  have hG := gb_setRow w5 (w.heap.size + 1) (arr .u8 16 fun i => ((thrB mD U 3 k nr st i : Nat) : Int))
  generalize w5.setRow (w.heap.size + 1) (arr .u8 16 fun i => ((thrB mD U 3 k nr st i : Nat) : Int)) = w6 at *
  have BL := Lib.hid (S5.out.bel.grown hG S5.out.le (fun j hj => by cases hj; exact Nat.le_succ _))
  refine ⟨⟨S5.out.a.grown hG (by omega), BL.out⟩, ?_⟩
  simp only [Act.put]
  refine Step.t_end (by kernel_rfl) ?_
  clear hG
  go_wp2
  exact ret_arr rfl rfl hA Tryz.underlying27 rfl info16 rfl ⟨rfl, BL.out⟩
end Go.Proofs.YtmifebcaifbmoaaGreatDoor.Rj
end

/- Locks -/
section
namespace Go.Proofs.YtmifebcaifbmoaaGreatDoor
abbrev Rj.rwLink : Go.Conc.Locks.RwLink := { lock := 218, unlock := 100001, ilock := 100002, iunlock := 100003, lockSlow := 100004, unlockSlow := 100005, disable := 173, enable := 176, acquire := 177, relMerge := 178, cas32 := 100006, add32 := 187, rlock := 148, runlock := 149, wlock := 217, wunlock := 100007, i32add := 174, raceRead := 172, release := 100008, rUnlockSlow := 179, semacqR := 175, semacqW := 100009, semrel := 189, sfatal := 188, tMutex := 142, tIMutex := 140, tPMutex := 219, tPI32 := 239, tUP := 201, tNoCopy := 138, tU32 := 132, tRW := 147, tPRW := 217, tAI32 := 145, tPAI32 := 237, tPU32 := 222, tANoCopy := 143, tPIMutex := 100100 }
theorem Rj.rwCore : Go.Conc.Locks.RwCore Tryz.prog Rj.rwLink :=
  ⟨Tryz.func174, Tryz.func172, Tryz.func173, Tryz.func176, Tryz.func177, Tryz.func178, Tryz.func187, Tryz.underlying147, Tryz.runUnderlying147, Tryz.sizeOf147, Tryz.isAgg147, Tryz.zeroValue147, Tryz.underlying145, Tryz.runUnderlying145, Tryz.sizeOf145, Tryz.isAgg145, Tryz.zeroValue145, Tryz.underlying217, Tryz.runUnderlying217, Tryz.sizeOf217, Tryz.isAgg217, Tryz.zeroValue217, Tryz.underlying237, Tryz.runUnderlying237, Tryz.sizeOf237, Tryz.isAgg237, Tryz.zeroValue237, Tryz.underlying222, Tryz.runUnderlying222, Tryz.sizeOf222, Tryz.isAgg222, Tryz.zeroValue222, Tryz.underlying143, Tryz.runUnderlying143, Tryz.sizeOf143, Tryz.isAgg143, Tryz.zeroValue143, Tryz.underlying132, Tryz.runUnderlying132, Tryz.sizeOf132, Tryz.isAgg132, Tryz.zeroValue132, Tryz.underlying142, Tryz.runUnderlying142, Tryz.sizeOf142, Tryz.isAgg142, Tryz.zeroValue142, Tryz.underlying219, Tryz.runUnderlying219, Tryz.sizeOf219, Tryz.isAgg219, Tryz.zeroValue219, Tryz.underlying239, Tryz.runUnderlying239, Tryz.sizeOf239, Tryz.isAgg239, Tryz.zeroValue239, Tryz.underlying201, Tryz.runUnderlying201, Tryz.sizeOf201, Tryz.isAgg201, Tryz.zeroValue201, Tryz.underlying21, Tryz.runUnderlying21, Tryz.sizeOf21, Tryz.isAgg21, Tryz.zeroValue21, (by kernel_rfl), (by kernel_rfl)⟩
theorem Rj.rwRLib : Go.Conc.Locks.RwRLib Tryz.prog Rj.rwLink := ⟨Rj.rwCore, Tryz.func148, Tryz.func149⟩
end Go.Proofs.YtmifebcaifbmoaaGreatDoor
end
