/- Parts of the proof of TweakFlips. Rj4: rijndael: tables of columns. Tree: The tail of a drawn region that copies a list, lays a mark behind it, cuts it and stores it: 'x.f = append(append([]T{}, q...), mark)[:n]'. General. Tree2: Plain regions: a struct stored into the middle of a row; clear of a slice. General. -/
import Derived.Test.YtmifebcaifbmoaaGreatDoorK02
import Derived.Test.YtmifebcaifbmoaaGreatDoorK01
import Derived.Test.YtmifebcaifbmoaaGreatDoorChecked
import Derived.Test.YtmifebcaifbmoaaGreatDoorK00
import Derived.Deep.Cut
import Derived.Deep.CutRange
import Derived.Deep.QuietTactic
import Derived.BigQuiet
import Derived.LoopTactic
import Derived.Laws.AppendOwnNone
import Derived.Laws.OwnMore
import Derived.Maps.AppendAt
import Derived.ArgAppend
import Derived.WalkSmall
import Derived.WalkSpells
import Derived.Lib.SmallJoins
import Derived.Deep.Slices
import Derived.ChangeSlices
import Derived.ChangeMaps5
/- Rj4 -/
section
namespace Go.Proofs.YtmifebcaifbmoaaGreatDoor.Rj
open Go.RowKit Go.Lib Go.Proofs.YtmifebcaifbmoaaGreatDoor.Blk Go.Proofs.YtmifebcaifbmoaaGreatDoor.Aes

/-- place x of a table of columns: what byte x % 256 adds to a column, from row x / 256 -/
def tabB (box m : Nat → Nat) (x j : Nat) : Nat := gm (box (x % 256)) (m ((j + 4 - x / 256) % 4))
def tabW (box m : Nat → Nat) (x : Nat) : Nat := wd (tabB box m x)
theorem or_a (a b : Nat) (ha : a < 256) (hb : b < 256) : bits .or .u32 ((a * 16777216 : Nat) : Int) ((b * 65536 : Nat) : Int) = ((a * 16777216 + b * 65536 : Nat) : Int) := by
  rw [or_u32 _ _ (by omega) (by omega), show 16777216 = 2 ^ 24 by decide, or_add _ _ 24 (by omega)]
theorem or_b (a b c : Nat) (ha : a < 256) (hb : b < 256) (hc : c < 256) : bits .or .u32 ((a * 16777216 + b * 65536 : Nat) : Int) ((c * 256 : Nat) : Int) = ((a * 16777216 + b * 65536 + c * 256 : Nat) : Int) := by
  rw [or_u32 _ _ (by omega) (by omega), show a * 16777216 + b * 65536 = (a * 256 + b) * 2 ^ 16 by omega, or_add _ _ 16 (by omega)]
theorem or_c (a b c d : Nat) (ha : a < 256) (hb : b < 256) (hc : c < 256) (hd : d < 256) : bits .or .u32 ((a * 16777216 + b * 65536 + c * 256 : Nat) : Int) (d : Int) = ((a * 16777216 + b * 65536 + c * 256 + d : Nat) : Int) := by
  rw [or_u32 _ _ (by omega) (by omega), show a * 16777216 + b * 65536 + c * 256 = ((a * 256 + b) * 256 + c) * 2 ^ 8 by omega, or_add _ _ 8 (by omega)]
def rotN (r a b c d : Nat) : Nat := if r = 0 then a * 16777216 + b * 65536 + c * 256 + d else if r = 1 then d * 16777216 + a * 65536 + b * 256 + c else if r = 2 then c * 16777216 + d * 65536 + a * 256 + b else b * 16777216 + c * 65536 + d * 256 + a
theorem rotN_1 (a b c d : Nat) : rotN 1 a b c d = d * 16777216 + a * 65536 + b * 256 + c := (if_neg (by decide)).trans (if_pos rfl)
theorem rotN_2 (a b c d : Nat) : rotN 2 a b c d = c * 16777216 + d * 65536 + a * 256 + b := ((if_neg (by decide)).trans (if_neg (by decide))).trans (if_pos rfl)
theorem rotN_3 (a b c d : Nat) : rotN 3 a b c d = b * 16777216 + c * 65536 + d * 256 + a := ((if_neg (by decide)).trans (if_neg (by decide))).trans (if_neg (by decide))
theorem or_back (x y k : Nat) (h : x < 2 ^ k) : x ||| y * 2 ^ k = y * 2 ^ k + x := by rw [Nat.or_comm, or_add _ _ _ h]
section
variable {a b c d X : Nat} (ha : a < 256) (hb : b < 256) (hc : c < 256) (hd : d < 256) (hX : a * 16777216 + b * 65536 + c * 256 + d = X)
include ha hb hc hd hX
theorem rot_0 : bits .or .u32 (X : Int) 0 = (rotN 0 a b c d : Nat) := by
  have := or_u32 X 0 (by omega) (by decide)
  rw [Nat.or_zero] at this
  exact this.trans (by rw [rotN, if_pos rfl, hX])
set_option maxRecDepth 100000 in
theorem rot_1 : bits .or .u32 ((X : Int) / 256) ((X : Int) * 16777216 % 4294967296) = (rotN 1 a b c d : Nat) := by
  have e1 : ((X : Int) / 256) = ((X / 256 : Nat) : Int) := by omega
  have e2 : ((X : Int) * 16777216 % 4294967296) = (((d) * 16777216 : Nat) : Int) := by omega
  have h1 := or_u32 (X / 256) ((d) * 16777216) (by omega) (by omega)
  have h2 := or_back (X / 256) (d) 24 (by omega)
  rw [show (2 : Nat) ^ 24 = 16777216 by decide] at h2
  have h3 : (d) * 16777216 + X / 256 = d * 16777216 + a * 65536 + b * 256 + c := by
    have e : X / 256 = a * 65536 + b * 256 + c := by rw [← hX, show a * 16777216 + b * 65536 + c * 256 + d = 256 * (a * 65536 + b * 256 + c) + d by omega]; omega
    rw [e, ← Nat.add_assoc, ← Nat.add_assoc]
  rw [e1, e2, h1, h2, h3, rotN_1]
set_option maxRecDepth 100000 in
theorem rot_2 : bits .or .u32 ((X : Int) / 65536) ((X : Int) * 65536 % 4294967296) = (rotN 2 a b c d : Nat) := by
  have e1 : ((X : Int) / 65536) = ((X / 65536 : Nat) : Int) := by omega
  have e2 : ((X : Int) * 65536 % 4294967296) = (((c * 256 + d) * 65536 : Nat) : Int) := by omega
  have h1 := or_u32 (X / 65536) ((c * 256 + d) * 65536) (by omega) (by omega)
  have h2 := or_back (X / 65536) (c * 256 + d) 16 (by omega)
  rw [show (2 : Nat) ^ 16 = 65536 by decide] at h2
  have h3 : (c * 256 + d) * 65536 + X / 65536 = c * 16777216 + d * 65536 + a * 256 + b := by
    have e : X / 65536 = a * 256 + b := by rw [← hX, show a * 16777216 + b * 65536 + c * 256 + d = 65536 * (a * 256 + b) + (c * 256 + d) by omega]; omega
    rw [e, Nat.add_mul, Nat.mul_assoc, ← Nat.add_assoc]
  rw [e1, e2, h1, h2, h3, rotN_2]
set_option maxRecDepth 100000 in
theorem rot_3 : bits .or .u32 ((X : Int) / 16777216) ((X : Int) * 256 % 4294967296) = (rotN 3 a b c d : Nat) := by
  have e1 : ((X : Int) / 16777216) = ((X / 16777216 : Nat) : Int) := by omega
  have e2 : ((X : Int) * 256 % 4294967296) = (((b * 65536 + c * 256 + d) * 256 : Nat) : Int) := by omega
  have h1 := or_u32 (X / 16777216) ((b * 65536 + c * 256 + d) * 256) (by omega) (by omega)
  have h2 := or_back (X / 16777216) (b * 65536 + c * 256 + d) 8 (by omega)
  rw [show (2 : Nat) ^ 8 = 256 by decide] at h2
  have h3 : (b * 65536 + c * 256 + d) * 256 + X / 16777216 = b * 16777216 + c * 65536 + d * 256 + a := by
    clear e1 e2 h1 h2
    omega
  rw [e1, e2, h1, h2, h3, rotN_3]
end
theorem tab_val (box m : Nat → Nat) (i : Nat) (hi : i < 256) : ∀ r, r < 4 → tabW box m (r * 256 + i) = rotN r (gm (box i) (m 0)) (gm (box i) (m 1)) (gm (box i) (m 2)) (gm (box i) (m 3)) := fun r hr => by
  have e1 : (r * 256 + i) % 256 = i := by omega
  have e2 : (r * 256 + i) / 256 = r := by omega
  unfold tabW wd tabB
  rw [e1, e2]
  have hr0 : r = 0 ∨ r = 1 ∨ r = 2 ∨ r = 3 := by omega
  clear e1 e2
  generalize box i = s
  rcases hr0 with rfl | rfl | rfl | rfl
  · simp only [rotN, Nat.reduceAdd, Nat.reduceSub, Nat.reduceMod, if_true]
    generalize gm s (m 0) = a; generalize gm s (m 1) = b; generalize gm s (m 2) = c; generalize gm s (m 3) = d
    omega
  · simp only [rotN, Nat.reduceAdd, Nat.reduceSub, Nat.reduceMod, if_true, Nat.reduceEqDiff, if_false]
    generalize gm s (m 0) = a; generalize gm s (m 1) = b; generalize gm s (m 2) = c; generalize gm s (m 3) = d
    omega
  · simp only [rotN, Nat.reduceAdd, Nat.reduceSub, Nat.reduceMod, if_true, Nat.reduceEqDiff, if_false]
    generalize gm s (m 0) = a; generalize gm s (m 1) = b; generalize gm s (m 2) = c; generalize gm s (m 3) = d
    omega
  · simp only [rotN, Nat.reduceAdd, Nat.reduceSub, Nat.reduceMod, Nat.reduceEqDiff, if_false]
    generalize gm s (m 0) = a; generalize gm s (m 1) = b; generalize gm s (m 2) = c; generalize gm s (m 3) = d
    omega
structure ProW (box m : Nat → Nat) (B : Nat) (w wr : World) (f : Nat → Int) (i r : Nat) : Prop where
  z : Arr wr (B + 1) .u32 1024 189 (fun _ => 0)
  t : Arr wr (B + 2) .u32 1024 189 f
  bel : Below B w wr
  tab : ∀ x, x < 1024 → (x % 256 < i ∨ (x % 256 = i ∧ x / 256 < r)) → f x = (tabW box m x : Nat)
theorem ProW.below {box m : Nat → Nat} {B : Nat} {w wr w' : World} {f : Nat → Int} {i r : Nat} (h : ProW box m B w wr f i r) (hb : Below wr.heap.size wr w') (hB : w.heap.size = B) : ProW box m B w w' f i r :=
  ⟨h.z.below hb h.z.lt, h.t.below hb h.t.lt, h.bel.trans (hb.mono (by rw [← hB]; exact h.bel.size)), h.tab⟩
theorem info1024 : (Tryz.prog.info? 189).map (·.size) = some 1024 := by kernel_rfl
theorem tab_step {box m : Nat → Nat} {f : Nat → Int} {i r : Nat} (h : ∀ x, x < 1024 → (x % 256 < i ∨ (x % 256 = i ∧ x / 256 < r)) → f x = (tabW box m x : Nat)) :
    ∀ x, x < 1024 → (x % 256 < i ∨ (x % 256 = i ∧ x / 256 < r + 1)) → upd f (r * 256 + i) (tabW box m (r * 256 + i) : Nat) x = (tabW box m x : Nat) := fun x hx hc => by
  unfold upd
  split
  · rename_i e; rw [e]
  · rename_i e
    refine h x hx ?_
    omega

set_option maxRecDepth 100000 in
set_option maxHeartbeats 4000000 in
theorem products_any (box m : Nat → Nat) (hb : Byt box 256) (hm : Byt m 4) (g off cap : Nat) (w : World) (hc : ∀ d, d < 4 → w.cell? ⟨g, off + d, none⟩ = some (.int .u8 (m d : Nat))) :
    Calls Tryz.prog 147 #[.agg (arr .u8 256 fun i => (box i : Nat)), .slice (some ⟨g, off, none⟩) 4 cap] w fun e w' => e = .returned (.agg (arr .u32 1024 fun x => (tabW box m x : Nat))) ∧ Below w.heap.size w w' := by
  have z1024 : (Tryz.prog.info? 189).bind (·.zero) = some (.agg (arr .u32 1024 fun _ => 0)) := by kernel_rfl
  have hi1 : (Tryz.prog.info? 5).map (·.size) = some 1 := by kernel_rfl
  have IX := Lib.hid (fun (i : Nat) (hi : i < 256) (w : World) => New.run_index_arr (P := Tryz.prog) Tryz.underlying175 Tryz.underlying5 hi1 (fun i => ((box i : Nat) : Int)) i hi w)
  have HB := Lib.hid hb
  have HM := Lib.hid hm
  have HC := Lib.hid hc
  have hgl : g < w.heap.size := Frame.block_lt (hc 0 (by decide))
  clear hb hm hc
  go_enter Tryz.func147, Tryz.ntmps147
  go_upto_region 0 with fail
  refine wp_region_lit ?_
  refine New.p_box rfl 175 _ rfl .u8 256 (fun i => ((box i : Nat) : Int)) rfl ?_
  intro w1 h1 g1 s1
  simp only [Act.put, List.setIfInBounds_toArray, List.set_cons_zero, List.set_cons_succ]
  refine New.p_newarr rfl 189 rfl .u32 1024 z1024 ?_
  intro w2 h2 g2 s2
  refine wpList_nil ?_
  simp only [Act.put, List.setIfInBounds_toArray, List.set_cons_zero, List.set_cons_succ]
  have A1 := Lib.hid (h1.below (bel_of_gb (_B := 0) g2) h1.lt)
  have A2 := Lib.hid h2
  have G2 := Lib.hid (((Below.refl w.heap.size w).grown g1 (Nat.le_refl _) (by simp)).grown g2 (by omega) (by simp))
  have S2 := Lib.hid (s2.trans (by rw [s1]))
  have S1 := Lib.hid s1
  clear h1 g1 s1 h2 g2 s2
  go_upto_region 1 with fail
  refine wp_region_lit ?_
  refine New.p_newarr rfl 189 rfl .u32 1024 z1024 ?_
  intro w3 h3 g3 s3
  refine wpList_nil ?_
  simp only [Act.put, List.setIfInBounds_toArray, List.set_cons_zero, List.set_cons_succ]
  have hW : Hid (ProW box m w.heap.size w w3 (fun _ => 0) 0 0) := Lib.hid ⟨by
      have := A2.out.below (bel_of_gb (_B := 0) g3) A2.out.lt
      rw [S1.out] at this
      exact this, by rw [S2.out] at h3; exact h3, G2.out.grown g3 (by have := S2.out; omega) (by simp), fun x _ h => by omega⟩
  have HA := Lib.hid (A1.out.below (bel_of_gb (_B := 0) g3) A1.out.lt)
  rw [S1.out, S2.out]
  clear h3 g3 s3 A1 A2 G2 S1 S2
  go_wp2_with (refine wpList_load_arr rfl 175 _ rfl _ rfl HA.out Tryz.underlying175 rfl info256 ?_)
  go_loopw [11, 6, 7, 8, 9, 45] (fun p _ _ _ _ _ wr => ∃ (i : Nat) (f : Nat → Int), i ≤ 256 ∧ p = .int .i64 i ∧ ProW box m w.heap.size w wr f i 0) (fun p _ _ _ _ _ _ => 256 - (intOf p).toNat)
  case atStart => exact ⟨0, _, by decide, rfl, hW.out⟩
  case round =>
    obtain ⟨i, f, hi, rfl, hw⟩ := hrel
    have HW := Lib.hid hw
    by_cases hlt : i < 256
    · have ix := IX.out i hlt
      have hbi := HB.out i hlt
      have hm0 := HM.out 0 (by decide)
      have hm1 := HM.out 1 (by decide)
      have hm2 := HM.out 2 (by decide)
      have hm3 := HM.out 3 (by decide)
      have c0 := (hw.bel.cell (p := ⟨g, off + 0, none⟩) hgl).trans (HC.out 0 (by decide))
      have c1 := (hw.bel.cell (p := ⟨g, off + 1, none⟩) hgl).trans (HC.out 1 (by decide))
      have c2 := (hw.bel.cell (p := ⟨g, off + 2, none⟩) hgl).trans (HC.out 2 (by decide))
      have c3 := (hw.bel.cell (p := ⟨g, off + 3, none⟩) hgl).trans (HC.out 3 (by decide))
      rw [Nat.add_zero] at c0
      have TV := Lib.hid (tab_val box m i hlt)
      clear hw
      generalize box i = s at *
      generalize m 0 = m0 at *
      generalize m 1 = m1 at *
      generalize m 2 = m2 at *
      generalize m 3 = m3 at *
      have k0 := gm_lt s m0 hbi
      have k1 := gm_lt s m1 hbi
      have k2 := gm_lt s m2 hbi
      have k3 := gm_lt s m3 hbi
      have or1 := or_a (gm s m0) (gm s m1) k0 k1
      have or2 := or_b (gm s m0) (gm s m1) (gm s m2) k0 k1 k2
      obtain ⟨X, hX⟩ : ∃ X, gm s m0 * 16777216 + gm s m1 * 65536 + gm s m2 * 256 + gm s m3 = X := ⟨_, rfl⟩
      have or3 := or_c (gm s m0) (gm s m1) (gm s m2) (gm s m3) k0 k1 k2 k3
      rw [hX] at or3
      have hXl : X < 4294967296 := by omega
      have HX := Lib.hid hX
      clear hX
      go_upto_region 5 with fail
      refine Step.wp_region_class (C := fun w' => Below wr.heap.size wr w') (by kernel_rfl) (by kernel_rfl) (Below.refl _ _).drew ?_
      refine Step.q_move rfl _ rfl (.int .u8 (s : Nat)) rfl ?_
      simp only [Act.put, List.setIfInBounds_toArray, List.set_cons_zero, List.set_cons_succ]
      refine Step.q_move rfl _ rfl (.slice (some ⟨g, off, none⟩) 4 cap) rfl ?_
      simp only [Act.put, List.setIfInBounds_toArray, List.set_cons_zero, List.set_cons_succ]
      refine Step.q_idx rfl _ 5 _ _ rfl g off 4 cap rfl 0 rfl (by decide) 1 Tryz.underlying22 (by kernel_rfl) ?_
      simp only [Act.put, List.setIfInBounds_toArray, List.set_cons_zero, List.set_cons_succ]
      skip
      refine Step.q_load1 rfl _ _ rfl (g) (off + 0 * 1) rfl (.int .u8 (m0 : Nat)) (fun w' hw' => (hw'.cell (p := ⟨g, off + 0 * 1, none⟩) (Frame.block_lt (c0))).trans (c0)) Tryz.underlying5 rfl ?_
      simp only [Act.put, List.setIfInBounds_toArray, List.set_cons_zero, List.set_cons_succ]
      refine Step.q_call rfl 170 [.tmp 15, .tmp 18] _ rfl Tryz.func170 (by kernel_rfl) rfl (.int .u8 (gm s m0 : Nat)) [.int .u8 (s : Nat), .int .u8 (m0 : Nat)] rfl (fun w' hw' => (times_any s m0 hbi hm0 w').mono fun e w2 h => ⟨h.1, by first | exact h.2 ▸ hw' | exact hw'.trans (h.2.mono hw'.size)⟩) ?_
      simp only [Act.put, List.setIfInBounds_toArray, List.set_cons_zero, List.set_cons_succ]
      refine Step.q_pure rfl (.int .u32 (gm s m0 : Nat)) (fun w' => by unfold execOp; go_simp; exact wrap32u _ (Int.natCast_nonneg _) (by omega)) ?_
      simp only [Act.put, List.setIfInBounds_toArray, List.set_cons_zero, List.set_cons_succ]
      refine Step.q_pure rfl (.int .u32 (gm s m0 * 16777216 : Nat)) (fun w' => by unfold execOp; go_simp; exact (wrap32u _ (by omega) (by omega)).trans (by omega)) ?_
      simp only [Act.put, List.setIfInBounds_toArray, List.set_cons_zero, List.set_cons_succ]
      refine Step.q_move rfl _ rfl (.int .u8 (s : Nat)) rfl ?_
      simp only [Act.put, List.setIfInBounds_toArray, List.set_cons_zero, List.set_cons_succ]
      refine Step.q_move rfl _ rfl (.slice (some ⟨g, off, none⟩) 4 cap) rfl ?_
      simp only [Act.put, List.setIfInBounds_toArray, List.set_cons_zero, List.set_cons_succ]
      refine Step.q_idx rfl _ 5 _ _ rfl g off 4 cap rfl 1 rfl (by decide) 1 Tryz.underlying22 (by kernel_rfl) ?_
      simp only [Act.put, List.setIfInBounds_toArray, List.set_cons_zero, List.set_cons_succ]
      skip
      refine Step.q_load1 rfl _ _ rfl (g) (off + 1 * 1) rfl (.int .u8 (m1 : Nat)) (fun w' hw' => (hw'.cell (p := ⟨g, off + 1 * 1, none⟩) (Frame.block_lt (c1))).trans (c1)) Tryz.underlying5 rfl ?_
      simp only [Act.put, List.setIfInBounds_toArray, List.set_cons_zero, List.set_cons_succ]
      refine Step.q_call rfl 170 [.tmp 22, .tmp 25] _ rfl Tryz.func170 (by kernel_rfl) rfl (.int .u8 (gm s m1 : Nat)) [.int .u8 (s : Nat), .int .u8 (m1 : Nat)] rfl (fun w' hw' => (times_any s m1 hbi hm1 w').mono fun e w2 h => ⟨h.1, by first | exact h.2 ▸ hw' | exact hw'.trans (h.2.mono hw'.size)⟩) ?_
      simp only [Act.put, List.setIfInBounds_toArray, List.set_cons_zero, List.set_cons_succ]
      refine Step.q_pure rfl (.int .u32 (gm s m1 : Nat)) (fun w' => by unfold execOp; go_simp; exact wrap32u _ (Int.natCast_nonneg _) (by omega)) ?_
      simp only [Act.put, List.setIfInBounds_toArray, List.set_cons_zero, List.set_cons_succ]
      refine Step.q_pure rfl (.int .u32 (gm s m1 * 65536 : Nat)) (fun w' => by unfold execOp; go_simp; exact (wrap32u _ (by omega) (by omega)).trans (by omega)) ?_
      simp only [Act.put, List.setIfInBounds_toArray, List.set_cons_zero, List.set_cons_succ]
      refine Step.q_pure rfl (.int .u32 (gm s m0 * 16777216 + gm s m1 * 65536 : Nat)) (fun w' => by unfold execOp; go_simp; exact or1) ?_
      simp only [Act.put, List.setIfInBounds_toArray, List.set_cons_zero, List.set_cons_succ]
      refine Step.q_move rfl _ rfl (.int .u8 (s : Nat)) rfl ?_
      simp only [Act.put, List.setIfInBounds_toArray, List.set_cons_zero, List.set_cons_succ]
      refine Step.q_move rfl _ rfl (.slice (some ⟨g, off, none⟩) 4 cap) rfl ?_
      simp only [Act.put, List.setIfInBounds_toArray, List.set_cons_zero, List.set_cons_succ]
      refine Step.q_idx rfl _ 5 _ _ rfl g off 4 cap rfl 2 rfl (by decide) 1 Tryz.underlying22 (by kernel_rfl) ?_
      simp only [Act.put, List.setIfInBounds_toArray, List.set_cons_zero, List.set_cons_succ]
      skip
      refine Step.q_load1 rfl _ _ rfl (g) (off + 2 * 1) rfl (.int .u8 (m2 : Nat)) (fun w' hw' => (hw'.cell (p := ⟨g, off + 2 * 1, none⟩) (Frame.block_lt (c2))).trans (c2)) Tryz.underlying5 rfl ?_
      simp only [Act.put, List.setIfInBounds_toArray, List.set_cons_zero, List.set_cons_succ]
      refine Step.q_call rfl 170 [.tmp 30, .tmp 33] _ rfl Tryz.func170 (by kernel_rfl) rfl (.int .u8 (gm s m2 : Nat)) [.int .u8 (s : Nat), .int .u8 (m2 : Nat)] rfl (fun w' hw' => (times_any s m2 hbi hm2 w').mono fun e w2 h => ⟨h.1, by first | exact h.2 ▸ hw' | exact hw'.trans (h.2.mono hw'.size)⟩) ?_
      simp only [Act.put, List.setIfInBounds_toArray, List.set_cons_zero, List.set_cons_succ]
      refine Step.q_pure rfl (.int .u32 (gm s m2 : Nat)) (fun w' => by unfold execOp; go_simp; exact wrap32u _ (Int.natCast_nonneg _) (by omega)) ?_
      simp only [Act.put, List.setIfInBounds_toArray, List.set_cons_zero, List.set_cons_succ]
      refine Step.q_pure rfl (.int .u32 (gm s m2 * 256 : Nat)) (fun w' => by unfold execOp; go_simp; exact (wrap32u _ (by omega) (by omega)).trans (by omega)) ?_
      simp only [Act.put, List.setIfInBounds_toArray, List.set_cons_zero, List.set_cons_succ]
      refine Step.q_pure rfl (.int .u32 (gm s m0 * 16777216 + gm s m1 * 65536 + gm s m2 * 256 : Nat)) (fun w' => by unfold execOp; go_simp; exact or2) ?_
      simp only [Act.put, List.setIfInBounds_toArray, List.set_cons_zero, List.set_cons_succ]
      refine Step.q_move rfl _ rfl (.int .u8 (s : Nat)) rfl ?_
      simp only [Act.put, List.setIfInBounds_toArray, List.set_cons_zero, List.set_cons_succ]
      refine Step.q_move rfl _ rfl (.slice (some ⟨g, off, none⟩) 4 cap) rfl ?_
      simp only [Act.put, List.setIfInBounds_toArray, List.set_cons_zero, List.set_cons_succ]
      refine Step.q_idx rfl _ 5 _ _ rfl g off 4 cap rfl 3 rfl (by decide) 1 Tryz.underlying22 (by kernel_rfl) ?_
      simp only [Act.put, List.setIfInBounds_toArray, List.set_cons_zero, List.set_cons_succ]
      skip
      refine Step.q_load1 rfl _ _ rfl (g) (off + 3 * 1) rfl (.int .u8 (m3 : Nat)) (fun w' hw' => (hw'.cell (p := ⟨g, off + 3 * 1, none⟩) (Frame.block_lt (c3))).trans (c3)) Tryz.underlying5 rfl ?_
      simp only [Act.put, List.setIfInBounds_toArray, List.set_cons_zero, List.set_cons_succ]
      refine Step.q_call rfl 170 [.tmp 38, .tmp 41] _ rfl Tryz.func170 (by kernel_rfl) rfl (.int .u8 (gm s m3 : Nat)) [.int .u8 (s : Nat), .int .u8 (m3 : Nat)] rfl (fun w' hw' => (times_any s m3 hbi hm3 w').mono fun e w2 h => ⟨h.1, by first | exact h.2 ▸ hw' | exact hw'.trans (h.2.mono hw'.size)⟩) ?_
      simp only [Act.put, List.setIfInBounds_toArray, List.set_cons_zero, List.set_cons_succ]
      refine Step.q_pure rfl (.int .u32 (gm s m3 : Nat)) (fun w' => by unfold execOp; go_simp; exact wrap32u _ (Int.natCast_nonneg _) (by omega)) ?_
      simp only [Act.put, List.setIfInBounds_toArray, List.set_cons_zero, List.set_cons_succ]
      refine Step.q_pure rfl (.int .u32 (X : Nat)) (fun w' => by unfold execOp; go_simp; exact or3) ?_
      simp only [Act.put, List.setIfInBounds_toArray, List.set_cons_zero, List.set_cons_succ]
      refine Step.q_assign rfl _ rfl (.int .u32 (X : Nat)) rfl ?_
      simp only [Act.put, List.setIfInBounds_toArray, List.set_cons_zero, List.set_cons_succ]
      refine wpQuiet_nil ?_
      intro w4 hb4
      have HW4 := Lib.hid (HW.out.below hb4 rfl)
      clear hb4 c0 c1 c2 c3 or1 or2 or3 ix
      go_wp2
      go_loopw [9, 45] (fun _ p w5 => ∃ (r : Nat) (f2 : Nat → Int), r ≤ 4 ∧ p = .int .i64 r ∧ ProW box m w.heap.size w w5 f2 i r) (fun _ p _ => 4 - (intOf p).toNat)
      case atStart => exact ⟨0, f, by decide, rfl, HW4.out⟩
      case round =>
        obtain ⟨r, f2, hr, rfl, hw5⟩ := hrel
        have HW5 := Lib.hid hw5
        by_cases hr4 : r < 4
        · have hcell := hw5.t.cell (i := r * 256 + i) (by omega)
          have hfr := hw5.t.free (r * 256 + i)
          have tv := TV.out r hr4
          have TV5 := Lib.hid tv
          clear hw5 tv
          have hr0 : r = 0 ∨ r = 1 ∨ r = 2 ∨ r = 3 := by omega
          rcases hr0 with rfl | rfl | rfl | rfl
          · simp only [Nat.zero_mul, Nat.zero_add] at hcell hfr
            go_upto_region 9 with fail
            go_region
            go_wp2
            go_roundw
            case rel => exact ⟨1, _, by decide, rfl, HW5.out.z.other (by simp) _, HW5.out.t.store _ _, (HW5.out.bel.setCell (by simp; try omega) _).drew, by
              rw [rot_0 k0 k1 k2 k3 HX.out, ← TV5.out]
              have := tab_step HW5.out.tab
              simp only [Nat.zero_mul, Nat.zero_add] at this ⊢
              exact this⟩
            case measure => simp [intOf]
          · simp only [Nat.one_mul] at hcell hfr
            go_upto_region 9 with fail
            go_region
            go_wp2
            go_roundw
            case rel => exact ⟨2, _, by decide, rfl, HW5.out.z.other (by simp) _, HW5.out.t.store _ _, (HW5.out.bel.setCell (by simp; try omega) _).drew, by
              rw [rot_1 k0 k1 k2 k3 HX.out, ← TV5.out]
              have := tab_step HW5.out.tab
              simp only [Nat.one_mul, Nat.reduceAdd] at this ⊢
              exact this⟩
            case measure => simp [intOf]
          · simp only [Nat.reduceMul] at hcell hfr
            go_upto_region 9 with fail
            go_region
            go_wp2
            go_roundw
            case rel => exact ⟨3, _, by decide, rfl, HW5.out.z.other (by simp) _, HW5.out.t.store _ _, (HW5.out.bel.setCell (by simp; try omega) _).drew, by
              rw [rot_2 k0 k1 k2 k3 HX.out, ← TV5.out]
              have := tab_step HW5.out.tab
              simp only [Nat.reduceMul, Nat.reduceAdd] at this ⊢
              exact this⟩
            case measure => simp [intOf]
          · simp only [Nat.reduceMul] at hcell hfr
            go_upto_region 9 with fail
            go_region
            go_wp2
            go_roundw
            case rel => exact ⟨4, _, by decide, rfl, HW5.out.z.other (by simp) _, HW5.out.t.store _ _, (HW5.out.bel.setCell (by simp; try omega) _).drew, by
              rw [rot_3 k0 k1 k2 k3 HX.out, ← TV5.out]
              have := tab_step HW5.out.tab
              simp only [Nat.reduceMul, Nat.reduceAdd] at this ⊢
              exact this⟩
            case measure => simp [intOf]
        · obtain rfl : r = 4 := by omega
          clear hw5
          go_wp2
          go_roundw
          case rel => exact ⟨i + 1, f2, by omega, by go_num, HW5.out.z, HW5.out.t, HW5.out.bel, fun x hx hc => HW5.out.tab x hx (by omega)⟩
          case measure => simp [intOf]; omega
    · obtain rfl : i = 256 := by omega
      clear hw
      go_wp2_with (first | (refine wpList_load_arr rfl 189 _ rfl _ rfl HW.out.t Tryz.underlying189 rfl info1024 ?_) | (refine wpList_store_arr rfl 189 _ _ rfl _ rfl rfl HW.out.z info1024 ?_; intro w6 hA hG hS))
      refine ret_arr rfl rfl hA Tryz.underlying189 rfl info1024 rfl ⟨?_, HW.out.bel.grown hG HW.out.bel.size (by simp)⟩
      exact congrArg (fun x => Ending.returned (.agg x)) (arr_congr fun x hx => HW.out.tab x hx (.inl (by omega)))
end Go.Proofs.YtmifebcaifbmoaaGreatDoor.Rj
end

/- Tree -/
section
namespace Go.Proofs.YtmifebcaifbmoaaGreatDoor.Tree
open Go.RowKit Go.Lib
section
variable {P : Program} {K : Act → World → Prop} {Q : Exit → Act → World → Prop} {o : Oper} {a : Act} {w : World}
theorem w_oneC (t e : TypeId) (x : Operand) (ho : o.op = .buildSlice t 1 #[(0, x)]) (cs : Array Value) {n : Nat} (hcs : cs.size = n)
    (hx : a.eval x = .agg cs) (hu : P.underlying t = some (.slice e)) (hi : (P.info? e).map (·.size) = some n) (hz : ((P.info? e).bind (·.zero)).isSome = true) (hn : 0 < n) (hn2 : n ≤ 2 ^ 24)
    (h : K (a.put o.dst (.slice (some ⟨w.heap.size, 0, none⟩) 1 1)) (w.alloc (.cells cs e))) : o.wp P a w K Q := by
  cases hie : P.info? e with
  | none => simp [hie] at hi
  | some ie =>
    simp only [hie, Option.map_some, Option.some.injEq, Option.bind_some] at hi hz
    obtain ⟨z, hzz⟩ := Option.isSome_iff_exists.1 hz
    refine wp_buildSlice t e 1 _ ho _ ie z hu hie hzz (by rw [hi]; omega) (by rw [hi]; omega) ?_ h
    simp only [List.map_toArray, List.map_cons, List.map_nil, hx, hi]
    have := Great.fill_whole (s := n) hn [.agg cs] ((Array.range (1 * n)).map (z.cells[· % z.cells.size]!)) (fun v hv => by simp only [List.mem_singleton] at hv; subst hv; simp [Value.cells, hcs]) (by simp)
    simpa [Value.cells] using this
end
section
variable {P : Program} {Q : Exit → Act → World → Prop} {S : World → Prop} {a : Act} {w : World} {fuel : Nat} {listed : Array Bool} {i : Nat} {o : Oper} {tl l : List Oper} (hi : l.drop i = o :: tl) (hg : Region.wanted o (yielded l.toArray a.tmps) = true) (hs : Region.noSelect l.toArray = true) (hf : Region.free .any l.toArray listed i = true) (hr : (Region.ready .any l.toArray listed).contains i = true) (hS : S w)
include hi hg hs hf hr hS
theorem t_load1 (ty : TypeId) (x : Operand) (ho : o.op = .load ty x) (b off : Nat) (hx : a.eval x = .pointer (some ⟨b, off, none⟩)) {d : TypeDesc} (v : Value) (hA : ∀ w, S w → w.cell? ⟨b, off, none⟩ = some v) (hu : P.underlying ty = some d) (hd : Step.oneD d = true)
    (h : wpAnyH P .any l.toArray (NoPanic Q) S fuel (listed.setIfInBounds i true) (a.put o.dst v) w) : wpAnyH P .any l.toArray (NoPanic Q) S (fuel + 1) listed a w :=
  Step.t_val hi hg hs hf hr hS v (fun w hw => by
    unfold execOp
    simp only [ho, hx, Instr.loadAt, Instr.sureAddr, Sem.run_bind, Sem.run_pure, Result.andThen_ok, Step.run_load1 ty b off hu hd (hA w hw)]) h
theorem t_field (s : TypeId) (x : Operand) (f : Nat) (ho : o.op = .fieldAddr s x f) (b off : Nat) (hx : a.eval x = .pointer (some ⟨b, off, none⟩)) {fs : Array Field} {fd : Field} (hu : P.underlying s = some (.struct fs)) (hfd : fs[f]? = some fd) {sz : Nat} (hi' : (P.info? fd.type).map (·.size) = some sz) (hsz : sz ≠ 0) (off2 : Nat) (ho2 : off + fd.offset = off2)
    (h : wpAnyH P .any l.toArray (NoPanic Q) S fuel (listed.setIfInBounds i true) (a.put o.dst (.pointer (some ⟨b, off2, none⟩))) w) : wpAnyH P .any l.toArray (NoPanic Q) S (fuel + 1) listed a w :=
  Step.t_val hi hg hs hf hr hS _ (fun w _ => by
    subst ho2
    unfold execOp
    simp only [ho, hx, Sem.run_bind, Step.run_field0 s b off f hu hfd hi' hsz, Result.andThen_ok, Sem.run_pure]) h
end
section
variable {P : Program} {Q : Exit → Act → World → Prop} {S : World → Prop} {a : Act} {w0 : World}
theorem w_skip {o : Oper} {w w' : World} {K : Act → World → Prop} (hr : (execOp a.eval o).run P w = .ok .skip w') (h : K (a.put o.dst undef) w') : o.wp P a w K Q := by
  unfold Oper.wp; rw [hr]; exact h

end
/-! plain regions, operation by operation -/
section
variable {P : Program} {ops : Array Oper} {Q : Exit → Act → World → Prop} {a : Act} {w : World} {o : Oper} {rest : List Oper} (hg : Region.wanted o (yielded ops a.tmps) = true)
include hg
theorem p_field (s : TypeId) (x : Operand) (f : Nat) (ho : o.op = .fieldAddr s x f) (b off : Nat) (hx : a.eval x = .pointer (some ⟨b, off, none⟩)) {fs : Array Field} {fd : Field} (hu : P.underlying s = some (.struct fs)) (hfd : fs[f]? = some fd) {sz : Nat} (hi' : (P.info? fd.type).map (·.size) = some sz) (hsz : sz ≠ 0) (off2 : Nat) (ho2 : off + fd.offset = off2)
    (h : wpList P ops Q rest (a.put o.dst (.pointer (some ⟨b, off2, none⟩))) w) : wpList P ops Q (o :: rest) a w :=
  Step.p_val hg _ (by
    subst ho2
    unfold execOp
    simp only [ho, hx, Sem.run_bind, Step.run_field0 s b off f hu hfd hi' hsz, Result.andThen_ok, Sem.run_pure]) h
theorem p_load1 (ty : TypeId) (x : Operand) (ho : o.op = .load ty x) (b off : Nat) (hx : a.eval x = .pointer (some ⟨b, off, none⟩)) {d : TypeDesc} (v : Value) (hA : w.cell? ⟨b, off, none⟩ = some v) (hu : P.underlying ty = some d) (hd : Step.oneD d = true)
    (h : wpList P ops Q rest (a.put o.dst v) w) : wpList P ops Q (o :: rest) a w :=
  Step.p_val hg v (by
    unfold execOp
    simp only [ho, hx, Instr.loadAt, Instr.sureAddr, Sem.run_bind, Sem.run_pure, Result.andThen_ok, Step.run_load1 ty b off hu hd hA]) h
theorem p_loadrow (ty : TypeId) (x : Operand) (ho : o.op = .load ty x) (b : Nat) (hx : a.eval x = .pointer (some ⟨b, 0, none⟩))
    {t : TypeId} {cs : Array Value} {d : TypeDesc} (hA : w.heap[b]? = some (.cells cs t (0, 0))) (hu : P.underlying ty = some d) (hd : (match d with | .struct _ | .array _ _ => true | _ => false) = true)
    (hi : (P.info? ty).map (·.size) = some cs.size) (h : wpList P ops Q rest (a.put o.dst (.agg cs)) w) : wpList P ops Q (o :: rest) a w :=
  Step.p_val hg _ (by
    unfold execOp
    simp only [ho, hx, Instr.loadAt, Instr.sureAddr, Sem.run_bind, Sem.run_pure, Result.andThen_ok, run_loadVar_row w b t ty _ _ d hA hu hd hi]) h
/-- a struct out of the middle of a block -/
theorem p_loadmid (ty : TypeId) (x : Operand) (ho : o.op = .load ty x) (b off : Nat) (hx : a.eval x = .pointer (some ⟨b, off, none⟩))
    (cs : List Value) {d : TypeDesc} (hA : w.rangeAt b off cs) (hu : P.underlying ty = some d) (hd : d.isRow = true)
    (hi' : (P.info? ty).map (·.size) = some cs.length) (h : wpList P ops Q rest (a.put o.dst (.agg cs.toArray)) w) : wpList P ops Q (o :: rest) a w :=
  Step.p_wp hg (wp_load_mid ty x ho b off hx cs d hA hu hd hi' h)
/-- a new variable -/
theorem p_new (ty : TypeId) (ho : o.op = .alloc ty) {z : Value} (hz : (P.info? ty).bind (·.zero) = some z) (h : wpList P ops Q rest (a.put o.dst (.pointer (some ⟨w.heap.size, 0, none⟩))) (w.alloc (.cells z.cells ty))) : wpList P ops Q (o :: rest) a w := by
  cases hie : P.info? ty with
  | none => simp [hie] at hz
  | some ie =>
    simp only [hie, Option.bind_some] at hz
    refine Step.p_wp hg (Step.w_run _ _ (by
      unfold execOp
      have h0 : (zeroValue ty).run P w = .ok z w := by simp [zeroValue, typeInfo, hie, hz]
      simp [ho, Instr.alloc, newVar, newRow, go_sem, h0]) h)
end
end Go.Proofs.YtmifebcaifbmoaaGreatDoor.Tree
end

/- Tree2 -/
section
namespace Go.Proofs.YtmifebcaifbmoaaGreatDoor.Tree
open Go.RowKit Go.Lib
section
variable {P : Program} {Q : Exit → Act → World → Prop} {a : Act} {w : World} {o : Oper} {ops : Array Oper} {rest : List Oper}
/-- a row with cells laid anew -/
def patch (cur : Array Value) (k : Nat) (vs : List Value) : Array Value := (cur.toList.take k ++ vs ++ cur.toList.drop (k + vs.length)).toArray
theorem patch_size (cur : Array Value) (k : Nat) (vs : List Value) (h : k + vs.length ≤ cur.size) : (patch cur k vs).size = cur.size := by
  simp [patch]; omega
theorem run_storemid (t : TypeId) (w : World) (b off : Nat) (cs : Array Value) (hi : (P.info? t).map (·.size) = some cs.size) (h1 : ∀ v ∈ cs.toList, v.oneCell' = true) {T : TypeId} {cur : Array Value} (hb : w.heap[b]? = some (.cells cur T (0, 0))) (ho : off + cs.size ≤ cur.size) :
    (Instr.storeAt t (.pointer (some ⟨b, off, none⟩)) (.agg cs)).run P w = .ok () (w.setRow b (patch cur off cs.toList)) := by
  cases hie : P.info? t with
  | none => simp [hie] at hi
  | some ie =>
    simp only [hie, Option.map_some, Option.some.injEq] at hi
    have hs : (sizeOf t).run P w = .ok cs.size w := by simp [sizeOf, typeInfo, hie, hi]
    have hst := run_storeCells_at P b off T cs.toList 0 cur w hb (by simpa using ho) h1
    simp only [Nat.add_zero] at hst
    simp [Instr.storeAt, go_sem, storeVar, hs, Value.cells, hst, patch]
theorem p_storemid (hgd : o.guard = none) (t : TypeId) (x y : Operand) (ho : o.op = .store t x y) (b off : Nat) (hx : a.eval x = .pointer (some ⟨b, off, none⟩)) (cs : Array Value) (hy : a.eval y = .agg cs) (hi : (P.info? t).map (·.size) = some cs.size) (h1 : ∀ v ∈ cs.toList, v.oneCell' = true) {T : TypeId} {cur : Array Value} (hb : w.heap[b]? = some (.cells cur T (0, 0))) (hol : off + cs.size ≤ cur.size)
    (h : wpList P ops Q rest (a.put o.dst undef) (w.setRow b (patch cur off cs.toList))) : wpList P ops Q (o :: rest) a w :=
  wpList_plain hgd fun K hK => w_skip (by
    unfold execOp
    simp only [ho, hx, hy, Sem.run_bind, run_storemid t w b off cs hi h1 hb hol, Result.andThen_ok, Sem.run_pure]) (hK _ _ h)
end
end Go.Proofs.YtmifebcaifbmoaaGreatDoor.Tree
end
