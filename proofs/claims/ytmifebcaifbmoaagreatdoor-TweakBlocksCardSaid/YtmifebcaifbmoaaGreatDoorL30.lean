/- Parts of the proof of TweakBlocks. Dig1: digest.narrow: blocks of words of 32 bits taken; what the words come to doesn't matter. -/
import Derived.Test.YtmifebcaifbmoaaGreatDoorL00
import Derived.Test.YtmifebcaifbmoaaGreatDoorL29
/- Dig1 -/
section
namespace Go.Proofs.YtmifebcaifbmoaaGreatDoor.Dig
open Go.RowKit Go.Lib Go.Proofs.YtmifebcaifbmoaaGreatDoor.Blk

def lenOf : Value → Nat
  | .slice _ n _ => n
  | _ => 0
/-- what the step of the schedule keeps -/
structure S13 (hb nh : Nat) (T : TypeId) (p : Nat → Value → Prop) (cg cn : Nat) (q : Option Addr) (n wb k : Nat) (xc xd : Int) (w w' : World) : Prop where
  e : NW hb nh T p cg cn q n w w'
  r : RowP w' wb 183 64 (isInt .u32)
  c1 : w'.cell? ⟨wb, k - 16, none⟩ = some (.int .u32 xc)
  c2 : w'.cell? ⟨wb, k - 7, none⟩ = some (.int .u32 xd)
theorem S13.put {hb nh : Nat} {T : TypeId} {p : Nat → Value → Prop} {cg cn : Nat} {q : Option Addr} {n wb k : Nat} {xc xd : Int} {w w1 w2 : World} (h : S13 hb nh T p cg cn q n wb k xc xd w w1) (hg : w1.grownBy w2 (some wb)) (hr : RowP w2 wb 183 64 (isInt .u32)) (hwl : w.heap.size ≤ wb) (hcg : cg < w.heap.size) (hc : ∀ j, j ≠ k → w2.cell? ⟨wb, j, none⟩ = w1.cell? ⟨wb, j, none⟩) (hk : 16 ≤ k := by omega) : S13 hb nh T p cg cn q n wb k xc xd w w2 :=
  ⟨h.e.own hg hwl hcg, hr, (hc _ (by omega)).trans h.c1, (hc _ (by omega)).trans h.c2⟩
set_option maxRecDepth 100000 in
set_option maxHeartbeats 8000000 in
theorem narrow_any (hb ho nh : Nat) (T : TypeId) (p : Nat → Value → Prop) (hnh : ho + 8 ≤ nh) (hp1 : ∀ k, k < 8 → ∀ z, p (ho + k) (.int .u64 z)) (hp2 : ∀ k, k < 8 → ∀ v, p (ho + k) v → ∃ z, v = .int .u64 z) (q : Option Addr) (n cap : Nat) (hn : n ≤ cap) (hc : cap ≤ 9223372036854775807) (w : World) (hN : NW hb nh T p 7 80 q n w w) (hcg : 7 < w.heap.size) :
    Calls Tryz.prog 193 #[.pointer (some ⟨hb, ho, none⟩), .slice q n cap] w fun e w' => e = .returned (.tuple #[]) ∧ NW hb nh T p 7 80 none 0 w w' := by
  have z64 : (Tryz.prog.info? 183).bind (·.zero) = some (.agg (arr .u32 64 fun _ => 0)) := by kernel_rfl
  have z8 : (Tryz.prog.info? 185).bind (·.zero) = some (.agg (arr .u32 8 fun _ => 0)) := by kernel_rfl
  have hi1 : (Tryz.prog.info? 132).map (·.size) = some 1 := by kernel_rfl
  have HN := Lib.hid hN
  have P1 := Lib.hid hp1
  have P2 := Lib.hid hp2
  have hl := hN.hl
  clear hN hp1 hp2
  go_enter Tryz.func193, Tryz.ntmps193
  go_upto_region 0 with fail
  refine wp_region_lit ?_
  refine New.p_newarr rfl 183 rfl .u32 64 z64 ?_
  intro w2 a2 g2 s2
  refine wpList_nil ?_
  simp only [Act.put, sA9, sB9, sC9]
  have E2 := Lib.hid (HN.out.below (Rj.bel_of_gb (_B := 0) g2))
  have R2 := Lib.hid (rowP_of_arr a2)
  obtain ⟨wb, hwb⟩ : ∃ wb, wb = w.heap.size := ⟨_, rfl⟩
  rw [← hwb] at R2 ⊢
  have hwl : w.heap.size ≤ wb := Nat.le_of_eq hwb.symm
  clear hwb a2 g2 s2 HN
  go_wp2
  go_loopw [1] (fun b wr => ∃ (q : Option Addr) (n cap : Nat), b = .slice q n cap ∧ n ≤ cap ∧ cap ≤ 9223372036854775807 ∧ NW hb nh T p 7 80 q n w wr ∧ RowP wr wb 183 64 (isInt .u32)) (fun b _ => lenOf b)
  case atStart => exact ⟨q, n, cap, rfl, hn, hc, E2.out, R2.out⟩
  case round =>
    obtain ⟨q, n, cap, rfl, hn, hc, he, hr⟩ := hrel
    have E := Lib.hid he
    have R := Lib.hid hr
    clear he hr E2 R2
    by_cases hlt : 64 ≤ n
    · obtain ⟨g, off, rfl, _⟩ := E.out.bu 0 (by omega)
      go_wp2
      go_loopw [31] (fun i wr => ∃ k : Nat, k ≤ 16 ∧ i = .int .i64 k ∧ NW hb nh T p 7 80 (some ⟨g, off, none⟩) n w wr ∧ RowP wr wb 183 64 (isInt .u32)) (fun i _ => 16 - (RowKit.intOf i).toNat)
      case atStart => exact ⟨0, by omega, rfl, E.out, R.out⟩
      case round =>
        obtain ⟨k, hk, rfl, he, hr⟩ := hrel
        have E3 := Lib.hid he
        have R3 := Lib.hid hr
        clear he hr E R
        by_cases hlt2 : k < 16
        · skip
          go_upto_region 6 with fail
          refine wp_region_lit ?_
          refine Step.p_move rfl _ rfl (.slice (some ⟨g, off, none⟩) n cap) rfl ?_
          simp only [Act.put, sA9, sB9, sC9]
          refine Step.p_move rfl _ rfl (.int .i64 k) rfl ?_
          simp only [Act.put, sA9, sB9, sC9]
          refine Step.p_val rfl (.int .i64 (4 * k : Nat)) (by unfold execOp; go_simp; try (first | rfl | omega | exact (IntWalk.i64_in _ (by omega)).trans (by omega))) ?_
          simp only [Act.put, sA9, sB9, sC9]
          refine Step.p_move rfl _ rfl (.int .i64 k) rfl ?_
          simp only [Act.put, sA9, sB9, sC9]
          refine Step.p_val rfl (.int .i64 (4 * k : Nat)) (by unfold execOp; go_simp; try (first | rfl | omega | exact (IntWalk.i64_in _ (by omega)).trans (by omega))) ?_
          simp only [Act.put, sA9, sB9, sC9]
          refine Step.p_val rfl (.int .i64 (4 * k + 4 : Nat)) (by unfold execOp; go_simp; try (first | rfl | omega | exact (IntWalk.i64_in _ (by omega)).trans (by omega))) ?_
          simp only [Act.put, sA9, sB9, sC9]
          refine Step.p_val rfl (.slice (some ⟨g, off + 4 * k, none⟩) 4 (cap - 4 * k)) (by unfold execOp; go_simp; rw [if_pos ⟨by omega, by omega⟩, if_pos ⟨by omega, by omega⟩, show (4 * (k : Int)).toNat = 4 * k by omega, show (4 * (k : Int) + 4).toNat = 4 * k + 4 by omega, if_neg (by omega), show 4 * k + 4 - 4 * k = 4 by omega]) ?_
          simp only [Act.put, sA9, sB9, sC9]
          refine Step.p_assign rfl _ rfl (.slice (some ⟨g, off + 4 * k, none⟩) 4 (cap - 4 * k)) rfl ?_
          simp only [Act.put, sA9, sB9, sC9]
          refine wpList_nil ?_
          go_upto_region 7 with fail
          obtain ⟨x0, hx0⟩ : ∃ z, wr.drew.cell? ⟨g, off + 4 * k + 0, none⟩ = some (.int .u8 z) := by
            obtain ⟨_, _, e, _, z, hz⟩ := E3.out.bu (4 * k + 0) (by omega)
            cases e
            exact ⟨z, by rw [Nat.add_assoc]; exact hz⟩
          have HX0 := Lib.hid hx0
          clear hx0
          obtain ⟨x1, hx1⟩ : ∃ z, wr.drew.cell? ⟨g, off + 4 * k + 1, none⟩ = some (.int .u8 z) := by
            obtain ⟨_, _, e, _, z, hz⟩ := E3.out.bu (4 * k + 1) (by omega)
            cases e
            exact ⟨z, by rw [Nat.add_assoc]; exact hz⟩
          have HX1 := Lib.hid hx1
          clear hx1
          obtain ⟨x2, hx2⟩ : ∃ z, wr.drew.cell? ⟨g, off + 4 * k + 2, none⟩ = some (.int .u8 z) := by
            obtain ⟨_, _, e, _, z, hz⟩ := E3.out.bu (4 * k + 2) (by omega)
            cases e
            exact ⟨z, by rw [Nat.add_assoc]; exact hz⟩
          have HX2 := Lib.hid hx2
          clear hx2
          obtain ⟨x3, hx3⟩ : ∃ z, wr.drew.cell? ⟨g, off + 4 * k + 3, none⟩ = some (.int .u8 z) := by
            obtain ⟨_, _, e, _, z, hz⟩ := E3.out.bu (4 * k + 3) (by omega)
            cases e
            exact ⟨z, by rw [Nat.add_assoc]; exact hz⟩
          have HX3 := Lib.hid hx3
          clear hx3
          refine wp_region_still_tail 24 (by kernel_rfl) (by kernel_rfl) ?_
          refine Still.s_move rfl _ rfl (.int .i64 k) rfl ?_
          simp only [Act.put, sA9, sB9, sC9]
          refine Still.s_move rfl _ rfl (.slice (some ⟨g, off + 4 * k, none⟩) 4 (cap - 4 * k)) rfl ?_
          simp only [Act.put, sA9, sB9, sC9]
          refine Still.s_idxS rfl _ 5 _ _ rfl (g) (off + 4 * k) (4) ((cap - 4 * k)) rfl .i64 (0) rfl (by decide) Tryz.underlying22 (size := 1) (by kernel_rfl) (off + 4 * k + 0) (by omega) ?_
          simp only [Act.put, sA9, sB9, sC9]
          refine Still.s_load1 rfl _ _ rfl (g) (off + 4 * k + 0) rfl (.int .u8 x0) (HX0.out) Tryz.underlying5 rfl ?_
          simp only [Act.put, sA9, sB9, sC9]
          refine Dig.s_int rfl .u32 (Dig.ex_conv _ _ _ rfl _ _ _ rfl Tryz.underlying5 Tryz.underlying132) ?_
          intro z1
          simp only [Act.put, sA9, sB9, sC9]
          refine Dig.s_int rfl .u32 (Dig.ex_shl _ _ _ _ rfl _ _ _ 24 rfl rfl) ?_
          intro z2
          simp only [Act.put, sA9, sB9, sC9]
          refine Still.s_move rfl _ rfl (.slice (some ⟨g, off + 4 * k, none⟩) 4 (cap - 4 * k)) rfl ?_
          simp only [Act.put, sA9, sB9, sC9]
          refine Still.s_idxS rfl _ 5 _ _ rfl (g) (off + 4 * k) (4) ((cap - 4 * k)) rfl .i64 (1) rfl (by decide) Tryz.underlying22 (size := 1) (by kernel_rfl) (off + 4 * k + 1) (by omega) ?_
          simp only [Act.put, sA9, sB9, sC9]
          refine Still.s_load1 rfl _ _ rfl (g) (off + 4 * k + 1) rfl (.int .u8 x1) (HX1.out) Tryz.underlying5 rfl ?_
          simp only [Act.put, sA9, sB9, sC9]
          refine Dig.s_int rfl .u32 (Dig.ex_conv _ _ _ rfl _ _ _ rfl Tryz.underlying5 Tryz.underlying132) ?_
          intro z3
          simp only [Act.put, sA9, sB9, sC9]
          refine Dig.s_int rfl .u32 (Dig.ex_shl _ _ _ _ rfl _ _ _ 16 rfl rfl) ?_
          intro z4
          simp only [Act.put, sA9, sB9, sC9]
          refine Dig.s_int rfl .u32 (Dig.ex_bin .or (by simp) _ _ _ _ rfl _ _ _ rfl rfl) ?_
          intro z5
          simp only [Act.put, sA9, sB9, sC9]
          refine Still.s_move rfl _ rfl (.slice (some ⟨g, off + 4 * k, none⟩) 4 (cap - 4 * k)) rfl ?_
          simp only [Act.put, sA9, sB9, sC9]
          refine Still.s_idxS rfl _ 5 _ _ rfl (g) (off + 4 * k) (4) ((cap - 4 * k)) rfl .i64 (2) rfl (by decide) Tryz.underlying22 (size := 1) (by kernel_rfl) (off + 4 * k + 2) (by omega) ?_
          simp only [Act.put, sA9, sB9, sC9]
          refine Still.s_load1 rfl _ _ rfl (g) (off + 4 * k + 2) rfl (.int .u8 x2) (HX2.out) Tryz.underlying5 rfl ?_
          simp only [Act.put, sA9, sB9, sC9]
          refine Dig.s_int rfl .u32 (Dig.ex_conv _ _ _ rfl _ _ _ rfl Tryz.underlying5 Tryz.underlying132) ?_
          intro z6
          simp only [Act.put, sA9, sB9, sC9]
          refine Dig.s_int rfl .u32 (Dig.ex_shl _ _ _ _ rfl _ _ _ 8 rfl rfl) ?_
          intro z7
          simp only [Act.put, sA9, sB9, sC9]
          refine Dig.s_int rfl .u32 (Dig.ex_bin .or (by simp) _ _ _ _ rfl _ _ _ rfl rfl) ?_
          intro z8
          simp only [Act.put, sA9, sB9, sC9]
          refine Still.s_move rfl _ rfl (.slice (some ⟨g, off + 4 * k, none⟩) 4 (cap - 4 * k)) rfl ?_
          simp only [Act.put, sA9, sB9, sC9]
          refine Still.s_idxS rfl _ 5 _ _ rfl (g) (off + 4 * k) (4) ((cap - 4 * k)) rfl .i64 (3) rfl (by decide) Tryz.underlying22 (size := 1) (by kernel_rfl) (off + 4 * k + 3) (by omega) ?_
          simp only [Act.put, sA9, sB9, sC9]
          refine Still.s_load1 rfl _ _ rfl (g) (off + 4 * k + 3) rfl (.int .u8 x3) (HX3.out) Tryz.underlying5 rfl ?_
          simp only [Act.put, sA9, sB9, sC9]
          refine Dig.s_int rfl .u32 (Dig.ex_conv _ _ _ rfl _ _ _ rfl Tryz.underlying5 Tryz.underlying132) ?_
          intro z9
          simp only [Act.put, sA9, sB9, sC9]
          refine Dig.s_int rfl .u32 (Dig.ex_bin .or (by simp) _ _ _ _ rfl _ _ _ rfl rfl) ?_
          intro z10
          simp only [Act.put, sA9, sB9, sC9]
          refine Still.s_idxA rfl _ 132 _ _ rfl (wb) (0) rfl .i64 (k) rfl (by omega) Tryz.underlying183 (size := 1) (by kernel_rfl) (k) (by omega) ?_
          simp only [Act.put, sA9, sB9, sC9]
          refine wpStill_nil ?_
          simp only [List.drop]
          change wpList _ _ _ _ _ wr.drew
          refine p_storeP rfl 132 _ _ rfl wb k rfl .u32 z10 rfl hi1 (show RowP wr.drew wb 183 64 (isInt .u32) from R3.out) (by omega) ⟨_, rfl⟩ ?_
          intro w4 r4 g4 _
          simp only [Act.put]
          refine wpList_nil ?_
          have E4 := Lib.hid (E3.out.drew.own g4 hwl hcg)
          have R4 := Lib.hid r4
          clear r4 g4 E3 R3 HX0 HX1 HX2 HX3
          go_wp2
          exact ⟨⟨k + 1, by omega, by go_num, E4.out, R4.out⟩, by simp [RowKit.intOf]; omega⟩
        · obtain rfl : k = 16 := by omega
          go_wp2
          go_loopw [7] (fun i wr => ∃ k : Nat, 16 ≤ k ∧ k ≤ 64 ∧ i = .int .i64 k ∧ NW hb nh T p 7 80 (some ⟨g, off, none⟩) n w wr ∧ RowP wr wb 183 64 (isInt .u32)) (fun i _ => 64 - (RowKit.intOf i).toNat)
          case atStart => exact ⟨16, by omega, by omega, rfl, E3.out, R3.out⟩
          case round =>
            obtain ⟨k, hk1, hk2, rfl, he, hr⟩ := hrel
            have E4 := Lib.hid he
            have R4 := Lib.hid hr
            clear he hr E3 R3
            by_cases hlt3 : k < 64
            · skip
              obtain ⟨xa, hxa⟩ := R4.out.num (j := k - 15) (by omega)
              have Hxa := Lib.hid hxa
              clear hxa
              obtain ⟨xb, hxb⟩ := R4.out.num (j := k - 2) (by omega)
              have Hxb := Lib.hid hxb
              clear hxb
              obtain ⟨xc, hxc⟩ := R4.out.num (j := k - 16) (by omega)
              have Hxc := Lib.hid hxc
              clear hxc
              obtain ⟨xd, hxd⟩ := R4.out.num (j := k - 7) (by omega)
              have Hxd := Lib.hid hxd
              clear hxd
              go_upto_region 12 with fail
              refine Step.wp_region_class (C := fun w' => Below wr.heap.size wr w') (by kernel_rfl) (by kernel_rfl) (Below.refl _ _).drew ?_
              refine Step.q_move rfl _ rfl (.int .i64 k) rfl ?_
              simp only [Act.put, sA9, sB9, sC9]
              refine Step.q_pure rfl (.int .i64 (k - 15 : Nat)) (fun w' => by unfold execOp; go_simp; try (first | rfl | omega | exact (IntWalk.i64_in _ (by omega)).trans (by omega))) ?_
              simp only [Act.put, sA9, sB9, sC9]
              refine Still.q_idxA rfl _ 132 _ _ rfl (wb) (0) rfl .i64 ((k - 15)) rfl (by omega) Tryz.underlying183 (size := 1) (by kernel_rfl) (k - 15) (by omega) ?_
              simp only [Act.put, sA9, sB9, sC9]
              refine Step.q_load1 rfl _ _ rfl (wb) (k - 15) rfl (.int .u32 xa) (fun w' hw' => (hw'.cell (p := ⟨wb, k - 15, none⟩) (Frame.block_lt (Hxa.out))).trans (Hxa.out)) Tryz.underlying132 rfl ?_
              simp only [Act.put, sA9, sB9, sC9]
              refine Step.q_move rfl _ rfl (.int .i64 k) rfl ?_
              simp only [Act.put, sA9, sB9, sC9]
              refine Step.q_pure rfl (.int .i64 (k - 2 : Nat)) (fun w' => by unfold execOp; go_simp; try (first | rfl | omega | exact (IntWalk.i64_in _ (by omega)).trans (by omega))) ?_
              simp only [Act.put, sA9, sB9, sC9]
              refine Still.q_idxA rfl _ 132 _ _ rfl (wb) (0) rfl .i64 ((k - 2)) rfl (by omega) Tryz.underlying183 (size := 1) (by kernel_rfl) (k - 2) (by omega) ?_
              simp only [Act.put, sA9, sB9, sC9]
              refine Step.q_load1 rfl _ _ rfl (wb) (k - 2) rfl (.int .u32 xb) (fun w' hw' => (hw'.cell (p := ⟨wb, k - 2, none⟩) (Frame.block_lt (Hxb.out))).trans (Hxb.out)) Tryz.underlying132 rfl ?_
              simp only [Act.put, sA9, sB9, sC9]
              refine Step.q_assign rfl _ rfl (.int .u32 xa) rfl ?_
              simp only [Act.put, sA9, sB9, sC9]
              refine Step.q_assign rfl _ rfl (.int .u32 xb) rfl ?_
              simp only [Act.put, sA9, sB9, sC9]
              refine wpQuiet_nil ?_
              intro w5 hbw
              have E5 := Lib.hid (E4.out.below hbw)
              have R5 := Lib.hid (R4.out.below hbw R4.out.lt)
              have S5 : Hid (S13 hb nh T p 7 80 (some ⟨g, off, none⟩) n wb k xc xd w w5.drew) := Lib.hid ⟨E5.out.drew, R5.out, (hbw.cell (p := ⟨wb, k - 16, none⟩) (Frame.block_lt Hxc.out)).trans Hxc.out, (hbw.cell (p := ⟨wb, k - 7, none⟩) (Frame.block_lt Hxd.out)).trans Hxd.out⟩
              clear hbw E4 R4 Hxa Hxb Hxc Hxd E5 R5
              obtain ⟨ra, hra⟩ := rot_any (-7) 25 (by kernel_rfl) (by decide) xa
              have Hra := Lib.hid hra
              clear hra
              obtain ⟨rb, hrb⟩ := rot_any (-18) 14 (by kernel_rfl) (by decide) xa
              have Hrb := Lib.hid hrb
              clear hrb
              obtain ⟨rc, hrc⟩ := rot_any (-17) 15 (by kernel_rfl) (by decide) xb
              have Hrc := Lib.hid hrc
              clear hrc
              obtain ⟨rd, hrd⟩ := rot_any (-19) 13 (by kernel_rfl) (by decide) xb
              have Hrd := Lib.hid hrd
              clear hrd
              go_upto_region 13 with fail
              refine Step.begin_ (S := fun w' => S13 hb nh T p 7 80 (some ⟨g, off, none⟩) n wb k xc xd w w') 30 rfl (by kernel_rfl) S5.out ?_
              intro hS
              have SX := Lib.hid hS
              clear hS S5
              refine Step.t_move (i := 0) rfl rfl (by kernel_rfl) (by kernel_rfl) (by kernel_rfl) SX.out _ rfl (.int .i64 k) rfl ?_
              simp only [Act.put, sA9, sB9, sC9]
              refine Step.t_move (i := 1) rfl rfl (by kernel_rfl) (by kernel_rfl) (by kernel_rfl) SX.out _ rfl (.int .i64 k) rfl ?_
              simp only [Act.put, sA9, sB9, sC9]
              refine Step.t_val (i := 2) rfl rfl (by kernel_rfl) (by kernel_rfl) (by kernel_rfl) SX.out (.int .i64 (k - 16 : Nat)) (fun w' _ => by unfold execOp; go_simp; try (first | rfl | omega | exact (IntWalk.i64_in _ (by omega)).trans (by omega))) ?_
              simp only [Act.put, sA9, sB9, sC9]
              refine Dig.t_idxA (i := 3) rfl rfl (by kernel_rfl) (by kernel_rfl) (by kernel_rfl) SX.out _ 132 _ _ rfl (wb) (0) rfl .i64 ((k - 16)) rfl (by omega) Tryz.underlying183 (size := 1) (by kernel_rfl) (k - 16) (by omega) ?_
              simp only [Act.put, sA9, sB9, sC9]
              refine Tree.t_load1 (i := 4) rfl rfl (by kernel_rfl) (by kernel_rfl) (by kernel_rfl) SX.out _ _ rfl (wb) (k - 16) rfl (.int .u32 xc) (fun _ h => h.c1) Tryz.underlying132 rfl ?_
              simp only [Act.put, sA9, sB9, sC9]
              refine Step.t_move (i := 5) rfl rfl (by kernel_rfl) (by kernel_rfl) (by kernel_rfl) SX.out _ rfl (.int .i64 k) rfl ?_
              simp only [Act.put, sA9, sB9, sC9]
              refine Step.t_val (i := 6) rfl rfl (by kernel_rfl) (by kernel_rfl) (by kernel_rfl) SX.out (.int .i64 (k - 7 : Nat)) (fun w' _ => by unfold execOp; go_simp; try (first | rfl | omega | exact (IntWalk.i64_in _ (by omega)).trans (by omega))) ?_
              simp only [Act.put, sA9, sB9, sC9]
              refine Dig.t_idxA (i := 7) rfl rfl (by kernel_rfl) (by kernel_rfl) (by kernel_rfl) SX.out _ 132 _ _ rfl (wb) (0) rfl .i64 ((k - 7)) rfl (by omega) Tryz.underlying183 (size := 1) (by kernel_rfl) (k - 7) (by omega) ?_
              simp only [Act.put, sA9, sB9, sC9]
              refine Tree.t_load1 (i := 8) rfl rfl (by kernel_rfl) (by kernel_rfl) (by kernel_rfl) SX.out _ _ rfl (wb) (k - 7) rfl (.int .u32 xd) (fun _ h => h.c2) Tryz.underlying132 rfl ?_
              simp only [Act.put, sA9, sB9, sC9]
              refine Dig.t_int (i := 9) rfl rfl (by kernel_rfl) (by kernel_rfl) (by kernel_rfl) SX.out .u32 (Dig.ex_bin .add (by simp) _ _ _ _ rfl _ _ _ rfl rfl) ?_
              intro z11
              simp only [Act.put, sA9, sB9, sC9]
              refine Step.t_move (i := 10) rfl rfl (by kernel_rfl) (by kernel_rfl) (by kernel_rfl) SX.out _ rfl (.int .u32 xa) rfl ?_
              simp only [Act.put, sA9, sB9, sC9]
              refine Step.t_move (i := 12) rfl rfl (by kernel_rfl) (by kernel_rfl) (by kernel_rfl) SX.out _ rfl (.int .u32 xa) rfl ?_
              simp only [Act.put, sA9, sB9, sC9]
              refine Step.t_move (i := 15) rfl rfl (by kernel_rfl) (by kernel_rfl) (by kernel_rfl) SX.out _ rfl (.int .u32 xa) rfl ?_
              simp only [Act.put, sA9, sB9, sC9]
              refine Dig.t_int (i := 16) rfl rfl (by kernel_rfl) (by kernel_rfl) (by kernel_rfl) SX.out .u32 (Dig.ex_shr _ _ _ _ rfl _ _ _ 3 rfl rfl) ?_
              intro z12
              simp only [Act.put, sA9, sB9, sC9]
              refine Step.t_move (i := 19) rfl rfl (by kernel_rfl) (by kernel_rfl) (by kernel_rfl) SX.out _ rfl (.int .u32 xb) rfl ?_
              simp only [Act.put, sA9, sB9, sC9]
              refine Step.t_move (i := 21) rfl rfl (by kernel_rfl) (by kernel_rfl) (by kernel_rfl) SX.out _ rfl (.int .u32 xb) rfl ?_
              simp only [Act.put, sA9, sB9, sC9]
              refine Step.t_move (i := 24) rfl rfl (by kernel_rfl) (by kernel_rfl) (by kernel_rfl) SX.out _ rfl (.int .u32 xb) rfl ?_
              simp only [Act.put, sA9, sB9, sC9]
              refine Dig.t_int (i := 25) rfl rfl (by kernel_rfl) (by kernel_rfl) (by kernel_rfl) SX.out .u32 (Dig.ex_shr _ _ _ _ rfl _ _ _ 10 rfl rfl) ?_
              intro z13
              simp only [Act.put, sA9, sB9, sC9]
              refine Step.t_one (i := 11) rfl rfl (by kernel_rfl) ?_
              refine Step.w_callx 186 [.tmp 88, .const (.int .i64 (-7))] _ rfl Tryz.func186 (by kernel_rfl) rfl [.int .u32 xa, .int .i64 (-7)] rfl (Hra.out _) ?_
              rintro e wv ⟨rfl, hw⟩
              subst hw
              refine ⟨_, rfl, SX.out, ?_⟩
              simp only [Act.put, sA9, sB9, sC9]
              refine Step.t_one (i := 13) rfl rfl (by kernel_rfl) ?_
              refine Step.w_callx 186 [.tmp 90, .const (.int .i64 (-18))] _ rfl Tryz.func186 (by kernel_rfl) rfl [.int .u32 xa, .int .i64 (-18)] rfl (Hrb.out _) ?_
              rintro e wv ⟨rfl, hw⟩
              subst hw
              refine ⟨_, rfl, SX.out, ?_⟩
              simp only [Act.put, sA9, sB9, sC9]
              refine Dig.t_int (i := 14) rfl rfl (by kernel_rfl) (by kernel_rfl) (by kernel_rfl) SX.out .u32 (Dig.ex_bin .xor (by simp) _ _ _ _ rfl _ _ _ rfl rfl) ?_
              intro z14
              simp only [Act.put, sA9, sB9, sC9]
              refine Dig.t_int (i := 17) rfl rfl (by kernel_rfl) (by kernel_rfl) (by kernel_rfl) SX.out .u32 (Dig.ex_bin .xor (by simp) _ _ _ _ rfl _ _ _ rfl rfl) ?_
              intro z15
              simp only [Act.put, sA9, sB9, sC9]
              refine Dig.t_int (i := 18) rfl rfl (by kernel_rfl) (by kernel_rfl) (by kernel_rfl) SX.out .u32 (Dig.ex_bin .add (by simp) _ _ _ _ rfl _ _ _ rfl rfl) ?_
              intro z16
              simp only [Act.put, sA9, sB9, sC9]
              refine Step.t_one (i := 20) rfl rfl (by kernel_rfl) ?_
              refine Step.w_callx 186 [.tmp 97, .const (.int .i64 (-17))] _ rfl Tryz.func186 (by kernel_rfl) rfl [.int .u32 xb, .int .i64 (-17)] rfl (Hrc.out _) ?_
              rintro e wv ⟨rfl, hw⟩
              subst hw
              refine ⟨_, rfl, SX.out, ?_⟩
              simp only [Act.put, sA9, sB9, sC9]
              refine Step.t_one (i := 22) rfl rfl (by kernel_rfl) ?_
              refine Step.w_callx 186 [.tmp 99, .const (.int .i64 (-19))] _ rfl Tryz.func186 (by kernel_rfl) rfl [.int .u32 xb, .int .i64 (-19)] rfl (Hrd.out _) ?_
              rintro e wv ⟨rfl, hw⟩
              subst hw
              refine ⟨_, rfl, SX.out, ?_⟩
              simp only [Act.put, sA9, sB9, sC9]
              refine Dig.t_int (i := 23) rfl rfl (by kernel_rfl) (by kernel_rfl) (by kernel_rfl) SX.out .u32 (Dig.ex_bin .xor (by simp) _ _ _ _ rfl _ _ _ rfl rfl) ?_
              intro z17
              simp only [Act.put, sA9, sB9, sC9]
              refine Dig.t_int (i := 26) rfl rfl (by kernel_rfl) (by kernel_rfl) (by kernel_rfl) SX.out .u32 (Dig.ex_bin .xor (by simp) _ _ _ _ rfl _ _ _ rfl rfl) ?_
              intro z18
              simp only [Act.put, sA9, sB9, sC9]
              refine Dig.t_int (i := 27) rfl rfl (by kernel_rfl) (by kernel_rfl) (by kernel_rfl) SX.out .u32 (Dig.ex_bin .add (by simp) _ _ _ _ rfl _ _ _ rfl rfl) ?_
              intro z19
              simp only [Act.put, sA9, sB9, sC9]
              refine Dig.t_idxA (i := 28) rfl rfl (by kernel_rfl) (by kernel_rfl) (by kernel_rfl) SX.out _ 132 _ _ rfl (wb) (0) rfl .i64 (k) rfl (by omega) Tryz.underlying183 (size := 1) (by kernel_rfl) (k) (by omega) ?_
              simp only [Act.put, sA9, sB9, sC9]
              refine Step.t_one (i := 29) rfl rfl (by kernel_rfl) ?_
              refine w_storeP 132 _ _ rfl wb k rfl .u32 z19 rfl hi1 SX.out.r (by omega) ⟨_, rfl⟩ ?_
              intro w6 r6 g6 hc6
              have S6 := Lib.hid (SX.out.put g6 r6 hwl hcg hc6)
              refine ⟨S6.out, ?_⟩
              simp only [Act.put]
              refine Step.t_end (by kernel_rfl) ?_
              clear r6 g6 hc6 SX
              go_wp2
              exact ⟨⟨k + 1, by omega, by omega, by go_num, S6.out.e, S6.out.r⟩, by simp [RowKit.intOf]; omega⟩
            · obtain rfl : k = 64 := by omega
              go_upto_region 14 with fail
              refine wp_region_lit ?_
              refine New.p_newarr rfl 185 rfl .u32 8 z8 ?_
              intro w6 a6 g6 s6
              refine wpList_nil ?_
              simp only [Act.put, sA9, sB9, sC9]
              have E5 := Lib.hid (E4.out.below (Rj.bel_of_gb (_B := 0) g6))
              have R5 := Lib.hid (R4.out.below (Rj.bel_of_gb (_B := 0) g6) R4.out.lt)
              have V5 := Lib.hid (rowP_of_arr a6)
              obtain ⟨vb, hvb⟩ : ∃ vb, vb = wr.heap.size := ⟨_, rfl⟩
              rw [← hvb] at V5 ⊢
              have hvl : w.heap.size ≤ vb := by rw [hvb]; exact E4.out.gb.size
              have hvw : wb ≠ vb := by rw [hvb]; exact Nat.ne_of_lt R4.out.lt
              clear hvb a6 g6 s6 E4 R4
              go_wp2
              go_loopw [107] (fun i wr => ∃ k : Nat, k ≤ 8 ∧ i = .int .i64 k ∧ NW hb nh T p 7 80 (some ⟨g, off, none⟩) n w wr ∧ RowP wr wb 183 64 (isInt .u32) ∧ RowP wr vb 185 8 (isInt .u32)) (fun i _ => 8 - (RowKit.intOf i).toNat)
              case atStart => exact ⟨0, by omega, rfl, E5.out, R5.out, V5.out⟩
              case round =>
                obtain ⟨k, hk, rfl, he, hr, hv⟩ := hrel
                have E6 := Lib.hid he
                have R6 := Lib.hid hr
                have V6 := Lib.hid hv
                clear he hr hv E5 R5 V5
                by_cases hlt4 : k < 8
                · skip
                  obtain ⟨u0, hu0, hu1⟩ := E6.out.h.cell (j := ho + k) (by omega)
                  obtain ⟨x, rfl⟩ := P2.out k hlt4 u0 hu1
                  have HX := Lib.hid hu0
                  clear hu0 hu1
                  go_upto_region 18 with fail
                  refine wp_region_lit ?_
                  refine Step.p_move rfl _ rfl (.int .i64 k) rfl ?_
                  simp only [Act.put, sA9, sB9, sC9]
                  refine Step.p_move rfl _ rfl (.pointer (some ⟨hb, ho, none⟩)) rfl ?_
                  simp only [Act.put, sA9, sB9, sC9]
                  refine Step.p_move rfl _ rfl (.int .i64 k) rfl ?_
                  simp only [Act.put, sA9, sB9, sC9]
                  refine Step.p_val rfl (.pointer (some ⟨hb, ho, none⟩)) (by unfold execOp; go_simp; try rfl) ?_
                  simp only [Act.put, sA9, sB9, sC9]
                  refine Still.p_idxA rfl _ 25 _ _ rfl (hb) (ho) rfl .i64 (k) rfl (by omega) Tryz.underlying125 (size := 1) (by kernel_rfl) (ho + k) (by omega) ?_
                  simp only [Act.put, sA9, sB9, sC9]
                  refine Tree.p_load1 rfl _ _ rfl (hb) (ho + k) rfl (.int .u64 x) (HX.out) Tryz.underlying25 rfl ?_
                  simp only [Act.put, sA9, sB9, sC9]
                  refine Dig.p_int rfl .u32 (Dig.ex_conv _ _ _ rfl _ _ _ rfl Tryz.underlying25 Tryz.underlying132) ?_
                  intro z20
                  simp only [Act.put, sA9, sB9, sC9]
                  refine Still.p_idxA rfl _ 132 _ _ rfl (vb) (0) rfl .i64 (k) rfl (by omega) Tryz.underlying185 (size := 1) (by kernel_rfl) (k) (by omega) ?_
                  simp only [Act.put, sA9, sB9, sC9]
                  refine p_storeP rfl 132 _ _ rfl vb k rfl .u32 z20 rfl hi1 V6.out (by omega) ⟨_, rfl⟩ ?_
                  intro w7 v7 g7 _
                  simp only [Act.put]
                  refine wpList_nil ?_
                  have E7 := Lib.hid (E6.out.own g7 hvl hcg)
                  have R7 := Lib.hid (R6.out.other g7 hvw)
                  have V7 := Lib.hid v7
                  clear v7 g7 E6 R6 V6 HX
                  go_wp2
                  exact ⟨⟨k + 1, by omega, by go_num, E7.out, R7.out, V7.out⟩, by simp [RowKit.intOf]; omega⟩
                · obtain rfl : k = 8 := by omega
                  obtain ⟨y0, hy0⟩ := V6.out.num (j := 0) (by decide)
                  have HY0 := Lib.hid hy0
                  clear hy0
                  obtain ⟨y1, hy1⟩ := V6.out.num (j := 1) (by decide)
                  have HY1 := Lib.hid hy1
                  clear hy1
                  obtain ⟨y2, hy2⟩ := V6.out.num (j := 2) (by decide)
                  have HY2 := Lib.hid hy2
                  clear hy2
                  obtain ⟨y3, hy3⟩ := V6.out.num (j := 3) (by decide)
                  have HY3 := Lib.hid hy3
                  clear hy3
                  obtain ⟨y4, hy4⟩ := V6.out.num (j := 4) (by decide)
                  have HY4 := Lib.hid hy4
                  clear hy4
                  obtain ⟨y5, hy5⟩ := V6.out.num (j := 5) (by decide)
                  have HY5 := Lib.hid hy5
                  clear hy5
                  obtain ⟨y6, hy6⟩ := V6.out.num (j := 6) (by decide)
                  have HY6 := Lib.hid hy6
                  clear hy6
                  obtain ⟨y7, hy7⟩ := V6.out.num (j := 7) (by decide)
                  have HY7 := Lib.hid hy7
                  clear hy7
                  go_upto_region 20 with fail
                  refine Step.wp_region_class (C := fun w' => Below wr.heap.size wr w') (by kernel_rfl) (by kernel_rfl) (Below.refl _ _).drew ?_
                  refine Still.q_idxA rfl _ 132 _ _ rfl (vb) (0) rfl .i64 (0) rfl (by decide) Tryz.underlying185 (size := 1) (by kernel_rfl) (0) (by decide) ?_
                  simp only [Act.put, sA9, sB9, sC9]
                  refine Step.q_load1 rfl _ _ rfl (vb) (0) rfl (.int .u32 y0) (fun w' hw' => (hw'.cell (p := ⟨vb, 0, none⟩) (Frame.block_lt (HY0.out))).trans (HY0.out)) Tryz.underlying132 rfl ?_
                  simp only [Act.put, sA9, sB9, sC9]
                  refine Still.q_idxA rfl _ 132 _ _ rfl (vb) (0) rfl .i64 (1) rfl (by decide) Tryz.underlying185 (size := 1) (by kernel_rfl) (1) (by decide) ?_
                  simp only [Act.put, sA9, sB9, sC9]
                  refine Step.q_load1 rfl _ _ rfl (vb) (1) rfl (.int .u32 y1) (fun w' hw' => (hw'.cell (p := ⟨vb, 1, none⟩) (Frame.block_lt (HY1.out))).trans (HY1.out)) Tryz.underlying132 rfl ?_
                  simp only [Act.put, sA9, sB9, sC9]
                  refine Still.q_idxA rfl _ 132 _ _ rfl (vb) (0) rfl .i64 (2) rfl (by decide) Tryz.underlying185 (size := 1) (by kernel_rfl) (2) (by decide) ?_
                  simp only [Act.put, sA9, sB9, sC9]
                  refine Step.q_load1 rfl _ _ rfl (vb) (2) rfl (.int .u32 y2) (fun w' hw' => (hw'.cell (p := ⟨vb, 2, none⟩) (Frame.block_lt (HY2.out))).trans (HY2.out)) Tryz.underlying132 rfl ?_
                  simp only [Act.put, sA9, sB9, sC9]
                  refine Still.q_idxA rfl _ 132 _ _ rfl (vb) (0) rfl .i64 (3) rfl (by decide) Tryz.underlying185 (size := 1) (by kernel_rfl) (3) (by decide) ?_
                  simp only [Act.put, sA9, sB9, sC9]
                  refine Step.q_load1 rfl _ _ rfl (vb) (3) rfl (.int .u32 y3) (fun w' hw' => (hw'.cell (p := ⟨vb, 3, none⟩) (Frame.block_lt (HY3.out))).trans (HY3.out)) Tryz.underlying132 rfl ?_
                  simp only [Act.put, sA9, sB9, sC9]
                  refine Still.q_idxA rfl _ 132 _ _ rfl (vb) (0) rfl .i64 (4) rfl (by decide) Tryz.underlying185 (size := 1) (by kernel_rfl) (4) (by decide) ?_
                  simp only [Act.put, sA9, sB9, sC9]
                  refine Step.q_load1 rfl _ _ rfl (vb) (4) rfl (.int .u32 y4) (fun w' hw' => (hw'.cell (p := ⟨vb, 4, none⟩) (Frame.block_lt (HY4.out))).trans (HY4.out)) Tryz.underlying132 rfl ?_
                  simp only [Act.put, sA9, sB9, sC9]
                  refine Still.q_idxA rfl _ 132 _ _ rfl (vb) (0) rfl .i64 (5) rfl (by decide) Tryz.underlying185 (size := 1) (by kernel_rfl) (5) (by decide) ?_
                  simp only [Act.put, sA9, sB9, sC9]
                  refine Step.q_load1 rfl _ _ rfl (vb) (5) rfl (.int .u32 y5) (fun w' hw' => (hw'.cell (p := ⟨vb, 5, none⟩) (Frame.block_lt (HY5.out))).trans (HY5.out)) Tryz.underlying132 rfl ?_
                  simp only [Act.put, sA9, sB9, sC9]
                  refine Still.q_idxA rfl _ 132 _ _ rfl (vb) (0) rfl .i64 (6) rfl (by decide) Tryz.underlying185 (size := 1) (by kernel_rfl) (6) (by decide) ?_
                  simp only [Act.put, sA9, sB9, sC9]
                  refine Step.q_load1 rfl _ _ rfl (vb) (6) rfl (.int .u32 y6) (fun w' hw' => (hw'.cell (p := ⟨vb, 6, none⟩) (Frame.block_lt (HY6.out))).trans (HY6.out)) Tryz.underlying132 rfl ?_
                  simp only [Act.put, sA9, sB9, sC9]
                  refine Still.q_idxA rfl _ 132 _ _ rfl (vb) (0) rfl .i64 (7) rfl (by decide) Tryz.underlying185 (size := 1) (by kernel_rfl) (7) (by decide) ?_
                  simp only [Act.put, sA9, sB9, sC9]
                  refine Step.q_load1 rfl _ _ rfl (vb) (7) rfl (.int .u32 y7) (fun w' hw' => (hw'.cell (p := ⟨vb, 7, none⟩) (Frame.block_lt (HY7.out))).trans (HY7.out)) Tryz.underlying132 rfl ?_
                  simp only [Act.put, sA9, sB9, sC9]
                  refine Step.q_assign rfl _ rfl (.int .u32 y0) rfl ?_
                  simp only [Act.put, sA9, sB9, sC9]
                  refine Step.q_assign rfl _ rfl (.int .u32 y1) rfl ?_
                  simp only [Act.put, sA9, sB9, sC9]
                  refine Step.q_assign rfl _ rfl (.int .u32 y2) rfl ?_
                  simp only [Act.put, sA9, sB9, sC9]
                  refine Step.q_assign rfl _ rfl (.int .u32 y3) rfl ?_
                  simp only [Act.put, sA9, sB9, sC9]
                  refine Step.q_assign rfl _ rfl (.int .u32 y4) rfl ?_
                  simp only [Act.put, sA9, sB9, sC9]
                  refine Step.q_assign rfl _ rfl (.int .u32 y5) rfl ?_
                  simp only [Act.put, sA9, sB9, sC9]
                  refine Step.q_assign rfl _ rfl (.int .u32 y6) rfl ?_
                  simp only [Act.put, sA9, sB9, sC9]
                  refine Step.q_assign rfl _ rfl (.int .u32 y7) rfl ?_
                  simp only [Act.put, sA9, sB9, sC9]
                  refine wpQuiet_nil ?_
                  intro w8 hbw
                  have E8 := Lib.hid (E6.out.below hbw)
                  have R8 := Lib.hid (R6.out.below hbw R6.out.lt)
                  have V8 := Lib.hid (V6.out.below hbw V6.out.lt)
                  clear hbw E6 R6 V6 HY0 HY1 HY2 HY3 HY4 HY5 HY6 HY7
                  go_wp2
                  go_loopw [135, 12, 13, 14, 15, 16, 17, 18, 19] (fun i a0 a1 a2 a3 a4 a5 a6 a7 wr => ∃ (k : Nat) (z0 z1 z2 z3 z4 z5 z6 z7 : Int), k ≤ 64 ∧ i = .int .i64 k ∧ a0 = .int .u32 z0 ∧ a1 = .int .u32 z1 ∧ a2 = .int .u32 z2 ∧ a3 = .int .u32 z3 ∧ a4 = .int .u32 z4 ∧ a5 = .int .u32 z5 ∧ a6 = .int .u32 z6 ∧ a7 = .int .u32 z7 ∧ NW hb nh T p 7 80 (some ⟨g, off, none⟩) n w wr ∧ RowP wr wb 183 64 (isInt .u32) ∧ RowP wr vb 185 8 (isInt .u32)) (fun i _ _ _ _ _ _ _ _ _ => 64 - (RowKit.intOf i).toNat)
                  case atStart => exact ⟨0, _, _, _, _, _, _, _, _, by omega, rfl, rfl, rfl, rfl, rfl, rfl, rfl, rfl, rfl, E8.out, R8.out, V8.out⟩
                  case round =>
                    obtain ⟨k, e0, e1, e2, e3, e4, e5, e6, e7, hk, rfl, rfl, rfl, rfl, rfl, rfl, rfl, rfl, rfl, he, hr, hv⟩ := hrel
                    have E9 := Lib.hid he
                    have R9 := Lib.hid hr
                    have V9 := Lib.hid hv
                    clear he hr hv E8 R8 V8
                    by_cases hlt5 : k < 64
                    · skip
                      obtain ⟨cu, hcu⟩ := E9.out.cu k (by omega)
                      have HCU := Lib.hid hcu
                      clear hcu
                      obtain ⟨xw, hxw⟩ := R9.out.num (j := k) (by omega)
                      have HXW := Lib.hid hxw
                      clear hxw
                      go_upto_region 24 with fail
                      refine wp_region_lit ?_
                      refine Step.p_move rfl _ rfl (.int .i64 k) rfl ?_
                      simp only [Act.put, sA9, sB9, sC9]
                      refine Still.p_idxA rfl _ 25 _ _ rfl (7) (0) rfl .i64 (k) rfl (by omega) Tryz.underlying184 (size := 1) (by kernel_rfl) (k) (by omega) ?_
                      simp only [Act.put, sA9, sB9, sC9]
                      refine Tree.p_load1 rfl _ _ rfl (7) (k) rfl (.int .u64 cu) (HCU.out) Tryz.underlying25 rfl ?_
                      simp only [Act.put, sA9, sB9, sC9]
                      refine Dig.p_int rfl .u64 (Dig.ex_shr _ _ _ _ rfl _ _ _ 32 rfl rfl) ?_
                      intro z21
                      simp only [Act.put, sA9, sB9, sC9]
                      refine Dig.p_int rfl .u32 (Dig.ex_conv _ _ _ rfl _ _ _ rfl Tryz.underlying25 Tryz.underlying132) ?_
                      intro z22
                      simp only [Act.put, sA9, sB9, sC9]
                      refine Step.p_assign rfl _ rfl (.int .u32 z22) rfl ?_
                      simp only [Act.put, sA9, sB9, sC9]
                      refine wpList_nil ?_
                      obtain ⟨ra, hra⟩ := rot_any (-6) 26 (by kernel_rfl) (by decide) e4
                      have Hra := Lib.hid hra
                      clear hra
                      obtain ⟨rb, hrb⟩ := rot_any (-11) 21 (by kernel_rfl) (by decide) e4
                      have Hrb := Lib.hid hrb
                      clear hrb
                      obtain ⟨rc, hrc⟩ := rot_any (-25) 7 (by kernel_rfl) (by decide) e4
                      have Hrc := Lib.hid hrc
                      clear hrc
                      go_upto_region 25 with fail
                      refine Step.wp_region_class (C := fun w' => Below wr.heap.size wr w') (by kernel_rfl) (by kernel_rfl) (Below.refl _ _).drew ?_
                      refine Step.q_move rfl _ rfl (.int .u32 e7) rfl ?_
                      simp only [Act.put, sA9, sB9, sC9]
                      refine Step.q_move rfl _ rfl (.int .u32 e4) rfl ?_
                      simp only [Act.put, sA9, sB9, sC9]
                      refine Step.q_call rfl 186 [.tmp 144, .const (.int .i64 (-6))] _ rfl Tryz.func186 (by kernel_rfl) rfl (.int .u32 ra) [.int .u32 e4, .int .i64 (-6)] rfl (fun w' hw' => (Hra.out w').mono fun e w2 h => ⟨h.1, by first | exact h.2 ▸ hw' | exact hw'.trans (h.2.mono hw'.size)⟩) ?_
                      simp only [Act.put, sA9, sB9, sC9]
                      refine Step.q_move rfl _ rfl (.int .u32 e4) rfl ?_
                      simp only [Act.put, sA9, sB9, sC9]
                      refine Step.q_call rfl 186 [.tmp 146, .const (.int .i64 (-11))] _ rfl Tryz.func186 (by kernel_rfl) rfl (.int .u32 rb) [.int .u32 e4, .int .i64 (-11)] rfl (fun w' hw' => (Hrb.out w').mono fun e w2 h => ⟨h.1, by first | exact h.2 ▸ hw' | exact hw'.trans (h.2.mono hw'.size)⟩) ?_
                      simp only [Act.put, sA9, sB9, sC9]
                      refine Dig.q_int rfl .u32 (Dig.ex_bin .xor (by simp) _ _ _ _ rfl _ _ _ rfl rfl) ?_
                      intro z23
                      simp only [Act.put, sA9, sB9, sC9]
                      refine Step.q_move rfl _ rfl (.int .u32 e4) rfl ?_
                      simp only [Act.put, sA9, sB9, sC9]
                      refine Step.q_call rfl 186 [.tmp 149, .const (.int .i64 (-25))] _ rfl Tryz.func186 (by kernel_rfl) rfl (.int .u32 rc) [.int .u32 e4, .int .i64 (-25)] rfl (fun w' hw' => (Hrc.out w').mono fun e w2 h => ⟨h.1, by first | exact h.2 ▸ hw' | exact hw'.trans (h.2.mono hw'.size)⟩) ?_
                      simp only [Act.put, sA9, sB9, sC9]
                      refine Dig.q_int rfl .u32 (Dig.ex_bin .xor (by simp) _ _ _ _ rfl _ _ _ rfl rfl) ?_
                      intro z24
                      simp only [Act.put, sA9, sB9, sC9]
                      refine Dig.q_int rfl .u32 (Dig.ex_bin .add (by simp) _ _ _ _ rfl _ _ _ rfl rfl) ?_
                      intro z25
                      simp only [Act.put, sA9, sB9, sC9]
                      refine Step.q_move rfl _ rfl (.int .u32 e4) rfl ?_
                      simp only [Act.put, sA9, sB9, sC9]
                      refine Step.q_move rfl _ rfl (.int .u32 e5) rfl ?_
                      simp only [Act.put, sA9, sB9, sC9]
                      refine Dig.q_int rfl .u32 (Dig.ex_bin .and (by simp) _ _ _ _ rfl _ _ _ rfl rfl) ?_
                      intro z26
                      simp only [Act.put, sA9, sB9, sC9]
                      refine Step.q_move rfl _ rfl (.int .u32 e4) rfl ?_
                      simp only [Act.put, sA9, sB9, sC9]
                      refine Dig.q_int rfl .u32 (Dig.ex_not _ _ rfl _ _ rfl) ?_
                      intro z27
                      simp only [Act.put, sA9, sB9, sC9]
                      refine Step.q_move rfl _ rfl (.int .u32 e6) rfl ?_
                      simp only [Act.put, sA9, sB9, sC9]
                      refine Dig.q_int rfl .u32 (Dig.ex_bin .and (by simp) _ _ _ _ rfl _ _ _ rfl rfl) ?_
                      intro z28
                      simp only [Act.put, sA9, sB9, sC9]
                      refine Dig.q_int rfl .u32 (Dig.ex_bin .xor (by simp) _ _ _ _ rfl _ _ _ rfl rfl) ?_
                      intro z29
                      simp only [Act.put, sA9, sB9, sC9]
                      refine Dig.q_int rfl .u32 (Dig.ex_bin .add (by simp) _ _ _ _ rfl _ _ _ rfl rfl) ?_
                      intro z30
                      simp only [Act.put, sA9, sB9, sC9]
                      refine Step.q_move rfl _ rfl (.int .u32 z22) rfl ?_
                      simp only [Act.put, sA9, sB9, sC9]
                      refine Dig.q_int rfl .u32 (Dig.ex_bin .add (by simp) _ _ _ _ rfl _ _ _ rfl rfl) ?_
                      intro z31
                      simp only [Act.put, sA9, sB9, sC9]
                      refine Step.q_move rfl _ rfl (.int .i64 k) rfl ?_
                      simp only [Act.put, sA9, sB9, sC9]
                      refine Still.q_idxA rfl _ 132 _ _ rfl (wb) (0) rfl .i64 (k) rfl (by omega) Tryz.underlying183 (size := 1) (by kernel_rfl) (k) (by omega) ?_
                      simp only [Act.put, sA9, sB9, sC9]
                      refine Step.q_load1 rfl _ _ rfl (wb) (k) rfl (.int .u32 xw) (fun w' hw' => (hw'.cell (p := ⟨wb, k, none⟩) (Frame.block_lt (HXW.out))).trans (HXW.out)) Tryz.underlying132 rfl ?_
                      simp only [Act.put, sA9, sB9, sC9]
                      refine Dig.q_int rfl .u32 (Dig.ex_bin .add (by simp) _ _ _ _ rfl _ _ _ rfl rfl) ?_
                      intro z32
                      simp only [Act.put, sA9, sB9, sC9]
                      refine Step.q_assign rfl _ rfl (.int .u32 z32) rfl ?_
                      simp only [Act.put, sA9, sB9, sC9]
                      refine wpQuiet_nil ?_
                      intro w9 hbw
                      have EA := Lib.hid (E9.out.below hbw)
                      have RA := Lib.hid (R9.out.below hbw R9.out.lt)
                      have VA := Lib.hid (V9.out.below hbw V9.out.lt)
                      clear hbw E9 R9 V9 HCU HXW Hra Hrb Hrc
                      obtain ⟨sa, hsa⟩ := rot_any (-2) 30 (by kernel_rfl) (by decide) e0
                      have Hsa := Lib.hid hsa
                      clear hsa
                      obtain ⟨sb, hsb⟩ := rot_any (-13) 19 (by kernel_rfl) (by decide) e0
                      have Hsb := Lib.hid hsb
                      clear hsb
                      obtain ⟨sc, hsc⟩ := rot_any (-22) 10 (by kernel_rfl) (by decide) e0
                      have Hsc := Lib.hid hsc
                      clear hsc
                      go_upto_region 26 with fail
                      refine wp_region_lit ?_
                      refine Step.p_move rfl _ rfl (.int .u32 e0) rfl ?_
                      simp only [Act.put, sA9, sB9, sC9]
                      refine Step.p_wp rfl (Step.w_callx 186 [.tmp 168, .const (.int .i64 (-2))] _ rfl Tryz.func186 (by kernel_rfl) rfl [.int .u32 e0, .int .i64 (-2)] rfl (Hsa.out _) ?_)
                      rintro e wv ⟨rfl, hw⟩
                      refine ⟨_, rfl, ?_⟩
                      simp only [Act.put, sA9, sB9, sC9]
                      subst hw
                      refine Step.p_move rfl _ rfl (.int .u32 e0) rfl ?_
                      simp only [Act.put, sA9, sB9, sC9]
                      refine Step.p_wp rfl (Step.w_callx 186 [.tmp 170, .const (.int .i64 (-13))] _ rfl Tryz.func186 (by kernel_rfl) rfl [.int .u32 e0, .int .i64 (-13)] rfl (Hsb.out _) ?_)
                      rintro e wv ⟨rfl, hw⟩
                      refine ⟨_, rfl, ?_⟩
                      simp only [Act.put, sA9, sB9, sC9]
                      subst hw
                      refine Dig.p_int rfl .u32 (Dig.ex_bin .xor (by simp) _ _ _ _ rfl _ _ _ rfl rfl) ?_
                      intro z33
                      simp only [Act.put, sA9, sB9, sC9]
                      refine Step.p_move rfl _ rfl (.int .u32 e0) rfl ?_
                      simp only [Act.put, sA9, sB9, sC9]
                      refine Step.p_wp rfl (Step.w_callx 186 [.tmp 173, .const (.int .i64 (-22))] _ rfl Tryz.func186 (by kernel_rfl) rfl [.int .u32 e0, .int .i64 (-22)] rfl (Hsc.out _) ?_)
                      rintro e wv ⟨rfl, hw⟩
                      refine ⟨_, rfl, ?_⟩
                      simp only [Act.put, sA9, sB9, sC9]
                      subst hw
                      refine Dig.p_int rfl .u32 (Dig.ex_bin .xor (by simp) _ _ _ _ rfl _ _ _ rfl rfl) ?_
                      intro z34
                      simp only [Act.put, sA9, sB9, sC9]
                      refine Step.p_move rfl _ rfl (.int .u32 e0) rfl ?_
                      simp only [Act.put, sA9, sB9, sC9]
                      refine Step.p_move rfl _ rfl (.int .u32 e1) rfl ?_
                      simp only [Act.put, sA9, sB9, sC9]
                      refine Dig.p_int rfl .u32 (Dig.ex_bin .and (by simp) _ _ _ _ rfl _ _ _ rfl rfl) ?_
                      intro z35
                      simp only [Act.put, sA9, sB9, sC9]
                      refine Step.p_move rfl _ rfl (.int .u32 e0) rfl ?_
                      simp only [Act.put, sA9, sB9, sC9]
                      refine Step.p_move rfl _ rfl (.int .u32 e2) rfl ?_
                      simp only [Act.put, sA9, sB9, sC9]
                      refine Dig.p_int rfl .u32 (Dig.ex_bin .and (by simp) _ _ _ _ rfl _ _ _ rfl rfl) ?_
                      intro z36
                      simp only [Act.put, sA9, sB9, sC9]
                      refine Dig.p_int rfl .u32 (Dig.ex_bin .xor (by simp) _ _ _ _ rfl _ _ _ rfl rfl) ?_
                      intro z37
                      simp only [Act.put, sA9, sB9, sC9]
                      refine Step.p_move rfl _ rfl (.int .u32 e1) rfl ?_
                      simp only [Act.put, sA9, sB9, sC9]
                      refine Step.p_move rfl _ rfl (.int .u32 e2) rfl ?_
                      simp only [Act.put, sA9, sB9, sC9]
                      refine Dig.p_int rfl .u32 (Dig.ex_bin .and (by simp) _ _ _ _ rfl _ _ _ rfl rfl) ?_
                      intro z38
                      simp only [Act.put, sA9, sB9, sC9]
                      refine Dig.p_int rfl .u32 (Dig.ex_bin .xor (by simp) _ _ _ _ rfl _ _ _ rfl rfl) ?_
                      intro z39
                      simp only [Act.put, sA9, sB9, sC9]
                      refine Dig.p_int rfl .u32 (Dig.ex_bin .add (by simp) _ _ _ _ rfl _ _ _ rfl rfl) ?_
                      intro z40
                      simp only [Act.put, sA9, sB9, sC9]
                      refine Step.p_assign rfl _ rfl (.int .u32 z40) rfl ?_
                      simp only [Act.put, sA9, sB9, sC9]
                      refine wpList_nil ?_
                      clear Hsa Hsb Hsc
                      go_upto_region 27 with fail
                      refine wp_region_lit ?_
                      refine Step.p_move rfl _ rfl (.int .u32 z32) rfl ?_
                      simp only [Act.put, sA9, sB9, sC9]
                      refine Step.p_move rfl _ rfl (.int .u32 z40) rfl ?_
                      simp only [Act.put, sA9, sB9, sC9]
                      refine Dig.p_int rfl .u32 (Dig.ex_bin .add (by simp) _ _ _ _ rfl _ _ _ rfl rfl) ?_
                      intro z41
                      simp only [Act.put, sA9, sB9, sC9]
                      refine Step.p_move rfl _ rfl (.int .u32 e0) rfl ?_
                      simp only [Act.put, sA9, sB9, sC9]
                      refine Step.p_move rfl _ rfl (.int .u32 e1) rfl ?_
                      simp only [Act.put, sA9, sB9, sC9]
                      refine Step.p_move rfl _ rfl (.int .u32 e2) rfl ?_
                      simp only [Act.put, sA9, sB9, sC9]
                      refine Step.p_move rfl _ rfl (.int .u32 e3) rfl ?_
                      simp only [Act.put, sA9, sB9, sC9]
                      refine Step.p_move rfl _ rfl (.int .u32 z32) rfl ?_
                      simp only [Act.put, sA9, sB9, sC9]
                      refine Dig.p_int rfl .u32 (Dig.ex_bin .add (by simp) _ _ _ _ rfl _ _ _ rfl rfl) ?_
                      intro z42
                      simp only [Act.put, sA9, sB9, sC9]
                      refine Step.p_move rfl _ rfl (.int .u32 e4) rfl ?_
                      simp only [Act.put, sA9, sB9, sC9]
                      refine Step.p_move rfl _ rfl (.int .u32 e5) rfl ?_
                      simp only [Act.put, sA9, sB9, sC9]
                      refine Step.p_move rfl _ rfl (.int .u32 e6) rfl ?_
                      simp only [Act.put, sA9, sB9, sC9]
                      refine Step.p_assign rfl _ rfl (.int .u32 z41) rfl ?_
                      simp only [Act.put, sA9, sB9, sC9]
                      refine Step.p_assign rfl _ rfl (.int .u32 e0) rfl ?_
                      simp only [Act.put, sA9, sB9, sC9]
                      refine Step.p_assign rfl _ rfl (.int .u32 e1) rfl ?_
                      simp only [Act.put, sA9, sB9, sC9]
                      refine Step.p_assign rfl _ rfl (.int .u32 e2) rfl ?_
                      simp only [Act.put, sA9, sB9, sC9]
                      refine Step.p_assign rfl _ rfl (.int .u32 z42) rfl ?_
                      simp only [Act.put, sA9, sB9, sC9]
                      refine Step.p_assign rfl _ rfl (.int .u32 e4) rfl ?_
                      simp only [Act.put, sA9, sB9, sC9]
                      refine Step.p_assign rfl _ rfl (.int .u32 e5) rfl ?_
                      simp only [Act.put, sA9, sB9, sC9]
                      refine Step.p_assign rfl _ rfl (.int .u32 e6) rfl ?_
                      simp only [Act.put, sA9, sB9, sC9]
                      refine wpList_nil ?_
                      go_wp2
                      exact ⟨⟨k + 1, _, _, _, _, _, _, _, _, by omega, by go_num, rfl, rfl, rfl, rfl, rfl, rfl, rfl, rfl, EA.out, RA.out, VA.out⟩, by simp [RowKit.intOf]; omega⟩
                    · obtain rfl : k = 64 := by omega
                      have IX := Lib.hid (fun (F : Nat → Int) (i : Nat) (hi : i < 8) (w : World) => New.run_index_arr (P := Tryz.prog) Tryz.underlying185 Tryz.underlying132 hi1 F i hi w)
                      go_upto_region 29 with fail
                      refine wp_region_lit ?_
                      refine Step.p_move rfl _ rfl (.int .u32 e0) rfl ?_
                      simp only [Act.put, sA9, sB9, sC9]
                      refine Step.p_move rfl _ rfl (.int .u32 e1) rfl ?_
                      simp only [Act.put, sA9, sB9, sC9]
                      refine Step.p_move rfl _ rfl (.int .u32 e2) rfl ?_
                      simp only [Act.put, sA9, sB9, sC9]
                      refine Step.p_move rfl _ rfl (.int .u32 e3) rfl ?_
                      simp only [Act.put, sA9, sB9, sC9]
                      refine Step.p_move rfl _ rfl (.int .u32 e4) rfl ?_
                      simp only [Act.put, sA9, sB9, sC9]
                      refine Step.p_move rfl _ rfl (.int .u32 e5) rfl ?_
                      simp only [Act.put, sA9, sB9, sC9]
                      refine Step.p_move rfl _ rfl (.int .u32 e6) rfl ?_
                      simp only [Act.put, sA9, sB9, sC9]
                      refine Step.p_move rfl _ rfl (.int .u32 e7) rfl ?_
                      simp only [Act.put, sA9, sB9, sC9]
                      refine Step.p_val rfl (.agg (arr .u32 8 fun i => ([e0, e1, e2, e3, e4, e5, e6, e7] : List Int).getD i 0)) (by unfold execOp; go_simp; rfl) ?_
                      simp only [Act.put, sA9, sB9, sC9]
                      refine Step.p_move rfl _ rfl (.int .i64 0) rfl ?_
                      simp only [Act.put, sA9, sB9, sC9]
                      refine wpList_nil ?_
                      generalize (fun i => ([e0, e1, e2, e3, e4, e5, e6, e7] : List Int).getD i 0) = FF at *
                      go_wp2
                      go_loopw [210] (fun i wr => ∃ k : Nat, k ≤ 8 ∧ i = .int .i64 k ∧ NW hb nh T p 7 80 (some ⟨g, off, none⟩) n w wr ∧ RowP wr wb 183 64 (isInt .u32) ∧ RowP wr vb 185 8 (isInt .u32)) (fun i _ => 8 - (RowKit.intOf i).toNat)
                      case atStart => exact ⟨0, by omega, rfl, E9.out, R9.out, V9.out⟩
                      case round =>
                        obtain ⟨k, hk, rfl, he, hr, hv⟩ := hrel
                        have EB := Lib.hid he
                        have RB := Lib.hid hr
                        have VB := Lib.hid hv
                        clear he hr hv E9 R9 V9
                        by_cases hlt6 : k < 8
                        · skip
                          go_upto_region 31 with fail
                          refine wp_region_lit ?_
                          refine Step.p_move rfl _ rfl (.int .i64 k) rfl ?_
                          simp only [Act.put, sA9, sB9, sC9]
                          refine Step.p_val rfl (.int .u32 (FF k)) (by unfold execOp; have := IX.out FF k hlt6 wr; simp only [Act.eval]; simp [this]) ?_
                          simp only [Act.put, sA9, sB9, sC9]
                          refine Step.p_assign rfl _ rfl (.int .i64 k) rfl ?_
                          simp only [Act.put, sA9, sB9, sC9]
                          refine Step.p_assign rfl _ rfl (.int .u32 (FF k)) rfl ?_
                          simp only [Act.put, sA9, sB9, sC9]
                          refine wpList_nil ?_
                          skip
                          obtain ⟨y, hy⟩ := VB.out.num (j := k) (by omega)
                          have HY := Lib.hid hy
                          clear hy
                          obtain ⟨u0, hu0, hu1⟩ := EB.out.h.cell (j := ho + k) (by omega)
                          obtain ⟨x, rfl⟩ := P2.out k hlt6 u0 hu1
                          have HX := Lib.hid hu0
                          clear hu0 hu1
                          go_upto_region 32 with fail
                          refine wp_region_still_tail 10 (by kernel_rfl) (by kernel_rfl) ?_
                          refine Still.s_move rfl _ rfl (.pointer (some ⟨hb, ho, none⟩)) rfl ?_
                          simp only [Act.put, sA9, sB9, sC9]
                          refine Still.s_move rfl _ rfl (.int .i64 k) rfl ?_
                          simp only [Act.put, sA9, sB9, sC9]
                          refine Still.s_move rfl _ rfl (.int .i64 k) rfl ?_
                          simp only [Act.put, sA9, sB9, sC9]
                          refine Still.s_idxA rfl _ 132 _ _ rfl (vb) (0) rfl .i64 (k) rfl (by omega) Tryz.underlying185 (size := 1) (by kernel_rfl) (k) (by omega) ?_
                          simp only [Act.put, sA9, sB9, sC9]
                          refine Still.s_load1 rfl _ _ rfl (vb) (k) rfl (.int .u32 y) (HY.out) Tryz.underlying132 rfl ?_
                          simp only [Act.put, sA9, sB9, sC9]
                          refine Still.s_move rfl _ rfl (.int .u32 (FF k)) rfl ?_
                          simp only [Act.put, sA9, sB9, sC9]
                          refine Dig.s_int rfl .u32 (Dig.ex_bin .add (by simp) _ _ _ _ rfl _ _ _ rfl rfl) ?_
                          intro z43
                          simp only [Act.put, sA9, sB9, sC9]
                          refine Dig.s_int rfl .u64 (Dig.ex_conv _ _ _ rfl _ _ _ rfl Tryz.underlying132 Tryz.underlying25) ?_
                          intro z44
                          simp only [Act.put, sA9, sB9, sC9]
                          refine Still.s_val rfl (.pointer (some ⟨hb, ho, none⟩)) (by unfold execOp; go_simp; try rfl) ?_
                          simp only [Act.put, sA9, sB9, sC9]
                          refine Still.s_idxA rfl _ 25 _ _ rfl (hb) (ho) rfl .i64 (k) rfl (by omega) Tryz.underlying125 (size := 1) (by kernel_rfl) (ho + k) (by omega) ?_
                          simp only [Act.put, sA9, sB9, sC9]
                          refine wpStill_nil ?_
                          simp only [List.drop]
                          change wpList _ _ _ _ _ wr.drew
                          have hi64 : (Tryz.prog.info? 25).map (·.size) = some 1 := by kernel_rfl
                          refine p_storeR rfl 25 _ _ rfl hb (ho + k) rfl .u64 z44 rfl hi64 (show RowP wr.drew hb T nh p from EB.out.h) (by omega) (P1.out k hlt6 _) ?_
                          intro wt cs hcs hcs2 hpp hgg _
                          simp only [Act.put]
                          refine wpList_nil ?_
                          have ET := Lib.hid (EB.out.drew.put hcs HX.out hpp hcs2 hgg)
                          have hne : hb ≠ wb ∧ hb ≠ vb := by omega
                          have RT := Lib.hid ((show RowP wr.drew wb 183 64 (isInt .u32) from RB.out).other hgg hne.1.symm)
                          have VT := Lib.hid ((show RowP wr.drew vb 185 8 (isInt .u32) from VB.out).other hgg hne.2.symm)
                          clear hcs hcs2 hpp hgg EB RB VB HX HY
                          go_wp2
                          exact ⟨⟨k + 1, by omega, by go_num, ET.out, RT.out, VT.out⟩, by simp [RowKit.intOf]; omega⟩
                        · obtain rfl : k = 8 := by omega
                          by_cases hcap : cap = 64
                          · have hn64 : n = 64 := by omega
                            go_upto_region 2 with fail
                            refine wp_region_lit ?_
                            refine Step.p_move rfl _ rfl (.slice (some ⟨g, off, none⟩) n cap) rfl ?_
                            simp only [Act.put, sA9, sB9, sC9]
                            refine Step.p_val rfl (.slice (some ⟨g, off, none⟩) (n - 64) (cap - 64)) (by unfold execOp; go_simp; (try rw [if_pos ⟨by omega, by omega⟩]); try simp [hcap]) ?_
                            simp only [Act.put, sA9, sB9, sC9]
                            refine Step.p_assign rfl _ rfl (.slice (some ⟨g, off, none⟩) (n - 64) (cap - 64)) rfl ?_
                            simp only [Act.put, sA9, sB9, sC9]
                            refine wpList_nil ?_
                            go_wp2
                            go_roundw
                            case rel => exact ⟨_, _, _, rfl, by omega, by omega, by rw [show n - 64 = 0 by omega]; exact EB.out.none_ _, RB.out⟩
                            case measure => simp [lenOf]; omega
                          · skip
                            go_upto_region 2 with fail
                            refine wp_region_lit ?_
                            refine Step.p_move rfl _ rfl (.slice (some ⟨g, off, none⟩) n cap) rfl ?_
                            simp only [Act.put, sA9, sB9, sC9]
                            refine Step.p_val rfl (.slice (some ⟨g, off + 64, none⟩) (n - 64) (cap - 64)) (by unfold execOp; go_simp; (try rw [if_pos ⟨by omega, by omega⟩]); try simp [hcap]) ?_
                            simp only [Act.put, sA9, sB9, sC9]
                            refine Step.p_assign rfl _ rfl (.slice (some ⟨g, off + 64, none⟩) (n - 64) (cap - 64)) rfl ?_
                            simp only [Act.put, sA9, sB9, sC9]
                            refine wpList_nil ?_
                            go_wp2
                            go_roundw
                            case rel => exact ⟨_, _, _, rfl, by omega, by omega, EB.out.cut 64 (n - 64) (by omega), RB.out⟩
                            case measure => simp [lenOf]; omega
    · go_wp2
      go_end0
      exact ⟨rfl, E.out.none_ _⟩
end Go.Proofs.YtmifebcaifbmoaaGreatDoor.Dig
end
