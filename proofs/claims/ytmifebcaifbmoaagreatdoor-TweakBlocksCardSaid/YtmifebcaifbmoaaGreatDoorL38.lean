/- Parts of the proof of TweakBlocks. Rf1: cofferref01.taken32: a block of 64 bytes taken; what the words come to doesn't matter. -/
import Derived.Test.YtmifebcaifbmoaaGreatDoorL00
import Derived.Test.YtmifebcaifbmoaaGreatDoorL34
/- Rf1 -/
section
namespace Go.Proofs.YtmifebcaifbmoaaGreatDoor.Rf1
open Go.RowKit Go.Lib Go.Proofs.YtmifebcaifbmoaaGreatDoor.Blk Go.Proofs.YtmifebcaifbmoaaGreatDoor.Dig

/-- an array of words as a value -/
def Wd (k : IntKind) (n : Nat) (cs : Array Value) : Prop := cs.size = n ∧ (∀ j, j < n → ∃ z, cs[j]? = some (.int k z)) ∧ ∀ v ∈ cs.toList, v.oneCell' = true
theorem Wd.of {k : IntKind} {n : Nat} {cs : Array Value} (h1 : cs.size = n) (h2 : ∀ j, j < n → ∃ z, cs[j]? = some (.int k z)) : Wd k n cs := ⟨h1, h2, fun v hv => by
  obtain ⟨j, hj⟩ := List.mem_iff_getElem?.1 hv
  have hl : j < n := by have := (List.getElem?_eq_some_iff.1 hj).1; simpa [h1] using this
  obtain ⟨z, e⟩ := h2 j hl
  rw [Array.getElem?_toList, e] at hj
  cases hj
  rfl⟩
theorem Wd.row {k : IntKind} {n : Nat} {cs : Array Value} {w : World} {b : Nat} {T : TypeId} (h : Wd k n cs) (hc : w.heap[b]? = some (.cells cs T (0, 0))) : RowP w b T n (isInt k) := ⟨cs, hc, h.1, fun j hj => by obtain ⟨z, e⟩ := h.2.1 j hj; exact ⟨_, e, z, rfl⟩⟩
theorem Wd.ofRow {k : IntKind} {n : Nat} {w : World} {b : Nat} {T : TypeId} (h : RowP w b T n (isInt k)) : ∃ cs, w.heap[b]? = some (.cells cs T (0, 0)) ∧ Wd k n cs := by
  obtain ⟨cs, h1, h2, h3⟩ := h
  exact ⟨cs, h1, .of h2 fun j hj => by obtain ⟨v, e, z, rfl⟩ := h3 j hj; exact ⟨z, e⟩⟩
/-- under way -/
structure TZ (hb kb ob wb : Nat) (q : Option Addr) (w w' : World) : Prop where
  h : RowP w' hb 185 8 (isInt .u32)
  k : RowP w' kb 183 64 (isInt .u32)
  o : RowP w' ob 185 8 (isInt .u32)
  wd : RowP w' wb 183 64 (isInt .u32)
  bu : BU w' q 64 w.heap.size
  bel : Below w.heap.size w w'
theorem TZ.next {hb kb ob wb : Nat} {q : Option Addr} {w w1 w2 : World} (h : TZ hb kb ob wb q w w1) (hB : Below w1.heap.size w1 w2) : TZ hb kb ob wb q w w2 :=
  ⟨h.h.below hB h.h.lt, h.k.below hB h.k.lt, h.o.below hB h.o.lt, h.wd.below hB h.wd.lt, h.bu.next (fun g off _z _hg hz => (hB.cell (p := ⟨g, off, none⟩) (Frame.block_lt hz)).trans hz) (Nat.le_refl _), h.bel.trans (hB.mono h.bel.size)⟩
theorem TZ.drew {hb kb ob wb : Nat} {q : Option Addr} {w w1 : World} (h : TZ hb kb ob wb q w w1) : TZ hb kb ob wb q w w1.drew := h.next (Below.refl _ _).drew
theorem TZ.undrew {hb kb ob wb : Nat} {q : Option Addr} {w w1 : World} (h : TZ hb kb ob wb q w w1.drew) : TZ hb kb ob wb q w w1 := ⟨h.h, h.k, h.o, h.wd, h.bu, ⟨h.bel.os, h.bel.tape, h.bel.output, h.bel.size, h.bel.block⟩⟩
theorem TZ.putW {hb kb ob wb : Nat} {q : Option Addr} {w w1 w2 : World} (h : TZ hb kb ob wb q w w1) (hr : RowP w2 wb 183 64 (isInt .u32)) (hg : w1.grownBy w2 (some wb)) (h1 : hb ≠ wb) (h2 : kb ≠ wb) (h3 : ob ≠ wb) (h4 : w.heap.size ≤ wb) : TZ hb kb ob wb q w w2 :=
  ⟨h.h.other hg h1, h.k.other hg h2, h.o.other hg h3, hr, h.bu.next (fun g off z hg' hz => cell_keep hg (by omega) hz) (Nat.le_refl _), h.bel.grown hg h.bel.size (fun j hj => by cases hj; exact h4)⟩
set_option maxRecDepth 100000 in
set_option maxHeartbeats 16000000 in
theorem taken_any (hs ks : Array Value) (hh : Wd .u32 8 hs) (hk : Wd .u32 64 ks) (q0 : Option Addr) (cap : Nat) (_hcap : 64 ≤ cap) (_hcm : cap ≤ 9223372036854775807) (w : World) (hb0 : BU w q0 64 w.heap.size) :
    Calls Tryz.prog 144 #[.agg hs, .slice q0 64 cap, .agg ks] w fun e w' => (∃ cs, e = .returned (.agg cs) ∧ Wd .u32 8 cs) ∧ Below w.heap.size w w' := by
  obtain ⟨g, off, hq, _⟩ := hb0 0 (by decide)
  subst hq
  have z64 : (Tryz.prog.info? 183).bind (·.zero) = some (.agg (arr .u32 64 fun _ => 0)) := by kernel_rfl
  have z8 : (Tryz.prog.info? 185).bind (·.zero) = some (.agg (arr .u32 8 fun _ => 0)) := by kernel_rfl
  have hi1 : (Tryz.prog.info? 132).map (·.size) = some 1 := by kernel_rfl
  have B0 := Lib.hid hb0
  have HH := Lib.hid hh
  have HK := Lib.hid hk
  clear hh hk hb0
  go_enter Tryz.func144, Tryz.ntmps144
  go_upto_region 0 with fail
  refine wp_region_lit ?_
  refine Seg.p_boxA rfl 185 _ rfl hs rfl ?_
  simp only [Act.put, sA9, sB9, sC9]
  refine Seg.p_boxA rfl 183 _ rfl ks rfl ?_
  simp only [Act.put, sA9, sB9, sC9]
  have b2 : Below w.heap.size w ((w.alloc (.cells hs 185)).alloc (.cells ks 183)) := ((Below.refl _ _).alloc (Nat.le_refl _) _).alloc (by simp) _
  have r1 : RowP ((w.alloc (.cells hs 185)).alloc (.cells ks 183)) w.heap.size 185 8 (isInt .u32) := (HH.out.row (heap_alloc_new w _)).alloc _
  have r2 : RowP ((w.alloc (.cells hs 185)).alloc (.cells ks 183)) (w.alloc (.cells hs 185)).heap.size 183 64 (isInt .u32) := HK.out.row (heap_alloc_new _ _)
  have hkb : w.heap.size < (w.alloc (.cells hs 185)).heap.size := by simp
  generalize (w.alloc (.cells hs 185)).heap.size = kb at *
  have hk2 := r2.lt
  generalize ((w.alloc (.cells hs 185)).alloc (.cells ks 183)) = w2 at *
  refine New.p_newarr rfl 185 rfl .u32 8 z8 ?_
  intro w3 a3 g3 s3
  simp only [Act.put, sA9, sB9, sC9]
  refine wpList_nil ?_
  go_upto_region 1 with fail
  refine wp_region_lit ?_
  refine New.p_newarr rfl 183 rfl .u32 64 z64 ?_
  intro w4 a4 g4 s4
  simp only [Act.put, sA9, sB9, sC9]
  refine wpList_nil ?_
  obtain ⟨hb, hhb⟩ : ∃ hb, w.heap.size = hb := ⟨_, rfl⟩
  obtain ⟨ob, hob⟩ : ∃ ob, w2.heap.size = ob := ⟨_, rfl⟩
  obtain ⟨wb, hwb⟩ : ∃ wb, w3.heap.size = wb := ⟨_, rfl⟩
  have b24 : Below w2.heap.size w2 w4 := ((Below.refl _ _).grown g3 (Nat.le_refl _) (by simp)).grown g4 (by omega) (by simp)
  have Z4 : Hid (TZ hb kb ob wb (some ⟨g, off, none⟩) w w4) := Lib.hid ⟨by rw [← hhb]; exact r1.below b24 (by omega), r2.below b24 hk2, by rw [← hob]; exact (rowP_of_arr a3).below (Rj.bel_of_gb (_B := 0) g4) (by omega), by rw [← hwb]; exact rowP_of_arr a4, B0.out.next (fun g' o' z hg' hz => ((b24.cell (p := ⟨g', o', none⟩) (by have := b2.size; show g' < _; omega)).trans (b2.cell (p := ⟨g', o', none⟩) hg')).trans hz) (Nat.le_refl _), b2.trans (b24.mono b2.size)⟩
  rw [hhb, hob, hwb]
  have hd : hb < kb ∧ kb < ob ∧ ob < wb ∧ w.heap.size ≤ hb := by omega
  clear b2 b24 r1 r2 a3 a4 g3 g4 HH HK B0
  go_wp2
  go_loopw [8] (fun i wr => ∃ k : Nat, k ≤ 16 ∧ i = .int .i64 k ∧ TZ hb kb ob wb (some ⟨g, off, none⟩) w wr) (fun i _ => 16 - (RowKit.intOf i).toNat)
  case atStart => exact ⟨0, by omega, rfl, Z4.out⟩
  case round =>
    obtain ⟨k, hk, rfl, hz⟩ := hrel
    have Z5 := Lib.hid hz.drew
    clear hz Z4
    by_cases hlt : k < 16
    · skip
      go_upto_region 5 with fail
      obtain ⟨x0, hx0⟩ : ∃ z, wr.drew.cell? ⟨g, off + 4 * k + 0, none⟩ = some (.int .u8 z) := by
        obtain ⟨_, _, e, _, z, hz⟩ := Z5.out.bu (4 * k + 0) (by omega)
        cases e
        exact ⟨z, by rw [Nat.add_assoc]; exact hz⟩
      have HX0 := Lib.hid hx0
      clear hx0
      obtain ⟨x1, hx1⟩ : ∃ z, wr.drew.cell? ⟨g, off + 4 * k + 1, none⟩ = some (.int .u8 z) := by
        obtain ⟨_, _, e, _, z, hz⟩ := Z5.out.bu (4 * k + 1) (by omega)
        cases e
        exact ⟨z, by rw [Nat.add_assoc]; exact hz⟩
      have HX1 := Lib.hid hx1
      clear hx1
      obtain ⟨x2, hx2⟩ : ∃ z, wr.drew.cell? ⟨g, off + 4 * k + 2, none⟩ = some (.int .u8 z) := by
        obtain ⟨_, _, e, _, z, hz⟩ := Z5.out.bu (4 * k + 2) (by omega)
        cases e
        exact ⟨z, by rw [Nat.add_assoc]; exact hz⟩
      have HX2 := Lib.hid hx2
      clear hx2
      obtain ⟨x3, hx3⟩ : ∃ z, wr.drew.cell? ⟨g, off + 4 * k + 3, none⟩ = some (.int .u8 z) := by
        obtain ⟨_, _, e, _, z, hz⟩ := Z5.out.bu (4 * k + 3) (by omega)
        cases e
        exact ⟨z, by rw [Nat.add_assoc]; exact hz⟩
      have HX3 := Lib.hid hx3
      clear hx3
      refine wp_region_still_tail 35 (by kernel_rfl) (by kernel_rfl) ?_
      refine Still.s_move rfl _ rfl (.int .i64 k) rfl ?_
      simp only [Act.put, sA9, sB9, sC9]
      refine Still.s_move rfl _ rfl (.slice (some ⟨g, off, none⟩) 64 cap) rfl ?_
      simp only [Act.put, sA9, sB9, sC9]
      refine Still.s_move rfl _ rfl (.int .i64 k) rfl ?_
      simp only [Act.put, sA9, sB9, sC9]
      refine Still.s_val rfl (.int .i64 (4 * k : Nat)) (by unfold execOp; go_simp; try (first | rfl | omega | exact (IntWalk.i64_in _ (by omega)).trans (by omega))) ?_
      simp only [Act.put, sA9, sB9, sC9]
      refine Still.s_idxS rfl _ 5 _ _ rfl (g) (off) (64) (cap) rfl .i64 ((4 * k)) rfl (by omega) Tryz.underlying22 (size := 1) (by kernel_rfl) (off + 4 * k + 0) (by omega) ?_
      simp only [Act.put, sA9, sB9, sC9]
      refine Still.s_load1 rfl _ _ rfl (g) (off + 4 * k + 0) rfl (.int .u8 x0) (HX0.out) Tryz.underlying5 rfl ?_
      simp only [Act.put, sA9, sB9, sC9]
      refine Dig.s_int rfl .u32 (Dig.ex_conv _ _ _ rfl _ _ _ rfl Tryz.underlying5 Tryz.underlying132) ?_
      intro z1
      simp only [Act.put, sA9, sB9, sC9]
      refine Dig.s_int rfl .u32 (Dig.ex_shl _ _ _ _ rfl _ _ _ 24 rfl rfl) ?_
      intro z2
      simp only [Act.put, sA9, sB9, sC9]
      refine Still.s_move rfl _ rfl (.slice (some ⟨g, off, none⟩) 64 cap) rfl ?_
      simp only [Act.put, sA9, sB9, sC9]
      refine Still.s_move rfl _ rfl (.int .i64 k) rfl ?_
      simp only [Act.put, sA9, sB9, sC9]
      refine Still.s_val rfl (.int .i64 (4 * k : Nat)) (by unfold execOp; go_simp; try (first | rfl | omega | exact (IntWalk.i64_in _ (by omega)).trans (by omega))) ?_
      simp only [Act.put, sA9, sB9, sC9]
      refine Still.s_val rfl (.int .i64 (4 * k + 1 : Nat)) (by unfold execOp; go_simp; try (first | rfl | omega | exact (IntWalk.i64_in _ (by omega)).trans (by omega))) ?_
      simp only [Act.put, sA9, sB9, sC9]
      refine Still.s_idxS rfl _ 5 _ _ rfl (g) (off) (64) (cap) rfl .i64 ((4 * k + 1)) rfl (by omega) Tryz.underlying22 (size := 1) (by kernel_rfl) (off + 4 * k + 1) (by omega) ?_
      simp only [Act.put, sA9, sB9, sC9]
      refine Still.s_load1 rfl _ _ rfl (g) (off + 4 * k + 1) rfl (.int .u8 x1) (HX1.out) Tryz.underlying5 rfl ?_
      simp only [Act.put, sA9, sB9, sC9]
      refine Dig.s_int rfl .u32 (Dig.ex_conv _ _ _ rfl _ _ _ rfl Tryz.underlying5 Tryz.underlying132) ?_
      intro z3
      simp only [Act.put, sA9, sB9, sC9]
      refine Dig.s_int rfl .u32 (Dig.ex_shl _ _ _ _ rfl _ _ _ 16 rfl rfl) ?_
      intro z4
      simp only [Act.put, sA9, sB9, sC9]
      refine Dig.s_int rfl .u32 (Dig.ex_bin .or (by simp) _ _ _ _ rfl _ _ _ rfl rfl) ?_
      intro z5
      simp only [Act.put, sA9, sB9, sC9]
      refine Still.s_move rfl _ rfl (.slice (some ⟨g, off, none⟩) 64 cap) rfl ?_
      simp only [Act.put, sA9, sB9, sC9]
      refine Still.s_move rfl _ rfl (.int .i64 k) rfl ?_
      simp only [Act.put, sA9, sB9, sC9]
      refine Still.s_val rfl (.int .i64 (4 * k : Nat)) (by unfold execOp; go_simp; try (first | rfl | omega | exact (IntWalk.i64_in _ (by omega)).trans (by omega))) ?_
      simp only [Act.put, sA9, sB9, sC9]
      refine Still.s_val rfl (.int .i64 (4 * k + 2 : Nat)) (by unfold execOp; go_simp; try (first | rfl | omega | exact (IntWalk.i64_in _ (by omega)).trans (by omega))) ?_
      simp only [Act.put, sA9, sB9, sC9]
      refine Still.s_idxS rfl _ 5 _ _ rfl (g) (off) (64) (cap) rfl .i64 ((4 * k + 2)) rfl (by omega) Tryz.underlying22 (size := 1) (by kernel_rfl) (off + 4 * k + 2) (by omega) ?_
      simp only [Act.put, sA9, sB9, sC9]
      refine Still.s_load1 rfl _ _ rfl (g) (off + 4 * k + 2) rfl (.int .u8 x2) (HX2.out) Tryz.underlying5 rfl ?_
      simp only [Act.put, sA9, sB9, sC9]
      refine Dig.s_int rfl .u32 (Dig.ex_conv _ _ _ rfl _ _ _ rfl Tryz.underlying5 Tryz.underlying132) ?_
      intro z6
      simp only [Act.put, sA9, sB9, sC9]
      refine Dig.s_int rfl .u32 (Dig.ex_shl _ _ _ _ rfl _ _ _ 8 rfl rfl) ?_
      intro z7
      simp only [Act.put, sA9, sB9, sC9]
      refine Dig.s_int rfl .u32 (Dig.ex_bin .or (by simp) _ _ _ _ rfl _ _ _ rfl rfl) ?_
      intro z8
      simp only [Act.put, sA9, sB9, sC9]
      refine Still.s_move rfl _ rfl (.slice (some ⟨g, off, none⟩) 64 cap) rfl ?_
      simp only [Act.put, sA9, sB9, sC9]
      refine Still.s_move rfl _ rfl (.int .i64 k) rfl ?_
      simp only [Act.put, sA9, sB9, sC9]
      refine Still.s_val rfl (.int .i64 (4 * k : Nat)) (by unfold execOp; go_simp; try (first | rfl | omega | exact (IntWalk.i64_in _ (by omega)).trans (by omega))) ?_
      simp only [Act.put, sA9, sB9, sC9]
      refine Still.s_val rfl (.int .i64 (4 * k + 3 : Nat)) (by unfold execOp; go_simp; try (first | rfl | omega | exact (IntWalk.i64_in _ (by omega)).trans (by omega))) ?_
      simp only [Act.put, sA9, sB9, sC9]
      refine Still.s_idxS rfl _ 5 _ _ rfl (g) (off) (64) (cap) rfl .i64 ((4 * k + 3)) rfl (by omega) Tryz.underlying22 (size := 1) (by kernel_rfl) (off + 4 * k + 3) (by omega) ?_
      simp only [Act.put, sA9, sB9, sC9]
      refine Still.s_load1 rfl _ _ rfl (g) (off + 4 * k + 3) rfl (.int .u8 x3) (HX3.out) Tryz.underlying5 rfl ?_
      simp only [Act.put, sA9, sB9, sC9]
      refine Dig.s_int rfl .u32 (Dig.ex_conv _ _ _ rfl _ _ _ rfl Tryz.underlying5 Tryz.underlying132) ?_
      intro z9
      simp only [Act.put, sA9, sB9, sC9]
      refine Dig.s_int rfl .u32 (Dig.ex_bin .or (by simp) _ _ _ _ rfl _ _ _ rfl rfl) ?_
      intro z10
      simp only [Act.put, sA9, sB9, sC9]
      refine Still.s_idxA rfl _ 132 _ _ rfl (wb) (0) rfl .i64 (k) rfl (by omega) Tryz.underlying183 (size := 1) (by kernel_rfl) (k) (by omega) ?_
      simp only [Act.put, sA9, sB9, sC9]
      refine wpStill_nil ?_
      simp only [List.drop]
      change wpList _ _ _ _ _ wr.drew
      refine p_storeP rfl 132 _ _ rfl wb k rfl .u32 z10 rfl hi1 Z5.out.wd (by omega) ⟨_, rfl⟩ ?_
      intro w6 r4 g4 _
      simp only [Act.put]
      refine wpList_nil ?_
      have Z6 := Lib.hid (Z5.out.putW r4 g4 (by omega) (by omega) (by omega) (by omega))
      clear r4 g4 Z5
      clear HX0 HX1 HX2 HX3
      go_wp2
      exact ⟨⟨k + 1, by omega, by go_num, Z6.out⟩, by simp [RowKit.intOf]; omega⟩
    · obtain rfl : k = 16 := by omega
      go_wp2
      go_loopw [9, 10, 11, 12, 13] (fun i _ _ _ _ wr => ∃ k : Nat, 16 ≤ k ∧ k ≤ 64 ∧ i = .int .i64 k ∧ TZ hb kb ob wb (some ⟨g, off, none⟩) w wr) (fun i _ _ _ _ _ => 64 - (RowKit.intOf i).toNat)
      case atStart => exact ⟨16, by omega, by omega, rfl, Z5.out.undrew⟩
      case round =>
        obtain ⟨k, hk1, hk2, rfl, hz⟩ := hrel
        have Z7 := Lib.hid hz.drew
        clear hz Z5
        by_cases hlt2 : k < 64
        · skip
          obtain ⟨xa, hxa⟩ := Z7.out.wd.num (j := k - 15) (by omega)
          have Hxa := Lib.hid hxa
          clear hxa
          obtain ⟨xb, hxb⟩ := Z7.out.wd.num (j := k - 2) (by omega)
          have Hxb := Lib.hid hxb
          clear hxb
          obtain ⟨xc, hxc⟩ := Z7.out.wd.num (j := k - 16) (by omega)
          have Hxc := Lib.hid hxc
          clear hxc
          obtain ⟨xd, hxd⟩ := Z7.out.wd.num (j := k - 7) (by omega)
          have Hxd := Lib.hid hxd
          clear hxd
          go_upto_region 9 with fail
          refine wp_region_lit ?_
          refine Step.p_move rfl _ rfl (.int .i64 k) rfl ?_
          simp only [Act.put, sA9, sB9, sC9]
          refine Step.p_val rfl (.int .i64 (k - 15 : Nat)) (by unfold execOp; go_simp; try (first | rfl | omega | exact (IntWalk.i64_in _ (by omega)).trans (by omega))) ?_
          simp only [Act.put, sA9, sB9, sC9]
          refine Still.p_idxA rfl _ 132 _ _ rfl wb 0 rfl .i64 (k - 15) rfl (n := 64) (by omega) Tryz.underlying183 (size := 1) (by kernel_rfl) (k - 15) (by omega) ?_
          simp only [Act.put, sA9, sB9, sC9]
          refine Tree.p_load1 rfl _ _ rfl (wb) (k - 15) rfl (.int .u32 xa) (show World.cell? wr _ = _ from Hxa.out) Tryz.underlying132 rfl ?_
          simp only [Act.put, sA9, sB9, sC9]
          refine Step.p_assign rfl _ rfl (.int .u32 xa) rfl ?_
          simp only [Act.put, sA9, sB9, sC9]
          refine wpList_nil ?_
          go_upto_region 10 with fail
          refine wp_region_lit ?_
          refine Step.p_move rfl _ rfl (.int .i64 k) rfl ?_
          simp only [Act.put, sA9, sB9, sC9]
          refine Step.p_val rfl (.int .i64 (k - 2 : Nat)) (by unfold execOp; go_simp; try (first | rfl | omega | exact (IntWalk.i64_in _ (by omega)).trans (by omega))) ?_
          simp only [Act.put, sA9, sB9, sC9]
          refine Still.p_idxA rfl _ 132 _ _ rfl wb 0 rfl .i64 (k - 2) rfl (n := 64) (by omega) Tryz.underlying183 (size := 1) (by kernel_rfl) (k - 2) (by omega) ?_
          simp only [Act.put, sA9, sB9, sC9]
          refine Tree.p_load1 rfl _ _ rfl (wb) (k - 2) rfl (.int .u32 xb) (show World.cell? wr _ = _ from Hxb.out) Tryz.underlying132 rfl ?_
          simp only [Act.put, sA9, sB9, sC9]
          refine Step.p_assign rfl _ rfl (.int .u32 xb) rfl ?_
          simp only [Act.put, sA9, sB9, sC9]
          refine wpList_nil ?_
          go_upto_region 11 with fail
          refine wp_region_lit ?_
          refine Step.p_move rfl _ rfl (.int .u32 xa) rfl ?_
          simp only [Act.put, sA9, sB9, sC9]
          refine Dig.p_int rfl .u32 (Dig.ex_shr _ _ _ _ rfl _ _ _ 7 rfl rfl) ?_
          intro z11
          simp only [Act.put, sA9, sB9, sC9]
          refine Step.p_move rfl _ rfl (.int .u32 xa) rfl ?_
          simp only [Act.put, sA9, sB9, sC9]
          refine Dig.p_int rfl .u32 (Dig.ex_shl _ _ _ _ rfl _ _ _ 25 rfl rfl) ?_
          intro z12
          simp only [Act.put, sA9, sB9, sC9]
          refine Dig.p_int rfl .u32 (Dig.ex_bin .or (by simp) _ _ _ _ rfl _ _ _ rfl rfl) ?_
          intro z13
          simp only [Act.put, sA9, sB9, sC9]
          refine Step.p_move rfl _ rfl (.int .u32 xa) rfl ?_
          simp only [Act.put, sA9, sB9, sC9]
          refine Dig.p_int rfl .u32 (Dig.ex_shr _ _ _ _ rfl _ _ _ 18 rfl rfl) ?_
          intro z14
          simp only [Act.put, sA9, sB9, sC9]
          refine Step.p_move rfl _ rfl (.int .u32 xa) rfl ?_
          simp only [Act.put, sA9, sB9, sC9]
          refine Dig.p_int rfl .u32 (Dig.ex_shl _ _ _ _ rfl _ _ _ 14 rfl rfl) ?_
          intro z15
          simp only [Act.put, sA9, sB9, sC9]
          refine Dig.p_int rfl .u32 (Dig.ex_bin .or (by simp) _ _ _ _ rfl _ _ _ rfl rfl) ?_
          intro z16
          simp only [Act.put, sA9, sB9, sC9]
          refine Dig.p_int rfl .u32 (Dig.ex_bin .xor (by simp) _ _ _ _ rfl _ _ _ rfl rfl) ?_
          intro z17
          simp only [Act.put, sA9, sB9, sC9]
          refine Step.p_move rfl _ rfl (.int .u32 xa) rfl ?_
          simp only [Act.put, sA9, sB9, sC9]
          refine Dig.p_int rfl .u32 (Dig.ex_shr _ _ _ _ rfl _ _ _ 3 rfl rfl) ?_
          intro z18
          simp only [Act.put, sA9, sB9, sC9]
          refine Dig.p_int rfl .u32 (Dig.ex_bin .xor (by simp) _ _ _ _ rfl _ _ _ rfl rfl) ?_
          intro z19
          simp only [Act.put, sA9, sB9, sC9]
          refine Step.p_assign rfl _ rfl (.int .u32 z19) rfl ?_
          simp only [Act.put, sA9, sB9, sC9]
          refine wpList_nil ?_
          go_upto_region 12 with fail
          refine wp_region_lit ?_
          refine Step.p_move rfl _ rfl (.int .u32 xb) rfl ?_
          simp only [Act.put, sA9, sB9, sC9]
          refine Dig.p_int rfl .u32 (Dig.ex_shr _ _ _ _ rfl _ _ _ 17 rfl rfl) ?_
          intro z20
          simp only [Act.put, sA9, sB9, sC9]
          refine Step.p_move rfl _ rfl (.int .u32 xb) rfl ?_
          simp only [Act.put, sA9, sB9, sC9]
          refine Dig.p_int rfl .u32 (Dig.ex_shl _ _ _ _ rfl _ _ _ 15 rfl rfl) ?_
          intro z21
          simp only [Act.put, sA9, sB9, sC9]
          refine Dig.p_int rfl .u32 (Dig.ex_bin .or (by simp) _ _ _ _ rfl _ _ _ rfl rfl) ?_
          intro z22
          simp only [Act.put, sA9, sB9, sC9]
          refine Step.p_move rfl _ rfl (.int .u32 xb) rfl ?_
          simp only [Act.put, sA9, sB9, sC9]
          refine Dig.p_int rfl .u32 (Dig.ex_shr _ _ _ _ rfl _ _ _ 19 rfl rfl) ?_
          intro z23
          simp only [Act.put, sA9, sB9, sC9]
          refine Step.p_move rfl _ rfl (.int .u32 xb) rfl ?_
          simp only [Act.put, sA9, sB9, sC9]
          refine Dig.p_int rfl .u32 (Dig.ex_shl _ _ _ _ rfl _ _ _ 13 rfl rfl) ?_
          intro z24
          simp only [Act.put, sA9, sB9, sC9]
          refine Dig.p_int rfl .u32 (Dig.ex_bin .or (by simp) _ _ _ _ rfl _ _ _ rfl rfl) ?_
          intro z25
          simp only [Act.put, sA9, sB9, sC9]
          refine Dig.p_int rfl .u32 (Dig.ex_bin .xor (by simp) _ _ _ _ rfl _ _ _ rfl rfl) ?_
          intro z26
          simp only [Act.put, sA9, sB9, sC9]
          refine Step.p_move rfl _ rfl (.int .u32 xb) rfl ?_
          simp only [Act.put, sA9, sB9, sC9]
          refine Dig.p_int rfl .u32 (Dig.ex_shr _ _ _ _ rfl _ _ _ 10 rfl rfl) ?_
          intro z27
          simp only [Act.put, sA9, sB9, sC9]
          refine Dig.p_int rfl .u32 (Dig.ex_bin .xor (by simp) _ _ _ _ rfl _ _ _ rfl rfl) ?_
          intro z28
          simp only [Act.put, sA9, sB9, sC9]
          refine Step.p_assign rfl _ rfl (.int .u32 z28) rfl ?_
          simp only [Act.put, sA9, sB9, sC9]
          refine wpList_nil ?_
          go_upto_region 13 with fail
          refine wp_region_still_tail 15 (by kernel_rfl) (by kernel_rfl) ?_
          refine Still.s_move rfl _ rfl (.int .i64 k) rfl ?_
          simp only [Act.put, sA9, sB9, sC9]
          refine Still.s_move rfl _ rfl (.int .u32 z28) rfl ?_
          simp only [Act.put, sA9, sB9, sC9]
          refine Still.s_move rfl _ rfl (.int .i64 k) rfl ?_
          simp only [Act.put, sA9, sB9, sC9]
          refine Still.s_val rfl (.int .i64 (k - 7 : Nat)) (by unfold execOp; go_simp; try (first | rfl | omega | exact (IntWalk.i64_in _ (by omega)).trans (by omega))) ?_
          simp only [Act.put, sA9, sB9, sC9]
          refine Still.s_idxA rfl _ 132 _ _ rfl (wb) (0) rfl .i64 (k - 7) rfl (by omega) Tryz.underlying183 (size := 1) (by kernel_rfl) (k - 7) (by omega) ?_
          simp only [Act.put, sA9, sB9, sC9]
          refine Still.s_load1 rfl _ _ rfl (wb) (k - 7) rfl (.int .u32 xd) (Hxd.out) Tryz.underlying132 rfl ?_
          simp only [Act.put, sA9, sB9, sC9]
          refine Dig.s_int rfl .u32 (Dig.ex_bin .add (by simp) _ _ _ _ rfl _ _ _ rfl rfl) ?_
          intro z29
          simp only [Act.put, sA9, sB9, sC9]
          refine Still.s_move rfl _ rfl (.int .u32 z19) rfl ?_
          simp only [Act.put, sA9, sB9, sC9]
          refine Dig.s_int rfl .u32 (Dig.ex_bin .add (by simp) _ _ _ _ rfl _ _ _ rfl rfl) ?_
          intro z30
          simp only [Act.put, sA9, sB9, sC9]
          refine Still.s_move rfl _ rfl (.int .i64 k) rfl ?_
          simp only [Act.put, sA9, sB9, sC9]
          refine Still.s_val rfl (.int .i64 (k - 16 : Nat)) (by unfold execOp; go_simp; try (first | rfl | omega | exact (IntWalk.i64_in _ (by omega)).trans (by omega))) ?_
          simp only [Act.put, sA9, sB9, sC9]
          refine Still.s_idxA rfl _ 132 _ _ rfl (wb) (0) rfl .i64 (k - 16) rfl (by omega) Tryz.underlying183 (size := 1) (by kernel_rfl) (k - 16) (by omega) ?_
          simp only [Act.put, sA9, sB9, sC9]
          refine Still.s_load1 rfl _ _ rfl (wb) (k - 16) rfl (.int .u32 xc) (Hxc.out) Tryz.underlying132 rfl ?_
          simp only [Act.put, sA9, sB9, sC9]
          refine Dig.s_int rfl .u32 (Dig.ex_bin .add (by simp) _ _ _ _ rfl _ _ _ rfl rfl) ?_
          intro z31
          simp only [Act.put, sA9, sB9, sC9]
          refine Still.s_idxA rfl _ 132 _ _ rfl (wb) (0) rfl .i64 (k) rfl (by omega) Tryz.underlying183 (size := 1) (by kernel_rfl) (k) (by omega) ?_
          simp only [Act.put, sA9, sB9, sC9]
          refine wpStill_nil ?_
          simp only [List.drop]
          change wpList _ _ _ _ _ wr.drew
          refine p_storeP rfl 132 _ _ rfl wb k rfl .u32 z31 rfl hi1 Z7.out.wd (by omega) ⟨_, rfl⟩ ?_
          intro w8 r4 g4 _
          simp only [Act.put]
          refine wpList_nil ?_
          have Z8 := Lib.hid (Z7.out.putW r4 g4 (by omega) (by omega) (by omega) (by omega))
          clear r4 g4 Z7
          clear Hxa Hxb Hxc Hxd
          go_wp2
          exact ⟨⟨k + 1, by omega, by omega, by go_num, Z8.out⟩, by simp [RowKit.intOf]; omega⟩
        · obtain rfl : k = 64 := by omega
          have Z70 := Lib.hid Z7.out.undrew
          clear Z7
          obtain ⟨y0, hy0⟩ := Z70.out.h.num (j := 0) (by decide)
          have HY0 := Lib.hid hy0
          clear hy0
          obtain ⟨y1, hy1⟩ := Z70.out.h.num (j := 1) (by decide)
          have HY1 := Lib.hid hy1
          clear hy1
          obtain ⟨y2, hy2⟩ := Z70.out.h.num (j := 2) (by decide)
          have HY2 := Lib.hid hy2
          clear hy2
          obtain ⟨y3, hy3⟩ := Z70.out.h.num (j := 3) (by decide)
          have HY3 := Lib.hid hy3
          clear hy3
          go_upto_region 14 with fail
          refine Step.wp_region_class (C := fun w' => Below wr.heap.size wr w') (by kernel_rfl) (by kernel_rfl) (Below.refl _ _).drew ?_
          refine Still.q_idxA rfl _ 132 _ _ rfl (hb) (0) rfl .i64 (0) rfl (by decide) Tryz.underlying185 (size := 1) (by kernel_rfl) (0) (by decide) ?_
          simp only [Act.put, sA9, sB9, sC9]
          refine Step.q_load1 rfl _ _ rfl (hb) (0) rfl (.int .u32 y0) (fun w' hw' => (hw'.cell (p := ⟨hb, 0, none⟩) (Frame.block_lt (HY0.out))).trans (HY0.out)) Tryz.underlying132 rfl ?_
          simp only [Act.put, sA9, sB9, sC9]
          refine Still.q_idxA rfl _ 132 _ _ rfl (hb) (0) rfl .i64 (1) rfl (by decide) Tryz.underlying185 (size := 1) (by kernel_rfl) (1) (by decide) ?_
          simp only [Act.put, sA9, sB9, sC9]
          refine Step.q_load1 rfl _ _ rfl (hb) (1) rfl (.int .u32 y1) (fun w' hw' => (hw'.cell (p := ⟨hb, 1, none⟩) (Frame.block_lt (HY1.out))).trans (HY1.out)) Tryz.underlying132 rfl ?_
          simp only [Act.put, sA9, sB9, sC9]
          refine Still.q_idxA rfl _ 132 _ _ rfl (hb) (0) rfl .i64 (2) rfl (by decide) Tryz.underlying185 (size := 1) (by kernel_rfl) (2) (by decide) ?_
          simp only [Act.put, sA9, sB9, sC9]
          refine Step.q_load1 rfl _ _ rfl (hb) (2) rfl (.int .u32 y2) (fun w' hw' => (hw'.cell (p := ⟨hb, 2, none⟩) (Frame.block_lt (HY2.out))).trans (HY2.out)) Tryz.underlying132 rfl ?_
          simp only [Act.put, sA9, sB9, sC9]
          refine Still.q_idxA rfl _ 132 _ _ rfl (hb) (0) rfl .i64 (3) rfl (by decide) Tryz.underlying185 (size := 1) (by kernel_rfl) (3) (by decide) ?_
          simp only [Act.put, sA9, sB9, sC9]
          refine Step.q_load1 rfl _ _ rfl (hb) (3) rfl (.int .u32 y3) (fun w' hw' => (hw'.cell (p := ⟨hb, 3, none⟩) (Frame.block_lt (HY3.out))).trans (HY3.out)) Tryz.underlying132 rfl ?_
          simp only [Act.put, sA9, sB9, sC9]
          refine Step.q_assign rfl _ rfl (.int .u32 y0) rfl ?_
          simp only [Act.put, sA9, sB9, sC9]
          refine Step.q_assign rfl _ rfl (.int .u32 y1) rfl ?_
          simp only [Act.put, sA9, sB9, sC9]
          refine Step.q_assign rfl _ rfl (.int .u32 y2) rfl ?_
          simp only [Act.put, sA9, sB9, sC9]
          refine Step.q_assign rfl _ rfl (.int .u32 y3) rfl ?_
          simp only [Act.put, sA9, sB9, sC9]
          refine wpQuiet_nil ?_
          intro w71 hbw
          have Z71 := Lib.hid (Z70.out.next hbw)
          clear hbw Z70 HY0 HY1 HY2 HY3
          obtain ⟨y4, hy4⟩ := Z71.out.h.num (j := 4) (by decide)
          have HY4 := Lib.hid hy4
          clear hy4
          obtain ⟨y5, hy5⟩ := Z71.out.h.num (j := 5) (by decide)
          have HY5 := Lib.hid hy5
          clear hy5
          obtain ⟨y6, hy6⟩ := Z71.out.h.num (j := 6) (by decide)
          have HY6 := Lib.hid hy6
          clear hy6
          obtain ⟨y7, hy7⟩ := Z71.out.h.num (j := 7) (by decide)
          have HY7 := Lib.hid hy7
          clear hy7
          go_upto_region 15 with fail
          refine Step.wp_region_class (C := fun w' => Below w71.heap.size w71 w') (by kernel_rfl) (by kernel_rfl) (Below.refl _ _).drew ?_
          refine Still.q_idxA rfl _ 132 _ _ rfl (hb) (0) rfl .i64 (4) rfl (by decide) Tryz.underlying185 (size := 1) (by kernel_rfl) (4) (by decide) ?_
          simp only [Act.put, sA9, sB9, sC9]
          refine Step.q_load1 rfl _ _ rfl (hb) (4) rfl (.int .u32 y4) (fun w' hw' => (hw'.cell (p := ⟨hb, 4, none⟩) (Frame.block_lt (HY4.out))).trans (HY4.out)) Tryz.underlying132 rfl ?_
          simp only [Act.put, sA9, sB9, sC9]
          refine Still.q_idxA rfl _ 132 _ _ rfl (hb) (0) rfl .i64 (5) rfl (by decide) Tryz.underlying185 (size := 1) (by kernel_rfl) (5) (by decide) ?_
          simp only [Act.put, sA9, sB9, sC9]
          refine Step.q_load1 rfl _ _ rfl (hb) (5) rfl (.int .u32 y5) (fun w' hw' => (hw'.cell (p := ⟨hb, 5, none⟩) (Frame.block_lt (HY5.out))).trans (HY5.out)) Tryz.underlying132 rfl ?_
          simp only [Act.put, sA9, sB9, sC9]
          refine Still.q_idxA rfl _ 132 _ _ rfl (hb) (0) rfl .i64 (6) rfl (by decide) Tryz.underlying185 (size := 1) (by kernel_rfl) (6) (by decide) ?_
          simp only [Act.put, sA9, sB9, sC9]
          refine Step.q_load1 rfl _ _ rfl (hb) (6) rfl (.int .u32 y6) (fun w' hw' => (hw'.cell (p := ⟨hb, 6, none⟩) (Frame.block_lt (HY6.out))).trans (HY6.out)) Tryz.underlying132 rfl ?_
          simp only [Act.put, sA9, sB9, sC9]
          refine Still.q_idxA rfl _ 132 _ _ rfl (hb) (0) rfl .i64 (7) rfl (by decide) Tryz.underlying185 (size := 1) (by kernel_rfl) (7) (by decide) ?_
          simp only [Act.put, sA9, sB9, sC9]
          refine Step.q_load1 rfl _ _ rfl (hb) (7) rfl (.int .u32 y7) (fun w' hw' => (hw'.cell (p := ⟨hb, 7, none⟩) (Frame.block_lt (HY7.out))).trans (HY7.out)) Tryz.underlying132 rfl ?_
          simp only [Act.put, sA9, sB9, sC9]
          refine Step.q_assign rfl _ rfl (.int .u32 y4) rfl ?_
          simp only [Act.put, sA9, sB9, sC9]
          refine Step.q_assign rfl _ rfl (.int .u32 y5) rfl ?_
          simp only [Act.put, sA9, sB9, sC9]
          refine Step.q_assign rfl _ rfl (.int .u32 y6) rfl ?_
          simp only [Act.put, sA9, sB9, sC9]
          refine Step.q_assign rfl _ rfl (.int .u32 y7) rfl ?_
          simp only [Act.put, sA9, sB9, sC9]
          refine wpQuiet_nil ?_
          intro w72 hbw
          have Z9 := Lib.hid (Z71.out.next hbw)
          clear hbw Z71 HY4 HY5 HY6 HY7
          go_wp2
          go_loopw [22, 14, 15, 16, 17, 18, 19, 20, 21, 23, 24, 25, 26] (fun i a0 a1 a2 a3 a4 a5 a6 a7 _ _ _ _ wr => ∃ (k : Nat) (z0 z1 z2 z3 z4 z5 z6 z7 : Int), k ≤ 64 ∧ i = .int .i64 k ∧ a0 = .int .u32 z0 ∧ a1 = .int .u32 z1 ∧ a2 = .int .u32 z2 ∧ a3 = .int .u32 z3 ∧ a4 = .int .u32 z4 ∧ a5 = .int .u32 z5 ∧ a6 = .int .u32 z6 ∧ a7 = .int .u32 z7 ∧ TZ hb kb ob wb (some ⟨g, off, none⟩) w wr) (fun i _ _ _ _ _ _ _ _ _ _ _ _ _ => 64 - (RowKit.intOf i).toNat)
          case atStart => exact ⟨0, _, _, _, _, _, _, _, _, by omega, rfl, rfl, rfl, rfl, rfl, rfl, rfl, rfl, rfl, Z9.out⟩
          case round =>
            obtain ⟨k, e0, e1, e2, e3, e4, e5, e6, e7, hk, rfl, rfl, rfl, rfl, rfl, rfl, rfl, rfl, rfl, hz⟩ := hrel
            have ZA := Lib.hid hz.drew
            clear hz Z9
            by_cases hlt3 : k < 64
            · skip
              obtain ⟨xk, hxk⟩ := ZA.out.k.num (j := k) (by omega)
              have HXK := Lib.hid hxk
              clear hxk
              obtain ⟨xw, hxw⟩ := ZA.out.wd.num (j := k) (by omega)
              have HXW := Lib.hid hxw
              clear hxw
              go_upto_region 19 with fail
              refine wp_region_lit ?_
              refine Step.p_move rfl _ rfl (.int .u32 e4) rfl ?_
              simp only [Act.put, sA9, sB9, sC9]
              refine Dig.p_int rfl .u32 (Dig.ex_shr _ _ _ _ rfl _ _ _ 6 rfl rfl) ?_
              intro z32
              simp only [Act.put, sA9, sB9, sC9]
              refine Step.p_move rfl _ rfl (.int .u32 e4) rfl ?_
              simp only [Act.put, sA9, sB9, sC9]
              refine Dig.p_int rfl .u32 (Dig.ex_shl _ _ _ _ rfl _ _ _ 26 rfl rfl) ?_
              intro z33
              simp only [Act.put, sA9, sB9, sC9]
              refine Dig.p_int rfl .u32 (Dig.ex_bin .or (by simp) _ _ _ _ rfl _ _ _ rfl rfl) ?_
              intro z34
              simp only [Act.put, sA9, sB9, sC9]
              refine Step.p_move rfl _ rfl (.int .u32 e4) rfl ?_
              simp only [Act.put, sA9, sB9, sC9]
              refine Dig.p_int rfl .u32 (Dig.ex_shr _ _ _ _ rfl _ _ _ 11 rfl rfl) ?_
              intro z35
              simp only [Act.put, sA9, sB9, sC9]
              refine Step.p_move rfl _ rfl (.int .u32 e4) rfl ?_
              simp only [Act.put, sA9, sB9, sC9]
              refine Dig.p_int rfl .u32 (Dig.ex_shl _ _ _ _ rfl _ _ _ 21 rfl rfl) ?_
              intro z36
              simp only [Act.put, sA9, sB9, sC9]
              refine Dig.p_int rfl .u32 (Dig.ex_bin .or (by simp) _ _ _ _ rfl _ _ _ rfl rfl) ?_
              intro z37
              simp only [Act.put, sA9, sB9, sC9]
              refine Dig.p_int rfl .u32 (Dig.ex_bin .xor (by simp) _ _ _ _ rfl _ _ _ rfl rfl) ?_
              intro z38
              simp only [Act.put, sA9, sB9, sC9]
              refine Step.p_move rfl _ rfl (.int .u32 e4) rfl ?_
              simp only [Act.put, sA9, sB9, sC9]
              refine Dig.p_int rfl .u32 (Dig.ex_shr _ _ _ _ rfl _ _ _ 25 rfl rfl) ?_
              intro z39
              simp only [Act.put, sA9, sB9, sC9]
              refine Step.p_move rfl _ rfl (.int .u32 e4) rfl ?_
              simp only [Act.put, sA9, sB9, sC9]
              refine Dig.p_int rfl .u32 (Dig.ex_shl _ _ _ _ rfl _ _ _ 7 rfl rfl) ?_
              intro z40
              simp only [Act.put, sA9, sB9, sC9]
              refine Dig.p_int rfl .u32 (Dig.ex_bin .or (by simp) _ _ _ _ rfl _ _ _ rfl rfl) ?_
              intro z41
              simp only [Act.put, sA9, sB9, sC9]
              refine Dig.p_int rfl .u32 (Dig.ex_bin .xor (by simp) _ _ _ _ rfl _ _ _ rfl rfl) ?_
              intro z42
              simp only [Act.put, sA9, sB9, sC9]
              refine Step.p_assign rfl _ rfl (.int .u32 z42) rfl ?_
              simp only [Act.put, sA9, sB9, sC9]
              refine wpList_nil ?_
              go_upto_region 20 with fail
              refine wp_region_lit ?_
              refine Step.p_move rfl _ rfl (.int .u32 e0) rfl ?_
              simp only [Act.put, sA9, sB9, sC9]
              refine Dig.p_int rfl .u32 (Dig.ex_shr _ _ _ _ rfl _ _ _ 2 rfl rfl) ?_
              intro z43
              simp only [Act.put, sA9, sB9, sC9]
              refine Step.p_move rfl _ rfl (.int .u32 e0) rfl ?_
              simp only [Act.put, sA9, sB9, sC9]
              refine Dig.p_int rfl .u32 (Dig.ex_shl _ _ _ _ rfl _ _ _ 30 rfl rfl) ?_
              intro z44
              simp only [Act.put, sA9, sB9, sC9]
              refine Dig.p_int rfl .u32 (Dig.ex_bin .or (by simp) _ _ _ _ rfl _ _ _ rfl rfl) ?_
              intro z45
              simp only [Act.put, sA9, sB9, sC9]
              refine Step.p_move rfl _ rfl (.int .u32 e0) rfl ?_
              simp only [Act.put, sA9, sB9, sC9]
              refine Dig.p_int rfl .u32 (Dig.ex_shr _ _ _ _ rfl _ _ _ 13 rfl rfl) ?_
              intro z46
              simp only [Act.put, sA9, sB9, sC9]
              refine Step.p_move rfl _ rfl (.int .u32 e0) rfl ?_
              simp only [Act.put, sA9, sB9, sC9]
              refine Dig.p_int rfl .u32 (Dig.ex_shl _ _ _ _ rfl _ _ _ 19 rfl rfl) ?_
              intro z47
              simp only [Act.put, sA9, sB9, sC9]
              refine Dig.p_int rfl .u32 (Dig.ex_bin .or (by simp) _ _ _ _ rfl _ _ _ rfl rfl) ?_
              intro z48
              simp only [Act.put, sA9, sB9, sC9]
              refine Dig.p_int rfl .u32 (Dig.ex_bin .xor (by simp) _ _ _ _ rfl _ _ _ rfl rfl) ?_
              intro z49
              simp only [Act.put, sA9, sB9, sC9]
              refine Step.p_move rfl _ rfl (.int .u32 e0) rfl ?_
              simp only [Act.put, sA9, sB9, sC9]
              refine Dig.p_int rfl .u32 (Dig.ex_shr _ _ _ _ rfl _ _ _ 22 rfl rfl) ?_
              intro z50
              simp only [Act.put, sA9, sB9, sC9]
              refine Step.p_move rfl _ rfl (.int .u32 e0) rfl ?_
              simp only [Act.put, sA9, sB9, sC9]
              refine Dig.p_int rfl .u32 (Dig.ex_shl _ _ _ _ rfl _ _ _ 10 rfl rfl) ?_
              intro z51
              simp only [Act.put, sA9, sB9, sC9]
              refine Dig.p_int rfl .u32 (Dig.ex_bin .or (by simp) _ _ _ _ rfl _ _ _ rfl rfl) ?_
              intro z52
              simp only [Act.put, sA9, sB9, sC9]
              refine Dig.p_int rfl .u32 (Dig.ex_bin .xor (by simp) _ _ _ _ rfl _ _ _ rfl rfl) ?_
              intro z53
              simp only [Act.put, sA9, sB9, sC9]
              refine Step.p_assign rfl _ rfl (.int .u32 z53) rfl ?_
              simp only [Act.put, sA9, sB9, sC9]
              refine wpList_nil ?_
              go_upto_region 21 with fail
              refine wp_region_still_tail 20 (by kernel_rfl) (by kernel_rfl) ?_
              refine Still.s_move rfl _ rfl (.int .u32 e7) rfl ?_
              simp only [Act.put, sA9, sB9, sC9]
              refine Still.s_move rfl _ rfl (.int .u32 z42) rfl ?_
              simp only [Act.put, sA9, sB9, sC9]
              refine Dig.s_int rfl .u32 (Dig.ex_bin .add (by simp) _ _ _ _ rfl _ _ _ rfl rfl) ?_
              intro z54
              simp only [Act.put, sA9, sB9, sC9]
              refine Still.s_move rfl _ rfl (.int .u32 e4) rfl ?_
              simp only [Act.put, sA9, sB9, sC9]
              refine Still.s_move rfl _ rfl (.int .u32 e5) rfl ?_
              simp only [Act.put, sA9, sB9, sC9]
              refine Dig.s_int rfl .u32 (Dig.ex_bin .and (by simp) _ _ _ _ rfl _ _ _ rfl rfl) ?_
              intro z55
              simp only [Act.put, sA9, sB9, sC9]
              refine Still.s_move rfl _ rfl (.int .u32 e4) rfl ?_
              simp only [Act.put, sA9, sB9, sC9]
              refine Dig.s_int rfl .u32 (Dig.ex_not _ _ rfl _ _ rfl) ?_
              intro z56
              simp only [Act.put, sA9, sB9, sC9]
              refine Still.s_move rfl _ rfl (.int .u32 e6) rfl ?_
              simp only [Act.put, sA9, sB9, sC9]
              refine Dig.s_int rfl .u32 (Dig.ex_bin .and (by simp) _ _ _ _ rfl _ _ _ rfl rfl) ?_
              intro z57
              simp only [Act.put, sA9, sB9, sC9]
              refine Dig.s_int rfl .u32 (Dig.ex_bin .or (by simp) _ _ _ _ rfl _ _ _ rfl rfl) ?_
              intro z58
              simp only [Act.put, sA9, sB9, sC9]
              refine Dig.s_int rfl .u32 (Dig.ex_bin .add (by simp) _ _ _ _ rfl _ _ _ rfl rfl) ?_
              intro z59
              simp only [Act.put, sA9, sB9, sC9]
              refine Still.s_move rfl _ rfl (.int .i64 k) rfl ?_
              simp only [Act.put, sA9, sB9, sC9]
              refine Still.s_idxA rfl _ 132 _ _ rfl (kb) (0) rfl .i64 (k) rfl (by omega) Tryz.underlying183 (size := 1) (by kernel_rfl) (k) (by omega) ?_
              simp only [Act.put, sA9, sB9, sC9]
              refine Still.s_load1 rfl _ _ rfl (kb) (k) rfl (.int .u32 xk) (HXK.out) Tryz.underlying132 rfl ?_
              simp only [Act.put, sA9, sB9, sC9]
              refine Dig.s_int rfl .u32 (Dig.ex_bin .add (by simp) _ _ _ _ rfl _ _ _ rfl rfl) ?_
              intro z60
              simp only [Act.put, sA9, sB9, sC9]
              refine Still.s_move rfl _ rfl (.int .i64 k) rfl ?_
              simp only [Act.put, sA9, sB9, sC9]
              refine Still.s_idxA rfl _ 132 _ _ rfl (wb) (0) rfl .i64 (k) rfl (by omega) Tryz.underlying183 (size := 1) (by kernel_rfl) (k) (by omega) ?_
              simp only [Act.put, sA9, sB9, sC9]
              refine Still.s_load1 rfl _ _ rfl (wb) (k) rfl (.int .u32 xw) (HXW.out) Tryz.underlying132 rfl ?_
              simp only [Act.put, sA9, sB9, sC9]
              refine Dig.s_int rfl .u32 (Dig.ex_bin .add (by simp) _ _ _ _ rfl _ _ _ rfl rfl) ?_
              intro z61
              simp only [Act.put, sA9, sB9, sC9]
              refine wpStill_nil ?_
              simp only [List.drop]
              refine Step.p_assign rfl _ rfl (.int .u32 z61) rfl ?_
              simp only [Act.put, sA9, sB9, sC9]
              refine wpList_nil ?_
              have ZB := Lib.hid ZA.out
              clear ZA HXK HXW
              go_upto_region 22 with fail
              refine wp_region_lit ?_
              refine Step.p_move rfl _ rfl (.int .u32 z53) rfl ?_
              simp only [Act.put, sA9, sB9, sC9]
              refine Step.p_move rfl _ rfl (.int .u32 e0) rfl ?_
              simp only [Act.put, sA9, sB9, sC9]
              refine Step.p_move rfl _ rfl (.int .u32 e1) rfl ?_
              simp only [Act.put, sA9, sB9, sC9]
              refine Dig.p_int rfl .u32 (Dig.ex_bin .and (by simp) _ _ _ _ rfl _ _ _ rfl rfl) ?_
              intro z62
              simp only [Act.put, sA9, sB9, sC9]
              refine Step.p_move rfl _ rfl (.int .u32 e0) rfl ?_
              simp only [Act.put, sA9, sB9, sC9]
              refine Step.p_move rfl _ rfl (.int .u32 e2) rfl ?_
              simp only [Act.put, sA9, sB9, sC9]
              refine Dig.p_int rfl .u32 (Dig.ex_bin .and (by simp) _ _ _ _ rfl _ _ _ rfl rfl) ?_
              intro z63
              simp only [Act.put, sA9, sB9, sC9]
              refine Dig.p_int rfl .u32 (Dig.ex_bin .or (by simp) _ _ _ _ rfl _ _ _ rfl rfl) ?_
              intro z64
              simp only [Act.put, sA9, sB9, sC9]
              refine Step.p_move rfl _ rfl (.int .u32 e1) rfl ?_
              simp only [Act.put, sA9, sB9, sC9]
              refine Step.p_move rfl _ rfl (.int .u32 e2) rfl ?_
              simp only [Act.put, sA9, sB9, sC9]
              refine Dig.p_int rfl .u32 (Dig.ex_bin .and (by simp) _ _ _ _ rfl _ _ _ rfl rfl) ?_
              intro z65
              simp only [Act.put, sA9, sB9, sC9]
              refine Dig.p_int rfl .u32 (Dig.ex_bin .or (by simp) _ _ _ _ rfl _ _ _ rfl rfl) ?_
              intro z66
              simp only [Act.put, sA9, sB9, sC9]
              refine Dig.p_int rfl .u32 (Dig.ex_bin .add (by simp) _ _ _ _ rfl _ _ _ rfl rfl) ?_
              intro z67
              simp only [Act.put, sA9, sB9, sC9]
              refine Step.p_assign rfl _ rfl (.int .u32 z67) rfl ?_
              simp only [Act.put, sA9, sB9, sC9]
              refine wpList_nil ?_
              go_upto_region 23 with fail
              refine wp_region_lit ?_
              refine Step.p_move rfl _ rfl (.int .u32 e6) rfl ?_
              simp only [Act.put, sA9, sB9, sC9]
              refine Step.p_assign rfl _ rfl (.int .u32 e6) rfl ?_
              simp only [Act.put, sA9, sB9, sC9]
              refine wpList_nil ?_
              go_upto_region 24 with fail
              refine wp_region_lit ?_
              refine Step.p_move rfl _ rfl (.int .u32 e5) rfl ?_
              simp only [Act.put, sA9, sB9, sC9]
              refine Step.p_assign rfl _ rfl (.int .u32 e5) rfl ?_
              simp only [Act.put, sA9, sB9, sC9]
              refine wpList_nil ?_
              go_upto_region 25 with fail
              refine wp_region_lit ?_
              refine Step.p_move rfl _ rfl (.int .u32 e4) rfl ?_
              simp only [Act.put, sA9, sB9, sC9]
              refine Step.p_assign rfl _ rfl (.int .u32 e4) rfl ?_
              simp only [Act.put, sA9, sB9, sC9]
              refine wpList_nil ?_
              go_upto_region 26 with fail
              refine wp_region_lit ?_
              refine Step.p_move rfl _ rfl (.int .u32 e3) rfl ?_
              simp only [Act.put, sA9, sB9, sC9]
              refine Step.p_move rfl _ rfl (.int .u32 z61) rfl ?_
              simp only [Act.put, sA9, sB9, sC9]
              refine Dig.p_int rfl .u32 (Dig.ex_bin .add (by simp) _ _ _ _ rfl _ _ _ rfl rfl) ?_
              intro z68
              simp only [Act.put, sA9, sB9, sC9]
              refine Step.p_assign rfl _ rfl (.int .u32 z68) rfl ?_
              simp only [Act.put, sA9, sB9, sC9]
              refine wpList_nil ?_
              go_upto_region 27 with fail
              refine wp_region_lit ?_
              refine Step.p_move rfl _ rfl (.int .u32 e2) rfl ?_
              simp only [Act.put, sA9, sB9, sC9]
              refine Step.p_assign rfl _ rfl (.int .u32 e2) rfl ?_
              simp only [Act.put, sA9, sB9, sC9]
              refine wpList_nil ?_
              go_upto_region 28 with fail
              refine wp_region_lit ?_
              refine Step.p_move rfl _ rfl (.int .u32 e1) rfl ?_
              simp only [Act.put, sA9, sB9, sC9]
              refine Step.p_assign rfl _ rfl (.int .u32 e1) rfl ?_
              simp only [Act.put, sA9, sB9, sC9]
              refine wpList_nil ?_
              go_upto_region 29 with fail
              refine wp_region_lit ?_
              refine Step.p_move rfl _ rfl (.int .u32 e0) rfl ?_
              simp only [Act.put, sA9, sB9, sC9]
              refine Step.p_assign rfl _ rfl (.int .u32 e0) rfl ?_
              simp only [Act.put, sA9, sB9, sC9]
              refine wpList_nil ?_
              go_upto_region 30 with fail
              refine wp_region_lit ?_
              refine Step.p_move rfl _ rfl (.int .u32 z61) rfl ?_
              simp only [Act.put, sA9, sB9, sC9]
              refine Step.p_move rfl _ rfl (.int .u32 z67) rfl ?_
              simp only [Act.put, sA9, sB9, sC9]
              refine Dig.p_int rfl .u32 (Dig.ex_bin .add (by simp) _ _ _ _ rfl _ _ _ rfl rfl) ?_
              intro z69
              simp only [Act.put, sA9, sB9, sC9]
              refine Step.p_assign rfl _ rfl (.int .u32 z69) rfl ?_
              simp only [Act.put, sA9, sB9, sC9]
              refine wpList_nil ?_
              go_wp2
              exact ⟨⟨k + 1, _, _, _, _, _, _, _, _, by omega, by go_num, rfl, rfl, rfl, rfl, rfl, rfl, rfl, rfl, ZB.out⟩, by simp [RowKit.intOf]; omega⟩
            · obtain rfl : k = 64 := by omega
              obtain ⟨y0, hy0⟩ := ZA.out.h.num (j := 0) (by decide)
              have HY0 := Lib.hid hy0
              clear hy0
              obtain ⟨y1, hy1⟩ := ZA.out.h.num (j := 1) (by decide)
              have HY1 := Lib.hid hy1
              clear hy1
              obtain ⟨y2, hy2⟩ := ZA.out.h.num (j := 2) (by decide)
              have HY2 := Lib.hid hy2
              clear hy2
              obtain ⟨y3, hy3⟩ := ZA.out.h.num (j := 3) (by decide)
              have HY3 := Lib.hid hy3
              clear hy3
              obtain ⟨y4, hy4⟩ := ZA.out.h.num (j := 4) (by decide)
              have HY4 := Lib.hid hy4
              clear hy4
              obtain ⟨y5, hy5⟩ := ZA.out.h.num (j := 5) (by decide)
              have HY5 := Lib.hid hy5
              clear hy5
              obtain ⟨y6, hy6⟩ := ZA.out.h.num (j := 6) (by decide)
              have HY6 := Lib.hid hy6
              clear hy6
              obtain ⟨y7, hy7⟩ := ZA.out.h.num (j := 7) (by decide)
              have HY7 := Lib.hid hy7
              clear hy7
              go_upto_region 31 with fail
              refine wp_region_lit ?_
              refine Still.p_idxA rfl _ 132 _ _ rfl hb 0 rfl .i64 (0) rfl (n := 8) (by omega) Tryz.underlying185 (size := 1) (by kernel_rfl) (0) (by omega) ?_
              simp only [Act.put, sA9, sB9, sC9]
              refine Tree.p_load1 rfl _ _ rfl (hb) (0) rfl (.int .u32 y0) (show World.cell? wr _ = _ from HY0.out) Tryz.underlying132 rfl ?_
              simp only [Act.put, sA9, sB9, sC9]
              refine Step.p_move rfl _ rfl (.int .u32 e0) rfl ?_
              simp only [Act.put, sA9, sB9, sC9]
              refine Dig.p_int rfl .u32 (Dig.ex_bin .add (by simp) _ _ _ _ rfl _ _ _ rfl rfl) ?_
              intro z70
              simp only [Act.put, sA9, sB9, sC9]
              refine Still.p_idxA rfl _ 132 _ _ rfl hb 0 rfl .i64 (1) rfl (n := 8) (by omega) Tryz.underlying185 (size := 1) (by kernel_rfl) (1) (by omega) ?_
              simp only [Act.put, sA9, sB9, sC9]
              refine Tree.p_load1 rfl _ _ rfl (hb) (1) rfl (.int .u32 y1) (show World.cell? wr _ = _ from HY1.out) Tryz.underlying132 rfl ?_
              simp only [Act.put, sA9, sB9, sC9]
              refine Step.p_move rfl _ rfl (.int .u32 e1) rfl ?_
              simp only [Act.put, sA9, sB9, sC9]
              refine Dig.p_int rfl .u32 (Dig.ex_bin .add (by simp) _ _ _ _ rfl _ _ _ rfl rfl) ?_
              intro z71
              simp only [Act.put, sA9, sB9, sC9]
              refine Still.p_idxA rfl _ 132 _ _ rfl hb 0 rfl .i64 (2) rfl (n := 8) (by omega) Tryz.underlying185 (size := 1) (by kernel_rfl) (2) (by omega) ?_
              simp only [Act.put, sA9, sB9, sC9]
              refine Tree.p_load1 rfl _ _ rfl (hb) (2) rfl (.int .u32 y2) (show World.cell? wr _ = _ from HY2.out) Tryz.underlying132 rfl ?_
              simp only [Act.put, sA9, sB9, sC9]
              refine Step.p_move rfl _ rfl (.int .u32 e2) rfl ?_
              simp only [Act.put, sA9, sB9, sC9]
              refine Dig.p_int rfl .u32 (Dig.ex_bin .add (by simp) _ _ _ _ rfl _ _ _ rfl rfl) ?_
              intro z72
              simp only [Act.put, sA9, sB9, sC9]
              refine Still.p_idxA rfl _ 132 _ _ rfl hb 0 rfl .i64 (3) rfl (n := 8) (by omega) Tryz.underlying185 (size := 1) (by kernel_rfl) (3) (by omega) ?_
              simp only [Act.put, sA9, sB9, sC9]
              refine Tree.p_load1 rfl _ _ rfl (hb) (3) rfl (.int .u32 y3) (show World.cell? wr _ = _ from HY3.out) Tryz.underlying132 rfl ?_
              simp only [Act.put, sA9, sB9, sC9]
              refine Step.p_move rfl _ rfl (.int .u32 e3) rfl ?_
              simp only [Act.put, sA9, sB9, sC9]
              refine Dig.p_int rfl .u32 (Dig.ex_bin .add (by simp) _ _ _ _ rfl _ _ _ rfl rfl) ?_
              intro z73
              simp only [Act.put, sA9, sB9, sC9]
              refine Still.p_idxA rfl _ 132 _ _ rfl hb 0 rfl .i64 (4) rfl (n := 8) (by omega) Tryz.underlying185 (size := 1) (by kernel_rfl) (4) (by omega) ?_
              simp only [Act.put, sA9, sB9, sC9]
              refine Tree.p_load1 rfl _ _ rfl (hb) (4) rfl (.int .u32 y4) (show World.cell? wr _ = _ from HY4.out) Tryz.underlying132 rfl ?_
              simp only [Act.put, sA9, sB9, sC9]
              refine Step.p_move rfl _ rfl (.int .u32 e4) rfl ?_
              simp only [Act.put, sA9, sB9, sC9]
              refine Dig.p_int rfl .u32 (Dig.ex_bin .add (by simp) _ _ _ _ rfl _ _ _ rfl rfl) ?_
              intro z74
              simp only [Act.put, sA9, sB9, sC9]
              refine Still.p_idxA rfl _ 132 _ _ rfl hb 0 rfl .i64 (5) rfl (n := 8) (by omega) Tryz.underlying185 (size := 1) (by kernel_rfl) (5) (by omega) ?_
              simp only [Act.put, sA9, sB9, sC9]
              refine Tree.p_load1 rfl _ _ rfl (hb) (5) rfl (.int .u32 y5) (show World.cell? wr _ = _ from HY5.out) Tryz.underlying132 rfl ?_
              simp only [Act.put, sA9, sB9, sC9]
              refine Step.p_move rfl _ rfl (.int .u32 e5) rfl ?_
              simp only [Act.put, sA9, sB9, sC9]
              refine Dig.p_int rfl .u32 (Dig.ex_bin .add (by simp) _ _ _ _ rfl _ _ _ rfl rfl) ?_
              intro z75
              simp only [Act.put, sA9, sB9, sC9]
              refine Still.p_idxA rfl _ 132 _ _ rfl hb 0 rfl .i64 (6) rfl (n := 8) (by omega) Tryz.underlying185 (size := 1) (by kernel_rfl) (6) (by omega) ?_
              simp only [Act.put, sA9, sB9, sC9]
              refine Tree.p_load1 rfl _ _ rfl (hb) (6) rfl (.int .u32 y6) (show World.cell? wr _ = _ from HY6.out) Tryz.underlying132 rfl ?_
              simp only [Act.put, sA9, sB9, sC9]
              refine Step.p_move rfl _ rfl (.int .u32 e6) rfl ?_
              simp only [Act.put, sA9, sB9, sC9]
              refine Dig.p_int rfl .u32 (Dig.ex_bin .add (by simp) _ _ _ _ rfl _ _ _ rfl rfl) ?_
              intro z76
              simp only [Act.put, sA9, sB9, sC9]
              refine Still.p_idxA rfl _ 132 _ _ rfl hb 0 rfl .i64 (7) rfl (n := 8) (by omega) Tryz.underlying185 (size := 1) (by kernel_rfl) (7) (by omega) ?_
              simp only [Act.put, sA9, sB9, sC9]
              refine Tree.p_load1 rfl _ _ rfl (hb) (7) rfl (.int .u32 y7) (show World.cell? wr _ = _ from HY7.out) Tryz.underlying132 rfl ?_
              simp only [Act.put, sA9, sB9, sC9]
              refine Step.p_move rfl _ rfl (.int .u32 e7) rfl ?_
              simp only [Act.put, sA9, sB9, sC9]
              refine Dig.p_int rfl .u32 (Dig.ex_bin .add (by simp) _ _ _ _ rfl _ _ _ rfl rfl) ?_
              intro z77
              simp only [Act.put, sA9, sB9, sC9]
              refine Step.p_val rfl (.agg #[.int .u32 z70, .int .u32 z71, .int .u32 z72, .int .u32 z73, .int .u32 z74, .int .u32 z75, .int .u32 z76, .int .u32 z77]) (by unfold execOp; go_simp; try rfl) ?_
              simp only [Act.put, sA9, sB9, sC9]
              obtain ⟨co, hco, hcs, _⟩ := ZA.out.o
              have h8 : (Tryz.prog.info? 185).map (·.size) = some 8 := by kernel_rfl
              refine Cell.p_storerow rfl 185 _ _ rfl ob rfl #[.int .u32 z70, .int .u32 z71, .int .u32 z72, .int .u32 z73, .int .u32 z74, .int .u32 z75, .int .u32 z76, .int .u32 z77] rfl h8 (by simp [Value.oneCell']) (show wr.heap[ob]? = _ from hco) (by rw [hcs]; rfl) ?_
              intro wz hr5 hg5 _
              simp only [Act.put]
              refine wpList_nil ?_
              have BZ := Lib.hid (ZA.out.bel.grown (w' := wz) ⟨hg5.os, hg5.tape, hg5.output, hg5.size, hg5.block⟩ ZA.out.bel.size (fun j hj => by cases hj; omega))
              clear hg5
              go_wp2
              exact Cell.ret_row rfl rfl hr5 Tryz.underlying185 rfl h8 rfl ⟨⟨_, rfl, .of rfl fun j hj => by
                match j, hj with
                | 0, _ => exact ⟨_, rfl⟩
                | 1, _ => exact ⟨_, rfl⟩
                | 2, _ => exact ⟨_, rfl⟩
                | 3, _ => exact ⟨_, rfl⟩
                | 4, _ => exact ⟨_, rfl⟩
                | 5, _ => exact ⟨_, rfl⟩
                | 6, _ => exact ⟨_, rfl⟩
                | 7, _ => exact ⟨_, rfl⟩
                | m + 8, hm => exact absurd hm (by omega)⟩, BZ.out⟩
end Go.Proofs.YtmifebcaifbmoaaGreatDoor.Rf1
end
