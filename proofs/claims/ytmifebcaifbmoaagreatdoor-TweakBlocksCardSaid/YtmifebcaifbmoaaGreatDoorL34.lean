/- Parts of the proof of TweakBlocks. Dig7: digest: the end of a digest; Sum: 32 bytes. Dig8: digest: Sum of one list of bytes: 32 bytes. -/
import Derived.Test.YtmifebcaifbmoaaGreatDoorL00
import Derived.Test.YtmifebcaifbmoaaGreatDoorL33
/- Dig7 -/
section
namespace Go.Proofs.YtmifebcaifbmoaaGreatDoor.Dig
open Go.RowKit Go.Lib Go.Proofs.YtmifebcaifbmoaaGreatDoor.Blk Go.Proofs.YtmifebcaifbmoaaGreatDoor.Tw Go.Proofs.YtmifebcaifbmoaaGreatDoor.G Go.Proofs.YtmifebcaifbmoaaGreatDoor.Push

theorem mk64 (w : World) : (Instr.makeSlice 22 (.int .i64 0) (.int .i64 64)).run Tryz.prog w = .ok (.slice (some ⟨w.heap.size, 0, none⟩) 0 64) (w.alloc (.cells (arr .u8 64 fun _ => 0) 5)) := by kernel_rfl
/-- how much is laid behind c bytes -/
def padN (c : Nat) : Nat := if (c % 64 + 8) % 64 = 0 then 64 else 64 - (c % 64 + 8) % 64
theorem padN_bd (c : Nat) : 1 ≤ padN c ∧ padN c ≤ 64 := by unfold padN; split <;> omega
theorem padN_lt (c k : Nat) (h1 : 1 ≤ k) (h2 : k < padN c) : (c % 64 + k + 8) % 64 ≠ 0 := by unfold padN at h2; split at h2 <;> omega
theorem padN_at (c : Nat) : (c % 64 + padN c + 8) % 64 = 0 := by unfold padN; split <;> omega
theorem RowP.words {w : World} {b : Nat} {T : TypeId} {c : Nat} (h : RowP w b T 142 (stP c)) : ∃ zs : Nat → Int, w.rangeAt b 6 (arr .u64 8 zs).toList := by
  have hz : ∀ j, ∃ z : Int, j < 8 → w.cell? ⟨b, 6 + j, none⟩ = some (.int .u64 z) := fun j => by
    by_cases hj : j < 8
    · obtain ⟨v, e, hp⟩ := h.cell (j := 6 + j) (by omega)
      obtain ⟨z, rfl⟩ := stP_word' c j hj v hp
      exact ⟨z, fun _ => e⟩
    · exact ⟨0, fun h => absurd h hj⟩
  refine ⟨fun j => (hz j).choose, fun j v hv => ?_⟩
  have hl : j < 8 := by have := (List.getElem?_eq_some_iff.1 hv).1; rwa [Array.length_toList, arr_size] at this
  rw [Array.getElem?_toList, arr_get _ _ _ _ hl] at hv
  cases hv
  exact (hz j).choose_spec hl
/-- the end under way -/
structure EZ (c sb pb : Nat) (w w' : World) : Prop where
  pd : RowP w' pb 175 256 (isInt .u8)
  r : RowP w' sb 230 142 (stP c)
  cu : WordsAt 7 80 w'
  bel : Below w.heap.size w w'
theorem EZ.drew {c sb pb : Nat} {w w1 : World} (h : EZ c sb pb w w1) : EZ c sb pb w w1.drew := ⟨h.pd, h.r, h.cu, h.bel.drew⟩
set_option maxRecDepth 100000 in
set_option maxHeartbeats 16000000 in
theorem end_any (c : Nat) (hc : c ≤ 33554432) (cs : Array Value) (hs : StV c cs) (w : World) (hcu : WordsAt 7 80 w) : Calls Tryz.prog 185 #[.agg cs] w fun e w' => (∃ g cap F, e = .returned (.slice (some ⟨g, 0, none⟩) 32 32) ∧ 32 ≤ cap ∧ (∀ i, F i < 256) ∧ KeyB w' g 0 32 F ∧ w.heap.size ≤ g) ∧ Below w.heap.size w w' := by
  have z256 : (Tryz.prog.info? 175).bind (·.zero) = some (.agg (arr .u8 256 fun _ => 0)) := by kernel_rfl
  have hi1 : (Tryz.prog.info? 5).map (·.size) = some 1 := by kernel_rfl
  have hcl : 7 < w.heap.size := by obtain ⟨z, hz⟩ := hcu 0 (by decide); exact Frame.block_lt hz
  have hrow : RowP (w.alloc (.cells cs 230)) w.heap.size 230 142 (stP c) := hs.row (heap_alloc_new w _)
  have B1 := Lib.hid ((Below.refl w.heap.size w).alloc (Nat.le_refl _) (.cells cs 230))
  have R1 := Lib.hid hrow
  have CU := Lib.hid (hcu.below B1.out)
  have PB := padN_bd c
  clear hs hcu hrow
  go_enter Tryz.func185, Tryz.ntmps185
  go_upto_region 1 with fail
  generalize w.alloc (.cells cs 230) = w1 at *
  obtain ⟨sb, hsb⟩ : ∃ sb, w.heap.size = sb := ⟨_, rfl⟩
  rw [hsb] at R1 ⊢
  have hsbl : sb < w1.heap.size := R1.out.lt
  obtain ⟨a0, a1, a2, _, a5⟩ := R1.out.at_
  have A0 := Lib.hid a0
  have A1 := Lib.hid a1
  have A2 := Lib.hid a2
  have A5 := Lib.hid a5
  clear a0 a1 a2 a5
  refine wp_region_lit ?_
  refine Tree.p_field rfl _ _ _ rfl (sb) (0) rfl Tryz.underlying230 rfl (sz := 1) (by kernel_rfl) (by decide) (5) rfl ?_
  simp only [Act.put, sA9, sB9, sC9]
  refine Tree.p_load1 rfl _ _ rfl (sb) (5) rfl (.int .u64 (c : Nat)) (A5.out) Tryz.underlying25 rfl ?_
  simp only [Act.put, sA9, sB9, sC9]
  refine Step.p_val rfl (.int .u64 (8 * c : Nat)) (by unfold execOp; go_simp; try (first | rfl | omega | exact (IntWalk.u64_in _ (by omega)).trans (by omega) | exact IntWalk.u64_in _ (by omega))) ?_
  simp only [Act.put, sA9, sB9, sC9]
  refine Step.p_assign rfl _ rfl (.int .u64 (8 * c : Nat)) rfl ?_
  simp only [Act.put, sA9, sB9, sC9]
  refine wpList_nil ?_
  go_upto_region 2 with fail
  refine wp_region_lit ?_
  refine New.p_newarr rfl 175 rfl .u8 256 z256 ?_
  intro w2 ha hg2 _
  simp only [Act.put, sA9, sB9, sC9]
  refine wpList_nil ?_
  obtain ⟨pb, hpb⟩ : ∃ pb, w1.heap.size = pb := ⟨_, rfl⟩
  rw [hpb] at ha ⊢
  have hps : pb ≠ sb := by omega
  have hpl : w.heap.size ≤ pb := by omega
  have PD2 := Lib.hid (rowP_of_arr ha)
  have R2 := Lib.hid (R1.out.below (Rj.bel_of_gb (_B := 0) hg2) R1.out.lt)
  have CU2 := Lib.hid (CU.out.below (Rj.bel_of_gb (_B := 0) hg2))
  have B2 := Lib.hid (B1.out.grown hg2 B1.out.size (by simp))
  clear ha hg2 R1 CU B1
  go_upto_region 3 with fail
  refine wp_region_lit ?_
  refine Still.p_idxA rfl _ 5 _ _ rfl pb 0 rfl .i64 0 rfl (n := 256) (by omega) Tryz.underlying175 (size := 1) (by kernel_rfl) 0 (by omega) ?_
  simp only [Act.put, sA9, sB9, sC9]
  refine p_storeP rfl 5 _ _ rfl pb 0 rfl .u8 128 rfl hi1 PD2.out (by omega) ⟨_, rfl⟩ ?_
  intro w3 hr hg2 _
  simp only [Act.put]
  refine wpList_nil ?_
  have PD3 := Lib.hid hr
  have R3 := Lib.hid (R2.out.other hg2 hps.symm)
  have CU3 := Lib.hid (CU2.out.keep hg2 (by omega))
  have B3 := Lib.hid (B2.out.grown hg2 B2.out.size (fun j hj => by cases hj; exact hpl))
  clear hr hg2 PD2 R2 CU2 B2 A0 A1 A2 A5
  have Z3 : Hid (EZ c sb pb w w3) := Lib.hid ⟨PD3.out, R3.out, CU3.out, B3.out⟩
  clear PD3 R3 CU3 B3
  obtain ⟨cm, hcm⟩ : ∃ cm, c % 64 = cm := ⟨_, rfl⟩
  have hcm64 : cm < 64 := by omega
  have HCM : Hid (((c : Int)).tmod 64 = (cm : Nat)) := Lib.hid (by rw [← hcm]; rfl)
  have PL := Lib.hid (padN_lt c)
  have PA := Lib.hid (padN_at c)
  rw [hcm] at PL PA
  clear hcm
  generalize padN c = N at *
  go_wp2
  go_loopw [5] (fun i wr => EZ c sb pb w wr ∧ ∃ k : Nat, 1 ≤ k ∧ k ≤ N ∧ i = .int .i64 k) (fun i _ => N - (RowKit.intOf i).toNat)
  case atStart => exact ⟨Z3.out, 1, by omega, PB.1, rfl⟩
  case round =>
    obtain ⟨hz, k, hk1, hk2, rfl⟩ := hrel
    have Z4 := Lib.hid hz.drew
    clear hz Z3
    obtain ⟨a0, a1, a2, _, a5⟩ := (show RowP wr sb 230 142 (stP c) from Z4.out.r).at_
    have A0 := Lib.hid a0
    have A1 := Lib.hid a1
    have A2 := Lib.hid a2
    have A5 := Lib.hid a5
    clear a0 a1 a2 a5
    go_upto_region 5 with fail
    refine wp_region_still_tail 19 (by kernel_rfl) (by kernel_rfl) ?_
    refine Dig.s_field rfl _ _ _ rfl (sb) (0) rfl Tryz.underlying230 rfl (sz := 1) (by kernel_rfl) (by decide) (5) rfl ?_
    simp only [Act.put, sA9, sB9, sC9]
    refine Still.s_load1 rfl _ _ rfl (sb) (5) rfl (.int .u64 (c : Nat)) (A5.out) Tryz.underlying25 rfl ?_
    simp only [Act.put, sA9, sB9, sC9]
    refine Dig.s_field rfl _ _ _ rfl (sb) (0) rfl Tryz.underlying230 rfl (sz := 4) (by kernel_rfl) (by decide) (0) rfl ?_
    simp only [Act.put, sA9, sB9, sC9]
    refine Dig.s_field rfl _ _ _ rfl (sb) (0) rfl Tryz.underlying227 rfl (sz := 1) (by kernel_rfl) (by decide) (1) rfl ?_
    simp only [Act.put, sA9, sB9, sC9]
    refine Still.s_load1 rfl _ _ rfl (sb) (1) rfl (.int .i64 64) (A1.out) Tryz.underlying3 rfl ?_
    simp only [Act.put, sA9, sB9, sC9]
    refine Still.s_val rfl (.int .u64 64) (by unfold execOp; go_simp; try rfl) ?_
    simp only [Act.put, sA9, sB9, sC9]
    refine Still.s_val rfl (.int .u64 (cm : Nat)) (by unfold execOp; have := HCM.out; go_simp; try (first | exact HCM.out | (rw [HCM.out]) | omega)) ?_
    simp only [Act.put, sA9, sB9, sC9]
    refine Still.s_val rfl (.int .i64 (cm : Nat)) (by unfold execOp; go_simp; try (first | rfl | omega | exact (IntWalk.i64_in _ (by omega)).trans (by omega) | exact IntWalk.i64_in _ (by omega))) ?_
    simp only [Act.put, sA9, sB9, sC9]
    refine Still.s_move rfl _ rfl (.int .i64 k) rfl ?_
    simp only [Act.put, sA9, sB9, sC9]
    refine Still.s_val rfl (.int .i64 (cm + k : Nat)) (by unfold execOp; go_simp; try (first | rfl | omega | exact (IntWalk.i64_in _ (by omega)).trans (by omega) | exact IntWalk.i64_in _ (by omega))) ?_
    simp only [Act.put, sA9, sB9, sC9]
    refine Dig.s_field rfl _ _ _ rfl (sb) (0) rfl Tryz.underlying230 rfl (sz := 4) (by kernel_rfl) (by decide) (0) rfl ?_
    simp only [Act.put, sA9, sB9, sC9]
    refine Dig.s_field rfl _ _ _ rfl (sb) (0) rfl Tryz.underlying227 rfl (sz := 1) (by kernel_rfl) (by decide) (2) rfl ?_
    simp only [Act.put, sA9, sB9, sC9]
    refine Still.s_load1 rfl _ _ rfl (sb) (2) rfl (.int .i64 4) (A2.out) Tryz.underlying3 rfl ?_
    simp only [Act.put, sA9, sB9, sC9]
    refine Still.s_val rfl (.int .i64 8) (by unfold execOp; go_simp; try rfl) ?_
    simp only [Act.put, sA9, sB9, sC9]
    refine Still.s_val rfl (.int .i64 (cm + k + 8 : Nat)) (by unfold execOp; go_simp; try (first | rfl | omega | exact (IntWalk.i64_in _ (by omega)).trans (by omega) | exact IntWalk.i64_in _ (by omega))) ?_
    simp only [Act.put, sA9, sB9, sC9]
    refine Dig.s_field rfl _ _ _ rfl (sb) (0) rfl Tryz.underlying230 rfl (sz := 4) (by kernel_rfl) (by decide) (0) rfl ?_
    simp only [Act.put, sA9, sB9, sC9]
    refine Dig.s_field rfl _ _ _ rfl (sb) (0) rfl Tryz.underlying227 rfl (sz := 1) (by kernel_rfl) (by decide) (1) rfl ?_
    simp only [Act.put, sA9, sB9, sC9]
    refine Still.s_load1 rfl _ _ rfl (sb) (1) rfl (.int .i64 64) (A1.out) Tryz.underlying3 rfl ?_
    simp only [Act.put, sA9, sB9, sC9]
    refine Still.s_val rfl (.int .i64 ((cm + k + 8) % 64 : Nat)) (by unfold execOp; go_simp; try (first | rfl | omega)) ?_
    simp only [Act.put, sA9, sB9, sC9]
    refine wpStill_nil ?_
    simp only [List.drop]
    refine Step.p_val rfl (.bool (decide (k < N))) (by unfold execOp; have hd : (((cm + k + 8) % 64 : Nat) : Int) ≠ 0 ↔ k < N := ⟨fun h => by rcases Nat.lt_or_ge k N with h2 | h2; exact h2; exact absurd (by have := PA.out; rw [show k = N by omega]; omega) h, fun h => by have := PL.out k hk1 h; omega⟩; go_simp; try (first | rfl | (by_cases h : k < N <;> simp [h] <;> have := hd <;> omega))) ?_
    simp only [Act.put, sA9, sB9, sC9]
    refine wpList_nil ?_
    by_cases hlt : k < N
    · skip
      go_upto_region 6 with fail
      refine wp_region_lit ?_
      refine Step.p_move rfl _ rfl (.int .i64 k) rfl ?_
      simp only [Act.put, sA9, sB9, sC9]
      refine Step.p_val rfl (.int .i64 (k + 1 : Nat)) (by unfold execOp; go_simp; try (first | rfl | omega | exact (IntWalk.i64_in _ (by omega)).trans (by omega) | exact IntWalk.i64_in _ (by omega))) ?_
      simp only [Act.put, sA9, sB9, sC9]
      refine Step.p_assign rfl _ rfl (.int .i64 (k + 1 : Nat)) rfl ?_
      simp only [Act.put, sA9, sB9, sC9]
      refine wpList_nil ?_
      go_wp2
      exact ⟨⟨Z4.out, k + 1, by omega, by omega, rfl⟩, by simp [RowKit.intOf]; omega⟩
    obtain ⟨M, hM⟩ : ∃ M, k + 8 = M := ⟨_, rfl⟩
    have hM9 : 9 ≤ M ∧ M ≤ 72 := by omega
    go_upto_region 7 with fail
    refine wp_region_lit ?_
    refine Step.p_move rfl _ rfl (.int .i64 k) rfl ?_
    simp only [Act.put, sA9, sB9, sC9]
    refine Tree.p_field rfl _ _ _ rfl (sb) (0) rfl Tryz.underlying230 rfl (sz := 4) (by kernel_rfl) (by decide) (0) rfl ?_
    simp only [Act.put, sA9, sB9, sC9]
    refine Tree.p_field rfl _ _ _ rfl (sb) (0) rfl Tryz.underlying227 rfl (sz := 1) (by kernel_rfl) (by decide) (2) rfl ?_
    simp only [Act.put, sA9, sB9, sC9]
    refine Tree.p_load1 rfl _ _ rfl (sb) (2) rfl (.int .i64 4) (A2.out) Tryz.underlying3 rfl ?_
    simp only [Act.put, sA9, sB9, sC9]
    refine Step.p_val rfl (.int .i64 8) (by unfold execOp; go_simp; try rfl) ?_
    simp only [Act.put, sA9, sB9, sC9]
    refine Step.p_val rfl (.int .i64 (M : Nat)) (by unfold execOp; go_simp; try (first | rfl | omega | exact (IntWalk.i64_in _ (by omega)).trans (by omega))) ?_
    simp only [Act.put, sA9, sB9, sC9]
    refine Step.p_assign rfl _ rfl (.int .i64 (M : Nat)) rfl ?_
    simp only [Act.put, sA9, sB9, sC9]
    refine wpList_nil ?_
    go_upto_region 8 with fail
    refine wp_region_lit ?_
    refine Step.p_move rfl _ rfl (.int .i64 0) rfl ?_
    simp only [Act.put, sA9, sB9, sC9]
    refine wpList_nil ?_
    clear A0 A1 A2 A5 PL PA
    go_wp2
    go_loopw [42, 6] (fun i _ wr => ∃ j : Nat, j ≤ 8 ∧ i = .int .i64 j ∧ EZ c sb pb w wr) (fun i _ _ => 8 - (RowKit.intOf i).toNat)
    case atStart => exact ⟨0, by omega, rfl, Z4.out⟩
    case round =>
      obtain ⟨j, hj, rfl, hz⟩ := hrel
      have Z5 := Lib.hid hz
      clear hz Z4
      by_cases hlt2 : j < 8
      · skip
        go_upto_region 10 with fail
        refine wp_region_lit ?_
        refine Step.p_move rfl _ rfl (.int .i64 (j : Nat)) rfl ?_
        simp only [Act.put, sA9, sB9, sC9]
        refine Step.p_assign rfl _ rfl (.int .i64 (j : Nat)) rfl ?_
        simp only [Act.put, sA9, sB9, sC9]
        refine wpList_nil ?_
        go_upto_region 11 with fail
        refine wp_region_lit ?_
        refine Step.p_move rfl _ rfl (.int .i64 (M : Nat)) rfl ?_
        simp only [Act.put, sA9, sB9, sC9]
        refine Step.p_val rfl (.int .i64 (M - 1 : Nat)) (by unfold execOp; go_simp; try (first | rfl | omega | exact (IntWalk.i64_in _ (by omega)).trans (by omega) | exact IntWalk.i64_in _ (by omega))) ?_
        simp only [Act.put, sA9, sB9, sC9]
        refine Step.p_move rfl _ rfl (.int .i64 (j : Nat)) rfl ?_
        simp only [Act.put, sA9, sB9, sC9]
        refine Step.p_val rfl (.int .i64 (M - 1 - j : Nat)) (by unfold execOp; go_simp; try (first | rfl | omega | exact (IntWalk.i64_in _ (by omega)).trans (by omega) | exact IntWalk.i64_in _ (by omega))) ?_
        simp only [Act.put, sA9, sB9, sC9]
        refine Step.p_move rfl _ rfl (.int .u64 (8 * c : Nat)) rfl ?_
        simp only [Act.put, sA9, sB9, sC9]
        refine Step.p_move rfl _ rfl (.int .i64 (j : Nat)) rfl ?_
        simp only [Act.put, sA9, sB9, sC9]
        refine Step.p_val rfl (.int .i64 (8 * j : Nat)) (by unfold execOp; go_simp; try (first | rfl | omega | exact (IntWalk.i64_in _ (by omega)).trans (by omega) | exact IntWalk.i64_in _ (by omega))) ?_
        simp only [Act.put, sA9, sB9, sC9]
        refine p_int rfl .u64 (ex_shr _ _ _ _ rfl _ _ _ (8 * j) rfl rfl) ?_
        intro z1
        simp only [Act.put, sA9, sB9, sC9]
        refine p_conv8 rfl _ _ _ rfl .u64 z1 rfl Tryz.underlying25 Tryz.underlying5 ?_
        intro z2 _
        simp only [Act.put, sA9, sB9, sC9]
        refine Still.p_idxA rfl _ 5 _ _ rfl pb 0 rfl .i64 (M - 1 - j) rfl (n := 256) (by omega) Tryz.underlying175 (size := 1) (by kernel_rfl) (M - 1 - j) (by omega) ?_
        simp only [Act.put, sA9, sB9, sC9]
        refine p_storeP rfl 5 _ _ rfl pb (M - 1 - j) rfl .u8 (z2 : Nat) rfl hi1 Z5.out.pd (by omega) ⟨_, rfl⟩ ?_
        intro w5 hr hg2 _
        simp only [Act.put]
        refine wpList_nil ?_
        have Z6 : Hid (EZ c sb pb w w5) := Lib.hid ⟨hr, Z5.out.r.other hg2 hps.symm, Z5.out.cu.keep hg2 (by omega), Z5.out.bel.grown hg2 Z5.out.bel.size (fun j hj => by cases hj; exact hpl)⟩
        clear hr hg2 Z5
        go_wp2
        exact ⟨⟨j + 1, by omega, by go_num, Z6.out⟩, by simp [RowKit.intOf]; omega⟩
      · obtain rfl : j = 8 := by omega
        have TK := take_any sb 230 c M 256 (by omega) pb 0 (by omega) (by decide) hps wr ⟨Z5.out.r, (fun i hi => by obtain ⟨z, hz⟩ := Z5.out.pd.num (j := i) (by omega); exact ⟨pb, 0, rfl, Z5.out.pd.lt, z, by rw [Nat.zero_add]; exact hz⟩), Z5.out.cu, gb_refl _ _, Z5.out.r.lt, by omega⟩ (Nat.lt_of_lt_of_le hcl Z5.out.bel.size)
        have TKH := Lib.hid TK
        clear TK
        go_upto_region 13 with fail
        refine wp_region_lit ?_
        refine Step.p_move rfl _ rfl (.int .i64 (M : Nat)) rfl ?_
        simp only [Act.put, sA9, sB9, sC9]
        refine Step.p_val rfl (.slice (some ⟨pb, 0, none⟩) M 256) (by unfold execOp; simp only [Act.eval]; go_simp; rw [RS.run_sliceHi Tryz.underlying175 (by kernel_rfl) pb M (by decide) (by omega)]; rfl) ?_
        simp only [Act.put, sA9, sB9, sC9]
        refine Step.p_wp rfl (Step.w_callx 184 _ _ rfl Tryz.func184 (by kernel_rfl) rfl [.pointer (some ⟨sb, 0, none⟩), .slice (some ⟨pb, 0, none⟩) M 256] rfl TKH.out ?_)
        rintro e w6 ⟨rfl, hr, hg2⟩
        refine ⟨_, rfl, ?_⟩
        simp only [Act.put, sA9, sB9, sC9]
        refine wpList_nil ?_
        have hsw : w.heap.size ≤ sb := Nat.le_of_eq hsb
        have R6 := Lib.hid hr
        have B6 := Lib.hid (Z5.out.bel.grown hg2 Z5.out.bel.size (fun j hj => by cases hj; exact hsw))
        have hs6 : sb < w6.heap.size := hr.lt
        clear hr hg2 Z5 TKH
        go_upto_region 14 with fail
        refine wp_region_lit ?_
        refine Step.p_wp rfl (Step.w_run (.slice (some ⟨w6.heap.size, 0, none⟩) 0 64) (w6.alloc (.cells (arr .u8 64 fun _ => 0) 5)) (by unfold execOp; simp only [Sem.run_bind, Act.eval, mk64, Result.andThen_ok, Sem.run_pure]) ?_)
        simp only [Act.put, sA9, sB9, sC9]
        refine Step.p_assign rfl _ rfl (.slice (some ⟨w6.heap.size, 0, none⟩) 0 64) rfl ?_
        simp only [Act.put, sA9, sB9, sC9]
        refine wpList_nil ?_
        obtain ⟨B, hB⟩ : ∃ B, w6.heap.size = B := ⟨_, rfl⟩
        have OU7 : Hid (OwnU w6.heap.size 0 (.slice (some ⟨w6.heap.size, 0, none⟩) 0 64) (w6.alloc (.cells (arr .u8 64 fun _ => 0) 5))) := Lib.hid ⟨fun _ => 0, fun _ => Nat.zero_lt_succ _, World.ownsRow_made w6 _ 64 (Nat.le_refl _) (by decide) (by rw [arr_size])⟩
        have B67 := Lib.hid ((Below.refl w6.heap.size w6).alloc (Nat.le_refl _) (.cells (arr .u8 64 fun _ => 0) 5))
        have hB7 : w6.heap.size ≤ (w6.alloc (.cells (arr .u8 64 fun _ => 0) 5)).heap.size := by simp
        generalize w6.alloc (.cells (arr .u8 64 fun _ => 0) 5) = w7 at *
        generalize (Value.slice (some ⟨w6.heap.size, 0, none⟩) 0 64) = ov at *
        rw [hB] at OU7 B67 hB7
        have hBw : w.heap.size ≤ B := by have := B6.out.size; omega
        have hsB : sb < B := by omega
        have R7 : Hid (∀ w', Below B w6 w' → RowP w' sb 230 142 (stP (c + M))) := Lib.hid fun w' h => R6.out.below h hsB
        obtain ⟨zs, hzs⟩ := RowP.words (R7.out w7 B67.out)
        have ZS := Lib.hid hzs
        clear hzs
        go_upto_region 15 with fail
        refine wp_region_lit ?_
        refine Tree.p_field rfl _ _ _ rfl (sb) (0) rfl Tryz.underlying230 rfl (sz := 8) (by kernel_rfl) (by decide) (6) rfl ?_
        simp only [Act.put, sA9, sB9, sC9]
        refine Step.p_load_mid rfl _ _ rfl sb 6 rfl ZS.out Tryz.underlying125 rfl (by kernel_rfl) ?_
        simp only [Act.put, sA9, sB9, sC9]
        refine Step.p_move rfl _ rfl (.int .i64 0) rfl ?_
        simp only [Act.put, sA9, sB9, sC9]
        refine wpList_nil ?_
        go_wp2
        go_loopw [62, 9, 7] (fun i _ v wr => ∃ j : Nat, j ≤ 8 ∧ i = .int .i64 j ∧ OwnU B (4 * j) v wr ∧ Below B w6 wr) (fun i _ _ _ => 8 - (RowKit.intOf i).toNat)
        case atStart => exact ⟨0, by omega, rfl, OU7.out, B67.out⟩
        case round =>
          obtain ⟨j, hj, rfl, ho, hb⟩ := hrel
          have OU8 := Lib.hid ho
          have B8 := Lib.hid hb
          have hB8 : B ≤ wr.heap.size := by have := hb.size; omega
          clear ho hb OU7
          obtain ⟨b0, _, b2, _, _⟩ := (R7.out _ B8.out).at_
          have F0 := Lib.hid b0
          have F2 := Lib.hid b2
          clear b0 b2
          by_cases hlt3 : j < 8
          · skip
            go_upto_region 17 with fail
            refine wp_region_lit ?_
            refine Step.p_val rfl (.int .u64 (zs j)) (by unfold execOp; simp only [Act.eval]; go_simp; first | exact (New.run_index_arr Tryz.underlying125 Tryz.underlying25 (by kernel_rfl) zs j hlt3 _) | (rw [New.run_index_arr Tryz.underlying125 Tryz.underlying25 (by kernel_rfl) zs j hlt3]; rfl)) ?_
            simp only [Act.put, sA9, sB9, sC9]
            refine Step.p_assign rfl _ rfl (.int .u64 (zs j)) rfl ?_
            simp only [Act.put, sA9, sB9, sC9]
            refine wpList_nil ?_
            go_upto_region 18 with fail
            refine wp_region_lit ?_
            refine Step.p_move rfl _ rfl _ rfl ?_
            simp only [Act.put, sA9, sB9, sC9]
            refine Step.p_move rfl _ rfl (.int .u64 (zs j)) rfl ?_
            simp only [Act.put, sA9, sB9, sC9]
            refine Tree.p_field rfl _ _ _ rfl (sb) (0) rfl Tryz.underlying230 rfl (sz := 4) (by kernel_rfl) (by decide) (0) rfl ?_
            simp only [Act.put, sA9, sB9, sC9]
            refine Tree.p_field rfl _ _ _ rfl (sb) (0) rfl Tryz.underlying227 rfl (sz := 1) (by kernel_rfl) (by decide) (2) rfl ?_
            simp only [Act.put, sA9, sB9, sC9]
            refine Tree.p_load1 rfl _ _ rfl (sb) (2) rfl (.int .i64 4) (F2.out) Tryz.underlying3 rfl ?_
            simp only [Act.put, sA9, sB9, sC9]
            refine Step.p_wp rfl (Step.w_callx 192 _ _ rfl Tryz.func192 (by kernel_rfl) rfl [_, .int .u64 (zs j), .int .i64 4] rfl (big_any B (4 * j) _ (zs j) (by omega) wr hB8 OU8.out) ?_)
            rintro e w9 ⟨⟨v9, rfl, ho⟩, hb⟩
            refine ⟨_, rfl, ?_⟩
            simp only [Act.put, sA9, sB9, sC9]
            have OU9 := Lib.hid ho
            have B9 := Lib.hid (B8.out.trans hb)
            clear ho hb
            refine Step.p_assign rfl _ rfl (v9) rfl ?_
            simp only [Act.put, sA9, sB9, sC9]
            refine wpList_nil ?_
            go_wp2
            exact ⟨⟨j + 1, by omega, by go_num, by rw [Nat.mul_add, Nat.mul_one]; exact OU9.out, B9.out⟩, by simp [RowKit.intOf]; omega⟩
          · obtain rfl : j = 8 := by omega
            obtain ⟨F, hF, ho⟩ := OU8.out
            obtain ⟨g, cap, hv, h1, h2, h3, h4⟩ := ownB_of ho (by decide)
            subst hv
            have HF := Lib.hid hF
            have H4 := Lib.hid h4
            have h2' : 32 ≤ cap := by omega
            clear hF h4 ho OU8
            go_upto_region 20 with fail
            refine wp_region_lit ?_
            refine Step.p_move rfl _ rfl (.slice (some ⟨g, 0, none⟩) (4 * 8) cap) rfl ?_
            simp only [Act.put, sA9, sB9, sC9]
            refine Tree.p_field rfl _ _ _ rfl (sb) (0) rfl Tryz.underlying230 rfl (sz := 4) (by kernel_rfl) (by decide) (0) rfl ?_
            simp only [Act.put, sA9, sB9, sC9]
            refine Tree.p_field rfl _ _ _ rfl (sb) (0) rfl Tryz.underlying227 rfl (sz := 1) (by kernel_rfl) (by decide) (0) rfl ?_
            simp only [Act.put, sA9, sB9, sC9]
            refine Tree.p_load1 rfl _ _ rfl (sb) (0) rfl (.int .i64 32) (F0.out) Tryz.underlying3 rfl ?_
            simp only [Act.put, sA9, sB9, sC9]
            refine Tree.p_field rfl _ _ _ rfl (sb) (0) rfl Tryz.underlying230 rfl (sz := 4) (by kernel_rfl) (by decide) (0) rfl ?_
            simp only [Act.put, sA9, sB9, sC9]
            refine Tree.p_field rfl _ _ _ rfl (sb) (0) rfl Tryz.underlying227 rfl (sz := 1) (by kernel_rfl) (by decide) (0) rfl ?_
            simp only [Act.put, sA9, sB9, sC9]
            refine Tree.p_load1 rfl _ _ rfl (sb) (0) rfl (.int .i64 32) (F0.out) Tryz.underlying3 rfl ?_
            simp only [Act.put, sA9, sB9, sC9]
            refine Step.p_val rfl (.slice (some ⟨g, 0, none⟩) 32 32) (by unfold execOp; go_simp; try (first | (intro h; omega) | rw [if_pos ⟨by omega, by omega⟩])) ?_
            simp only [Act.put, sA9, sB9, sC9]
            refine Step.p_assign rfl _ rfl (.slice (some ⟨g, 0, none⟩) 32 32) rfl ?_
            simp only [Act.put, sA9, sB9, sC9]
            refine wpList_nil ?_
            have HE : Hid (Below w.heap.size w wr) := Lib.hid (B6.out.trans (B8.out.mono (by omega)))
            go_wp2
            go_ret
            exact ⟨⟨g, cap, F, rfl, h2', HF.out, fun j hj => by rw [Nat.zero_add]; exact H4.out j (by omega), by omega⟩, HE.out⟩
end Go.Proofs.YtmifebcaifbmoaaGreatDoor.Dig
end

/- Dig8 -/
section
namespace Go.Proofs.YtmifebcaifbmoaaGreatDoor.Dig
open Go.RowKit Go.Lib Go.Proofs.YtmifebcaifbmoaaGreatDoor.Blk Go.Proofs.YtmifebcaifbmoaaGreatDoor.Tw Go.Proofs.YtmifebcaifbmoaaGreatDoor.G Go.Proofs.YtmifebcaifbmoaaGreatDoor.Push

/-- 32 bytes of one's own -/
def Out32 (B : Nat) (v : Value) (w : World) : Prop := ∃ g F, v = .slice (some ⟨g, 0, none⟩) 32 32 ∧ (∀ i, F i < 256) ∧ KeyB w g 0 32 F ∧ B ≤ g
set_option maxRecDepth 100000 in
set_option maxHeartbeats 8000000 in
theorem ssum_any (sb c : Nat) (hc : c ≤ 33554432) (w : World) (hr : RowP w sb 234 142 (stP c)) (hcu : WordsAt 7 80 w) : Calls Tryz.prog 161 #[.pointer (some ⟨sb, 0, none⟩)] w fun e w' => (∃ v, e = .returned v ∧ Out32 w.heap.size v w') ∧ Below w.heap.size w w' := by
  obtain ⟨cs, hrow, hst⟩ := StV.ofRow hr
  have HR := Lib.hid hrow
  have EN := Lib.hid (end_any c hc cs hst w hcu)
  have hsz : (Tryz.prog.info? 230).map (·.size) = some cs.size := by rw [hst.1]; kernel_rfl
  clear hr hrow hst hcu
  go_enter Tryz.func161, Tryz.ntmps161
  go_upto_region 3 with fail
  refine wp_region_lit ?_
  refine Step.p_move rfl _ rfl (.pointer (some ⟨sb, 0, none⟩)) rfl ?_
  simp only [Act.put, sA9, sB9, sC9]
  refine Step.p_val rfl (.pointer (some ⟨sb, 0, none⟩)) (by unfold execOp; go_simp; try rfl) ?_
  simp only [Act.put, sA9, sB9, sC9]
  refine Tree.p_field rfl _ _ _ rfl sb 0 rfl Tryz.underlying234 rfl (sz := 142) (by kernel_rfl) (by decide) 0 rfl ?_
  simp only [Act.put, sA9, sB9, sC9]
  refine Tree.p_loadrow rfl _ _ rfl sb rfl HR.out Tryz.underlying230 rfl hsz ?_
  simp only [Act.put, sA9, sB9, sC9]
  refine Step.p_wp rfl (Step.w_callx 185 _ _ rfl Tryz.func185 (by kernel_rfl) rfl [.agg cs] rfl EN.out ?_)
  rintro e w2 ⟨⟨g, cap, F, rfl, _, h2, h3, h4⟩, hb⟩
  refine ⟨_, rfl, ?_⟩
  simp only [Act.put, sA9, sB9, sC9]
  refine Step.p_assign rfl _ rfl (.slice (some ⟨g, 0, none⟩) 32 32) rfl ?_
  simp only [Act.put, sA9, sB9, sC9]
  refine wpList_nil ?_
  have HO : Hid (Out32 w.heap.size (.slice (some ⟨g, 0, none⟩) 32 32) w2 ∧ Below w.heap.size w w2) := Lib.hid ⟨⟨g, F, rfl, h2, h3, h4⟩, hb⟩
  clear h2 h3 h4 hb
  go_wp2
  go_ret
  exact ⟨⟨_, rfl, HO.out.1⟩, HO.out.2⟩

set_option maxRecDepth 100000 in
set_option maxHeartbeats 8000000 in
theorem sum_any (pb g off n cap : Nat) (hn : n ≤ 33554432) (hnc : n ≤ cap) (hcm : cap ≤ 9223372036854775807) (w : World) (hg : g < w.heap.size) (h : w.cell? ⟨pb, 0, none⟩ = some (.slice (some ⟨g, off, none⟩) n cap)) (hb : BU w (some ⟨g, off, none⟩) n w.heap.size) (hcu : WordsAt 7 80 w) (hsq : WordsAt 6 16 w) :
    Calls Tryz.prog 117 #[.int .i64 256, .slice (some ⟨pb, 0, none⟩) 1 1] w fun e w' => (∃ v, e = .returned (.tuple #[v, .int .i64 0]) ∧ Out32 w.heap.size v w') ∧ Below w.heap.size w w' := by
  have hpl : pb < w.heap.size := Frame.block_lt h
  have hcl : 7 < w.heap.size := by obtain ⟨z, hz⟩ := hcu 0 (by decide); exact Frame.block_lt hz
  have NE := Lib.hid (new_any w hsq)
  have WR := Lib.hid (fun sb w' (hsb : w.heap.size ≤ sb) (b : Below w.heap.size w w') (hr : RowP w' sb 234 142 (stP 0)) => write_any sb pb g off n cap hn hnc hcm (by omega) (by omega) w' (cell_bel b h) (hb.next (fun g' o z hl hz => (b.cell (p := ⟨g', o, none⟩) hl).trans hz) b.size) hr (hcu.below b) (by omega))
  have CU := Lib.hid (fun w' (b : Below w.heap.size w w') => hcu.below b)
  clear h hb hcu hsq
  go_enter Tryz.func117, Tryz.ntmps117
  go_upto_region 1 with fail
  refine wp_region_lit ?_
  refine Step.p_move rfl _ rfl (.int .i64 256) rfl ?_
  simp only [Act.put, sA9, sB9, sC9]
  refine Step.p_wp rfl (Step.w_callx 159 _ _ rfl Tryz.func159 (by kernel_rfl) rfl [.int .i64 256] rfl NE.out ?_)
  rintro e w2 ⟨⟨sb, rfl, hr, hsb⟩, hb⟩
  refine ⟨_, rfl, ?_⟩
  simp only [Act.put, sA9, sB9, sC9]
  have W2 := Lib.hid (WR.out sb w2 hsb hb hr)
  have B2 := Lib.hid hb
  clear hr hb WR NE
  refine Step.p_move rfl _ rfl (.tuple #[.pointer (some ⟨sb, 0, none⟩), .int .i64 0]) rfl ?_
  simp only [Act.put, sA9, sB9, sC9]
  refine Step.p_val rfl (.pointer (some ⟨sb, 0, none⟩)) (by unfold execOp; go_simp; try rfl) ?_
  simp only [Act.put, sA9, sB9, sC9]
  refine Step.p_val rfl (.int .i64 0) (by unfold execOp; go_simp; try rfl) ?_
  simp only [Act.put, sA9, sB9, sC9]
  refine Step.p_assign rfl _ rfl (.pointer (some ⟨sb, 0, none⟩)) rfl ?_
  simp only [Act.put, sA9, sB9, sC9]
  refine Step.p_assign rfl _ rfl (.int .i64 0) rfl ?_
  simp only [Act.put, sA9, sB9, sC9]
  refine wpList_nil ?_
  go_upto_region 3 with fail
  refine wp_region_lit ?_
  refine Step.p_move rfl _ rfl (.pointer (some ⟨sb, 0, none⟩)) rfl ?_
  simp only [Act.put, sA9, sB9, sC9]
  refine Step.p_move rfl _ rfl (.slice (some ⟨pb, 0, none⟩) 1 1) rfl ?_
  simp only [Act.put, sA9, sB9, sC9]
  refine Step.p_wp rfl (Step.w_callx 160 _ _ rfl Tryz.func160 (by kernel_rfl) rfl [.pointer (some ⟨sb, 0, none⟩), .slice (some ⟨pb, 0, none⟩) 1 1] rfl W2.out ?_)
  rintro e w3 ⟨rfl, hr, hg3⟩
  refine ⟨_, rfl, ?_⟩
  simp only [Act.put, sA9, sB9, sC9]
  have B3 := Lib.hid (B2.out.grown hg3 B2.out.size (fun j hj => by cases hj; exact hsb))
  have SS := Lib.hid (ssum_any sb n hn w3 hr (CU.out w3 B3.out))
  clear hr hg3 W2 B2
  refine Step.p_assign rfl _ rfl (.int .i64 0) rfl ?_
  simp only [Act.put, sA9, sB9, sC9]
  refine wpList_nil ?_
  go_upto_region 6 with fail
  refine wp_region_lit ?_
  refine Step.p_move rfl _ rfl (.pointer (some ⟨sb, 0, none⟩)) rfl ?_
  simp only [Act.put, sA9, sB9, sC9]
  refine Step.p_wp rfl (Step.w_callx 161 _ _ rfl Tryz.func161 (by kernel_rfl) rfl [.pointer (some ⟨sb, 0, none⟩)] rfl SS.out ?_)
  rintro e w4 ⟨⟨v, rfl, g4, F, rfl, h2, h3, h4⟩, hb⟩
  refine ⟨_, rfl, ?_⟩
  simp only [Act.put, sA9, sB9, sC9]
  have HO : Hid (Out32 w.heap.size (.slice (some ⟨g4, 0, none⟩) 32 32) w4 ∧ Below w.heap.size w w4) := Lib.hid ⟨⟨g4, F, rfl, h2, h3, Nat.le_trans B3.out.size h4⟩, B3.out.trans (hb.mono B3.out.size)⟩
  clear h2 h3 h4 hb SS B3
  refine Step.p_assign rfl _ rfl (.slice (some ⟨g4, 0, none⟩) 32 32) rfl ?_
  simp only [Act.put, sA9, sB9, sC9]
  refine Step.p_assign rfl _ rfl (.int .i64 0) rfl ?_
  simp only [Act.put, sA9, sB9, sC9]
  refine wpList_nil ?_
  go_wp2
  go_ret2
  exact ⟨⟨_, rfl, HO.out.1⟩, HO.out.2⟩
end Go.Proofs.YtmifebcaifbmoaaGreatDoor.Dig
end
