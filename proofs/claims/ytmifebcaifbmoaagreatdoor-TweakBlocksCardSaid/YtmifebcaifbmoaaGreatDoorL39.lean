/- Parts of the proof of TweakBlocks. Rf2: cofferref01: Block, Size, first, laid. Guard: A guarded operation of a plain region, its guard known: it is taken as one without a guard. General. -/
import Derived.Test.YtmifebcaifbmoaaGreatDoorL00
import Derived.Test.YtmifebcaifbmoaaGreatDoorL38
import Derived.Test.YtmifebcaifbmoaaGreatDoorL01
/- Rf2 -/
section
namespace Go.Proofs.YtmifebcaifbmoaaGreatDoor.Rf1
open Go.RowKit Go.Lib Go.Proofs.YtmifebcaifbmoaaGreatDoor.Blk Go.Proofs.YtmifebcaifbmoaaGreatDoor.Dig Go.Proofs.YtmifebcaifbmoaaGreatDoor.Push Go.Proofs.YtmifebcaifbmoaaGreatDoor.Tw

set_option maxHeartbeats 1000000 in
theorem block_any (w : World) : Calls Tryz.prog 86 #[.int .i64 256] w fun e w' => e = .returned (.int .i64 64) ∧ w = w' := by
  go_enter Tryz.func86, Tryz.ntmps86
  go_wp2
  go_ret
  exact ⟨rfl, rfl⟩
set_option maxHeartbeats 1000000 in
theorem size_any (w : World) : Calls Tryz.prog 91 #[.int .i64 256] w fun e w' => e = .returned (.int .i64 32) ∧ w = w' := by
  go_enter Tryz.func91, Tryz.ntmps91
  go_wp2
  go_ret
  exact ⟨rfl, rfl⟩
set_option maxRecDepth 100000 in
set_option maxHeartbeats 4000000 in
theorem first_any (w : World) (hs : WordsAt 3 16 w) : Calls Tryz.prog 87 #[.int .i64 256] w fun e w' => (∃ cs, e = .returned (.agg cs) ∧ Ws cs) ∧ Below w.heap.size w w' := by
  have z8 : (Tryz.prog.info? 125).bind (·.zero) = some (.agg (arr .u64 8 fun _ => 0)) := by kernel_rfl
  have hi1 : (Tryz.prog.info? 25).map (·.size) = some 1 := by kernel_rfl
  have HS := Lib.hid hs
  clear hs
  go_enter Tryz.func87, Tryz.ntmps87
  go_upto_region 0 with fail
  refine wp_region_lit ?_
  refine New.p_newarr rfl 125 rfl .u64 8 z8 ?_
  intro w1 a1 g1 s1
  simp only [Act.put, sA9, sB9, sC9]
  refine wpList_nil ?_
  go_upto_region 1 with fail
  refine wp_region_lit ?_
  refine New.p_newarr rfl 125 rfl .u64 8 z8 ?_
  intro w2 a2 g2 s2
  simp only [Act.put, sA9, sB9, sC9]
  refine wpList_nil ?_
  have B2 := Lib.hid (((Below.refl w.heap.size w).grown g1 (Nat.le_refl _) (by simp)).grown g2 (by omega) (by simp))
  have R1 := Lib.hid ((rowP_of_arr a1).below (Rj.bel_of_gb (_B := 0) g2) (by omega))
  have R2 := Lib.hid (rowP_of_arr a2)
  obtain ⟨ob, hob⟩ : ∃ ob, w1.heap.size = ob := ⟨_, rfl⟩
  rw [hob] at R2 ⊢
  have hob1 : w.heap.size < ob := by omega
  clear a2 g2 s2 a1 g1 s1
  go_wp2
  go_loopw [4, 10, 19] (fun i _ _ wr => ∃ k : Nat, k ≤ 8 ∧ i = .int .i64 k ∧ RowP wr ob 125 8 (isInt .u64) ∧ RowP wr w.heap.size 125 8 (isInt .u64) ∧ Below w.heap.size w wr) (fun i _ _ _ => 8 - (RowKit.intOf i).toNat)
  case atStart => exact ⟨0, by omega, rfl, R2.out, R1.out, B2.out⟩
  case round =>
    obtain ⟨k, hk, rfl, hr, hq, hb⟩ := hrel
    have Q3 := Lib.hid hq
    have R3 := Lib.hid hr
    have B3 := Lib.hid hb
    clear hr hq hb R2 B2 R1
    by_cases hlt : k < 8
    · obtain ⟨x, hx⟩ := HS.out k (by omega)
      have HX := Lib.hid ((B3.out.cell (p := ⟨3, k, none⟩) (Frame.block_lt hx)).trans hx)
      clear hx
      go_upto_region 9 with fail
      refine wp_region_lit ?_
      refine Step.p_move rfl _ rfl (.int .i64 k) rfl ?_
      simp only [Act.put, sA9, sB9, sC9]
      refine Step.p_move rfl _ rfl (.int .i64 k) rfl ?_
      simp only [Act.put, sA9, sB9, sC9]
      refine Still.p_idxA rfl _ 25 _ _ rfl 3 0 rfl .i64 k rfl (n := 16) (by omega) Tryz.underlying182 (size := 1) (by kernel_rfl) k (by omega) ?_
      simp only [Act.put, sA9, sB9, sC9]
      refine Tree.p_load1 rfl _ _ rfl 3 k rfl (.int .u64 x) HX.out Tryz.underlying25 rfl ?_
      simp only [Act.put, sA9, sB9, sC9]
      refine p_int rfl .u64 (ex_shr _ _ _ _ rfl _ _ _ 32 rfl rfl) ?_
      intro z
      simp only [Act.put, sA9, sB9, sC9]
      refine Still.p_idxA rfl _ 25 _ _ rfl ob 0 rfl .i64 k rfl (n := 8) (by omega) Tryz.underlying125 (size := 1) (by kernel_rfl) k (by omega) ?_
      simp only [Act.put, sA9, sB9, sC9]
      refine p_storeP rfl 25 _ _ rfl ob k rfl .u64 z rfl hi1 R3.out (by omega) ⟨_, rfl⟩ ?_
      intro w4 r4 g4 _
      simp only [Act.put]
      refine wpList_nil ?_
      have R4 := Lib.hid r4
      have Q4 := Lib.hid (Q3.out.other g4 (by omega))
      have B4 := Lib.hid (B3.out.grown g4 B3.out.size (fun j hj => by cases hj; omega))
      clear r4 g4 R3 B3 HX Q3
      go_wp2
      exact ⟨⟨k + 1, by omega, by go_num, R4.out, Q4.out, B4.out⟩, by simp [RowKit.intOf]; omega⟩
    · obtain rfl : k = 8 := by omega
      obtain ⟨cs, h1, h2, h3⟩ := R3.out
      have H1 := Lib.hid h1
      have HW : Hid (Ws cs) := Lib.hid ⟨h2, fun j hj => by obtain ⟨u, e, z, rfl⟩ := h3 j hj; exact ⟨z, e⟩⟩
      have hsz : (Tryz.prog.info? 125).map (·.size) = some cs.size := by rw [h2]; kernel_rfl
      have hone : ∀ v ∈ cs.toList, v.oneCell' = true := fun v hv => by
        obtain ⟨j, hj⟩ := List.mem_iff_getElem?.1 hv
        have hl : j < 8 := by have := (List.getElem?_eq_some_iff.1 hj).1; simpa [h2] using this
        obtain ⟨z, e⟩ := HW.out.2 j hl
        rw [Array.getElem?_toList, e] at hj
        cases hj
        rfl
      clear h1 h3
      go_upto_region 14 with fail
      refine wp_region_lit ?_
      obtain ⟨co, hco, hcs, _⟩ := Q3.out
      refine Tree.p_loadrow rfl _ _ rfl ob rfl H1.out Tryz.underlying125 rfl hsz ?_
      simp only [Act.put, sA9, sB9, sC9]
      refine Cell.p_storerow rfl 125 _ _ rfl w.heap.size rfl cs rfl hsz hone hco (by rw [hcs]; exact h2) ?_
      intro w5 hr5 hg5 _
      simp only [Act.put]
      refine wpList_nil ?_
      have B5 := Lib.hid (B3.out.grown hg5 B3.out.size (fun j hj => by cases hj; exact Nat.le_refl _))
      clear hg5
      go_wp2
      exact Cell.ret_row rfl rfl hr5 Tryz.underlying125 rfl hsz rfl ⟨⟨cs, rfl, HW.out⟩, B5.out⟩
/-- an own list of n bytes, as a slice -/
theorem OwnU.sl {B n : Nat} {v : Value} {w : World} (h : OwnU B n v w) : ∃ q c, v = .slice q n c ∧ n ≤ c ∧ c ≤ 9223372036854775807 := by
  obtain ⟨F, _, _, h⟩ := h
  rcases h with ⟨rfl, rfl⟩ | ⟨g, c, cu, rfl, _, _, n1, m1, _⟩
  · exact ⟨none, 0, rfl, Nat.le_refl _, by decide⟩
  · exact ⟨_, c, rfl, n1, m1⟩
/-- how many zeros are laid -/
def zerosN (n : Nat) : Nat := (128 - 9 - n % 64) % 64
theorem zerosN_at (n : Nat) : (n + 1 + zerosN n + 8) % 64 = 0 := by unfold zerosN; omega
theorem zerosN_lt (n k : Nat) (h : k < zerosN n) : (n + 1 + k + 8) % 64 ≠ 0 := by unfold zerosN at h; omega
theorem zerosN_bd (n : Nat) : zerosN n < 64 := by unfold zerosN; omega
set_option maxRecDepth 100000 in
set_option maxHeartbeats 8000000 in
theorem laid_any (g off n cap : Nat) (f : Nat → Nat) (hf : ∀ i, f i < 256) (hn : 0 < n) (hn2 : n ≤ 1000) (w : World) (h : KeyB w g off n f) : Calls Tryz.prog 88 #[.slice (some ⟨g, off, none⟩) n cap, .int .i64 64] w fun e w' => (∃ v, e = .returned v ∧ OwnU w.heap.size (n + 1 + zerosN n + 8) v w') ∧ Below w.heap.size w w' := by
  obtain ⟨i0, hi, hz0, hz1, hz2⟩ := u8_info
  have H := Lib.hid h
  have ZA := Lib.hid (zerosN_at n)
  have ZL := Lib.hid (zerosN_lt n)
  have ZB := zerosN_bd n
  clear h
  generalize zerosN n = N at *
  go_enter Tryz.func88, Tryz.ntmps88
  go_upto_region 2 with fail
  refine wp_region_lit ?_
  refine Step.p_move rfl _ rfl (.slice none 0 0) rfl ?_
  simp only [Act.put, sA9, sB9, sC9]
  refine Step.p_move rfl _ rfl (.slice (some ⟨g, off, none⟩) n cap) rfl ?_
  simp only [Act.put, sA9, sB9, sC9]
  refine Step.p_wp rfl (Step.w_append _ _ _ rfl w.heap.size 5 i0 (.int .u8 0) 1 1 Tryz.underlying22 hi hz0 hz1 hz2 rfl (by decide) _ 0 [] rfl (⟨rfl, .inl ⟨rfl, rfl⟩⟩ : World.ownsRow _ _ _ _ _ _ _) ⟨g, off, none⟩ n cap (bl f n) rfl (by rw [bl_len]; omega) (fun j u hj => ?_) (fun u hu => ?_) (by unfold maxLen; omega) (by omega) (Nat.le_refl _) ?_)
  · have hl : j < n := by have := (List.getElem?_eq_some_iff.1 hj).1; rwa [bl_len] at this
    rw [bl_get _ _ _ hl] at hj
    rw [Addr.add_mid, ← hj]
    exact H.out j hl
  · obtain ⟨i, hi⟩ := List.mem_iff_getElem?.1 hu
    have hl : i < n := by have := (List.getElem?_eq_some_iff.1 hi).1; rwa [bl_len] at this
    rw [bl_get _ _ _ hl] at hi
    cases hi
    rfl
  intro v1 w1 hown hg2 _ _
  simp only [Act.put, sA9, sB9, sC9]
  have B1 := Lib.hid ((Below.refl w.heap.size w).grown hg2 (Nat.le_refl _) (by intro j hj; cases hj))
  simp only [Nat.zero_add, List.nil_append] at hown
  have O1 := Lib.hid hown
  clear hown hg2
  refine Step.p_assign rfl _ rfl (v1) rfl ?_
  simp only [Act.put, sA9, sB9, sC9]
  refine wpList_nil ?_
  go_upto_region 3 with fail
  refine wp_region_lit ?_
  have hB1 := B1.out.size
  refine Step.p_move rfl _ rfl (v1) rfl ?_
  simp only [Act.put, sA9, sB9, sC9]
  refine p_push rfl _ rfl 128 rfl _ _ rfl rfl rfl _ rfl w.heap.size n _ O1.out (by omega) hB1 ?_
  intro v2 w2 hp
  simp only [Act.put, sA9, sB9, sC9]
  refine Step.p_assign rfl _ rfl (v2) rfl ?_
  simp only [Act.put, sA9, sB9, sC9]
  refine wpList_nil ?_
  have U2 : Hid (OwnU w.heap.size (n + 1) v2 w2) := Lib.hid (by
    obtain ⟨G, hG, e⟩ := push_some (_B := w.heap.size) (n := n) (z := 128) hf (by decide)
    exact ⟨G, hG, by have := hp.own; rw [← e]; exact this⟩)
  have B2 := Lib.hid (B1.out.trans hp.bel)
  clear hp O1 B1 hB1
  go_wp2
  go_loopw [5] (fun v wr => ∃ k : Nat, k ≤ N ∧ OwnU w.heap.size (n + 1 + k) v wr ∧ Below w.heap.size w wr) (fun v _ => N + n + 1 - lenOf v)
  case atStart => exact ⟨0, by omega, U2.out, B2.out⟩
  case round =>
    obtain ⟨k, hk, hu, hb⟩ := hrel
    obtain ⟨q, c, rfl, hc1, hc2⟩ := OwnU.sl hu
    have U3 : Hid (OwnU w.heap.size (n + 1 + k) (.slice q (n + 1 + k) c) wr) := Lib.hid hu
    have B3 := Lib.hid hb
    have hB3 := hb.size
    clear hu hb U2 B2
    go_upto_region 4 with fail
    refine wp_region_lit ?_
    refine Step.p_move rfl _ rfl (.slice q (n + 1 + k) c) rfl ?_
    simp only [Act.put, sA9, sB9, sC9]
    refine Step.p_len rfl _ _ 5 rfl q (n + 1 + k) c rfl Tryz.underlying22 ?_
    simp only [Act.put, sA9, sB9, sC9]
    refine Step.p_move rfl _ rfl (.int .i64 64) rfl ?_
    simp only [Act.put, sA9, sB9, sC9]
    refine Step.p_val rfl (.int .i64 8) (by unfold execOp; go_simp; try rfl) ?_
    simp only [Act.put, sA9, sB9, sC9]
    refine Step.p_val rfl (.int .i64 (n + 1 + k + 8 : Nat)) (by unfold execOp; go_simp; try (first | rfl | omega | exact (IntWalk.i64_in _ (by omega)).trans (by omega) | exact IntWalk.i64_in _ (by omega))) ?_
    simp only [Act.put, sA9, sB9, sC9]
    refine Step.p_move rfl _ rfl (.int .i64 64) rfl ?_
    simp only [Act.put, sA9, sB9, sC9]
    refine Step.p_val rfl (.int .i64 ((n + 1 + k + 8) % 64 : Nat)) (by unfold execOp; go_simp; try (first | rfl | omega)) ?_
    simp only [Act.put, sA9, sB9, sC9]
    refine Step.p_val rfl (.bool (decide (k < N))) (by unfold execOp; have hd : (((n + 1 + k + 8) % 64 : Nat) : Int) ≠ 0 ↔ k < N := ⟨fun h => by rcases Nat.lt_or_ge k N with h2 | h2; exact h2; exact absurd (by have := ZA.out; rw [show k = N by omega]; omega) h, fun h => by have := ZL.out k h; omega⟩; go_simp; try (first | rfl | (by_cases h : k < N <;> simp [h] <;> have := hd <;> omega))) ?_
    simp only [Act.put, sA9, sB9, sC9]
    refine wpList_nil ?_
    by_cases hlt : k < N
    · skip
      go_upto_region 5 with fail
      refine wp_region_lit ?_
      refine Step.p_move rfl _ rfl (.slice q (n + 1 + k) c) rfl ?_
      simp only [Act.put, sA9, sB9, sC9]
      obtain ⟨F, hF, ho⟩ := U3.out
      refine p_push rfl _ rfl 0 rfl _ _ rfl rfl rfl _ rfl w.heap.size (n + 1 + k) _ ho (by omega) hB3 ?_
      intro v4 w4 hp
      simp only [Act.put, sA9, sB9, sC9]
      refine Step.p_assign rfl _ rfl (v4) rfl ?_
      simp only [Act.put, sA9, sB9, sC9]
      refine wpList_nil ?_
      have U4 : Hid (OwnU w.heap.size (n + 1 + (k + 1)) v4 w4) := Lib.hid (by
        obtain ⟨G, hG, e⟩ := push_some (_B := w.heap.size) (n := n + 1 + k) (z := 0) hF (by decide)
        exact ⟨G, hG, by have := hp.own; rw [← Nat.add_assoc, ← e]; exact this⟩)
      have B4 := Lib.hid (B3.out.trans hp.bel)
      obtain ⟨q4, c4, e4, _, _⟩ := OwnU.sl U4.out
      subst e4
      clear hp ho
      go_wp2
      exact ⟨⟨k + 1, by omega, U4.out, B4.out⟩, by simp [lenOf]; omega⟩
    · obtain rfl : k = N := by omega
      go_upto_region 6 with fail
      refine wp_region_lit ?_
      refine Step.p_move rfl _ rfl (.slice (some ⟨g, off, none⟩) n cap) rfl ?_
      simp only [Act.put, sA9, sB9, sC9]
      refine Step.p_len rfl _ _ 5 rfl (some ⟨g, off, none⟩) n cap rfl Tryz.underlying22 ?_
      simp only [Act.put, sA9, sB9, sC9]
      refine Step.p_val rfl (.int .u64 (n : Nat)) (by unfold execOp; go_simp; try (first | rfl | omega | exact (IntWalk.u64_in _ (by omega)).trans (by omega) | exact IntWalk.u64_in _ (by omega))) ?_
      simp only [Act.put, sA9, sB9, sC9]
      refine Step.p_val rfl (.int .u64 (8 * n : Nat)) (by unfold execOp; go_simp; try (first | rfl | omega | exact (IntWalk.u64_in _ (by omega)).trans (by omega) | exact IntWalk.u64_in _ (by omega))) ?_
      simp only [Act.put, sA9, sB9, sC9]
      refine Step.p_assign rfl _ rfl (.int .u64 (8 * n : Nat)) rfl ?_
      simp only [Act.put, sA9, sB9, sC9]
      refine wpList_nil ?_
      clear ZA ZL
      go_wp2
      go_loopw [7, 5] (fun i v wr => ∃ j : Nat, j ≤ 8 ∧ i = .int .i64 (7 - (j : Int)) ∧ OwnU w.heap.size (n + 1 + k + j) v wr ∧ Below w.heap.size w wr) (fun i _ _ => (RowKit.intOf i + 1).toNat)
      case atStart => exact ⟨0, by omega, rfl, U3.out, B3.out⟩
      case round =>
        obtain ⟨j, hj, rfl, ⟨F, hF, ho⟩, hb⟩ := hrel
        have HO := Lib.hid ho
        have HBB := Lib.hid hb
        have HFF := Lib.hid hF
        have hB5 := hb.size
        clear ho hb hF U3 B3
        by_cases hlt2 : j < 8
        · skip
          obtain ⟨d, hd⟩ : ∃ d : Nat, (7 - (j : Int)) = (d : Nat) := ⟨7 - j, by omega⟩
          have hdj : d + j = 7 := by omega
          rw [hd]
          have hd8 : ¬ (8 : Int) ≤ (d : Int) := by omega
          go_upto_region 12 with fail
          refine wp_region_lit ?_
          refine Step.p_move rfl _ rfl _ rfl ?_
          simp only [Act.put, sA9, sB9, sC9]
          refine Step.p_move rfl _ rfl (.int .u64 (8 * n : Nat)) rfl ?_
          simp only [Act.put, sA9, sB9, sC9]
          refine Step.p_move rfl _ rfl (.int .i64 d) rfl ?_
          simp only [Act.put, sA9, sB9, sC9]
          refine Step.p_val rfl (.int .i64 (8 * d : Nat)) (by unfold execOp; go_simp; try (first | rfl | omega | exact (IntWalk.i64_in _ (by omega)).trans (by omega) | exact IntWalk.i64_in _ (by omega))) ?_
          simp only [Act.put, sA9, sB9, sC9]
          refine Step.p_val rfl (.int .u64 (8 * d : Nat)) (by unfold execOp; go_simp; try (first | rfl | omega | exact (IntWalk.u64_in _ (by omega)).trans (by omega) | exact IntWalk.u64_in _ (by omega))) ?_
          simp only [Act.put, sA9, sB9, sC9]
          refine p_int rfl .u64 (ex_shr _ _ _ _ rfl _ _ _ (8 * d) rfl rfl) ?_
          intro z1
          simp only [Act.put, sA9, sB9, sC9]
          refine p_conv8 rfl _ _ _ rfl .u64 z1 rfl Tryz.underlying25 Tryz.underlying5 ?_
          intro z hz
          simp only [Act.put, sA9, sB9, sC9]
          refine p_push rfl _ rfl (z : Nat) rfl _ _ rfl rfl rfl _ rfl w.heap.size (n + 1 + k + j) _ HO.out (by omega) hB5 ?_
          intro v2 w2 hp
          simp only [Act.put, sA9, sB9, sC9]
          refine Step.p_assign rfl _ rfl (v2) rfl ?_
          simp only [Act.put, sA9, sB9, sC9]
          refine wpList_nil ?_
          have HP : Hid (OwnU w.heap.size (n + 1 + k + (j + 1)) v2 w2 ∧ Below w.heap.size w w2) := Lib.hid (by
            obtain ⟨G, hG, e⟩ := push_some (_B := w.heap.size) (n := n + 1 + k + j) HFF.out hz
            exact ⟨⟨G, hG, by have := hp.own; rw [e] at this; exact this⟩, HBB.out.trans hp.bel⟩)
          clear hp
          go_wp2
          exact ⟨⟨j + 1, by omega, by go_num, HP.out⟩, by simp [RowKit.intOf]; try omega⟩
        · obtain rfl : j = 8 := by omega
          go_wp2
          go_ret
          exact ⟨⟨_, rfl, ⟨F, HFF.out, HO.out⟩⟩, HBB.out⟩
end Go.Proofs.YtmifebcaifbmoaaGreatDoor.Rf1
end

/- Guard -/
section
namespace Go.Proofs.YtmifebcaifbmoaaGreatDoor.Step
open Go.RowKit Go.Lib
section
variable {P : Program} {Q : Exit → Act → World → Prop} {a : Act} {w : World} {ops : Array Oper} {rest : List Oper}
theorem p_unguard {d : Option Tmp} {op : Op} {t : TypeId} {pos : String} {af : Array Edge} {g : Option (Nat × Bool)} (hg : Region.wanted ⟨d, op, t, pos, af, g⟩ (yielded ops a.tmps) = true) (h : wpList P ops Q (⟨d, op, t, pos, af, none⟩ :: rest) a w) : wpList P ops Q (⟨d, op, t, pos, af, g⟩ :: rest) a w := by
  unfold wpList at h ⊢
  rw [if_pos (by rfl)] at h
  rw [if_pos hg]
  exact h
end
end Go.Proofs.YtmifebcaifbmoaaGreatDoor.Step
end
