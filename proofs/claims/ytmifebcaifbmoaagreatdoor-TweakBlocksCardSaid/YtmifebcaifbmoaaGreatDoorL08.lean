/- Parts of the proof of TweakBlocks. Rj16: rijndael: the schedule of the way back. Rj17: rijndael: the plain steps of the schedule's words. -/
import Derived.Test.YtmifebcaifbmoaaGreatDoorL00
import Derived.Test.YtmifebcaifbmoaaGreatDoorL07
import Derived.Laws.MakeOwn
import Derived.Test.YtmifebcaifbmoaaGreatDoorL01
/- Rj16 -/
section
namespace Go.Proofs.YtmifebcaifbmoaaGreatDoor.Rj
open Go.RowKit Go.Lib Go.Proofs.YtmifebcaifbmoaaGreatDoor.Blk Go.Proofs.YtmifebcaifbmoaaGreatDoor.Aes Go.Proofs.YtmifebcaifbmoaaGreatDoor.Seg

theorem mk_words (n : Nat) (h : n = 44 ∨ n = 52 ∨ n = 60) (w : World) : (Instr.makeSlice 131 (.int .i64 n) (.int .i64 n)).run Tryz.prog w = .ok (.slice (some ⟨w.heap.size, 0, none⟩) n n) (w.alloc (.cells (arr .u32 n fun _ => 0) 132)) := by
  rcases h with rfl | rfl | rfl <;> kernel_rfl

structure BackW (k : Nat → Nat → Nat) (nr n : Nat) (B : Nat) (w wr : World) (f : Nat → Int) (t : Nat) : Prop where
  a : Arr wr B .u32 n 132 f
  bel : Below B w wr
  done : ∀ x, x < t → f x = (colW (backK k nr (x / 4)) (x % 4) : Nat)

theorem back_step {k : Nat → Nat → Nat} {nr r c : Nat} (hc : c < 4) {f : Nat → Int} (h : ∀ x, x < 4 * r + c → f x = (colW (backK k nr (x / 4)) (x % 4) : Nat)) {v : Int} (hv : v = (colW (backK k nr r) c : Nat)) : ∀ x, x < 4 * r + (c + 1) → upd f (4 * r + c) v x = (colW (backK k nr (x / 4)) (x % 4) : Nat) := fun x hx => by
  unfold upd
  by_cases e : x = 4 * r + c
  · subst e
    rw [if_pos rfl, hv, show (4 * r + c) / 4 = r by omega, show (4 * r + c) % 4 = c by omega]
  · rw [if_neg e]
    exact h x (by omega)

set_option maxRecDepth 100000 in
set_option maxHeartbeats 8000000 in
theorem inverted_any (k : Nat → Nat → Nat) (nr : Nat) (hnr : nr = 10 ∨ nr = 12 ∨ nr = 14) (hk : ∀ r, r ≤ nr → Byt (k r) 16) (tb wb : Nat) (w : World) (hT : TabAt w tb)
    (hw : ∀ r c, r ≤ nr → c < 4 → w.cell? ⟨wb, 0 + (4 * r + c), none⟩ = some (.int .u32 (colW (k r) c : Nat))) :
    Calls Tryz.prog 95 #[.pointer (some ⟨tb, 0, none⟩), .slice (some ⟨wb, 0, none⟩) (4 * nr + 4) (4 * nr + 4)] w fun e w' => ∃ f, e = .returned (.slice (some ⟨w.heap.size, 0, none⟩) (4 * nr + 4) (4 * nr + 4)) ∧ BackW k nr (4 * nr + 4) w.heap.size w w' f (4 * nr + 4) := by
  have MK := fun w => mk_words (4 * nr + 4) (by omega) w
  have HK := Lib.hid hk
  have HT := Lib.hid hT
  have HW := Lib.hid hw
  generalize hn : 4 * nr + 4 = n at *
  have HN := Lib.hid hn
  have hn2 : n ≤ 60 ∧ 44 ≤ n := by omega
  clear hk hT hw hn hnr
  go_enter Tryz.func95, Tryz.ntmps95
  go_wp2
  go_loopw [7, 8, 9, 19] (fun p _ _ _ wr => ∃ (r : Nat) (f : Nat → Int), r ≤ nr + 1 ∧ p = .int .i64 (4 * r : Nat) ∧ BackW k nr n w.heap.size w wr f (4 * r)) (fun p _ _ _ _ => n - (RowKit.intOf p).toNat)
  case atStart => exact ⟨0, _, by omega, rfl, ⟨heap_alloc_new _ _, (Below.refl _ _).alloc (Nat.le_refl _) _, fun x h => by omega⟩⟩
  case round =>
    obtain ⟨r, f, hr, rfl, hw⟩ := hrel
    have HI := Lib.hid hw
    clear hw
    by_cases hlt : r ≤ nr
    · have hl : 4 * r < n := by have := HN.out; omega
      go_wp2
      go_loopw [19, 8, 9] (fun p _ _ w5 => ∃ (c : Nat) (f2 : Nat → Int), c ≤ 4 ∧ p = .int .i64 c ∧ BackW k nr n w.heap.size w w5 f2 (4 * r + c)) (fun p _ _ _ => 4 - (RowKit.intOf p).toNat)
      case atStart => exact ⟨0, f, by decide, rfl, HI.out⟩
      case round =>
        obtain ⟨c, f2, hc, rfl, hw5⟩ := hrel
        have H5 := Lib.hid hw5
        clear hw5
        by_cases hc4 : c < 4
        · obtain ⟨q, hq⟩ : ∃ q, nr - r = q := ⟨_, rfl⟩
          have hqn : 4 * q + 4 + 4 * r = n := by have := HN.out; omega
          have hqr : q ≤ nr := by omega
          have hcell := (H5.out.bel.cell (p := ⟨wb, 0 + (4 * q + c), none⟩) (Frame.block_lt (HW.out q c hqr hc4))).trans (HW.out q c hqr hc4)
          go_upto_region 9 with fail
          refine wp_region_lit ?_
          refine Step.p_move rfl _ rfl (.slice (some ⟨wb, 0, none⟩) n n) rfl ?_
          simp only [Act.put, sA9, sB9, sC9]
          refine Step.p_move rfl _ rfl (.int .i64 (n : Nat)) rfl ?_
          simp only [Act.put, sA9, sB9, sC9]
          refine Step.p_val rfl (.int .i64 (n - 4 : Nat)) (by unfold execOp; go_simp; try (first | rfl | omega | exact (IntWalk.i64_in _ (by omega)).trans (by omega))) ?_
          simp only [Act.put, sA9, sB9, sC9]
          refine Step.p_move rfl _ rfl (.int .i64 (4 * r : Nat)) rfl ?_
          simp only [Act.put, sA9, sB9, sC9]
          refine Step.p_val rfl (.int .i64 (4 * q : Nat)) (by unfold execOp; go_simp; try (first | rfl | omega | exact (IntWalk.i64_in _ (by omega)).trans (by omega))) ?_
          simp only [Act.put, sA9, sB9, sC9]
          refine Step.p_move rfl _ rfl (.int .i64 (c : Nat)) rfl ?_
          simp only [Act.put, sA9, sB9, sC9]
          refine Step.p_val rfl (.int .i64 (4 * q + c : Nat)) (by unfold execOp; go_simp; try (first | rfl | omega | exact (IntWalk.i64_in _ (by omega)).trans (by omega))) ?_
          simp only [Act.put, sA9, sB9, sC9]
          refine Step.p_index rfl _ 132 _ _ rfl wb 0 n n rfl (4 * q + c) rfl (by omega) 1 Tryz.underlying131 (by kernel_rfl) ?_
          simp only [Act.put, sA9, sB9, sC9]
          refine Tree.p_load1 rfl _ _ rfl (wb) (0 + (4 * q + c) * 1) rfl (.int .u32 (colW (k q) c : Nat)) (by rw [Nat.mul_one]; exact hcell) Tryz.underlying132 rfl ?_
          simp only [Act.put, sA9, sB9, sC9]
          refine Step.p_assign rfl _ rfl (.int .u32 (colW (k q) c : Nat)) rfl ?_
          simp only [Act.put, sA9, sB9, sC9]
          refine wpList_nil ?_
          have HQ := Lib.hid hq
          clear hq
          by_cases ht : 0 < r ∧ r < nr
          · have hb4 := colW_byt (HK.out q hqr) hc4
            have BC := Lib.hid (back_col (HK.out q hqr) hc4)
            have HBT := Lib.hid (back_turn (k := k) (nr := nr) c ht)
            have hTw := HT.out.below H5.out.bel
            obtain ⟨C, h1, h2⟩ := hTw
            have H1 := Lib.hid h1
            have H2 := Lib.hid h2
            clear h1 h2
            have e0 := wd_0 hb4
            have e1 := wd_1 hb4
            have e2 := wd_2 hb4
            have e3 := wd_3 hb4
            have hwl : colW (k q) c < 4294967296 := wd_lt hb4
            have f0 := hb4 0 (by decide)
            have f1 := hb4 1 (by decide)
            have f2' := hb4 2 (by decide)
            have f3 := hb4 3 (by decide)
            dsimp only at e0 e1 e2 e3 f0 f1 f2' f3
            change colW (k q) c / 16777216 = _ at e0
            change colW (k q) c / 65536 % 256 = _ at e1
            change colW (k q) c / 256 % 256 = _ at e2
            change colW (k q) c % 256 = _ at e3
            have g1 : (0 : Int) < 4 * (r : Int) := by omega
            have g2 : (4 : Int) * (r : Int) < (n : Int) - 4 := by have := HQ.out; omega
            have c0 := tab_s H1.out H2.out f0
            have sl0 := S_lt _ f0
            have F0 : wr.cell? ⟨tb, 1536 + (0 * 256 + S (k q (4 * c + 0))), none⟩ = some (.int .u32 (tabW U mD (0 * 256 + S (k q (4 * c + 0))) : Nat)) := by rw [cell_of_row wr tb _ _ _ _ H1.out]; exact H2.out.d _ (by omega)
            have t0 : tabW U mD (0 * 256 + S (k q (4 * c + 0))) < 4294967296 := tab_lt U_byt _
            have c1 := tab_s H1.out H2.out f1
            have sl1 := S_lt _ f1
            have F1 : wr.cell? ⟨tb, 1536 + (1 * 256 + S (k q (4 * c + 1))), none⟩ = some (.int .u32 (tabW U mD (1 * 256 + S (k q (4 * c + 1))) : Nat)) := by rw [cell_of_row wr tb _ _ _ _ H1.out]; exact H2.out.d _ (by omega)
            have t1 : tabW U mD (1 * 256 + S (k q (4 * c + 1))) < 4294967296 := tab_lt U_byt _
            have c2 := tab_s H1.out H2.out f2'
            have sl2 := S_lt _ f2'
            have F2 : wr.cell? ⟨tb, 1536 + (2 * 256 + S (k q (4 * c + 2))), none⟩ = some (.int .u32 (tabW U mD (2 * 256 + S (k q (4 * c + 2))) : Nat)) := by rw [cell_of_row wr tb _ _ _ _ H1.out]; exact H2.out.d _ (by omega)
            have t2 : tabW U mD (2 * 256 + S (k q (4 * c + 2))) < 4294967296 := tab_lt U_byt _
            have c3 := tab_s H1.out H2.out f3
            have sl3 := S_lt _ f3
            have F3 : wr.cell? ⟨tb, 1536 + (3 * 256 + S (k q (4 * c + 3))), none⟩ = some (.int .u32 (tabW U mD (3 * 256 + S (k q (4 * c + 3))) : Nat)) := by rw [cell_of_row wr tb _ _ _ _ H1.out]; exact H2.out.d _ (by omega)
            have t3 : tabW U mD (3 * 256 + S (k q (4 * c + 3))) < 4294967296 := tab_lt U_byt _
            skip
            have RB : Hid ((colW (colsB mD (k q)) c : Nat) = colW (backK k nr r) c) := Lib.hid (by rw [HBT.out, HQ.out])
            generalize colW (colsB mD (k q)) c = V at *
            generalize hWe : colW (k q) c = W at *
            generalize k q (4 * c + 0) = x0 at *
            generalize k q (4 * c + 1) = x1 at *
            generalize k q (4 * c + 2) = x2 at *
            generalize k q (4 * c + 3) = x3 at *
            generalize S x0 = s0 at *
            generalize tabW U mD (0 * 256 + s0) = T0 at *
            generalize S x1 = s1 at *
            generalize tabW U mD (1 * 256 + s1) = T1 at *
            generalize S x2 = s2 at *
            generalize tabW U mD (2 * 256 + s2) = T2 at *
            generalize S x3 = s3 at *
            generalize tabW U mD (3 * 256 + s3) = T3 at *
            have E0 : Hid (((W : Nat) : Int) / 16777216 = (x0 : Nat)) := Lib.hid (by rw [← e0]; simp)
            have A1 : Hid (bits .and .u32 ((W / 65536 : Nat) : Int) 255 = (x1 : Nat)) := Lib.hid (by rw [and255 _ (by omega), e1])
            have A2 : Hid (bits .and .u32 ((W / 256 : Nat) : Int) 255 = (x2 : Nat)) := Lib.hid (by rw [and255 _ (by omega), e2])
            have A3 : Hid (bits .and .u32 ((W : Nat) : Int) 255 = (x3 : Nat)) := Lib.hid (by rw [and255 _ (by omega), e3])
            clear e0 e1 e2 e3
            go_upto_region 11 with fail
            refine Step.wp_region_class (C := fun w' => Below wr.heap.size wr w') (by kernel_rfl) (by kernel_rfl) (Below.refl _ _).drew ?_
            refine Step.q_move rfl _ rfl (.pointer (some ⟨tb, 0, none⟩)) rfl ?_
            simp only [Act.put, sA9, sB9, sC9]
            refine Step.q_move rfl _ rfl (.pointer (some ⟨tb, 0, none⟩)) rfl ?_
            simp only [Act.put, sA9, sB9, sC9]
            refine Step.q_move rfl _ rfl (.int .u32 (W : Nat)) rfl ?_
            simp only [Act.put, sA9, sB9, sC9]
            refine Step.q_pure rfl (.int .u32 (x0 : Nat)) (fun w' => by unfold execOp; go_simp; exact E0.out) ?_
            simp only [Act.put, sA9, sB9, sC9]
            refine Step.q_pure rfl (.pointer (some ⟨tb, 0, none⟩)) (fun w' => by unfold execOp; go_simp) ?_
            simp only [Act.put, sA9, sB9, sC9]
            refine Step.q_field rfl _ _ _ rfl (tb) (0) rfl Tryz.underlying191 rfl (sz := 256) (by kernel_rfl) (by decide) (0) rfl ?_
            simp only [Act.put, sA9, sB9, sC9]
            refine Still.q_idxA rfl _ 5 _ _ rfl (tb) (0) rfl .u32 (x0) rfl f0 Tryz.underlying175 (size := 1) (by kernel_rfl) (x0) (by omega) ?_
            simp only [Act.put, sA9, sB9, sC9]
            refine Step.q_load1 rfl _ _ rfl (tb) (x0) rfl (.int .u8 (s0 : Nat)) (fun w' hw' => (hw'.cell (p := ⟨tb, x0, none⟩) (Frame.block_lt (c0))).trans (c0)) Tryz.underlying5 rfl ?_
            simp only [Act.put, sA9, sB9, sC9]
            refine Step.q_pure rfl (.pointer (some ⟨tb, 0, none⟩)) (fun w' => by unfold execOp; go_simp) ?_
            simp only [Act.put, sA9, sB9, sC9]
            refine Step.q_field rfl _ _ _ rfl (tb) (0) rfl Tryz.underlying191 rfl (sz := 1024) (by kernel_rfl) (by decide) (1536) rfl ?_
            simp only [Act.put, sA9, sB9, sC9]
            refine Still.q_idxA rfl _ 188 _ _ rfl (tb) (1536) rfl .i64 (0) rfl (by decide) Tryz.underlying189 (size := 256) (by kernel_rfl) (1536 + 0 * 256) (rfl) ?_
            simp only [Act.put, sA9, sB9, sC9]
            refine Still.q_idxA rfl _ 132 _ _ rfl (tb) (1536 + 0 * 256) rfl .u8 (s0) rfl sl0 Tryz.underlying188 (size := 1) (by kernel_rfl) (1536 + (0 * 256 + s0)) (by omega) ?_
            simp only [Act.put, sA9, sB9, sC9]
            refine Step.q_load1 rfl _ _ rfl (tb) (1536 + (0 * 256 + s0)) rfl (.int .u32 (T0 : Nat)) (fun w' hw' => (hw'.cell (p := ⟨tb, 1536 + (0 * 256 + s0), none⟩) (Frame.block_lt (F0))).trans (F0)) Tryz.underlying132 rfl ?_
            simp only [Act.put, sA9, sB9, sC9]
            refine Step.q_move rfl _ rfl (.pointer (some ⟨tb, 0, none⟩)) rfl ?_
            simp only [Act.put, sA9, sB9, sC9]
            refine Step.q_move rfl _ rfl (.pointer (some ⟨tb, 0, none⟩)) rfl ?_
            simp only [Act.put, sA9, sB9, sC9]
            refine Step.q_move rfl _ rfl (.int .u32 (W : Nat)) rfl ?_
            simp only [Act.put, sA9, sB9, sC9]
            refine Step.q_pure rfl (.int .u32 (W / 65536 : Nat)) (fun w' => by unfold execOp; go_simp; try omega) ?_
            simp only [Act.put, sA9, sB9, sC9]
            refine Step.q_pure rfl (.int .u32 (x1 : Nat)) (fun w' => by unfold execOp; go_simp; exact A1.out) ?_
            simp only [Act.put, sA9, sB9, sC9]
            refine Step.q_pure rfl (.pointer (some ⟨tb, 0, none⟩)) (fun w' => by unfold execOp; go_simp) ?_
            simp only [Act.put, sA9, sB9, sC9]
            refine Step.q_field rfl _ _ _ rfl (tb) (0) rfl Tryz.underlying191 rfl (sz := 256) (by kernel_rfl) (by decide) (0) rfl ?_
            simp only [Act.put, sA9, sB9, sC9]
            refine Still.q_idxA rfl _ 5 _ _ rfl (tb) (0) rfl .u32 (x1) rfl f1 Tryz.underlying175 (size := 1) (by kernel_rfl) (x1) (by omega) ?_
            simp only [Act.put, sA9, sB9, sC9]
            refine Step.q_load1 rfl _ _ rfl (tb) (x1) rfl (.int .u8 (s1 : Nat)) (fun w' hw' => (hw'.cell (p := ⟨tb, x1, none⟩) (Frame.block_lt (c1))).trans (c1)) Tryz.underlying5 rfl ?_
            simp only [Act.put, sA9, sB9, sC9]
            refine Step.q_pure rfl (.pointer (some ⟨tb, 0, none⟩)) (fun w' => by unfold execOp; go_simp) ?_
            simp only [Act.put, sA9, sB9, sC9]
            refine Step.q_field rfl _ _ _ rfl (tb) (0) rfl Tryz.underlying191 rfl (sz := 1024) (by kernel_rfl) (by decide) (1536) rfl ?_
            simp only [Act.put, sA9, sB9, sC9]
            refine Still.q_idxA rfl _ 188 _ _ rfl (tb) (1536) rfl .i64 (1) rfl (by decide) Tryz.underlying189 (size := 256) (by kernel_rfl) (1536 + 1 * 256) (rfl) ?_
            simp only [Act.put, sA9, sB9, sC9]
            refine Still.q_idxA rfl _ 132 _ _ rfl (tb) (1536 + 1 * 256) rfl .u8 (s1) rfl sl1 Tryz.underlying188 (size := 1) (by kernel_rfl) (1536 + (1 * 256 + s1)) (by omega) ?_
            simp only [Act.put, sA9, sB9, sC9]
            refine Step.q_load1 rfl _ _ rfl (tb) (1536 + (1 * 256 + s1)) rfl (.int .u32 (T1 : Nat)) (fun w' hw' => (hw'.cell (p := ⟨tb, 1536 + (1 * 256 + s1), none⟩) (Frame.block_lt (F1))).trans (F1)) Tryz.underlying132 rfl ?_
            simp only [Act.put, sA9, sB9, sC9]
            refine Step.q_pure rfl (.int .u32 (T0 ^^^ T1 : Nat)) (fun w' => by unfold execOp; go_simp; exact xor_u32 _ _ (t0) t1) ?_
            simp only [Act.put, sA9, sB9, sC9]
            refine Step.q_move rfl _ rfl (.pointer (some ⟨tb, 0, none⟩)) rfl ?_
            simp only [Act.put, sA9, sB9, sC9]
            refine Step.q_move rfl _ rfl (.pointer (some ⟨tb, 0, none⟩)) rfl ?_
            simp only [Act.put, sA9, sB9, sC9]
            refine Step.q_move rfl _ rfl (.int .u32 (W : Nat)) rfl ?_
            simp only [Act.put, sA9, sB9, sC9]
            refine Step.q_pure rfl (.int .u32 (W / 256 : Nat)) (fun w' => by unfold execOp; go_simp; try omega) ?_
            simp only [Act.put, sA9, sB9, sC9]
            refine Step.q_pure rfl (.int .u32 (x2 : Nat)) (fun w' => by unfold execOp; go_simp; exact A2.out) ?_
            simp only [Act.put, sA9, sB9, sC9]
            refine Step.q_pure rfl (.pointer (some ⟨tb, 0, none⟩)) (fun w' => by unfold execOp; go_simp) ?_
            simp only [Act.put, sA9, sB9, sC9]
            refine Step.q_field rfl _ _ _ rfl (tb) (0) rfl Tryz.underlying191 rfl (sz := 256) (by kernel_rfl) (by decide) (0) rfl ?_
            simp only [Act.put, sA9, sB9, sC9]
            refine Still.q_idxA rfl _ 5 _ _ rfl (tb) (0) rfl .u32 (x2) rfl f2' Tryz.underlying175 (size := 1) (by kernel_rfl) (x2) (by omega) ?_
            simp only [Act.put, sA9, sB9, sC9]
            refine Step.q_load1 rfl _ _ rfl (tb) (x2) rfl (.int .u8 (s2 : Nat)) (fun w' hw' => (hw'.cell (p := ⟨tb, x2, none⟩) (Frame.block_lt (c2))).trans (c2)) Tryz.underlying5 rfl ?_
            simp only [Act.put, sA9, sB9, sC9]
            refine Step.q_pure rfl (.pointer (some ⟨tb, 0, none⟩)) (fun w' => by unfold execOp; go_simp) ?_
            simp only [Act.put, sA9, sB9, sC9]
            refine Step.q_field rfl _ _ _ rfl (tb) (0) rfl Tryz.underlying191 rfl (sz := 1024) (by kernel_rfl) (by decide) (1536) rfl ?_
            simp only [Act.put, sA9, sB9, sC9]
            refine Still.q_idxA rfl _ 188 _ _ rfl (tb) (1536) rfl .i64 (2) rfl (by decide) Tryz.underlying189 (size := 256) (by kernel_rfl) (1536 + 2 * 256) (rfl) ?_
            simp only [Act.put, sA9, sB9, sC9]
            refine Still.q_idxA rfl _ 132 _ _ rfl (tb) (1536 + 2 * 256) rfl .u8 (s2) rfl sl2 Tryz.underlying188 (size := 1) (by kernel_rfl) (1536 + (2 * 256 + s2)) (by omega) ?_
            simp only [Act.put, sA9, sB9, sC9]
            refine Step.q_load1 rfl _ _ rfl (tb) (1536 + (2 * 256 + s2)) rfl (.int .u32 (T2 : Nat)) (fun w' hw' => (hw'.cell (p := ⟨tb, 1536 + (2 * 256 + s2), none⟩) (Frame.block_lt (F2))).trans (F2)) Tryz.underlying132 rfl ?_
            simp only [Act.put, sA9, sB9, sC9]
            refine Step.q_pure rfl (.int .u32 (T0 ^^^ T1 ^^^ T2 : Nat)) (fun w' => by unfold execOp; go_simp; exact xor_u32 _ _ (xor32 (t0) t1) t2) ?_
            simp only [Act.put, sA9, sB9, sC9]
            refine Step.q_move rfl _ rfl (.pointer (some ⟨tb, 0, none⟩)) rfl ?_
            simp only [Act.put, sA9, sB9, sC9]
            refine Step.q_move rfl _ rfl (.pointer (some ⟨tb, 0, none⟩)) rfl ?_
            simp only [Act.put, sA9, sB9, sC9]
            refine Step.q_move rfl _ rfl (.int .u32 (W : Nat)) rfl ?_
            simp only [Act.put, sA9, sB9, sC9]
            refine Step.q_pure rfl (.int .u32 (x3 : Nat)) (fun w' => by unfold execOp; go_simp; exact A3.out) ?_
            simp only [Act.put, sA9, sB9, sC9]
            refine Step.q_pure rfl (.pointer (some ⟨tb, 0, none⟩)) (fun w' => by unfold execOp; go_simp) ?_
            simp only [Act.put, sA9, sB9, sC9]
            refine Step.q_field rfl _ _ _ rfl (tb) (0) rfl Tryz.underlying191 rfl (sz := 256) (by kernel_rfl) (by decide) (0) rfl ?_
            simp only [Act.put, sA9, sB9, sC9]
            refine Still.q_idxA rfl _ 5 _ _ rfl (tb) (0) rfl .u32 (x3) rfl f3 Tryz.underlying175 (size := 1) (by kernel_rfl) (x3) (by omega) ?_
            simp only [Act.put, sA9, sB9, sC9]
            refine Step.q_load1 rfl _ _ rfl (tb) (x3) rfl (.int .u8 (s3 : Nat)) (fun w' hw' => (hw'.cell (p := ⟨tb, x3, none⟩) (Frame.block_lt (c3))).trans (c3)) Tryz.underlying5 rfl ?_
            simp only [Act.put, sA9, sB9, sC9]
            refine Step.q_pure rfl (.pointer (some ⟨tb, 0, none⟩)) (fun w' => by unfold execOp; go_simp) ?_
            simp only [Act.put, sA9, sB9, sC9]
            refine Step.q_field rfl _ _ _ rfl (tb) (0) rfl Tryz.underlying191 rfl (sz := 1024) (by kernel_rfl) (by decide) (1536) rfl ?_
            simp only [Act.put, sA9, sB9, sC9]
            refine Still.q_idxA rfl _ 188 _ _ rfl (tb) (1536) rfl .i64 (3) rfl (by decide) Tryz.underlying189 (size := 256) (by kernel_rfl) (1536 + 3 * 256) (rfl) ?_
            simp only [Act.put, sA9, sB9, sC9]
            refine Still.q_idxA rfl _ 132 _ _ rfl (tb) (1536 + 3 * 256) rfl .u8 (s3) rfl sl3 Tryz.underlying188 (size := 1) (by kernel_rfl) (1536 + (3 * 256 + s3)) (by omega) ?_
            simp only [Act.put, sA9, sB9, sC9]
            refine Step.q_load1 rfl _ _ rfl (tb) (1536 + (3 * 256 + s3)) rfl (.int .u32 (T3 : Nat)) (fun w' hw' => (hw'.cell (p := ⟨tb, 1536 + (3 * 256 + s3), none⟩) (Frame.block_lt (F3))).trans (F3)) Tryz.underlying132 rfl ?_
            simp only [Act.put, sA9, sB9, sC9]
            refine Step.q_pure rfl (.int .u32 (T0 ^^^ T1 ^^^ T2 ^^^ T3 : Nat)) (fun w' => by unfold execOp; go_simp; exact xor_u32 _ _ (xor32 (xor32 (t0) t1) t2) t3) ?_
            simp only [Act.put, sA9, sB9, sC9]
            refine Step.q_assign rfl _ rfl (.int .u32 (T0 ^^^ T1 ^^^ T2 ^^^ T3 : Nat)) rfl ?_
            simp only [Act.put, sA9, sB9, sC9]
            refine wpQuiet_nil ?_
            intro w4 hb4
            have A4 := Lib.hid (bel_arr (_B := 0) H5.out.a hb4)
            have B4 := Lib.hid (H5.out.bel.trans (hb4.mono H5.out.bel.size))
            have hst := A4.out.cell (i := 4 * r + c) (by omega)
            have hfr := A4.out.free (4 * r + c)
            rw [BC.out]
            clear g1 g2 hb4 c0 c1 c2 c3 F0 F1 F2 F3
            go_wp2
            go_roundw
            case rel => exact ⟨c + 1, _, by omega, by go_num, A4.out.store (4 * r + c) _, (B4.out.setCell (Nat.le_refl _) _), back_step hc4 H5.out.done (by rw [RB.out])⟩
            case measure => simp [RowKit.intOf]; omega
          · have hst := H5.out.a.cell (i := 4 * r + c) (by omega)
            have hfr := H5.out.a.free (4 * r + c)
            have BK := Lib.hid (back_keep (k := k) (nr := nr) c ht)
            rw [HQ.out] at BK
            generalize colW (k q) c = W at *
            by_cases hr0 : r = 0
            · subst hr0
              have HD := back_step (k := k) (nr := nr) (r := 0) hc4 H5.out.done (v := (W : Nat)) (by rw [BK.out])
              simp only [Nat.mul_zero, Nat.zero_add] at hst hfr HD
              replace HD := Lib.hid HD
              go_wp2
              go_roundw
              case rel => exact ⟨c + 1, _, by omega, by go_num, H5.out.a.store c _, (H5.out.bel.setCell (Nat.le_refl _) _), fun x hx => HD.out x (by omega)⟩
              case measure => simp [RowKit.intOf]; omega
            · have g1 : (0 : Int) < 4 * (r : Int) := by omega
              have g2 : ¬ ((4 : Int) * (r : Int) < (n : Int) - 4) := by have := HQ.out; omega
              go_wp2
              go_roundw
              case rel => exact ⟨c + 1, _, by omega, by go_num, H5.out.a.store (4 * r + c) _, (H5.out.bel.setCell (Nat.le_refl _) _), back_step hc4 H5.out.done (by rw [BK.out])⟩
              case measure => simp [RowKit.intOf]; omega
        · obtain rfl : c = 4 := by omega
          go_wp2
          go_roundw
          case rel => exact ⟨r + 1, f2, by omega, by go_num, H5.out⟩
          case measure => simp [RowKit.intOf]; omega
    · obtain rfl : r = nr + 1 := by omega
      have e : 4 * (nr + 1) = n := by have := HN.out; omega
      rw [e] at HI ⊢
      go_wp2
      go_ret
      exact ⟨f, rfl, HI.out⟩
end Go.Proofs.YtmifebcaifbmoaaGreatDoor.Rj
end

/- Rj17 -/
section
namespace Go.Proofs.YtmifebcaifbmoaaGreatDoor.Rj
open Go.RowKit Go.Lib Go.Proofs.YtmifebcaifbmoaaGreatDoor.Blk Go.Proofs.YtmifebcaifbmoaaGreatDoor.Aes Go.Proofs.YtmifebcaifbmoaaGreatDoor.Seg

theorem rot_wd {p : Nat → Nat} (h : Byt p 4) : wd p % 16777216 * 256 + wd p / 16777216 = wd fun j => p ((j + 1) % 4) := by
  have := h 0 (by decide); have := h 1 (by decide); have := h 2 (by decide); have := h 3 (by decide)
  show wd p % 16777216 * 256 + wd p / 16777216 = ((p 1 * 256 + p 2) * 256 + p 3) * 256 + p 0
  unfold wd
  omega
theorem rc_wd {g : Nat → Nat} (h : Byt g 4) {c : Nat} (hc : c < 256) : wd g ^^^ c * 16777216 = wd fun j => g j ^^^ (if j = 0 then c else 0) := by
  have e : c * 16777216 = wd fun j => if j = 0 then c else 0 := by
    show _ = ((c * 256 + 0) * 256 + 0) * 256 + 0
    omega
  rw [e, wd_xor h (fun j _ => by split <;> omega)]
/-- the word that is added: three cases -/
theorem add_first {nk i : Nat} {p : Nat → Nat} (hp : Byt p 4) (h : i % nk = 0) : wd (fun j => S (p ((j + 1) % 4))) ^^^ rc (i / nk - 1) * 16777216 = wd (tB nk i p) := by
  rw [rc_wd (fun j _ => S_lt _ (hp _ (Nat.mod_lt _ (by decide)))) (rc_lt _)]
  refine wd_congr fun j _ => ?_
  unfold tB
  rw [if_pos h]
theorem add_mid {nk i : Nat} {p : Nat → Nat} (h : ¬ i % nk = 0) (h8 : nk = 8 ∧ i % 8 = 4) : wd (fun j => S (p j)) = wd (tB nk i p) := by
  refine wd_congr fun j _ => ?_
  unfold tB
  rw [if_neg h, if_pos h8]
theorem add_plain {nk i : Nat} {p : Nat → Nat} (h : ¬ i % nk = 0) (h8 : ¬ (nk = 8 ∧ i % 8 = 4)) : wd p = wd (tB nk i p) := by
  refine wd_congr fun j _ => ?_
  unfold tB
  rw [if_neg h, if_neg h8]
/-- the next word -/
theorem next_word {nk : Nat} {key : Nat → Nat} (hk : Byt key (4 * nk)) (h1 : 1 ≤ nk) (n : Nat) : wd (kwF nk key n n) ^^^ wd (tB nk (nk + n) (kwF nk key n (nk + n - 1))) = wd (kwF nk key (n + 1) (nk + n)) := by
  rw [wd_xor (kwF_lt hk h1 n n (by omega)) (fun j hj => tB_lt (kwF_lt hk h1 n _ (by omega)) j hj)]
  refine wd_congr fun j _ => ?_
  rw [kwF]
  dsimp only
  rw [if_pos rfl]
/-- a round key's column is a word of the schedule -/
theorem col_rk (nk : Nat) (key : Nat → Nat) (r : Nat) {c : Nat} (_hc : c < 4) : colW (rk nk key r) c = wd (kw nk key (4 * r + c)) := by
  refine wd_congr fun j hj => ?_
  unfold rk
  rw [show (4 * c + j) / 4 = c by omega, show (4 * c + j) % 4 = j by omega]
end Go.Proofs.YtmifebcaifbmoaaGreatDoor.Rj
end
