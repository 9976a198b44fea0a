/- Parts of the proof of TweakBlocks. Dig6: digest: New, total, Write; big. -/
import Derived.Test.YtmifebcaifbmoaaGreatDoorL00
import Derived.Test.YtmifebcaifbmoaaGreatDoorL32
/- Dig6 -/
section
namespace Go.Proofs.YtmifebcaifbmoaaGreatDoor.Dig
open Go.RowKit Go.Lib Go.Proofs.YtmifebcaifbmoaaGreatDoor.Blk Go.Proofs.YtmifebcaifbmoaaGreatDoor.Tw Go.Proofs.YtmifebcaifbmoaaGreatDoor.G Go.Proofs.YtmifebcaifbmoaaGreatDoor.Push

set_option maxRecDepth 100000 in
set_option maxHeartbeats 8000000 in
theorem new_any (w : World) (hs : WordsAt 6 16 w) : Calls Tryz.prog 159 #[.int .i64 256] w fun e w' => (∃ sb, e = .returned (.tuple #[.pointer (some ⟨sb, 0, none⟩), .int .i64 0]) ∧ RowP w' sb 234 142 (stP 0) ∧ w.heap.size ≤ sb) ∧ Below w.heap.size w w' := by
  have h142 : (Tryz.prog.info? 230).map (·.size) = some 142 := by kernel_rfl
  have zs : ∃ z, (Tryz.prog.info? 230).bind (·.zero) = some (.agg z) ∧ z.size = 142 := ⟨(#[.int .i64 0, .int .i64 0, .int .i64 0, .nilFunc, .int .i64 0, .int .u64 0, .int .u64 0, .int .u64 0, .int .u64 0, .int .u64 0, .int .u64 0, .int .u64 0, .int .u64 0, .int .u64 0, .int .u8 0, .int .u8 0, .int .u8 0, .int .u8 0, .int .u8 0, .int .u8 0, .int .u8 0, .int .u8 0, .int .u8 0, .int .u8 0, .int .u8 0, .int .u8 0, .int .u8 0, .int .u8 0, .int .u8 0, .int .u8 0, .int .u8 0, .int .u8 0, .int .u8 0, .int .u8 0, .int .u8 0, .int .u8 0, .int .u8 0, .int .u8 0, .int .u8 0, .int .u8 0, .int .u8 0, .int .u8 0, .int .u8 0, .int .u8 0, .int .u8 0, .int .u8 0, .int .u8 0, .int .u8 0, .int .u8 0, .int .u8 0, .int .u8 0, .int .u8 0, .int .u8 0, .int .u8 0, .int .u8 0, .int .u8 0, .int .u8 0, .int .u8 0, .int .u8 0, .int .u8 0, .int .u8 0, .int .u8 0, .int .u8 0, .int .u8 0, .int .u8 0, .int .u8 0, .int .u8 0, .int .u8 0, .int .u8 0, .int .u8 0, .int .u8 0, .int .u8 0, .int .u8 0, .int .u8 0, .int .u8 0, .int .u8 0, .int .u8 0, .int .u8 0, .int .u8 0, .int .u8 0, .int .u8 0, .int .u8 0, .int .u8 0, .int .u8 0, .int .u8 0, .int .u8 0, .int .u8 0, .int .u8 0, .int .u8 0, .int .u8 0, .int .u8 0, .int .u8 0, .int .u8 0, .int .u8 0, .int .u8 0, .int .u8 0, .int .u8 0, .int .u8 0, .int .u8 0, .int .u8 0, .int .u8 0, .int .u8 0, .int .u8 0, .int .u8 0, .int .u8 0, .int .u8 0, .int .u8 0, .int .u8 0, .int .u8 0, .int .u8 0, .int .u8 0, .int .u8 0, .int .u8 0, .int .u8 0, .int .u8 0, .int .u8 0, .int .u8 0, .int .u8 0, .int .u8 0, .int .u8 0, .int .u8 0, .int .u8 0, .int .u8 0, .int .u8 0, .int .u8 0, .int .u8 0, .int .u8 0, .int .u8 0, .int .u8 0, .int .u8 0, .int .u8 0, .int .u8 0, .int .u8 0, .int .u8 0, .int .u8 0, .int .u8 0, .int .u8 0, .int .u8 0, .int .u8 0, .int .u8 0, .int .u8 0, .int .u8 0] : Array Value), by kernel_rfl, rfl⟩
  have zt : ∃ z, (Tryz.prog.info? 234).bind (·.zero) = some (.agg z) ∧ z.size = 142 := ⟨(#[.int .i64 0, .int .i64 0, .int .i64 0, .nilFunc, .int .i64 0, .int .u64 0, .int .u64 0, .int .u64 0, .int .u64 0, .int .u64 0, .int .u64 0, .int .u64 0, .int .u64 0, .int .u64 0, .int .u8 0, .int .u8 0, .int .u8 0, .int .u8 0, .int .u8 0, .int .u8 0, .int .u8 0, .int .u8 0, .int .u8 0, .int .u8 0, .int .u8 0, .int .u8 0, .int .u8 0, .int .u8 0, .int .u8 0, .int .u8 0, .int .u8 0, .int .u8 0, .int .u8 0, .int .u8 0, .int .u8 0, .int .u8 0, .int .u8 0, .int .u8 0, .int .u8 0, .int .u8 0, .int .u8 0, .int .u8 0, .int .u8 0, .int .u8 0, .int .u8 0, .int .u8 0, .int .u8 0, .int .u8 0, .int .u8 0, .int .u8 0, .int .u8 0, .int .u8 0, .int .u8 0, .int .u8 0, .int .u8 0, .int .u8 0, .int .u8 0, .int .u8 0, .int .u8 0, .int .u8 0, .int .u8 0, .int .u8 0, .int .u8 0, .int .u8 0, .int .u8 0, .int .u8 0, .int .u8 0, .int .u8 0, .int .u8 0, .int .u8 0, .int .u8 0, .int .u8 0, .int .u8 0, .int .u8 0, .int .u8 0, .int .u8 0, .int .u8 0, .int .u8 0, .int .u8 0, .int .u8 0, .int .u8 0, .int .u8 0, .int .u8 0, .int .u8 0, .int .u8 0, .int .u8 0, .int .u8 0, .int .u8 0, .int .u8 0, .int .u8 0, .int .u8 0, .int .u8 0, .int .u8 0, .int .u8 0, .int .u8 0, .int .u8 0, .int .u8 0, .int .u8 0, .int .u8 0, .int .u8 0, .int .u8 0, .int .u8 0, .int .u8 0, .int .u8 0, .int .u8 0, .int .u8 0, .int .u8 0, .int .u8 0, .int .u8 0, .int .u8 0, .int .u8 0, .int .u8 0, .int .u8 0, .int .u8 0, .int .u8 0, .int .u8 0, .int .u8 0, .int .u8 0, .int .u8 0, .int .u8 0, .int .u8 0, .int .u8 0, .int .u8 0, .int .u8 0, .int .u8 0, .int .u8 0, .int .u8 0, .int .u8 0, .int .u8 0, .int .u8 0, .int .u8 0, .int .u8 0, .int .u8 0, .int .u8 0, .int .u8 0, .int .u8 0, .int .u8 0, .int .u8 0, .int .u8 0, .int .u8 0, .int .u8 0, .int .u8 0] : Array Value), by kernel_rfl, rfl⟩
  obtain ⟨C0, hC0, hC0s⟩ := zs
  obtain ⟨C1, hC1, hC1s⟩ := zt
  have BE := Lib.hid (begin_any w hs)
  clear hs
  go_enter Tryz.func159, Tryz.ntmps159
  go_upto_region 1 with fail
  refine wp_region_lit ?_
  refine Step.p_move rfl _ rfl (.int .i64 256) rfl ?_
  simp only [Act.put, sA9, sB9, sC9]
  refine Step.p_wp rfl (Step.w_callx 182 _ _ rfl Tryz.func182 (by kernel_rfl) rfl [.int .i64 256] rfl BE.out ?_)
  rintro e w2 ⟨⟨cs, rfl, hst⟩, hb⟩
  refine ⟨_, rfl, ?_⟩
  simp only [Act.put, sA9, sB9, sC9]
  have HST := Lib.hid hst
  have B2 := Lib.hid hb
  have hsz : (Tryz.prog.info? 230).map (·.size) = some cs.size := by rw [hst.1]; exact h142
  have hcs := hst.1
  clear hb hst BE
  refine Step.p_move rfl _ rfl (.tuple #[.agg cs, .bool true]) rfl ?_
  simp only [Act.put, sA9, sB9, sC9]
  refine Step.p_val rfl (.agg cs) (by unfold execOp; go_simp; try rfl) ?_
  simp only [Act.put, sA9, sB9, sC9]
  refine Step.p_val rfl (.bool true) (by unfold execOp; go_simp; try rfl) ?_
  simp only [Act.put, sA9, sB9, sC9]
  refine New.p_new rfl 230 rfl hC0 ?_
  simp only [Act.put, sA9, sB9, sC9]
  have K3 := Lib.hid (heap_alloc_new w2 (.cells (Value.agg C0).cells 230))
  have B3 := Lib.hid (B2.out.alloc B2.out.size (.cells (Value.agg C0).cells 230))
  refine Cell.p_storerow rfl 230 _ _ rfl w2.heap.size rfl cs rfl hsz HST.out.2.2 K3.out (hcs.trans hC0s.symm) ?_
  intro w4 hr4 hg4 _
  simp only [Act.put]
  have K4 := Lib.hid hr4
  have B4 := Lib.hid (B3.out.grown hg4 B3.out.size (fun j hj => by cases hj; exact B2.out.size))
  clear hr4 hg4 K3 B3
  refine Step.p_assign rfl _ rfl (.bool true) rfl ?_
  simp only [Act.put, sA9, sB9, sC9]
  refine wpList_nil ?_
  go_upto_region 4 with fail
  refine wp_region_lit ?_
  refine Tree.p_loadrow rfl _ _ rfl w2.heap.size rfl K4.out Tryz.underlying230 rfl hsz ?_
  simp only [Act.put, sA9, sB9, sC9]
  refine Seg.p_build1 rfl 234 0 _ rfl cs rfl C1 hC1 Tryz.underlying234 [(0, 142)] (by kernel_rfl) 0 (by rw [hcs]; rfl) (by omega) ?_
  intro C hCs hCj
  simp only [Act.put, sA9, sB9, sC9]
  refine Seg.p_boxA rfl 234 _ rfl C rfl ?_
  simp only [Act.put, sA9, sB9, sC9]
  have K5 := Lib.hid (heap_alloc_new w4 (.cells C 234))
  have B5 := Lib.hid (B4.out.alloc B4.out.size (.cells C 234))
  have B4s := B4.out.size
  refine Step.p_assign rfl _ rfl (.pointer (some ⟨w4.heap.size, 0, none⟩)) rfl ?_
  simp only [Act.put, sA9, sB9, sC9]
  refine Step.p_assign rfl _ rfl (.int .i64 0) rfl ?_
  simp only [Act.put, sA9, sB9, sC9]
  refine wpList_nil ?_
  go_wp2
  go_ret2
  exact ⟨⟨_, rfl, ⟨C, K5.out, hCs.trans hC1s, fun j hj => by
    obtain ⟨v, e, hv⟩ := HST.out.2.1 j hj
    exact ⟨v, by have := hCj j (by omega); rw [Nat.zero_add] at this; rw [this]; exact e, hv⟩⟩, B4s⟩, B5.out⟩
set_option maxRecDepth 100000 in
set_option maxHeartbeats 8000000 in
theorem total_any (pb : Nat) (q : Option Addr) (n cap : Nat) (hn : n ≤ 33554432) (_hnc : n ≤ cap) (_hcm : cap ≤ 9223372036854775807) (w : World) (h : w.cell? ⟨pb, 0, none⟩ = some (.slice q n cap)) : Calls Tryz.prog 183 #[.slice (some ⟨pb, 0, none⟩) 1 1] w fun e w' => e = .returned (.int .i64 n) ∧ w = w' := by
  have H := Lib.hid h
  clear h
  go_enter Tryz.func183, Tryz.ntmps183
  go_wp2
  go_loopw [8, 3, 5] (fun i t _ wr => wr = w ∧ ((i = .int .i64 0 ∧ t = .int .i64 0) ∨ (i = .int .i64 1 ∧ t = .int .i64 n))) (fun i _ _ _ => 1 - (RowKit.intOf i).toNat)
  case atStart => exact ⟨rfl, .inl ⟨rfl, rfl⟩⟩
  case round =>
    obtain ⟨rfl, h1⟩ := hrel
    rcases h1 with ⟨rfl, rfl⟩ | ⟨rfl, rfl⟩
    · have hle : ¬ (33554432 : Int) < (n : Int) := by omega
      go_upto_region 4 with fail
      refine wp_region_lit ?_
      refine Step.p_index rfl _ 22 _ _ rfl pb 0 1 1 rfl 0 rfl (by decide) 1 Tryz.underlying205 (by kernel_rfl) ?_
      simp only [Act.put, sA9, sB9, sC9]
      refine Tree.p_load1 rfl _ _ rfl pb 0 rfl (.slice q n cap) H.out Tryz.underlying22 rfl ?_
      simp only [Act.put, sA9, sB9, sC9]
      refine Step.p_assign rfl _ rfl (.slice q n cap) rfl ?_
      simp only [Act.put, sA9, sB9, sC9]
      refine wpList_nil ?_
      go_upto_region 5 with fail
      refine wp_region_lit ?_
      refine Step.p_move rfl _ rfl (.int .i64 0) rfl ?_
      simp only [Act.put, sA9, sB9, sC9]
      refine Step.p_move rfl _ rfl (.slice q n cap) rfl ?_
      simp only [Act.put, sA9, sB9, sC9]
      refine Step.p_len rfl _ _ 5 rfl q n cap rfl Tryz.underlying22 ?_
      simp only [Act.put, sA9, sB9, sC9]
      refine Step.p_val rfl (.int .i64 n) (by unfold execOp; go_simp; try (first | exact IntWalk.i64_in _ (by omega) | (rw [IntWalk.i64_in _ (by omega)]) | omega)) ?_
      simp only [Act.put, sA9, sB9, sC9]
      refine Step.p_assign rfl _ rfl (.int .i64 n) rfl ?_
      simp only [Act.put, sA9, sB9, sC9]
      refine wpList_nil ?_
      go_wp2
      exact ⟨by first | exact ⟨trivial, .inr ⟨rfl, rfl⟩⟩ | exact ⟨rfl, .inr ⟨rfl, rfl⟩⟩, by simp [RowKit.intOf]⟩
    · go_wp2
      go_ret
      exact ⟨rfl, rfl⟩
set_option maxRecDepth 100000 in
set_option maxHeartbeats 8000000 in
theorem write_any (sb pb : Nat) (g off n cap : Nat) (hn : n ≤ 33554432) (hnc : n ≤ cap) (hcm : cap ≤ 9223372036854775807) (hg : g ≠ sb) (_hpb : pb ≠ sb) (w : World) (h : w.cell? ⟨pb, 0, none⟩ = some (.slice (some ⟨g, off, none⟩) n cap)) (hb : BU w (some ⟨g, off, none⟩) n w.heap.size) (hr : RowP w sb 234 142 (stP 0)) (hc : WordsAt 7 80 w) (hcs : 7 ≠ sb) :
    Calls Tryz.prog 160 #[.pointer (some ⟨sb, 0, none⟩), .slice (some ⟨pb, 0, none⟩) 1 1] w fun e w' => e = .returned (.int .i64 0) ∧ RowP w' sb 234 142 (stP n) ∧ w.grownBy w' (some sb) := by
  have H := Lib.hid h
  have NW0 : Hid (NW sb 142 234 (stP 0) 7 80 (some ⟨g, off, none⟩) n w w) := Lib.hid ⟨hr, hb, hc, gb_refl _ _, hr.lt, hcs⟩
  have TK := Lib.hid (fun w' (h : NW sb 142 234 (stP 0) 7 80 (some ⟨g, off, none⟩) n w' w') => take_any sb 234 0 n cap (by omega) g off hnc hcm hg w' h (by obtain ⟨z, hz⟩ := h.cu 0 (by decide); exact Frame.block_lt hz))
  have TT := Lib.hid (fun w' h => total_any pb (some ⟨g, off, none⟩) n cap hn hnc hcm w' h)
  obtain ⟨_, _, _, _, a5⟩ := hr.at_
  have A5 := Lib.hid a5
  have hle : ¬ (33554432 : Int) < (n : Int) := by omega
  clear h hb hr hc a5
  go_enter Tryz.func160, Tryz.ntmps160
  go_upto_region 3 with fail
  refine Step.begin_ (S := fun w' => w' = w.drew) 10 rfl (by kernel_rfl) rfl ?_
  intro hSS
  clear hSS
  refine Step.t_move (i := 0) rfl rfl (by kernel_rfl) (by kernel_rfl) (by kernel_rfl) rfl _ rfl (.pointer (some ⟨sb, 0, none⟩)) rfl ?_
  simp only [Act.put, sA9, sB9, sC9]
  refine Step.t_move (i := 5) rfl rfl (by kernel_rfl) (by kernel_rfl) (by kernel_rfl) rfl _ rfl (.slice (some ⟨pb, 0, none⟩) 1 1) rfl ?_
  simp only [Act.put, sA9, sB9, sC9]
  refine Step.t_val (i := 1) rfl rfl (by kernel_rfl) (by kernel_rfl) (by kernel_rfl) rfl (.pointer (some ⟨sb, 0, none⟩)) (fun w' _ => by rfl) ?_
  simp only [Act.put, sA9, sB9, sC9]
  refine Tree.t_field (i := 2) rfl rfl (by kernel_rfl) (by kernel_rfl) (by kernel_rfl) rfl _ _ _ rfl (sb) (0) rfl Tryz.underlying234 rfl (sz := 142) (by kernel_rfl) (by decide) (0) rfl ?_
  simp only [Act.put, sA9, sB9, sC9]
  refine Tree.t_field (i := 3) rfl rfl (by kernel_rfl) (by kernel_rfl) (by kernel_rfl) rfl _ _ _ rfl (sb) (0) rfl Tryz.underlying230 rfl (sz := 1) (by kernel_rfl) (by decide) (5) rfl ?_
  simp only [Act.put, sA9, sB9, sC9]
  refine Tree.t_load1 (i := 4) rfl rfl (by kernel_rfl) (by kernel_rfl) (by kernel_rfl) rfl _ _ rfl (sb) (5) rfl (.int .u64 (0 : Nat)) (fun w' h => by subst h; exact A5.out) Tryz.underlying25 rfl ?_
  simp only [Act.put, sA9, sB9, sC9]
  refine Step.t_one (i := 6) rfl rfl (by kernel_rfl) ?_
  refine Step.w_callx 183 _ _ rfl Tryz.func183 (by kernel_rfl) rfl [.slice (some ⟨pb, 0, none⟩) 1 1] rfl (TT.out _ H.out) ?_
  rintro e wt ⟨rfl, hw⟩
  subst hw
  refine ⟨_, rfl, rfl, ?_⟩
  simp only [Act.put, sA9, sB9, sC9]
  refine Step.t_val (i := 7) rfl rfl (by kernel_rfl) (by kernel_rfl) (by kernel_rfl) rfl (.int .u64 n) (fun w' _ => by unfold execOp; go_simp; try (first | rfl | omega | exact (IntWalk.u64_in _ (by omega)).trans (by omega) | exact IntWalk.u64_in _ (by omega))) ?_
  simp only [Act.put, sA9, sB9, sC9]
  refine Step.t_val (i := 8) rfl rfl (by kernel_rfl) (by kernel_rfl) (by kernel_rfl) rfl (.int .u64 n) (fun w' _ => by unfold execOp; go_simp; try (first | rfl | omega | exact (IntWalk.u64_in _ (by omega)).trans (by omega) | exact IntWalk.u64_in _ (by omega))) ?_
  simp only [Act.put, sA9, sB9, sC9]
  refine Step.t_val (i := 9) rfl rfl (by kernel_rfl) (by kernel_rfl) (by kernel_rfl) rfl (.bool false) (fun w' _ => by unfold execOp; go_simp; try (first | rfl | omega)) ?_
  simp only [Act.put, sA9, sB9, sC9]
  refine Step.t_end (by kernel_rfl) ?_
  go_wp2
  go_loopw [21, 6] (fun i _ wr => (i = .int .i64 0 ∧ wr = w.drew) ∨ (i = .int .i64 1 ∧ RowP wr sb 234 142 (stP n) ∧ w.grownBy wr (some sb))) (fun i _ _ => 1 - (RowKit.intOf i).toNat)
  case atStart => exact .inl ⟨rfl, rfl⟩
  case round =>
    rcases hrel with ⟨rfl, rfl⟩ | ⟨rfl, hr, hg2⟩
    · skip
      go_upto_region 7 with fail
      refine wp_region_lit ?_
      refine Step.p_index rfl _ 22 _ _ rfl pb 0 1 1 rfl 0 rfl (by decide) 1 Tryz.underlying205 (by kernel_rfl) ?_
      simp only [Act.put, sA9, sB9, sC9]
      refine Tree.p_load1 rfl _ _ rfl pb 0 rfl (.slice (some ⟨g, off, none⟩) n cap) (show w.drew.cell? _ = _ from H.out) Tryz.underlying22 rfl ?_
      simp only [Act.put, sA9, sB9, sC9]
      refine Step.p_assign rfl _ rfl (.slice (some ⟨g, off, none⟩) n cap) rfl ?_
      simp only [Act.put, sA9, sB9, sC9]
      refine wpList_nil ?_
      go_upto_region 8 with fail
      refine wp_region_lit ?_
      refine Step.p_move rfl _ rfl (.pointer (some ⟨sb, 0, none⟩)) rfl ?_
      simp only [Act.put, sA9, sB9, sC9]
      refine Step.p_val rfl (.pointer (some ⟨sb, 0, none⟩)) (by unfold execOp; go_simp; try rfl) ?_
      simp only [Act.put, sA9, sB9, sC9]
      refine Tree.p_field rfl _ _ _ rfl (sb) (0) rfl Tryz.underlying234 rfl (sz := 142) (by kernel_rfl) (by decide) (0) rfl ?_
      simp only [Act.put, sA9, sB9, sC9]
      refine Step.p_move rfl _ rfl (.slice (some ⟨g, off, none⟩) n cap) rfl ?_
      simp only [Act.put, sA9, sB9, sC9]
      refine Step.p_wp rfl (Step.w_callx 184 _ _ rfl Tryz.func184 (by kernel_rfl) rfl [.pointer (some ⟨sb, 0, none⟩), .slice (some ⟨g, off, none⟩) n cap] rfl (TK.out w.drew (NW0.out.drew.here NW0.out.drew.bu)) ?_)
      rintro e w2 ⟨rfl, hr, hg2⟩
      refine ⟨_, rfl, ?_⟩
      simp only [Act.put, sA9, sB9, sC9]
      refine wpList_nil ?_
      have HR := Lib.hid hr
      have HG : Hid (w.grownBy w2 (some sb)) := Lib.hid ⟨hg2.os, hg2.tape, hg2.output, hg2.size, hg2.block⟩
      clear hr hg2
      go_wp2
      exact ⟨.inr ⟨rfl, by have := HR.out; rwa [Nat.zero_add] at this, HG.out⟩, by simp [RowKit.intOf]⟩
    · have HR := Lib.hid hr
      have HG := Lib.hid hg2
      clear hr hg2
      go_wp2
      go_ret
      exact ⟨rfl, HR.out, HG.out⟩
/-- an own list of n bytes, some bytes -/
def OwnU (B n : Nat) (v : Value) (w : World) : Prop := ∃ F : Nat → Nat, (∀ i, F i < 256) ∧ w.ownsRow B 5 1 v n (bl F n)
theorem ex_conv8 {P : Program} {o : Oper} {a : Act} (t r : TypeId) (x : Operand) (ho : o.op = .convert t r x) (k : IntKind) (m : Int) (hx : a.eval x = .int k m) (hu : P.underlying t = some (.int k)) (hr : P.underlying r = some (.int .u8)) : ∃ z : Nat, z < 256 ∧ ∀ w, (execOp a.eval o).run P w = .ok (.value (.int .u8 z)) w := by
  refine ⟨(m % 256).toNat, by omega, fun w => ?_⟩
  unfold execOp
  rw [ho]
  simp only [hx]
  go_simp
  have e : IntKind.u8.wrap m = (((m % 256).toNat : Nat) : Int) := by
    rw [IntKind.wrap_u8]
    omega
  first | omega | rw [e] | exact congrArg _ e
theorem p_conv8 {P : Program} {ops : Array Oper} {Q : Exit → Act → World → Prop} {o : Oper} {rest : List Oper} {a : Act} {w : World} (hg : Region.wanted o (yielded ops a.tmps) = true) (t r : TypeId) (x : Operand) (ho : o.op = .convert t r x) (k : IntKind) (m : Int) (hx : a.eval x = .int k m) (hu : P.underlying t = some (.int k)) (hr : P.underlying r = some (.int .u8))
    (h : ∀ z : Nat, z < 256 → wpList P ops Q rest (a.put o.dst (.int .u8 (z : Nat))) w) : wpList P ops Q (o :: rest) a w := by
  obtain ⟨z, hz, hzv⟩ := ex_conv8 t r x ho k m hx hu hr
  exact Step.p_val hg _ (hzv w) (h z hz)
theorem push_some {_B n : Nat} {F : Nat → Nat} {z : Nat} (hF : ∀ i, F i < 256) (hz : z < 256) : ∃ G : Nat → Nat, (∀ i, G i < 256) ∧ bl F n ++ [.int .u8 (z : Nat)] = bl G (n + 1) := by
  refine ⟨fun i => if i = n then z else F i, fun i => by dsimp only; split; exact hz; exact hF i, ?_⟩
  rw [← bl_succ]
  try dsimp only
  rw [if_pos rfl]
  congr 1
  unfold bl
  apply List.map_congr_left
  intro i hi
  have : i < n := by simpa using hi
  show _ = Value.int .u8 ((if i = n then z else F i : Nat) : Int)
  rw [if_neg (by omega)]
set_option maxRecDepth 100000 in
set_option maxHeartbeats 8000000 in
theorem big_any (B n : Nat) (sv : Value) (x : Int) (hn : n ≤ 1000) (w : World) (hB : B ≤ w.heap.size) (h : OwnU B n sv w) : Calls Tryz.prog 192 #[sv, .int .u64 x, .int .i64 4] w fun e w' => (∃ v, e = .returned v ∧ OwnU B (n + 4) v w') ∧ Below B w w' := by
  have H := Lib.hid h
  clear h
  go_enter Tryz.func192, Tryz.ntmps192
  go_wp2
  go_loopw [7, 0] (fun i v wr => ∃ j : Nat, j ≤ 4 ∧ i = .int .i64 (3 - (j : Int)) ∧ OwnU B (n + j) v wr ∧ Below B w wr) (fun i _ _ => (RowKit.intOf i + 1).toNat)
  case atStart => exact ⟨0, by omega, rfl, H.out, Below.refl _ _⟩
  case round =>
    obtain ⟨j, hj, rfl, ⟨F, hF, ho⟩, hb⟩ := hrel
    have HO := Lib.hid ho
    have HB := Lib.hid hb
    have HF := Lib.hid hF
    have hBr : B ≤ wr.heap.size := Nat.le_trans hB hb.size
    clear ho hb H hF
    by_cases hlt : j < 4
    · obtain ⟨d, hd⟩ : ∃ d : Nat, (3 - (j : Int)) = (d : Nat) := ⟨3 - j, by omega⟩
      have hdj : d + j = 3 := by omega
      rw [hd]
      go_upto_region 4 with fail
      refine wp_region_lit ?_
      refine Step.p_move rfl _ rfl (u0) rfl ?_
      simp only [Act.put, sA9, sB9, sC9]
      refine Step.p_move rfl _ rfl (.int .u64 x) rfl ?_
      simp only [Act.put, sA9, sB9, sC9]
      refine Step.p_move rfl _ rfl (.int .i64 d) rfl ?_
      simp only [Act.put, sA9, sB9, sC9]
      refine Step.p_val rfl (.int .i64 (8 * d : Nat)) (by unfold execOp; go_simp; try (first | rfl | omega | exact (IntWalk.i64_in _ (by omega)).trans (by omega) | exact IntWalk.i64_in _ (by omega))) ?_
      simp only [Act.put, sA9, sB9, sC9]
      refine p_int rfl .u64 (ex_shr _ _ _ _ rfl _ _ _ (8 * d) rfl rfl) ?_
      intro z1
      simp only [Act.put, sA9, sB9, sC9]
      skip
      refine p_conv8 rfl _ _ _ rfl .u64 z1 rfl Tryz.underlying25 Tryz.underlying5 ?_
      intro z hz
      simp only [Act.put, sA9, sB9, sC9]
      refine p_push rfl _ rfl (z : Nat) rfl _ _ rfl rfl rfl _ rfl B (n + j) _ HO.out (by omega) hBr ?_
      intro v2 w2 hp
      simp only [Act.put, sA9, sB9, sC9]
      refine Step.p_assign rfl _ rfl (v2) rfl ?_
      simp only [Act.put, sA9, sB9]
      refine wpList_nil ?_
      obtain ⟨G, hG, e⟩ := push_some (_B := B) (n := n + j) HF.out hz
      have HP : Hid (OwnU B (n + (j + 1)) v2 w2 ∧ Below B w w2) := Lib.hid ⟨⟨G, hG, by have := hp.own; rw [e] at this; exact this⟩, HB.out.trans hp.bel⟩
      clear hp e
      go_wp2
      exact ⟨⟨j + 1, by omega, by go_num, HP.out⟩, by simp [RowKit.intOf]; try omega⟩
    · obtain rfl : j = 4 := by omega
      go_wp2
      go_ret
      exact ⟨⟨_, rfl, ⟨F, HF.out, HO.out⟩⟩, HB.out⟩
end Go.Proofs.YtmifebcaifbmoaaGreatDoor.Dig
end
