/- cofferlaw13.sameTokens and same: metadata that hold the same. -/
import Derived.Test.YtfchbodbkdkcfaaDoorSame
namespace Go.Proofs.YtfchbodbkdkcfaaDoor.Meta
open Go.RowKit Go.Lib Go.Proofs.YtfchbodbkdkcfaaDoor.Coll

set_option maxRecDepth 100000 in
set_option maxHeartbeats 8000000 in
theorem sameTokens_any (q1 q2 : Option Addr) (c1 c2 : Nat) (L1 L2 : List TokD) (w : World) (h1 : LV tokC w q1 L1) (h2 : LV tokC w q2 L2) (hlen : L2.length = L1.length) (hn : L1.length ≤ 9223372036854775807) (ht : ∀ k (h : k < L1.length) (h2 : k < L2.length), TokLike w (L1[k]'h) (L2[k]'h2)) :
    Calls Tryd.prog 73 #[.slice q2 L2.length c2, .slice q1 L1.length c1] w fun e w' => e = .returned (.bool true) ∧ Below w.heap.size w w' := by
  have D1 := Lib.hid h1
  have D2 := Lib.hid h2
  have HT := Lib.hid ht
  have HL := Lib.hid hlen
  rw [hlen]
  clear h1 h2 ht hlen
  obtain ⟨n, hn'⟩ : ∃ n, L1.length = n := ⟨_, rfl⟩
  rw [hn'] at hn ⊢
  have HN := Lib.hid hn'
  clear hn'
  go_enter Tryd.func73, Tryd.ntmps73
  go_wp2
  go_loopw [5] (fun i wr => ∃ k : Nat, k ≤ n ∧ i = .int .i64 k ∧ Below w.heap.size w wr) (fun i _ => n - (intOf i).toNat)
  case atStart => exact ⟨0, by omega, rfl, Below.refl _ _⟩
  case round =>
    obtain ⟨k, hk, rfl, hb⟩ := hrel
    have HB := Lib.hid hb
    by_cases hlt : k < n
    · have k1 : k < L1.length := by rw [HN.out]; exact hlt
      have k2 : k < L2.length := by rw [HL.out, HN.out]; exact hlt
      obtain ⟨g1, o1, rfl, E1'⟩ := lv_cells (sz := 4) (fun _ => rfl) (by decide) (D1.out.below hb) k k1
      obtain ⟨g2, o2, rfl, E2'⟩ := lv_cells (sz := 4) (fun _ => rfl) (by decide) (D2.out.below hb) k k2
      have TL := (HT.out k k1 k2).below hb
      generalize L1[k]'k1 = d at E1' TL
      generalize L2[k]'k2 = d2 at E2' TL
      obtain ⟨z0, z1, z2, z3, z4, z5, z6⟩ := d
      obtain ⟨v0, v1, v2, v3, v4, v5, v6⟩ := d2
      have t0 : v0 = z0 := TL.num
      have t1 : v1 = z1 := TL.kind
      have t3 : v3 = z3 := TL.n
      have t6 : v6 = z6 := TL.note
      subst t0 t1 t3 t6
      have T2 := Lib.hid (show v3 ≤ maxLen from TL.max)
      have T3 := Lib.hid (show Tok.IL wr z2 v3 z5 from TL.a)
      have T4 := Lib.hid (show Tok.IL wr v2 v3 z5 from TL.b)
      have E1 := Lib.hid E1'
      have E2 := Lib.hid E2'
      clear E1' E2' TL hb k1 k2
      go_upto_region 6 with fail
      refine Step.wp_region_class (C := fun w' => Below wr.heap.size wr w') (by kernel_rfl) (by kernel_rfl) (Below.refl _ _).drew ?_
      refine Step.q_move rfl _ rfl (.slice (some ⟨g2, o2, none⟩) n c2) rfl ?_
      simp only [Act.put, List.setIfInBounds_toArray, List.set_cons_zero, List.set_cons_succ]
      refine Step.q_move rfl _ rfl (.int .i64 k) rfl ?_
      simp only [Act.put, List.setIfInBounds_toArray, List.set_cons_zero, List.set_cons_succ]
      refine Step.q_idx rfl _ 41 _ _ rfl g2 o2 n c2 rfl k rfl hlt 4 Tryd.underlying54 (by kernel_rfl) ?_
      simp only [Act.put, List.setIfInBounds_toArray, List.set_cons_zero, List.set_cons_succ]
      refine Step.q_field rfl _ _ _ rfl g2 (o2 + k * 4) rfl Tryd.underlying41 rfl (sz := 1) (by kernel_rfl) (by decide) (o2 + k * 4 + 0) rfl ?_
      simp only [Act.put, List.setIfInBounds_toArray, List.set_cons_zero, List.set_cons_succ]
      refine Step.q_load1 rfl _ _ rfl g2 (o2 + k * 4 + 0) rfl (.int .i64 v0) (fun w' hw' => (hw'.cell (p := ⟨g2, o2 + k * 4 + 0, none⟩) (Frame.block_lt (E2.out 0 _ rfl))).trans (E2.out 0 _ rfl)) Tryd.underlying3 rfl ?_
      simp only [Act.put, List.setIfInBounds_toArray, List.set_cons_zero, List.set_cons_succ]
      refine Step.q_move rfl _ rfl (.slice (some ⟨g1, o1, none⟩) n c1) rfl ?_
      simp only [Act.put, List.setIfInBounds_toArray, List.set_cons_zero, List.set_cons_succ]
      refine Step.q_move rfl _ rfl (.int .i64 k) rfl ?_
      simp only [Act.put, List.setIfInBounds_toArray, List.set_cons_zero, List.set_cons_succ]
      refine Step.q_idx rfl _ 41 _ _ rfl g1 o1 n c1 rfl k rfl hlt 4 Tryd.underlying54 (by kernel_rfl) ?_
      simp only [Act.put, List.setIfInBounds_toArray, List.set_cons_zero, List.set_cons_succ]
      refine Step.q_field rfl _ _ _ rfl g1 (o1 + k * 4) rfl Tryd.underlying41 rfl (sz := 1) (by kernel_rfl) (by decide) (o1 + k * 4 + 0) rfl ?_
      simp only [Act.put, List.setIfInBounds_toArray, List.set_cons_zero, List.set_cons_succ]
      refine Step.q_load1 rfl _ _ rfl g1 (o1 + k * 4 + 0) rfl (.int .i64 v0) (fun w' hw' => (hw'.cell (p := ⟨g1, o1 + k * 4 + 0, none⟩) (Frame.block_lt (E1.out 0 _ rfl))).trans (E1.out 0 _ rfl)) Tryd.underlying3 rfl ?_
      simp only [Act.put, List.setIfInBounds_toArray, List.set_cons_zero, List.set_cons_succ]
      refine Step.q_pure rfl (.bool false) (fun w' => by unfold execOp; go_simp) ?_
      simp only [Act.put, List.setIfInBounds_toArray, List.set_cons_zero, List.set_cons_succ]
      refine Step.q_move rfl _ rfl (.bool false) rfl ?_
      simp only [Act.put, List.setIfInBounds_toArray, List.set_cons_zero, List.set_cons_succ]
      refine Step.q_move rfl _ rfl (.slice (some ⟨g2, o2, none⟩) n c2) rfl ?_
      simp only [Act.put, List.setIfInBounds_toArray, List.set_cons_zero, List.set_cons_succ]
      refine Step.q_move rfl _ rfl (.int .i64 k) rfl ?_
      simp only [Act.put, List.setIfInBounds_toArray, List.set_cons_zero, List.set_cons_succ]
      refine Step.q_idx rfl _ 41 _ _ rfl g2 o2 n c2 rfl k rfl hlt 4 Tryd.underlying54 (by kernel_rfl) ?_
      simp only [Act.put, List.setIfInBounds_toArray, List.set_cons_zero, List.set_cons_succ]
      refine Step.q_field rfl _ _ _ rfl g2 (o2 + k * 4) rfl Tryd.underlying41 rfl (sz := 1) (by kernel_rfl) (by decide) (o2 + k * 4 + 1) rfl ?_
      simp only [Act.put, List.setIfInBounds_toArray, List.set_cons_zero, List.set_cons_succ]
      refine Step.q_load1 rfl _ _ rfl g2 (o2 + k * 4 + 1) rfl (.string v1) (fun w' hw' => (hw'.cell (p := ⟨g2, o2 + k * 4 + 1, none⟩) (Frame.block_lt (E2.out 1 _ rfl))).trans (E2.out 1 _ rfl)) Tryd.underlying9 rfl ?_
      simp only [Act.put, List.setIfInBounds_toArray, List.set_cons_zero, List.set_cons_succ]
      refine Step.q_move rfl _ rfl (.slice (some ⟨g1, o1, none⟩) n c1) rfl ?_
      simp only [Act.put, List.setIfInBounds_toArray, List.set_cons_zero, List.set_cons_succ]
      refine Step.q_move rfl _ rfl (.int .i64 k) rfl ?_
      simp only [Act.put, List.setIfInBounds_toArray, List.set_cons_zero, List.set_cons_succ]
      refine Step.q_idx rfl _ 41 _ _ rfl g1 o1 n c1 rfl k rfl hlt 4 Tryd.underlying54 (by kernel_rfl) ?_
      simp only [Act.put, List.setIfInBounds_toArray, List.set_cons_zero, List.set_cons_succ]
      refine Step.q_field rfl _ _ _ rfl g1 (o1 + k * 4) rfl Tryd.underlying41 rfl (sz := 1) (by kernel_rfl) (by decide) (o1 + k * 4 + 1) rfl ?_
      simp only [Act.put, List.setIfInBounds_toArray, List.set_cons_zero, List.set_cons_succ]
      refine Step.q_load1 rfl _ _ rfl g1 (o1 + k * 4 + 1) rfl (.string v1) (fun w' hw' => (hw'.cell (p := ⟨g1, o1 + k * 4 + 1, none⟩) (Frame.block_lt (E1.out 1 _ rfl))).trans (E1.out 1 _ rfl)) Tryd.underlying9 rfl ?_
      simp only [Act.put, List.setIfInBounds_toArray, List.set_cons_zero, List.set_cons_succ]
      refine Step.q_pure rfl (.bool false) (fun w' => by unfold execOp; go_simp) ?_
      simp only [Act.put, List.setIfInBounds_toArray, List.set_cons_zero, List.set_cons_succ]
      refine Step.q_pick rfl _ _ _ rfl false rfl (.bool false) rfl ?_
      simp only [Act.put, List.setIfInBounds_toArray, List.set_cons_zero, List.set_cons_succ]
      refine Step.q_move rfl _ rfl (.bool false) rfl ?_
      simp only [Act.put, List.setIfInBounds_toArray, List.set_cons_zero, List.set_cons_succ]
      refine Step.q_move rfl _ rfl (.slice (some ⟨g2, o2, none⟩) n c2) rfl ?_
      simp only [Act.put, List.setIfInBounds_toArray, List.set_cons_zero, List.set_cons_succ]
      refine Step.q_move rfl _ rfl (.int .i64 k) rfl ?_
      simp only [Act.put, List.setIfInBounds_toArray, List.set_cons_zero, List.set_cons_succ]
      refine Step.q_idx rfl _ 41 _ _ rfl g2 o2 n c2 rfl k rfl hlt 4 Tryd.underlying54 (by kernel_rfl) ?_
      simp only [Act.put, List.setIfInBounds_toArray, List.set_cons_zero, List.set_cons_succ]
      refine Step.q_field rfl _ _ _ rfl g2 (o2 + k * 4) rfl Tryd.underlying41 rfl (sz := 1) (by kernel_rfl) (by decide) (o2 + k * 4 + 3) rfl ?_
      simp only [Act.put, List.setIfInBounds_toArray, List.set_cons_zero, List.set_cons_succ]
      refine Step.q_load1 rfl _ _ rfl g2 (o2 + k * 4 + 3) rfl (.string v6) (fun w' hw' => (hw'.cell (p := ⟨g2, o2 + k * 4 + 3, none⟩) (Frame.block_lt (E2.out 3 _ rfl))).trans (E2.out 3 _ rfl)) Tryd.underlying9 rfl ?_
      simp only [Act.put, List.setIfInBounds_toArray, List.set_cons_zero, List.set_cons_succ]
      refine Step.q_move rfl _ rfl (.slice (some ⟨g1, o1, none⟩) n c1) rfl ?_
      simp only [Act.put, List.setIfInBounds_toArray, List.set_cons_zero, List.set_cons_succ]
      refine Step.q_move rfl _ rfl (.int .i64 k) rfl ?_
      simp only [Act.put, List.setIfInBounds_toArray, List.set_cons_zero, List.set_cons_succ]
      refine Step.q_idx rfl _ 41 _ _ rfl g1 o1 n c1 rfl k rfl hlt 4 Tryd.underlying54 (by kernel_rfl) ?_
      simp only [Act.put, List.setIfInBounds_toArray, List.set_cons_zero, List.set_cons_succ]
      refine Step.q_field rfl _ _ _ rfl g1 (o1 + k * 4) rfl Tryd.underlying41 rfl (sz := 1) (by kernel_rfl) (by decide) (o1 + k * 4 + 3) rfl ?_
      simp only [Act.put, List.setIfInBounds_toArray, List.set_cons_zero, List.set_cons_succ]
      refine Step.q_load1 rfl _ _ rfl g1 (o1 + k * 4 + 3) rfl (.string v6) (fun w' hw' => (hw'.cell (p := ⟨g1, o1 + k * 4 + 3, none⟩) (Frame.block_lt (E1.out 3 _ rfl))).trans (E1.out 3 _ rfl)) Tryd.underlying9 rfl ?_
      simp only [Act.put, List.setIfInBounds_toArray, List.set_cons_zero, List.set_cons_succ]
      refine Step.q_pure rfl (.bool false) (fun w' => by unfold execOp; go_simp) ?_
      simp only [Act.put, List.setIfInBounds_toArray, List.set_cons_zero, List.set_cons_succ]
      refine Step.q_pick rfl _ _ _ rfl false rfl (.bool false) rfl ?_
      simp only [Act.put, List.setIfInBounds_toArray, List.set_cons_zero, List.set_cons_succ]
      refine Step.q_move rfl _ rfl (.bool false) rfl ?_
      simp only [Act.put, List.setIfInBounds_toArray, List.set_cons_zero, List.set_cons_succ]
      refine Step.q_move rfl _ rfl (.slice (some ⟨g2, o2, none⟩) n c2) rfl ?_
      simp only [Act.put, List.setIfInBounds_toArray, List.set_cons_zero, List.set_cons_succ]
      refine Step.q_move rfl _ rfl (.int .i64 k) rfl ?_
      simp only [Act.put, List.setIfInBounds_toArray, List.set_cons_zero, List.set_cons_succ]
      refine Step.q_idx rfl _ 41 _ _ rfl g2 o2 n c2 rfl k rfl hlt 4 Tryd.underlying54 (by kernel_rfl) ?_
      simp only [Act.put, List.setIfInBounds_toArray, List.set_cons_zero, List.set_cons_succ]
      refine Step.q_field rfl _ _ _ rfl g2 (o2 + k * 4) rfl Tryd.underlying41 rfl (sz := 1) (by kernel_rfl) (by decide) (o2 + k * 4 + 2) rfl ?_
      simp only [Act.put, List.setIfInBounds_toArray, List.set_cons_zero, List.set_cons_succ]
      refine Step.q_load1 rfl _ _ rfl g2 (o2 + k * 4 + 2) rfl (.slice v2 v3 v4) (fun w' hw' => (hw'.cell (p := ⟨g2, o2 + k * 4 + 2, none⟩) (Frame.block_lt (E2.out 2 _ rfl))).trans (E2.out 2 _ rfl)) Tryd.underlying39 rfl ?_
      simp only [Act.put, List.setIfInBounds_toArray, List.set_cons_zero, List.set_cons_succ]
      refine Step.q_move rfl _ rfl (.slice (some ⟨g1, o1, none⟩) n c1) rfl ?_
      simp only [Act.put, List.setIfInBounds_toArray, List.set_cons_zero, List.set_cons_succ]
      refine Step.q_move rfl _ rfl (.int .i64 k) rfl ?_
      simp only [Act.put, List.setIfInBounds_toArray, List.set_cons_zero, List.set_cons_succ]
      refine Step.q_idx rfl _ 41 _ _ rfl g1 o1 n c1 rfl k rfl hlt 4 Tryd.underlying54 (by kernel_rfl) ?_
      simp only [Act.put, List.setIfInBounds_toArray, List.set_cons_zero, List.set_cons_succ]
      refine Step.q_field rfl _ _ _ rfl g1 (o1 + k * 4) rfl Tryd.underlying41 rfl (sz := 1) (by kernel_rfl) (by decide) (o1 + k * 4 + 2) rfl ?_
      simp only [Act.put, List.setIfInBounds_toArray, List.set_cons_zero, List.set_cons_succ]
      refine Step.q_load1 rfl _ _ rfl g1 (o1 + k * 4 + 2) rfl (.slice z2 v3 z4) (fun w' hw' => (hw'.cell (p := ⟨g1, o1 + k * 4 + 2, none⟩) (Frame.block_lt (E1.out 2 _ rfl))).trans (E1.out 2 _ rfl)) Tryd.underlying39 rfl ?_
      simp only [Act.put, List.setIfInBounds_toArray, List.set_cons_zero, List.set_cons_succ]
      refine Step.q_call rfl 55 [.tmp 59, .tmp 64] _ rfl Tryd.func55 (by kernel_rfl) rfl (.bool true) [.slice v2 v3 v4, .slice z2 v3 z4] rfl (fun w' hw' => (Tok.sameInts_any _ _ _ _ _ z5 w' T2.out (T4.out.below hw') (T3.out.below hw')).mono fun e w2 ⟨he, hb⟩ => ⟨he, hw'.trans (hb.mono hw'.size)⟩) ?_
      simp only [Act.put, List.setIfInBounds_toArray, List.set_cons_zero, List.set_cons_succ]
      refine Step.q_pure rfl (.bool false) (fun w' => by unfold execOp; go_simp) ?_
      simp only [Act.put, List.setIfInBounds_toArray, List.set_cons_zero, List.set_cons_succ]
      refine Step.q_pick rfl _ _ _ rfl false rfl (.bool false) rfl ?_
      simp only [Act.put, List.setIfInBounds_toArray, List.set_cons_zero, List.set_cons_succ]
      refine wpQuiet_nil ?_
      intro w4 hw4
      have HW4 := Lib.hid (HB.out.trans (hw4.mono HB.out.size))
      clear hw4
      go_wp2
      go_roundw
      case rel => exact ⟨k + 1, by omega, rfl, HW4.out⟩
      case measure => simp [intOf]; omega
    · clear hb
      go_wp2
      go_ret
      exact ⟨rfl, HB.out⟩

set_option maxRecDepth 100000 in
set_option maxHeartbeats 8000000 in
theorem same13 (m m2 : MetaD) (p p2 : Places) (w : World) (h : Like w m p m2 p2) :
    Calls Tryd.prog 34 #[metaV m2 p2, metaV m p] w fun e w' => e = .returned (.bool true) ∧ Below w.heap.size w w' := by
  obtain ⟨T, rfl⟩ : ∃ T, m2 = { m with toks := T } := ⟨m2.toks, h.eq⟩
  have H := Lib.hid h
  have HLT := Lib.hid (show T.length = m.toks.length from h.len)
  have ms := h.ms
  have me := h.me
  have mt := h.mt
  clear h
  unfold metaV metaL
  go_enter Tryd.func34, Tryd.ntmps34
  go_upto_region 1 with fail
  have hb0 : Below w.heap.size w ((w.alloc (.cells (metaA { m with toks := T } p2) 56)).alloc (.cells (metaA m p) 56)) := ((Below.refl _ _).alloc (Nat.le_refl _) _).alloc (by simp) _
  have o1 : ((w.alloc (.cells (metaA { m with toks := T } p2) 56)).alloc (.cells (metaA m p) 56)).heap[w.heap.size]? = some (.cells (metaA { m with toks := T } p2) 56 (0, 0)) := by
    rw [heap_alloc_old _ _ (by simp)]
    exact heap_alloc_new w _
  have o2 : ((w.alloc (.cells (metaA { m with toks := T } p2) 56)).alloc (.cells (metaA m p) 56)).heap[w.heap.size + 1]? = some (.cells (metaA m p) 56 (0, 0)) := by
    have := heap_alloc_new (w.alloc (.cells (metaA { m with toks := T } p2) 56)) (.cells (metaA m p) 56)
    simpa using this
  go_upto_region 3 with fail
  generalize hw2 : (w.alloc (.cells _ 56)).alloc (.cells _ 56) = w2
  have hb2 : Below w.heap.size w w2 := by rw [← hw2]; exact hb0
  have r1 : w2.heap[w.heap.size]? = some (.cells (metaA { m with toks := T } p2) 56 (0, 0)) := by rw [← hw2]; exact o1
  have r2 : w2.heap[w.heap.size + 1]? = some (.cells (metaA m p) 56 (0, 0)) := by rw [← hw2]; exact o2
  clear hw2 o1 o2 hb0
  have x11 : w2.cell? ⟨w.heap.size, 11, none⟩ = some (.slice p2.qs m.slots.length p2.ks) := cell_of_row _ _ 11 _ _ _ r1
  have x12 : w2.cell? ⟨w.heap.size, 12, none⟩ = some (.slice p2.qe m.epochs.length p2.ke) := cell_of_row _ _ 12 _ _ _ r1
  have x13 : w2.cell? ⟨w.heap.size, 13, none⟩ = some (.slice p2.qg m.segs.length p2.kg) := cell_of_row _ _ 13 _ _ _ r1
  have x26 : w2.cell? ⟨w.heap.size, 26, none⟩ = some (.slice p2.qt T.length p2.kt) := cell_of_row _ _ 26 _ _ _ r1
  have y11 : w2.cell? ⟨w.heap.size + 1, 11, none⟩ = some (.slice p.qs m.slots.length p.ks) := cell_of_row _ _ 11 _ _ _ r2
  have y12 : w2.cell? ⟨w.heap.size + 1, 12, none⟩ = some (.slice p.qe m.epochs.length p.ke) := cell_of_row _ _ 12 _ _ _ r2
  have y13 : w2.cell? ⟨w.heap.size + 1, 13, none⟩ = some (.slice p.qg m.segs.length p.kg) := cell_of_row _ _ 13 _ _ _ r2
  have y26 : w2.cell? ⟨w.heap.size + 1, 26, none⟩ = some (.slice p.qt m.toks.length p.kt) := cell_of_row _ _ 26 _ _ _ r2
  have hl2 := (Array.getElem?_eq_some_iff.1 r2).1
  clear r1 r2
  have hlT := HLT.out
  rw [hlT] at x26
  have X11 := Lib.hid x11
  have X12 := Lib.hid x12
  have X26 := Lib.hid x26
  have Y11 := Lib.hid y11
  have Y12 := Lib.hid y12
  have Y26 := Lib.hid y26
  have hl1 : w.heap.size < w2.heap.size := by omega
  clear hlT
  have X13 := Lib.hid x13
  have Y13 := Lib.hid y13
  go_upto_region 5 with fail
  clear x11 x12 x13 x26 y11 y12 y13 y26
  have hb3 := Below.refl w2.heap.size w2
  have HB3 := Lib.hid hb3
  have HB2 := Lib.hid hb2
  clear hb3 hb2
  go_wp2
  go_loopw [5] (fun i wr => ∃ k : Nat, k ≤ m.slots.length ∧ i = .int .i64 k ∧ Below w2.heap.size w2 wr) (fun i _ => m.slots.length - (intOf i).toNat)
  case atStart => exact ⟨0, by omega, rfl, HB3.out⟩
  case round =>
    obtain ⟨k, hk, rfl, hb⟩ := hrel
    have HB3 := Lib.hid hb
    have x := (hb.cell (p := ⟨w.heap.size, 11, none⟩) hl1).trans X11.out
    have y := (hb.cell (p := ⟨w.heap.size + 1, 11, none⟩) hl2).trans Y11.out
    have hbw := HB2.out.trans (hb.mono HB2.out.size)
    by_cases hlt : k < m.slots.length
    · obtain ⟨g2, o2, hq2, E2⟩ := lv_cells (sz := 9) (fun _ => rfl) (by decide) (H.out.s2.below hbw) k hlt
      obtain ⟨g1, o1, hq1, E1⟩ := lv_cells (sz := 9) (fun _ => rfl) (by decide) (H.out.s1.below hbw) k hlt
      clear hb hbw
      rw [hq2] at x
      rw [hq1] at y
      clear hq1 hq2
      generalize m.slots[k]'hlt = d at E1 E2
      obtain ⟨z0, z1, z2, z3, z4, z5, z6, z7, z8⟩ := d
      have a0 := E2 0 _ rfl
      have b0 := E1 0 _ rfl
      have a1 := E2 1 _ rfl
      have b1 := E1 1 _ rfl
      have a2 := E2 2 _ rfl
      have b2 := E1 2 _ rfl
      have a3 := E2 3 _ rfl
      have b3 := E1 3 _ rfl
      have a4 := E2 4 _ rfl
      have b4 := E1 4 _ rfl
      have a5 := E2 5 _ rfl
      have b5 := E1 5 _ rfl
      have a6 := E2 6 _ rfl
      have b6 := E1 6 _ rfl
      have a7 := E2 7 _ rfl
      have b7 := E1 7 _ rfl
      have a8 := E2 8 _ rfl
      have b8 := E1 8 _ rfl
      rw [Nat.add_zero] at a0 b0
      clear E1 E2
      go_wp2
      go_region
      go_wp2
      go_roundw
      case rel => exact ⟨k + 1, by omega, rfl, HB3.out.drew⟩
      case measure => simp [intOf]; omega
    · clear hb hbw
      go_wp2
      go_loopw [6] (fun i wr => ∃ k : Nat, k ≤ m.epochs.length ∧ i = .int .i64 k ∧ Below w2.heap.size w2 wr) (fun i _ => m.epochs.length - (intOf i).toNat)
      case atStart => exact ⟨0, by omega, rfl, HB3.out⟩
      case round =>
        obtain ⟨k, hk, rfl, hb⟩ := hrel
        have HB3 := Lib.hid hb
        have x := (hb.cell (p := ⟨w.heap.size, 12, none⟩) hl1).trans X12.out
        have y := (hb.cell (p := ⟨w.heap.size + 1, 12, none⟩) hl2).trans Y12.out
        have hbw := HB2.out.trans (hb.mono HB2.out.size)
        by_cases hlt : k < m.epochs.length
        · obtain ⟨g2, o2, hq2, E2⟩ := lv_cells (sz := 5) (fun _ => rfl) (by decide) (H.out.e2.below hbw) k hlt
          obtain ⟨g1, o1, hq1, E1⟩ := lv_cells (sz := 5) (fun _ => rfl) (by decide) (H.out.e1.below hbw) k hlt
          clear hb hbw
          rw [hq2] at x
          rw [hq1] at y
          clear hq1 hq2
          generalize m.epochs[k]'hlt = d at E1 E2
          obtain ⟨z0, z1, z2, z3, z4⟩ := d
          have a0 := E2 0 _ rfl
          have b0 := E1 0 _ rfl
          have a1 := E2 1 _ rfl
          have b1 := E1 1 _ rfl
          have a2 := E2 2 _ rfl
          have b2 := E1 2 _ rfl
          have a3 := E2 3 _ rfl
          have b3 := E1 3 _ rfl
          have a4 := E2 4 _ rfl
          have b4 := E1 4 _ rfl
          rw [Nat.add_zero] at a0 b0
          clear E1 E2
          go_wp2
          go_region
          go_wp2
          go_roundw
          case rel => exact ⟨k + 1, by omega, rfl, HB3.out.drew⟩
          case measure => simp [intOf]; omega
        · clear hb hbw
          have x13 := (HB3.out.cell (p := ⟨w.heap.size, 13, none⟩) hl1).trans X13.out
          have y13 := (HB3.out.cell (p := ⟨w.heap.size + 1, 13, none⟩) hl2).trans Y13.out
          have hw3 := Lib.hid (HB2.out.trans (HB3.out.mono HB2.out.size))
          go_wp2_with fail
          refine (sameSegs13 p2.qg p.qg p2.kg p.kg m.segs wr (H.out.g2.below hw3.out) (H.out.g1.below hw3.out) H.out.mg).mono ?_
          rintro e w5 ⟨rfl, hb5⟩
          have hw5 := Lib.hid (hw3.out.trans (hb5.mono hw3.out.size))
          have HB5 := Lib.hid (HB3.out.trans (hb5.mono HB3.out.size))
          clear x13 y13 hb5
          have x26 := (HB5.out.cell (p := ⟨w.heap.size, 26, none⟩) hl1).trans X26.out
          have y26 := (HB5.out.cell (p := ⟨w.heap.size + 1, 26, none⟩) hl2).trans Y26.out
          have ST := sameTokens_any p.qt p2.qt p.kt p2.kt m.toks T w5 (H.out.t1.below hw5.out) (H.out.t2.below hw5.out) HLT.out H.out.mt (fun k h h2 => (H.out.tok k h h2).below hw5.out)
          rw [HLT.out] at ST
          have HST := Lib.hid ST
          clear ST
          go_wp2_with fail
          refine HST.out.mono ?_
          rintro e w6 ⟨rfl, hb6⟩
          have hw6 := Lib.hid (hw5.out.trans (hb6.mono hw5.out.size))
          clear x26 y26 hb6
          go_wp2
          go_ret
          exact ⟨rfl, hw6.out⟩
end Go.Proofs.YtfchbodbkdkcfaaDoor.Meta
