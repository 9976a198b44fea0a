/- rekey.start, size, zone and the document's. -/
import Derived.Test.YtfchbodbkdkcfaaDoorRk1
namespace Go.Proofs.YtfchbodbkdkcfaaDoor.Rk
open Go.RowKit Go.Lib Go.Proofs.YtfchbodbkdkcfaaDoor.Rooms Go.Proofs.YtfchbodbkdkcfaaDoor.Shapes

theorem shB_bd {u c h k : Int} (hk : shB u c h k = true) : (1 ≤ u ∧ u ≤ 4096) ∧ (16384 ≤ h ∧ h ≤ 4194304) ∧ (4096 ≤ k ∧ k ≤ 134217728) ∧ c ≤ 4294967296 ∧ (0 ≤ (2 * h + k) / u ∧ (2 * h + k) / u < c) := by
  simp only [shB, shapeOk, Bool.and_eq_true, decide_eq_true_eq] at hk
  obtain ⟨⟨⟨⟨⟨⟨hu, hh⟩, h1⟩, h2⟩, h3⟩, h4⟩, h5⟩ := hk
  have b1 := unit_bd hu
  have b2 := head_bd h hh
  exact ⟨b1, b2, ⟨h1, h2⟩, h4, Int.ediv_nonneg (by omega) (by omega), h5⟩
def stN (u h k : Int) : Int := (2 * h + k) / u
def szN (u c h k : Int) : Int := c - stN u h k

set_option maxHeartbeats 1600000 in
theorem start_any (u c h k : Int) (w : World) (hs : shB u c h k = true) :
    Calls Tryd.prog 85 #[.agg #[.int .i64 u, .int .u64 c, .int .i64 h, .int .i64 k]] w fun e w' => e = .returned (.int .u64 (stN u h k)) ∧ Below w.heap.size w w' := by
  obtain ⟨⟨u1, u2⟩, ⟨h1, h2⟩, ⟨k1, k2⟩, cc, d1, d2⟩ := shB_bd hs
  clear hs
  have hbl : Below w.heap.size w (w.alloc (.cells #[.int .i64 u, .int .u64 c, .int .i64 h, .int .i64 k] 31)) := (Below.refl _ _).alloc (Nat.le_refl _) _
  have hu0 : (u == 0) = false := by simp; omega
  obtain ⟨q, hq⟩ : ∃ q, stN u h k = q := ⟨_, rfl⟩
  rw [hq]
  have HQ := Lib.hid hq
  clear hq
  go_enter Tryd.func85, Tryd.ntmps85
  go_wp2
  go_ret
  exact ⟨by rw [← HQ.out]; rfl, hbl⟩

set_option maxHeartbeats 1600000 in
theorem refStart_any (u c h k : Int) (w : World) (hs : shB u c h k = true) :
    Calls Tryd.prog 93 #[.agg #[.int .i64 u, .int .u64 c, .int .i64 h, .int .i64 k]] w fun e w' => e = .returned (.int .u64 (stN u h k)) ∧ Below w.heap.size w w' := by
  obtain ⟨⟨u1, u2⟩, ⟨h1, h2⟩, ⟨k1, k2⟩, cc, d1, d2⟩ := shB_bd hs
  clear hs
  have hbl : Below w.heap.size w (w.alloc (.cells #[.int .i64 u, .int .u64 c, .int .i64 h, .int .i64 k] 31)) := (Below.refl _ _).alloc (Nat.le_refl _) _
  have hu0 : (u == 0) = false := by simp; omega
  obtain ⟨q, hq⟩ : ∃ q, stN u h k = q := ⟨_, rfl⟩
  rw [hq]
  have HQ := Lib.hid hq
  clear hq
  go_enter Tryd.func93, Tryd.ntmps93
  go_wp2
  go_ret
  exact ⟨by rw [← HQ.out]; rfl, hbl⟩

set_option maxRecDepth 100000 in
set_option maxHeartbeats 1600000 in
theorem size_any (u c h k : Int) (w : World) (hs : shB u c h k = true) :
    Calls Tryd.prog 62 #[.agg #[.int .i64 u, .int .u64 c, .int .i64 h, .int .i64 k]] w fun e w' => e = .returned (.int .u64 (szN u c h k)) ∧ Below w.heap.size w w' := by
  obtain ⟨⟨u1, u2⟩, ⟨h1, h2⟩, ⟨k1, k2⟩, cc, d1, d2⟩ := shB_bd hs
  have HS := Lib.hid hs
  clear hs
  have b1 : Below w.heap.size w (w.alloc (.cells #[.int .i64 u, .int .u64 c, .int .i64 h, .int .i64 k] 31)) := (Below.refl _ _).alloc (Nat.le_refl _) _
  have o1 := heap_alloc_new w (.cells #[.int .i64 u, .int .u64 c, .int .i64 h, .int .i64 k] 31)
  have hst : 0 ≤ stN u h k ∧ stN u h k < c := ⟨d1, d2⟩
  have hsz : szN u c h k = c - stN u h k := rfl
  rw [hsz]
  clear hsz d1 d2
  have SA := Lib.hid (fun w => start_any u c h k w HS.out)
  generalize stN u h k = q at *
  go_enter Tryd.func62, Tryd.ntmps62
  go_upto_region 1 with fail
  generalize w.alloc (.cells #[.int .i64 u, .int .u64 c, .int .i64 h, .int .i64 k] 31) = w1 at *
  have hl := (Array.getElem?_eq_some_iff.1 o1).1
  refine Step.wp_region_class (C := fun w' => Below w1.heap.size w1 w') (by kernel_rfl) (by kernel_rfl) (Below.refl _ _).drew ?_
  refine Step.q_field rfl _ _ _ rfl w.heap.size 0 rfl Tryd.underlying31 rfl (sz := 1) (by kernel_rfl) (by decide) 1 rfl ?_
  simp only [Act.put, List.setIfInBounds_toArray, List.set_cons_zero, List.set_cons_succ]
  refine Step.q_load1 rfl _ _ rfl w.heap.size 1 rfl (.int .u64 c) (fun w' hw' => (hw'.cell (p := ⟨w.heap.size, 1, none⟩) hl).trans (cell_of_row _ _ 1 _ _ _ o1)) Tryd.underlying22 rfl ?_
  simp only [Act.put, List.setIfInBounds_toArray, List.set_cons_zero, List.set_cons_succ]
  refine Step.q_loadrow rfl 31 _ rfl w.heap.size rfl (fun w' hw' => (hw'.block _ hl).trans o1) Tryd.underlying31 rfl (by kernel_rfl) ?_
  simp only [Act.put, List.setIfInBounds_toArray, List.set_cons_zero, List.set_cons_succ]
  refine Step.q_call rfl 85 [.tmp 5] _ rfl Tryd.func85 (by kernel_rfl) rfl (.int .u64 q) [.agg #[.int .i64 u, .int .u64 c, .int .i64 h, .int .i64 k]] rfl (fun w' hw' => (SA.out w').mono fun e w2 ⟨he, hb⟩ => ⟨he, hw'.trans (hb.mono hw'.size)⟩) ?_
  simp only [Act.put, List.setIfInBounds_toArray, List.set_cons_zero, List.set_cons_succ]
  refine Step.q_pure rfl (.int .u64 (c - q)) (fun w' => by unfold execOp; go_simp; show (c - q) % 18446744073709551616 = _; omega) ?_
  simp only [Act.put, List.setIfInBounds_toArray, List.set_cons_zero, List.set_cons_succ]
  refine Step.q_assign rfl _ rfl (.int .u64 (c - q)) rfl ?_
  refine wpQuiet_nil ?_
  intro w2 hw2
  simp only [Act.put, List.setIfInBounds_toArray, List.set_cons_zero, List.set_cons_succ]
  have HW := Lib.hid (b1.trans (hw2.mono b1.size))
  go_wp2
  go_ret
  exact ⟨rfl, HW.out⟩

set_option maxRecDepth 100000 in
set_option maxHeartbeats 1600000 in
theorem refSize_any (u c h k : Int) (w : World) (hs : shB u c h k = true) :
    Calls Tryd.prog 69 #[.agg #[.int .i64 u, .int .u64 c, .int .i64 h, .int .i64 k]] w fun e w' => e = .returned (.int .u64 (szN u c h k)) ∧ Below w.heap.size w w' := by
  obtain ⟨⟨u1, u2⟩, ⟨h1, h2⟩, ⟨k1, k2⟩, cc, d1, d2⟩ := shB_bd hs
  have HS := Lib.hid hs
  clear hs
  have b1 : Below w.heap.size w (w.alloc (.cells #[.int .i64 u, .int .u64 c, .int .i64 h, .int .i64 k] 31)) := (Below.refl _ _).alloc (Nat.le_refl _) _
  have o1 := heap_alloc_new w (.cells #[.int .i64 u, .int .u64 c, .int .i64 h, .int .i64 k] 31)
  have hst : 0 ≤ stN u h k ∧ stN u h k < c := ⟨d1, d2⟩
  have hsz : szN u c h k = c - stN u h k := rfl
  rw [hsz]
  clear hsz d1 d2
  have SA := Lib.hid (fun w => refStart_any u c h k w HS.out)
  generalize stN u h k = q at *
  go_enter Tryd.func69, Tryd.ntmps69
  go_upto_region 1 with fail
  generalize w.alloc (.cells #[.int .i64 u, .int .u64 c, .int .i64 h, .int .i64 k] 31) = w1 at *
  have hl := (Array.getElem?_eq_some_iff.1 o1).1
  refine Step.wp_region_class (C := fun w' => Below w1.heap.size w1 w') (by kernel_rfl) (by kernel_rfl) (Below.refl _ _).drew ?_
  refine Step.q_field rfl _ _ _ rfl w.heap.size 0 rfl Tryd.underlying31 rfl (sz := 1) (by kernel_rfl) (by decide) 1 rfl ?_
  simp only [Act.put, List.setIfInBounds_toArray, List.set_cons_zero, List.set_cons_succ]
  refine Step.q_load1 rfl _ _ rfl w.heap.size 1 rfl (.int .u64 c) (fun w' hw' => (hw'.cell (p := ⟨w.heap.size, 1, none⟩) hl).trans (cell_of_row _ _ 1 _ _ _ o1)) Tryd.underlying22 rfl ?_
  simp only [Act.put, List.setIfInBounds_toArray, List.set_cons_zero, List.set_cons_succ]
  refine Step.q_loadrow rfl 31 _ rfl w.heap.size rfl (fun w' hw' => (hw'.block _ hl).trans o1) Tryd.underlying31 rfl (by kernel_rfl) ?_
  simp only [Act.put, List.setIfInBounds_toArray, List.set_cons_zero, List.set_cons_succ]
  refine Step.q_call rfl 93 [.tmp 5] _ rfl Tryd.func93 (by kernel_rfl) rfl (.int .u64 q) [.agg #[.int .i64 u, .int .u64 c, .int .i64 h, .int .i64 k]] rfl (fun w' hw' => (SA.out w').mono fun e w2 ⟨he, hb⟩ => ⟨he, hw'.trans (hb.mono hw'.size)⟩) ?_
  simp only [Act.put, List.setIfInBounds_toArray, List.set_cons_zero, List.set_cons_succ]
  refine Step.q_pure rfl (.int .u64 (c - q)) (fun w' => by unfold execOp; go_simp; show (c - q) % 18446744073709551616 = _; omega) ?_
  simp only [Act.put, List.setIfInBounds_toArray, List.set_cons_zero, List.set_cons_succ]
  refine Step.q_assign rfl _ rfl (.int .u64 (c - q)) rfl ?_
  refine wpQuiet_nil ?_
  intro w2 hw2
  simp only [Act.put, List.setIfInBounds_toArray, List.set_cons_zero, List.set_cons_succ]
  have HW := Lib.hid (b1.trans (hw2.mono b1.size))
  go_wp2
  go_ret
  exact ⟨rfl, HW.out⟩
end Go.Proofs.YtfchbodbkdkcfaaDoor.Rk
