/- rekey.segments and rekey.Segments. -/
import Derived.Test.YtfchbodbkdkcfaaDoorCollect2
import Derived.RegionTactic
import Derived.BigRegion
namespace Go.Proofs.YtfchbodbkdkcfaaDoor.Coll
open Go.RowKit

theorem al5 (w : World) (a b c d e : Obj) :
    (((((w.alloc a).alloc b).alloc c).alloc d).alloc e).heap[w.heap.size]? = some a ∧ (((((w.alloc a).alloc b).alloc c).alloc d).alloc e).heap[w.heap.size + 1]? = some b ∧ (((((w.alloc a).alloc b).alloc c).alloc d).alloc e).heap[w.heap.size + 1 + 1]? = some c ∧
    (((((w.alloc a).alloc b).alloc c).alloc d).alloc e).heap[w.heap.size + 1 + 1 + 1]? = some d ∧ (((((w.alloc a).alloc b).alloc c).alloc d).alloc e).heap[w.heap.size + 1 + 1 + 1 + 1]? = some e ∧ Below w.heap.size w (((((w.alloc a).alloc b).alloc c).alloc d).alloc e) := by
  have s1 : (w.alloc a).heap.size = w.heap.size + 1 := by simp
  have s2 : ((w.alloc a).alloc b).heap.size = w.heap.size + 1 + 1 := by simp
  have s3 : (((w.alloc a).alloc b).alloc c).heap.size = w.heap.size + 1 + 1 + 1 := by simp
  have s4 : ((((w.alloc a).alloc b).alloc c).alloc d).heap.size = w.heap.size + 1 + 1 + 1 + 1 := by simp
  have n5 := heap_alloc_new ((((w.alloc a).alloc b).alloc c).alloc d) e
  have n4 := heap_alloc_new (((w.alloc a).alloc b).alloc c) d
  have n3 := heap_alloc_new ((w.alloc a).alloc b) c
  have n2 := heap_alloc_new (w.alloc a) b
  have n1 := heap_alloc_new w a
  rw [s4] at n5
  rw [s3] at n4
  rw [s2] at n3
  rw [s1] at n2
  refine ⟨?_, ?_, ?_, ?_, n5, ?_⟩
  · rw [heap_alloc_old _ _ (by omega), heap_alloc_old _ _ (by omega), heap_alloc_old _ _ (by omega), heap_alloc_old _ _ (by omega)]; exact n1
  · rw [heap_alloc_old _ _ (by omega), heap_alloc_old _ _ (by omega), heap_alloc_old _ _ (by omega)]; exact n2
  · rw [heap_alloc_old _ _ (by omega), heap_alloc_old _ _ (by omega)]; exact n3
  · rw [heap_alloc_old _ _ (by omega)]; exact n4
  · exact (((((Below.refl _ w).alloc (Nat.le_refl _) _).alloc (by omega) _).alloc (by omega) _).alloc (by omega) _).alloc (by omega) _

set_option maxRecDepth 100000 in
set_option maxHeartbeats 4000000 in
theorem segments_any (n : Int) (r : Rot) (w : World) (h0 : 0 ≤ r.done) (h1 : r.done ≤ n) (h2 : n < 18446744073709551616) :
    Calls Tryd.prog 66 #[.int .u64 n, rotV r] w fun e w' => ∃ b1 b2 b3 b4, e = .returned (.func (.func 92) #[] #[.pointer (some ⟨b1, 0, none⟩), .pointer (some ⟨b2, 0, none⟩), .pointer (some ⟨b3, 0, none⟩), .pointer (some ⟨b4, 0, none⟩)]) ∧
      w'.cell? ⟨b1, 0, none⟩ = some (.int .u64 (if r.back then n - r.done else r.done)) ∧ w'.cell? ⟨b2, 0, none⟩ = some (.int .u64 (if r.back then r.fr else r.tn)) ∧ w'.cell? ⟨b3, 0, none⟩ = some (.int .u64 n) ∧ w'.cell? ⟨b4, 0, none⟩ = some (.int .u64 (if r.back then r.tn else r.fr)) ∧ Below w.heap.size w w' := by
  obtain ⟨on, fr, tn, back, mode, hot, done, off, size, active, count, sum⟩ := r
  unfold rotV rotC
  simp only at h0 h1 ⊢
  go_enter Tryd.func66, Tryd.ntmps66
  go_upto_region 1 with fail
  go_cut [5, 6, 7] from 8 to 13 (fun p5 p6 p7 wx => ∃ b1 b2 b4, p5 = .pointer (some ⟨b1, 0, none⟩) ∧ p6 = .pointer (some ⟨b2, 0, none⟩) ∧ p7 = .pointer (some ⟨b4, 0, none⟩) ∧ b1 ≠ b2 ∧ b1 ≠ b4 ∧ b2 ≠ b4 ∧ w.heap.size + 1 < b1 ∧ w.heap.size + 1 < b2 ∧ w.heap.size + 1 < b4 ∧
    wx.heap[b1]? = some (.cells #[.int .u64 done] 22 (0, 0)) ∧ wx.heap[b2]? = some (.cells #[.int .u64 tn] 22 (0, 0)) ∧ wx.heap[b4]? = some (.cells #[.int .u64 fr] 22 (0, 0)) ∧ wx.heap[w.heap.size]? = some (.cells #[.int .u64 n] 22 (0, 0)) ∧
    wx.heap[w.heap.size + 1]? = some (.cells #[.bool on, .int .u64 fr, .int .u64 tn, .bool back, .int .i64 mode, .int .u64 hot, .int .u64 done, .int .i64 off, .int .i64 size, .bool active, .int .u64 count, .string sum] 53 (0, 0)) ∧ Below w.heap.size w wx)
  case first =>
    go_region
    all_goals
      go_wp2_with fail
      go_meet
      case rel =>
        refine ⟨_, _, _, rfl, rfl, rfl, by omega, by omega, by omega, by omega, by omega, by omega, ?_, ?_, ?_, ?_, ?_, ?_⟩
        all_goals first
          | exact (al5 w _ _ _ _ _).2.2.2.2.2.drew
          | exact (al5 w _ _ _ _ _).1
          | exact (al5 w _ _ _ _ _).2.1
          | exact (al5 w _ _ _ _ _).2.2.1
          | exact (al5 w _ _ _ _ _).2.2.2.1
          | exact (al5 w _ _ _ _ _).2.2.2.2.1
  obtain ⟨b1, b2, b4, rfl, rfl, rfl, n12, n14, n24, g1, g2, g4, o1, o2, o4, o3, oR, hB⟩ := hcut
  have k1 := cell_of_row wc b1 0 _ _ _ o1
  have k2 := cell_of_row wc b2 0 _ _ _ o2
  have k4 := cell_of_row wc b4 0 _ _ _ o4
  have k3 := cell_of_row wc w.heap.size 0 _ _ _ o3
  have r1 := cell_of_row wc (w.heap.size + 1) 1 _ _ _ oR
  have r2 := cell_of_row wc (w.heap.size + 1) 2 _ _ _ oR
  have r3 := cell_of_row wc (w.heap.size + 1) 3 _ _ _ oR
  have r6 := cell_of_row wc (w.heap.size + 1) 6 _ _ _ oR
  have f1 := frozen_of_row wc b1 0 _ _ o1
  have f2 := frozen_of_row wc b2 0 _ _ o2
  have f4 := frozen_of_row wc b4 0 _ _ o4
  simp at k1 k2 k3 k4 r1 r2 r3 r6
  have HB := Lib.hid hB
  have hmf : ∀ (fn : Fn) (first cap : Array Value) (w : World), (Instr.makeFunc fn first cap).run Tryd.prog w = .ok (.func fn first cap) w := fun _ _ _ _ => by simp [Instr.makeFunc]
  clear o1 o2 o3 o4 oR hB
  cases back
  · go_wp2
    go_ret
    exact ⟨b1, b2, w.heap.size, b4, rfl, k1, k2, k3, k4, HB.out⟩
  · go_upto_region 3 with fail
    go_region
    go_wp2
    go_ret
    have far : ∀ (w : World) (p a : Nat) (v : Value), p ≠ a → (w.setCell ⟨p, 0, none⟩ v).cell? ⟨a, 0, none⟩ = w.cell? ⟨a, 0, none⟩ := fun w p a v h => World.cell?_setCell_far w ⟨p, 0, none⟩ ⟨a, 0, none⟩ v h
    refine ⟨b1, b2, w.heap.size, b4, rfl, ?_, ?_, ?_, ?_, ?_⟩
    · show World.cell? (World.setCell (World.setCell (World.setCell wc _ _) _ _) _ _) _ = _
      rw [far _ _ _ _ (Ne.symm n14), far _ _ _ _ (Ne.symm n12)]
      exact World.cell?_setCell_same _ _ _ k1
    · show World.cell? (World.setCell (World.setCell (World.setCell wc _ _) _ _) _ _) _ = _
      rw [far _ _ _ _ (Ne.symm n24)]
      exact World.cell?_setCell_same _ _ _ (by rw [far _ _ _ _ n12]; exact k2)
    · show World.cell? (World.setCell (World.setCell (World.setCell wc _ _) _ _) _ _) _ = _
      rw [far _ _ _ _ (by omega), far _ _ _ _ (by omega), far _ _ _ _ (by omega)]
      exact k3
    · show World.cell? (World.setCell (World.setCell (World.setCell wc _ _) _ _) _ _) _ = _
      exact World.cell?_setCell_same _ _ _ (by rw [far _ _ _ _ n24, far _ _ _ _ n14]; exact k4)
    · exact (((HB.out.setCell (p := ⟨b1, 0, none⟩) (by show w.heap.size ≤ b1; omega) _).setCell (p := ⟨b2, 0, none⟩) (by show w.heap.size ≤ b2; omega) _).setCell (p := ⟨b4, 0, none⟩) (by show w.heap.size ≤ b4; omega) _).drew

/-- what rekey.Segments answers: its list, its number -/
def segsOk (n : Int) (r : Rot) : Bool := decide (1 ≤ n) && decide (n ≤ 4294967296) && r.on && decide (r.done ≤ n)
def segsR (n : Int) (r : Rot) : List Sg := segsOf (if r.back then n - r.done else r.done) (if r.back then r.fr else r.tn) n (if r.back then r.tn else r.fr)
end Go.Proofs.YtfchbodbkdkcfaaDoor.Coll
