/- rekey.zone and the document's hotzone. -/
import Derived.Test.YtfchbodbkdkcfaaDoorRk2
import Derived.Test.YtfchbodbkdkcfaaDoorCollect2
namespace Go.Proofs.YtfchbodbkdkcfaaDoor.Rk
open Go.RowKit Go.Lib
def zoneC (n : Int) (r : Coll.Rot) : Int := if r.hot < n - r.done then r.hot else n - r.done
def zoneA (n : Int) (r : Coll.Rot) : Int := if r.back then n - r.done - zoneC n r else r.done

set_option maxRecDepth 100000 in
set_option maxHeartbeats 1600000 in
theorem zone_any (n : Int) (r : Coll.Rot) (w : World) (n0 : 0 ≤ n) (n1 : n ≤ 4294967296) (d0 : 0 ≤ r.done) (d1 : r.done ≤ n) (h0 : 0 ≤ r.hot) (h1 : r.hot ≤ 18446744073709551615) :
    Calls Tryd.prog 75 #[.int .u64 n, Coll.rotV r] w fun e w' => e = .returned (.tuple #[.int .u64 (zoneA n r), .int .u64 (zoneC n r)]) ∧ Below w.heap.size w w' := by
  obtain ⟨on, fr, tn, back, mode, hot, done, off, size, active, count, sum⟩ := r
  simp only at d0 d1 h0 h1
  unfold Coll.rotV Coll.rotC
  have hbl := (Below.refl w.heap.size w).alloc (Nat.le_refl _) (.cells #[.bool on, .int .u64 fr, .int .u64 tn, .bool back, .int .i64 mode, .int .u64 hot, .int .u64 done, .int .i64 off, .int .i64 size, .bool active, .int .u64 count, .string sum] 53)
  have HB := Lib.hid hbl
  clear hbl
  by_cases hc : hot < n - done
  · have ec : zoneC n ⟨on, fr, tn, back, mode, hot, done, off, size, active, count, sum⟩ = hot := by simp [zoneC, hc]
    have ea : zoneA n ⟨on, fr, tn, back, mode, hot, done, off, size, active, count, sum⟩ = if back then n - done - hot else done := by simp [zoneA, ec]
    rw [ec, ea]
    clear ec ea
    cases back
    all_goals
      go_enter Tryd.func75, Tryd.ntmps75
      go_wp2
      go_ret2
      exact ⟨rfl, HB.out⟩
  · have ec : zoneC n ⟨on, fr, tn, back, mode, hot, done, off, size, active, count, sum⟩ = n - done := by simp [zoneC, hc]
    have ea : zoneA n ⟨on, fr, tn, back, mode, hot, done, off, size, active, count, sum⟩ = if back then n - done - (n - done) else done := by simp [zoneA, ec]
    rw [ec, ea]
    clear ec ea
    rcases (show hot = n - done ∨ n - done < hot by omega) with rfl | hc2
    all_goals
      cases back
      all_goals
        go_enter Tryd.func75, Tryd.ntmps75
        go_wp2
        all_goals
          go_ret2
          exact ⟨rfl, HB.out⟩

set_option maxRecDepth 100000 in
set_option maxHeartbeats 1600000 in
theorem hotzone_any (n : Int) (r : Coll.Rot) (w : World) (n0 : 0 ≤ n) (n1 : n ≤ 4294967296) (d0 : 0 ≤ r.done) (d1 : r.done ≤ n) (h0 : 0 ≤ r.hot) (h1 : r.hot ≤ 18446744073709551615) :
    Calls Tryd.prog 77 #[.int .u64 n, Coll.rotV r] w fun e w' => e = .returned (.tuple #[.int .u64 (zoneA n r), .int .u64 (zoneC n r)]) ∧ Below w.heap.size w w' := by
  obtain ⟨on, fr, tn, back, mode, hot, done, off, size, active, count, sum⟩ := r
  simp only at d0 d1 h0 h1
  unfold Coll.rotV Coll.rotC
  have hbl := (Below.refl w.heap.size w).alloc (Nat.le_refl _) (.cells #[.bool on, .int .u64 fr, .int .u64 tn, .bool back, .int .i64 mode, .int .u64 hot, .int .u64 done, .int .i64 off, .int .i64 size, .bool active, .int .u64 count, .string sum] 53)
  have HB := Lib.hid hbl
  clear hbl
  by_cases hc : hot < n - done
  · have ec : zoneC n ⟨on, fr, tn, back, mode, hot, done, off, size, active, count, sum⟩ = hot := by simp [zoneC, hc]
    have ea : zoneA n ⟨on, fr, tn, back, mode, hot, done, off, size, active, count, sum⟩ = if back then n - done - hot else done := by simp [zoneA, ec]
    rw [ec, ea]
    clear ec ea
    cases back
    all_goals
      go_enter Tryd.func77, Tryd.ntmps77
      go_wp2
      go_ret2
      exact ⟨rfl, HB.out⟩
  · have ec : zoneC n ⟨on, fr, tn, back, mode, hot, done, off, size, active, count, sum⟩ = n - done := by simp [zoneC, hc]
    have ea : zoneA n ⟨on, fr, tn, back, mode, hot, done, off, size, active, count, sum⟩ = if back then n - done - (n - done) else done := by simp [zoneA, ec]
    rw [ec, ea]
    clear ec ea
    cases back
    all_goals
      go_enter Tryd.func77, Tryd.ntmps77
      go_wp2
      go_ret2
      exact ⟨rfl, HB.out⟩
end Go.Proofs.YtfchbodbkdkcfaaDoor.Rk
