/- rekey.placed and the document's area. -/
import Derived.Test.YtfchbodbkdkcfaaDoorRk2
namespace Go.Proofs.YtfchbodbkdkcfaaDoor.Rk
open Go.RowKit Go.Lib Go.Proofs.YtfchbodbkdkcfaaDoor.Rooms Go.Proofs.YtfchbodbkdkcfaaDoor.Shapes

def plB (u h k off size mode hot : Int) : Bool := decide (roomE u mode hot = 0) && decide (roomN u mode hot ≤ size) && decide (size % 4096 = 0) && decide (off % 4096 = 0) && decide (2 * h ≤ off) && decide (off + size ≤ 2 * h + k)
theorem room_nn (u m h : Int) : 0 ≤ roomN u m h ∧ roomN u m h ≤ 17000000 := by
  cases hk : roomOk u m h with
  | false => simp [roomN, hk]
  | true =>
    obtain ⟨b1, b2, b3, b4⟩ := room_bd u m h hk
    have e : roomN u m h = upN (upN (h * perN u m) u) 4096 := by simp [roomN, hk]
    simp only [roomOk, Bool.and_eq_true, decide_eq_true_eq] at hk
    obtain ⟨⟨⟨hu, _⟩, _⟩, _⟩ := hk
    have hub := unit_bd hu
    have k1 := up_lt (h * perN u m) u hub.1
    have k2 := up_ge (h * perN u m) u hub.1
    have k3 := up_lt (upN (h * perN u m) u) 4096 (by omega)
    have k4 := up_ge (upN (h * perN u m) u) 4096 (by omega)
    rw [e]
    omega
theorem tmod_iff (x : Int) : x.tmod 4096 = 0 ↔ x % 4096 = 0 := by
  rw [← Int.dvd_iff_tmod_eq_zero, Int.dvd_iff_emod_eq_zero]
theorem tmod_ne (x : Int) : (x.tmod 4096 != 0) = true ↔ ¬ x % 4096 = 0 := by
  rw [bne_iff_ne, ne_eq, tmod_iff]
theorem tmod_eq (x : Int) : (x.tmod 4096 != 0) = false ↔ x % 4096 = 0 := by
  rw [bne_eq_false_iff_eq, tmod_iff]

set_option maxHeartbeats 3200000 in
theorem placed_any (u c h k off size mode hot : Int) (w : World) (hs : shB u c h k = true) (ht : Table 0 w) (hg : 0 < w.heap.size) (h0 : 0 ≤ hot) (h1 : hot < 18446744073709551616)
    (s0 : -9223372036854775808 ≤ size) (s1 : size ≤ 9223372036854775807) :
    Calls Tryd.prog 61 #[.agg #[.int .i64 u, .int .u64 c, .int .i64 h, .int .i64 k], .agg #[.int .i64 off, .int .i64 size], .int .i64 mode, .int .u64 hot] w fun e w' => e = .returned (.bool (plB u h k off size mode hot)) ∧ Below w.heap.size w w' := by
  obtain ⟨_, ⟨hh1, hh2⟩, ⟨k1, k2⟩, _⟩ := shB_bd hs
  clear hs
  have hbl : Below w.heap.size w ((w.alloc (.cells #[.int .i64 u, .int .u64 c, .int .i64 h, .int .i64 k] 31)).alloc (.cells #[.int .i64 off, .int .i64 size] 51)) := ((Below.refl _ _).alloc (Nat.le_refl _) _).alloc (by simp) _
  have HR := Lib.hid (room_any u mode hot _ (fun i hi => (hbl.cell (p := ⟨0, i, none⟩) hg).trans (ht i hi)) h0 h1)
  have HB := Lib.hid hbl
  have hrn := room_nn u mode hot
  have hre : roomE u mode hot = 0 ∨ roomE u mode hot = 2 := by unfold roomE; split <;> simp
  have hB : plB u h k off size mode hot = (decide (roomE u mode hot = 0) && decide (roomN u mode hot ≤ size) && decide (size % 4096 = 0) && decide (off % 4096 = 0) && decide (2 * h ≤ off) && decide (off + size ≤ 2 * h + k)) := rfl
  generalize plB u h k off size mode hot = B at *
  have HBB := Lib.hid hB
  generalize roomN u mode hot = rm at *
  generalize roomE u mode hot = re at *
  clear hbl ht hB
  rcases hre with rfl | rfl
  · go_enter Tryd.func61, Tryd.ntmps61
    go_wp2_with (go_at_call 9; refine HR.out.mono ?_; rintro e w' ⟨rfl, rfl⟩)
    all_goals
      go_ret
      refine ⟨?_, HB.out⟩
      rw [HBB.out]
      refine congrArg (fun b => Ending.returned (.bool b)) ?_
      first
        | rfl
        | (rw [Bool.eq_iff_iff]; simp only [Bool.and_eq_true, decide_eq_true_eq, Bool.false_eq_true, false_iff, true_and, decide_true]; omega)
        | (simp only [tmod_ne, tmod_eq] at *; rw [Bool.eq_iff_iff]; simp only [Bool.and_eq_true, decide_eq_true_eq, Bool.false_eq_true, false_iff, true_and, decide_true]; omega)
  · obtain rfl : B = false := by rw [HBB.out]; rfl
    go_enter Tryd.func61, Tryd.ntmps61
    go_wp2_with (go_at_call 9; refine HR.out.mono ?_; rintro e w' ⟨rfl, rfl⟩)
    go_ret
    exact ⟨rfl, HB.out⟩

set_option maxHeartbeats 3200000 in
theorem area_any (u c h k off size mode hot : Int) (w : World) (hs : shB u c h k = true) (h0 : 0 ≤ hot) (h1 : hot < 18446744073709551616)
    (s0 : -9223372036854775808 ≤ size) (s1 : size ≤ 9223372036854775807) :
    Calls Tryd.prog 68 #[.agg #[.int .i64 u, .int .u64 c, .int .i64 h, .int .i64 k], .agg #[.int .i64 off, .int .i64 size], .int .i64 mode, .int .u64 hot] w fun e w' => e = .returned (.bool (plB u h k off size mode hot)) ∧ Below w.heap.size w w' := by
  obtain ⟨_, ⟨hh1, hh2⟩, ⟨k1, k2⟩, _⟩ := shB_bd hs
  clear hs
  have hbl : Below w.heap.size w ((w.alloc (.cells #[.int .i64 u, .int .u64 c, .int .i64 h, .int .i64 k] 31)).alloc (.cells #[.int .i64 off, .int .i64 size] 51)) := ((Below.refl _ _).alloc (Nat.le_refl _) _).alloc (by simp) _
  have HR := Lib.hid (refRoom_any u mode hot ((w.alloc (.cells #[.int .i64 u, .int .u64 c, .int .i64 h, .int .i64 k] 31)).alloc (.cells #[.int .i64 off, .int .i64 size] 51)) h0 h1)
  have HB := Lib.hid hbl
  have hrn := room_nn u mode hot
  have hre : roomE u mode hot = 0 ∨ roomE u mode hot = 2 := by unfold roomE; split <;> simp
  have hB : plB u h k off size mode hot = (decide (roomE u mode hot = 0) && decide (roomN u mode hot ≤ size) && decide (size % 4096 = 0) && decide (off % 4096 = 0) && decide (2 * h ≤ off) && decide (off + size ≤ 2 * h + k)) := rfl
  generalize plB u h k off size mode hot = B at *
  have HBB := Lib.hid hB
  generalize roomN u mode hot = rm at *
  generalize roomE u mode hot = re at *
  clear hbl hB
  rcases hre with rfl | rfl
  · go_enter Tryd.func68, Tryd.ntmps68
    go_wp2_with (go_at_call 10; refine HR.out.mono ?_; rintro e w' ⟨rfl, rfl⟩)
    all_goals
      go_ret
      refine ⟨?_, HB.out⟩
      rw [HBB.out]
      refine congrArg (fun b => Ending.returned (.bool b)) ?_
      first
        | rfl
        | (rw [Bool.eq_iff_iff]; simp only [Bool.and_eq_true, decide_eq_true_eq, Bool.false_eq_true, false_iff, true_and, decide_true]; omega)
        | (simp only [tmod_iff, tmod_ne, tmod_eq] at *; rw [Bool.eq_iff_iff]; simp only [Bool.and_eq_true, decide_eq_true_eq, Bool.false_eq_true, false_iff, true_and, decide_true]; omega)
  · obtain rfl : B = false := by rw [HBB.out]; rfl
    go_enter Tryd.func68, Tryd.ntmps68
    go_wp2_with (go_at_call 10; refine HR.out.mono ?_; rintro e w' ⟨rfl, rfl⟩)
    go_ret
    exact ⟨rfl, HB.out⟩
end Go.Proofs.YtfchbodbkdkcfaaDoor.Rk
