/- Lists of segments compared: slices.Equal and the document's SameSegments. -/
import Derived.Test.YtfchbodbkdkcfaaDoorSame0
namespace Go.Proofs.YtfchbodbkdkcfaaDoor.Rk
open Go.RowKit Go.Lib Go.Proofs.YtfchbodbkdkcfaaDoor.Coll Go.Proofs.YtfchbodbkdkcfaaDoor.Meta

set_option maxRecDepth 100000 in
set_option maxHeartbeats 4000000 in
theorem equal_any (q1 q2 : Option Addr) (c1 c2 : Nat) (L1 L2 : List Sg) (w : World) (h1 : LV sgC w q1 L1) (h2 : LV sgC w q2 L2) (hn1 : L1.length ≤ 9223372036854775807) :
    Calls Tryd.prog 94 #[.slice q1 L1.length c1, .slice q2 L2.length c2] w fun e w' => e = .returned (.bool (decide (L1 = L2))) ∧ Below w.heap.size w w' := by
  have D1 := Lib.hid h1
  have D2 := Lib.hid h2
  clear h1 h2
  by_cases hlen : L1.length = L2.length
  · obtain ⟨B, hB⟩ : ∃ B, decide (L1 = L2) = B := ⟨_, rfl⟩
    rw [hB, ← hlen]
    have HB0 := Lib.hid hB
    have HL := Lib.hid hlen
    clear hB hlen
    obtain ⟨n, hn⟩ : ∃ n, L1.length = n := ⟨_, rfl⟩
    rw [hn] at hn1 ⊢
    have HN := Lib.hid hn
    clear hn
    go_enter Tryd.func94, Tryd.ntmps94
    go_wp2
    go_loopw [13] (fun i wr => ∃ k : Nat, k ≤ n ∧ i = .int .i64 k ∧ L1.take k = L2.take k ∧ Below w.heap.size w wr) (fun i _ => n - (intOf i).toNat)
    case atStart => exact ⟨0, by omega, rfl, rfl, Below.refl _ _⟩
    case round =>
      obtain ⟨k, hk, rfl, ht, hb⟩ := hrel
      have HB := Lib.hid hb
      have HT := Lib.hid ht
      clear ht
      by_cases hlt : k < n
      · have k1 : k < L1.length := by rw [HN.out]; exact hlt
        have k2 : k < L2.length := by rw [← HL.out, HN.out]; exact hlt
        obtain ⟨g1, o1, rfl, E1⟩ := lv_cells (sz := 3) (fun _ => rfl) (by decide) (D1.out.below hb) k k1
        obtain ⟨g2, o2, rfl, E2⟩ := lv_cells (sz := 3) (fun _ => rfl) (by decide) (D2.out.below hb) k k2
        have p0 := E1 0 _ rfl
        have p1 := E1 1 _ rfl
        have p2 := E1 2 _ rfl
        have q0 := E2 0 _ rfl
        have q1 := E2 1 _ rfl
        have q2 := E2 2 _ rfl
        clear E1 E2
        have hyes : Hid (L1[k]'k1 = L2[k]'k2 → L1.take (k + 1) = L2.take (k + 1)) := Lib.hid (fun e => by
          rw [List.take_add_one, List.take_add_one, List.getElem?_eq_getElem k1, List.getElem?_eq_getElem k2, HT.out, e])
        have hno : Hid (L1[k]'k1 ≠ L2[k]'k2 → B = false) := Lib.hid (fun e => by
          rw [← HB0.out]
          exact decide_eq_false (fun e' => e (by subst e'; rfl)))
        generalize L1[k]'k1 = x at *
        generalize L2[k]'k2 = y at *
        obtain ⟨x0, x1, x2⟩ := x
        obtain ⟨y0, y1, y2⟩ := y
        simp only at p0 p1 p2 q0 q1 q2
        rw [Nat.add_zero] at p0 q0
        clear hb k1 k2
        by_cases e : x0 = y0 ∧ x1 = y1 ∧ x2 = y2
        · obtain ⟨rfl, rfl, rfl⟩ := e
          have T1 := Lib.hid (hyes.out rfl)
          go_wp2
          go_region
          go_wp2
          go_roundw
          case rel => exact ⟨k + 1, by omega, rfl, T1.out, HB.out.drew⟩
          case measure => simp [intOf]; omega
        · have T1 := Lib.hid (hno.out (fun h => e (by simpa using h)))
          cases e0 : (x0 == y0)
          all_goals cases e1 : (x1 == y1)
          all_goals cases e2 : (x2 == y2)
          all_goals first
            | (exfalso; simp only [beq_iff_eq] at e0 e1 e2; exact e ⟨e0, e1, e2⟩)
            | (clear e
               go_wp2
               go_region
               go_wp2
               go_ret
               exact ⟨by rw [T1.out]; rfl, HB.out.drew⟩)
      · have hB1 : B = true := by
          rw [← HB0.out]
          refine decide_eq_true ?_
          have := HT.out
          rw [List.take_of_length_le (by rw [HN.out]; omega), List.take_of_length_le (by rw [← HL.out, HN.out]; omega)] at this
          exact this
        clear hb
        go_wp2
        go_ret
        exact ⟨by rw [hB1]; rfl, HB.out⟩
  · have hB : decide (L1 = L2) = false := decide_eq_false (fun e => hlen (by rw [e]))
    rw [hB]
    clear hB
    have hne : ((L1.length : Int) == L2.length) = false := by
      simp only [beq_eq_false_iff_ne, ne_eq]
      omega
    go_enter Tryd.func94, Tryd.ntmps94
    go_wp2
    go_ret
    exact ⟨rfl, Below.refl _ _⟩

set_option maxRecDepth 100000 in
set_option maxHeartbeats 4000000 in
theorem same13_any (q1 q2 : Option Addr) (c1 c2 : Nat) (L1 L2 : List Sg) (w : World) (h1 : LV sgC w q1 L1) (h2 : LV sgC w q2 L2) (hn1 : L1.length ≤ 9223372036854775807) :
    Calls Tryd.prog 72 #[.slice q1 L1.length c1, .slice q2 L2.length c2] w fun e w' => e = .returned (.bool (decide (L1 = L2))) ∧ Below w.heap.size w w' := by
  have D1 := Lib.hid h1
  have D2 := Lib.hid h2
  clear h1 h2
  by_cases hlen : L1.length = L2.length
  · obtain ⟨B, hB⟩ : ∃ B, decide (L1 = L2) = B := ⟨_, rfl⟩
    rw [hB, ← hlen]
    have HB0 := Lib.hid hB
    have HL := Lib.hid hlen
    clear hB hlen
    obtain ⟨n, hn⟩ : ∃ n, L1.length = n := ⟨_, rfl⟩
    rw [hn] at hn1 ⊢
    have HN := Lib.hid hn
    clear hn
    go_enter Tryd.func72, Tryd.ntmps72
    go_wp2
    go_loopw [5] (fun i wr => ∃ k : Nat, k ≤ n ∧ i = .int .i64 k ∧ L1.take k = L2.take k ∧ Below w.heap.size w wr) (fun i _ => n - (intOf i).toNat)
    case atStart => exact ⟨0, by omega, rfl, rfl, Below.refl _ _⟩
    case round =>
      obtain ⟨k, hk, rfl, ht, hb⟩ := hrel
      have HB := Lib.hid hb
      have HT := Lib.hid ht
      clear ht
      by_cases hlt : k < n
      · have k1 : k < L1.length := by rw [HN.out]; exact hlt
        have k2 : k < L2.length := by rw [← HL.out, HN.out]; exact hlt
        obtain ⟨g1, o1, rfl, E1⟩ := lv_cells (sz := 3) (fun _ => rfl) (by decide) (D1.out.below hb) k k1
        obtain ⟨g2, o2, rfl, E2⟩ := lv_cells (sz := 3) (fun _ => rfl) (by decide) (D2.out.below hb) k k2
        have p0 := E1 0 _ rfl
        have p1 := E1 1 _ rfl
        have p2 := E1 2 _ rfl
        have q0 := E2 0 _ rfl
        have q1 := E2 1 _ rfl
        have q2 := E2 2 _ rfl
        clear E1 E2
        have hyes : Hid (L1[k]'k1 = L2[k]'k2 → L1.take (k + 1) = L2.take (k + 1)) := Lib.hid (fun e => by
          rw [List.take_add_one, List.take_add_one, List.getElem?_eq_getElem k1, List.getElem?_eq_getElem k2, HT.out, e])
        have hno : Hid (L1[k]'k1 ≠ L2[k]'k2 → B = false) := Lib.hid (fun e => by
          rw [← HB0.out]
          exact decide_eq_false (fun e' => e (by subst e'; rfl)))
        generalize L1[k]'k1 = x at *
        generalize L2[k]'k2 = y at *
        obtain ⟨x0, x1, x2⟩ := x
        obtain ⟨y0, y1, y2⟩ := y
        simp only at p0 p1 p2 q0 q1 q2
        rw [Nat.add_zero] at p0 q0
        clear hb k1 k2
        by_cases e : x0 = y0 ∧ x1 = y1 ∧ x2 = y2
        · obtain ⟨rfl, rfl, rfl⟩ := e
          have T1 := Lib.hid (hyes.out rfl)
          go_wp2
          go_region
          go_wp2
          go_roundw
          case rel => exact ⟨k + 1, by omega, rfl, T1.out, HB.out.drew⟩
          case measure => simp [intOf]; omega
        · have T1 := Lib.hid (hno.out (fun h => e (by simpa using h)))
          cases e0 : (x0 == y0)
          all_goals cases e1 : (x1 == y1)
          all_goals cases e2 : (x2 == y2)
          all_goals first
            | (exfalso; simp only [beq_iff_eq] at e0 e1 e2; exact e ⟨e0, e1, e2⟩)
            | (clear e
               go_wp2
               go_region
               go_wp2
               go_ret
               exact ⟨by rw [T1.out]; rfl, HB.out.drew⟩)
      · have hB1 : B = true := by
          rw [← HB0.out]
          refine decide_eq_true ?_
          have := HT.out
          rw [List.take_of_length_le (by rw [HN.out]; omega), List.take_of_length_le (by rw [← HL.out, HN.out]; omega)] at this
          exact this
        clear hb
        go_wp2
        go_ret
        exact ⟨by rw [hB1]; rfl, HB.out⟩
  · have hB : decide (L1 = L2) = false := decide_eq_false (fun e => hlen (by rw [e]))
    rw [hB]
    clear hB
    have hne : ((L1.length : Int) == L2.length) = false := by
      simp only [beq_eq_false_iff_ne, ne_eq]
      omega
    go_enter Tryd.func72, Tryd.ntmps72
    go_wp2
    go_ret
    exact ⟨rfl, Below.refl _ _⟩
end Go.Proofs.YtfchbodbkdkcfaaDoor.Rk
