/- rekey.shaped and the document's Shaped. -/
import Derived.Test.YtfchbodbkdkcfaaDoorShapes
import Derived.Test.YtfchbodbkdkcfaaDoorStep
namespace Go.Proofs.YtfchbodbkdkcfaaDoor.Rk
open Go.RowKit Go.Lib Go.Proofs.YtfchbodbkdkcfaaDoor.Rooms Go.Proofs.YtfchbodbkdkcfaaDoor.Shapes

def shB (u c h k : Int) : Bool := shapeOk u c h k
set_option maxHeartbeats 1600000 in
theorem shaped_any (u c h k : Int) (w : World) (ht : Table 0 w) (hg : 0 < w.heap.size) (c0 : 0 ≤ c) (c1 : c < 18446744073709551616) (hh0 : -9223372036854775808 ≤ h) (hh1 : h ≤ 9223372036854775807) (hk0 : -9223372036854775808 ≤ k) (hk1 : k ≤ 9223372036854775807) :
    Calls Tryd.prog 60 #[.agg #[.int .i64 u, .int .u64 c, .int .i64 h, .int .i64 k]] w fun e w' => e = .returned (.bool (shB u c h k)) ∧ Below w.heap.size w w' := by
  have HU : ∀ w', Below w.heap.size w w' → Calls Tryd.prog 39 #[.slice (some ⟨0, 0, none⟩) 4 4, .int .i64 u] w' fun e w'' => e = .returned (.bool (isUnit u)) ∧ w'' = w' := fun w' hb =>
    (units_any w' _ 4 u fun i hi => by rw [hb.cell (p := ⟨0, i, none⟩) hg]; exact ht i hi).mono fun _ _ ⟨a, b⟩ => ⟨a, b.symm⟩
  have hand := and_head h
  have HL : Hid (1 ≤ u → (((2 * h + k) / u < c) ↔ 2 * h + k < c * u)) := Lib.hid (ediv_lt_iff (2 * h + k) u c)
  have ek : shB u c h k = (isUnit u && headOk h && decide (4096 ≤ k) && decide (k ≤ 134217728) && k % 4096 == 0 && decide (c ≤ 4294967296) && decide ((2 * h + k) / u < c)) := rfl
  have hub := @unit_bd u
  have hhd := head_bd h
  have EA : Hid (bits .and .i64 h (IntKind.i64.wrap (h - 1)) = andB h ∨ h < 16384 ∨ 4194304 < h) := Lib.hid (by
    by_cases h1 : h < 16384 ∨ 4194304 < h
    · exact .inr h1
    · left
      rw [show IntKind.i64.wrap (h - 1) = h - 1 by rw [IntKind.wrap_i64]; omega]
      rfl)
  generalize isUnit u = bu at *
  generalize shB u c h k = ok at *
  generalize andB h = ah at *
  generalize headOk h = ho at *
  have EK := Lib.hid ek
  clear ht ek
  have hbl : Below w.heap.size w (w.alloc (.cells #[.int .i64 u, .int .u64 c, .int .i64 h, .int .i64 k] 31)) := (Below.refl _ _).alloc (Nat.le_refl _) _
  have HU' := fun n => HU _ (below_drewN hbl n)
  replace HU := Lib.hid HU'
  clear HU'
  cases bu
  · obtain rfl : ok = false := by rw [EK.out]; rfl
    clear hand hub hhd
    go_enter Tryd.func60, Tryd.ntmps60
    go_wp2
    go_quiet ((go_at_call 39; exact Calls.quiet_of_same (HU.out _)))
    go_wp2
    go_ret
    exact ⟨rfl, below_drewN hbl _⟩
  by_cases hh2 : h < 16384
  · obtain rfl : ok = false := by
      rw [EK.out]
      cases ho
      · rfl
      · have := hhd rfl
        omega
    clear hand hub hhd
    go_enter Tryd.func60, Tryd.ntmps60
    go_wp2
    go_quiet ((go_at_call 39; exact Calls.quiet_of_same (HU.out _)))
    go_wp2
    go_ret
    exact ⟨rfl, below_drewN hbl _⟩
  by_cases hh3 : 4194304 < h
  · obtain rfl : ok = false := by
      rw [EK.out]
      cases ho
      · rfl
      · have := hhd rfl
        omega
    clear hand hub hhd
    go_enter Tryd.func60, Tryd.ntmps60
    go_wp2
    go_quiet ((go_at_call 39; exact Calls.quiet_of_same (HU.out _)))
    go_wp2
    go_ret
    exact ⟨rfl, below_drewN hbl _⟩
  have hand' := hand (by omega) (by omega)
  have ea : bits .and .i64 h (IntKind.i64.wrap (h - 1)) = ah := by
    rcases EA.out with h | h | h
    · exact h
    · omega
    · omega
  have hand2 : (bits .and .i64 h (IntKind.i64.wrap (h - 1)) != 0) = !ho := by rw [ea, bne, hand']
  clear hand hand' EA ea
  cases ho
  · rw [Bool.not_false] at hand2
    obtain rfl : ok = false := by rw [EK.out]; rfl
    clear hub hhd
    go_enter Tryd.func60, Tryd.ntmps60
    go_wp2
    go_quiet ((go_at_call 39; exact Calls.quiet_of_same (HU.out _)))
    go_wp2
    go_ret
    exact ⟨rfl, below_drewN hbl _⟩
  rw [Bool.not_true] at hand2
  clear hhd
  obtain ⟨hu1, hu2⟩ := hub rfl
  clear hub
  by_cases hc : c ≤ 4294967296
  · have hcu0 : 0 ≤ c * u := Int.mul_nonneg c0 (by omega)
    have hcu1 : c * u ≤ 4294967296 * 4096 := Int.mul_le_mul hc hu2 (by omega) (by omega)
    have HL' := Lib.hid (HL.out hu1)
    go_enter Tryd.func60, Tryd.ntmps60
    go_wp2
    go_quiet ((go_at_call 39; exact Calls.quiet_of_same (HU.out _)))
    go_wp2
    all_goals
      go_ret
      refine ⟨?_, below_drewN hbl _⟩
      first
        | (have hz : ok = false := by
             rw [EK.out]; simp only [Bool.true_and, Bool.and_eq_false_iff, decide_eq_false_iff_not, beq_eq_false_iff_ne]; omega
           rw [hz]; rfl)
        | (have hz : ok = decide (2 * h + k < c * u) := by
             rw [EK.out, show decide (4096 ≤ k) = true by simp; omega, show decide (k ≤ 134217728) = true by simp; omega, show (k % 4096 == 0) = true by simp; omega, show decide (c ≤ 4294967296) = true by simp; omega]
             simp only [Bool.true_and]
             exact decide_eq_decide.2 HL'.out
           rw [hz]; rfl)
  · obtain rfl : ok = false := by rw [EK.out]; simp only [Bool.true_and, Bool.and_eq_false_iff, decide_eq_false_iff_not, beq_eq_false_iff_ne]; omega
    go_enter Tryd.func60, Tryd.ntmps60
    go_wp2
    go_quiet ((go_at_call 39; exact Calls.quiet_of_same (HU.out _)))
    go_wp2
    all_goals
      go_ret
      exact ⟨rfl, below_drewN hbl _⟩

set_option maxHeartbeats 1600000 in
theorem refShaped_any (u c h k : Int) (w : World) (c0 : 0 ≤ c) (c1 : c < 18446744073709551616) (hh0 : -9223372036854775808 ≤ h) (hh1 : h ≤ 9223372036854775807) (hk0 : -9223372036854775808 ≤ k) (hk1 : k ≤ 9223372036854775807) :
    Calls Tryd.prog 67 #[.agg #[.int .i64 u, .int .u64 c, .int .i64 h, .int .i64 k]] w fun e w' => e = .returned (.bool (shB u c h k)) ∧ Below w.heap.size w w' := by
  have hbl : Below w.heap.size w (w.alloc (.cells #[.int .i64 u, .int .u64 c, .int .i64 h, .int .i64 k] 31)) := (Below.refl _ _).alloc (Nat.le_refl _) _
  have HS := Lib.hid (pre_start h)
  have HE := Lib.hid (pre_end h)
  have hub := Lib.hid (@unit_bd u)
  have hhd := Lib.hid (head_bd h)
  have EK : Hid (shB u c h k = (isUnit u && headOk h && decide (4096 ≤ k) && decide (k ≤ 134217728) && k % 4096 == 0 && decide (c ≤ 4294967296) && decide ((2 * h + k) / u < c))) := Lib.hid rfl
  have HL : Hid (1 ≤ u → (((2 * h + k) / u < c) ↔ 2 * h + k < c * u)) := Lib.hid (ediv_lt_iff (2 * h + k) u c)
  generalize shB u c h k = ok at *
  go_enter Tryd.func67, Tryd.ntmps67
  go_wp2
  go_loop [3, 4] (fun b i => ∃ m : Int, (Rung m ∨ m = 8388608) ∧ i = .int .i64 m ∧ b = .bool (preB m h)) (fun _ i => (8388608 - intOf i).toNat)
  case atStart => exact ⟨16384, .inl (.inl rfl), rfl, by rw [HS.out]⟩
  case round =>
    obtain ⟨m, hm, rfl, rfl⟩ := hrel
    rcases hm with hm | rfl
    · obtain ⟨b1, b2⟩ := rung_bd hm
      have HP := Lib.hid (pre_step (h := h) hm)
      have HN := Lib.hid (rung_next hm)
      clear hm
      cases hb : preB m h
      all_goals
        rw [hb] at HP
        clear hb
        go_wp2
        go_round
        case rel => exact ⟨2 * m, HN.out, rfl, by rw [← HP.out]; simp⟩
        case measure => simp [intOf]; omega
    · rw [HE.out]
      generalize hho : headOk h = ho at *
      have HHO := Lib.hid hho
      clear hho HE
      generalize hbu : isUnit u = bu at *
      have HBU := Lib.hid hbu
      clear hbu
      cases bu
      · obtain rfl : ok = false := by rw [EK.out]; rfl
        go_wp2_with (go_at_call 42; refine (Rooms.unit_any _ _).mono ?_; rw [HBU.out]; rintro e w' ⟨rfl, rfl⟩)
        go_ret
        exact ⟨rfl, hbl⟩
      cases ho
      · obtain rfl : ok = false := by rw [EK.out]; rfl
        go_wp2_with (go_at_call 42; refine (Rooms.unit_any _ _).mono ?_; rw [HBU.out]; rintro e w' ⟨rfl, rfl⟩)
        go_ret
        exact ⟨rfl, hbl⟩
      obtain ⟨hu1, hu2⟩ := hub.out rfl
      obtain ⟨hd1, hd2⟩ := hhd.out rfl
      by_cases hc : c ≤ 4294967296
      · have hcu0 : 0 ≤ c * u := Int.mul_nonneg c0 (by omega)
        have hcu1 : c * u ≤ 4294967296 * 4096 := Int.mul_le_mul hc hu2 (by omega) (by omega)
        have HL' := Lib.hid (HL.out hu1)
        go_wp2_with (go_at_call 42; refine (Rooms.unit_any _ _).mono ?_; rw [HBU.out]; rintro e w' ⟨rfl, rfl⟩)
        all_goals
          go_ret
          refine ⟨?_, hbl⟩
          first
            | (have hz : ok = false := by
                 rw [EK.out]; simp only [Bool.true_and, Bool.and_eq_false_iff, decide_eq_false_iff_not, beq_eq_false_iff_ne]; omega
               rw [hz]; rfl)
            | (have hz : ok = decide (2 * h + k < c * u) := by
                 rw [EK.out, show decide (4096 ≤ k) = true by simp; omega, show decide (k ≤ 134217728) = true by simp; omega, show (k % 4096 == 0) = true by simp; omega, show decide (c ≤ 4294967296) = true by simp; omega]
                 simp only [Bool.true_and]
                 exact decide_eq_decide.2 HL'.out
               rw [hz]; rfl)
      · obtain rfl : ok = false := by rw [EK.out]; simp only [Bool.true_and, Bool.and_eq_false_iff, decide_eq_false_iff_not, beq_eq_false_iff_ne]; omega
        go_wp2_with (go_at_call 42; refine (Rooms.unit_any _ _).mono ?_; rw [HBU.out]; rintro e w' ⟨rfl, rfl⟩)
        all_goals
          go_ret
          exact ⟨rfl, hbl⟩
end Go.Proofs.YtfchbodbkdkcfaaDoor.Rk
