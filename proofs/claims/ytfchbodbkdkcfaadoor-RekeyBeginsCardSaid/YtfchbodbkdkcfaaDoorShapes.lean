/- Contracts of the functions that LedgerShapes reaches, and what they compute. -/
import Derived.Test.YtfchbodbkdkcfaaDoorRooms
import Derived.Laws.BitsLemmas
import Derived.WalkSmall
namespace Go.Proofs.YtfchbodbkdkcfaaDoor.Shapes
open Go.RowKit Go.Lib
open Go.Proofs.YtfchbodbkdkcfaaDoor.Rooms

theorem num_any (x : Int) (w : World) : Calls Tryd.prog 14 #[.int .i64 x] w fun e w' => e = .returned (.int .i64 x) ∧ w = w' := by
  go_enter Tryd.func14, Tryd.ntmps14
  go_wp2
  go_ret
  exact ⟨rfl, rfl⟩

theorem unit_any (x : Int) (w : World) : Calls Tryd.prog 46 #[.int .i64 x] w fun e w' => e = .returned (.bool (isUnit x)) ∧ w = w' := by
  go_enter Tryd.func46, Tryd.ntmps46
  go_wp2
  all_goals (go_ret; exact ⟨by simp_all [isUnit], rfl⟩)

theorem up_any (n : Int) (w : World) (h0 : 0 ≤ n) (h1 : n ≤ 1000000000) :
    Calls Tryd.prog 47 #[.int .i64 n] w fun e w' => e = .returned (.int .i64 (upN n 4096)) ∧ w = w' := by
  go_enter Tryd.func47, Tryd.ntmps47
  go_wp2
  go_ret
  exact ⟨rfl, rfl⟩

set_option maxHeartbeats 400000 in
theorem refUp_any (n : Int) (w : World) (h0 : 0 ≤ n) (h1 : n ≤ 1000000000) :
    Calls Tryd.prog 48 #[.int .i64 n] w fun e w' => e = .returned (.int .i64 (upN n 4096)) ∧ w = w' := by
  have a := up_lt n 4096 (by omega)
  have b := up_ge n 4096 (by omega)
  have HM := Lib.hid (up_mod n 4096)
  have HU := Lib.hid (up_unique n 4096 · (by omega))
  generalize upN n 4096 = u at *
  go_enter Tryd.func48, Tryd.ntmps48
  go_wp2
  go_loop [0] (fun i => ∃ m : Int, n ≤ m ∧ m ≤ u ∧ i = .int .i64 m) (fun i => (u - intOf i).toNat)
  case atStart => exact ⟨n, by omega, by omega, rfl⟩
  case round =>
    obtain ⟨m, hm1, hm2, rfl⟩ := hrel
    cases hb : (m % 4096 != 0)
    · have hmu := Lib.hid (HU.out m hm1 hm2 (by simpa using hb))
      go_wp2
      go_ret
      exact ⟨by rw [hmu.out]; rfl, rfl⟩
    · have hne : m ≠ u := fun h => by subst h; rw [HM.out] at hb; simp at hb
      have hlt : m < u := by omega
      clear hne
      go_wp2
      go_round
      case rel => exact ⟨m + 1, by omega, by omega, rfl⟩
      case measure => simp [intOf]; omega

def slotN (s : Int) : Int := if s < 1 then 0 else if 4000 < s then 0 else upN (32 * s) 4096

theorem slotSize_any (s : Int) (w : World) :
    Calls Tryd.prog 15 #[.int .i64 s] w fun e w' => e = .returned (.int .i64 (slotN s)) ∧ w = w' := by
  by_cases h1 : s < 1
  · go_enter Tryd.func15, Tryd.ntmps15
    go_wp2
    go_ret
    exact ⟨by simp [slotN, h1], rfl⟩
  · by_cases h2 : 4000 < s
    all_goals
      go_enter Tryd.func15, Tryd.ntmps15
      go_wp2_with (go_at_call 47; refine (up_any _ _ (by omega) (by omega)).mono ?_; rintro e w' ⟨rfl, rfl⟩)
      go_ret
      exact ⟨by unfold slotN; first | (rw [if_neg (by omega), if_neg (by omega)]; rfl) | (rw [if_neg (by omega), if_pos (by omega)]; rfl), rfl⟩

theorem refSlotSize_any (s : Int) (w : World) :
    Calls Tryd.prog 16 #[.int .i64 s] w fun e w' => e = .returned (.int .i64 (slotN s)) ∧ w = w' := by
  by_cases h1 : s < 1
  · go_enter Tryd.func16, Tryd.ntmps16
    go_wp2
    go_ret
    exact ⟨by simp [slotN, h1], rfl⟩
  · by_cases h2 : 4000 < s
    all_goals
      go_enter Tryd.func16, Tryd.ntmps16
      go_wp2_with (go_at_call 48; refine (refUp_any _ _ (by omega) (by omega)).mono ?_; rintro e w' ⟨rfl, rfl⟩)
      go_ret
      exact ⟨by unfold slotN; first | (rw [if_neg (by omega), if_neg (by omega)]; rfl) | (rw [if_neg (by omega), if_pos (by omega)]; rfl), rfl⟩

/-- JournalSize -/
def journalOk (m h u : Int) : Bool := (m == 1 || m == 2) && decide (1 ≤ h) && decide (h ≤ 4096) && isUnit u
def journalN (m h u : Int) : Int := if journalOk m h u then upN (h * (if m = 1 then u else 32)) 4096 else 0
theorem journal_no {m h u : Int} (hk : journalOk m h u = false) : journalN m h u = 0 := by simp [journalN, hk]
theorem journal_yes {m h u : Int} (hk : journalOk m h u = true) : journalN m h u = upN (h * (if m = 1 then u else 32)) 4096 := by simp [journalN, hk]
theorem journal_bd {m h u : Int} (hk : journalOk m h u = true) : (m = 1 ∨ m = 2) ∧ 1 ≤ h ∧ h ≤ 4096 ∧ isUnit u = true ∧ 0 ≤ h * u ∧ h * u ≤ 16777216 := by
  simp only [journalOk, Bool.and_eq_true, decide_eq_true_eq, Bool.or_eq_true, beq_iff_eq] at hk
  obtain ⟨⟨⟨hm, h1⟩, h2⟩, hu⟩ := hk
  have := unit_bd hu
  exact ⟨hm, h1, h2, hu, Int.mul_nonneg (by omega) (by omega), Int.mul_le_mul h2 this.2 (by omega) (by omega)⟩

set_option maxHeartbeats 800000 in
theorem journalSize_any (m h u : Int) (w : World) (ht : Table 1 w) (h0 : 0 ≤ h) (h1 : h < 18446744073709551616) :
    Calls Tryd.prog 17 #[.int .i64 m, .int .u64 h, .int .i64 u] w fun e w' => e = .returned (.int .i64 (journalN m h u)) ∧ w = w' := by
  have HT := Lib.hid ht
  clear ht
  cases hk : journalOk m h u
  · rw [journal_no hk]
    simp only [journalOk] at hk
    have HK := Lib.hid hk
    clear hk
    go_enter Tryd.func17, Tryd.ntmps17
    go_wp2_with (go_at_call 39; refine (units_any _ _ _ _ HT.out).mono ?_; rintro e w' ⟨rfl, rfl⟩)
    all_goals first
      | (go_ret; exact ⟨rfl, rfl⟩)
      | (exfalso; have := HK.out; simp_all; done)
      | (exfalso; have := HK.out; simp_all; omega)
  · obtain ⟨hm, b1, b2, hu, b3, b4⟩ := journal_bd hk
    rw [journal_yes hk]
    clear hk
    generalize hx : h * u = x at *
    have HX := Lib.hid hx
    clear hx
    rcases hm with rfl | rfl
    · go_enter Tryd.func17, Tryd.ntmps17
      go_wp2_with fail
      refine (units_any _ _ _ _ HT.out).mono ?_; rw [hu]; rintro e w' ⟨rfl, rfl⟩
      go_wp2_with fail
      rw [show wrap64 (h * u) = x by rw [HX.out]; unfold wrap64; omega]
      refine (up_any _ _ (by omega) (by omega)).mono ?_; rintro e w' ⟨rfl, rfl⟩
      go_wp2
      go_ret
      exact ⟨by simp [HX.out], rfl⟩
    · go_enter Tryd.func17, Tryd.ntmps17
      go_wp2_with fail
      refine (units_any _ _ _ _ HT.out).mono ?_; rw [hu]; rintro e w' ⟨rfl, rfl⟩
      go_wp2_with fail
      refine (up_any _ _ (by omega) (by omega)).mono ?_; rintro e w' ⟨rfl, rfl⟩
      go_wp2
      go_ret
      exact ⟨by simp, rfl⟩

set_option maxHeartbeats 800000 in
theorem refJournalSize_any (m h u : Int) (w : World) (h0 : 0 ≤ h) (h1 : h < 18446744073709551616) :
    Calls Tryd.prog 18 #[.int .i64 m, .int .u64 h, .int .i64 u] w fun e w' => e = .returned (.int .i64 (journalN m h u)) ∧ w = w' := by
  cases hk : journalOk m h u
  · rw [journal_no hk]
    simp only [journalOk] at hk
    have HK := Lib.hid hk
    clear hk
    go_enter Tryd.func18, Tryd.ntmps18
    go_wp2_with (go_at_call 46; refine (unit_any _ _).mono ?_; rintro e w' ⟨rfl, rfl⟩)
    all_goals first
      | (go_ret; exact ⟨rfl, rfl⟩)
      | (exfalso; have := HK.out; simp_all; done)
      | (exfalso; have := HK.out; simp_all; omega)
  · obtain ⟨hm, b1, b2, hu, b3, b4⟩ := journal_bd hk
    rw [journal_yes hk]
    clear hk
    have hz : (h == 0) = false := by simp; omega
    generalize hx : h * u = x at *
    have HX := Lib.hid hx
    clear hx
    rcases hm with rfl | rfl
    · go_enter Tryd.func18, Tryd.ntmps18
      go_wp2_with fail
      refine (unit_any _ _).mono ?_; rw [hu]; rintro e w' ⟨rfl, rfl⟩
      go_wp2_with fail
      rw [show wrap64 (h * u) = x by rw [HX.out]; unfold wrap64; omega]
      refine (refUp_any _ _ (by omega) (by omega)).mono ?_; rintro e w' ⟨rfl, rfl⟩
      go_wp2
      go_ret
      exact ⟨by simp [HX.out], rfl⟩
    · go_enter Tryd.func18, Tryd.ntmps18
      go_wp2_with fail
      refine (unit_any _ _).mono ?_; rw [hu]; rintro e w' ⟨rfl, rfl⟩
      go_wp2_with fail
      refine (refUp_any _ _ (by omega) (by omega)).mono ?_; rintro e w' ⟨rfl, rfl⟩
      go_wp2
      go_ret
      exact ⟨by simp, rfl⟩


theorem pow_of_and (n : Nat) : 0 < n → n &&& (n - 1) = 0 → ∃ k, n = 2 ^ k := by
  induction n using Nat.strongRecOn with
  | ind n ih =>
    intro hn ha
    have hd : (n &&& (n - 1)) / 2 = n / 2 &&& (n - 1) / 2 := Nat.and_div_two
    rw [ha] at hd
    rcases Nat.mod_two_eq_zero_or_one n with h | h
    · have e : (n - 1) / 2 = n / 2 - 1 := by omega
      rw [e] at hd
      obtain ⟨k, hk⟩ := ih (n / 2) (by omega) (by omega) hd.symm
      exact ⟨k + 1, by rw [Nat.pow_succ, ← hk]; omega⟩
    · have e : (n - 1) / 2 = n / 2 := by omega
      rw [e, Nat.and_self] at hd
      exact ⟨0, by omega⟩

def headOk (h : Int) : Bool := h == 16384 || h == 32768 || h == 65536 || h == 131072 || h == 262144 || h == 524288 || h == 1048576 || h == 2097152 || h == 4194304
def andB (h : Int) : Int := bits .and .i64 h (h - 1)
theorem and_head (h : Int) (h1 : 16384 ≤ h) (h2 : h ≤ 4194304) : (andB h == 0) = headOk h := by
  obtain ⟨n, rfl⟩ := Int.eq_ofNat_of_zero_le (by omega : 0 ≤ h)
  have e : andB (n : Int) = ((n &&& (n - 1) : Nat) : Int) := by
    unfold andB
    have : (n : Int) - 1 = ((n - 1 : Nat) : Int) := by omega
    rw [this]
    exact (bits_nat .i64 31 (by decide) (fun m a b => by rw [IntKind.wrap_i64]; omega) n (n - 1) (by omega) (by omega)).1
  rw [e]
  cases hb : headOk (n : Int)
  · simp only [beq_eq_false_iff_ne, ne_eq]
    intro h0
    obtain ⟨k, rfl⟩ := pow_of_and n (by omega) (by omega)
    have k1 : k < 23 := by
      rcases Nat.lt_or_ge k 23 with h | h
      · exact h
      · have := Nat.pow_le_pow_right (n := 2) (by omega) h
        omega
    have k2 : 14 ≤ k := by
      rcases Nat.lt_or_ge k 14 with h | h
      · have := Nat.pow_le_pow_right (n := 2) (by omega) (Nat.le_of_lt_succ h)
        omega
      · exact h
    have : k = 14 ∨ k = 15 ∨ k = 16 ∨ k = 17 ∨ k = 18 ∨ k = 19 ∨ k = 20 ∨ k = 21 ∨ k = 22 := by omega
    rcases this with rfl | rfl | rfl | rfl | rfl | rfl | rfl | rfl | rfl <;> revert hb <;> decide
  · simp only [headOk, Bool.or_eq_true, beq_iff_eq] at hb
    have : n = 16384 ∨ n = 32768 ∨ n = 65536 ∨ n = 131072 ∨ n = 262144 ∨ n = 524288 ∨ n = 1048576 ∨ n = 2097152 ∨ n = 4194304 := by omega
    rcases this with rfl | rfl | rfl | rfl | rfl | rfl | rfl | rfl | rfl <;> decide

theorem power_any (n : Int) (w : World) (h0 : -9223372036854775808 ≤ n) (h1 : n ≤ 9223372036854775807) :
    Calls Tryd.prog 45 #[.int .i64 n] w fun e w' => e = .returned (.bool (decide (0 < n) && andB n == 0)) ∧ w = w' := by
  by_cases h : 0 < n
  · go_enter Tryd.func45, Tryd.ntmps45
    go_wp2
    go_ret
    exact ⟨by simp [h, andB], rfl⟩
  · go_enter Tryd.func45, Tryd.ntmps45
    go_wp2
    go_ret
    exact ⟨by rw [decide_eq_false (p := 0 < n) (by omega)]; rfl, rfl⟩

/-- Sectors -/
def shapeOk (u c h k : Int) : Bool := isUnit u && headOk h && decide (4096 ≤ k) && decide (k ≤ 134217728) && k % 4096 == 0 && decide (c ≤ 4294967296) && decide ((2 * h + k) / u < c)
def sectN (u c h k : Int) : Int := if shapeOk u c h k then c - (2 * h + k) / u else 0
def sectE (u c h k : Int) : Int := if shapeOk u c h k then 0 else 90


theorem shape_no (u c h k : Int) (hk : shapeOk u c h k = false) : sectN u c h k = 0 ∧ sectE u c h k = 90 := by simp [sectN, sectE, hk]
theorem shape_yes (u c h k : Int) (hk : shapeOk u c h k = true) : sectN u c h k = c - (2 * h + k) / u ∧ sectE u c h k = 0 := by simp [sectN, sectE, hk]

theorem head_bd (h : Int) (hk : headOk h = true) : 16384 ≤ h ∧ h ≤ 4194304 := by
  simp only [headOk, Bool.or_eq_true, beq_iff_eq] at hk
  omega

set_option maxHeartbeats 1600000 in
theorem sectors_any (u c h k : Int) (w : World) (ht : Table 1 w) (hg : 1 < w.heap.size) (c0 : 0 ≤ c) (c1 : c < 18446744073709551616) (hh0 : -9223372036854775808 ≤ h) (hh1 : h ≤ 9223372036854775807) (hk0 : -9223372036854775808 ≤ k) (hk1 : k ≤ 9223372036854775807) :
    Calls Tryd.prog 12 #[.agg #[.int .i64 u, .int .u64 c, .int .i64 h, .int .i64 k]] w fun e w' => e = .returned (.tuple #[.int .u64 (sectN u c h k), .int .i64 (sectE u c h k)]) ∧ Below w.heap.size w w' := by
  have HU : ∀ w', Below w.heap.size w w' → Calls Tryd.prog 39 #[.slice (some ⟨1, 0, none⟩) 4 4, .int .i64 u] w' fun e w'' => e = .returned (.bool (isUnit u)) ∧ w'' = w' := fun w' hb =>
    (units_any w' _ 4 u fun i hi => by rw [hb.cell (p := ⟨1, i, none⟩) hg]; exact ht i hi).mono fun _ _ ⟨a, b⟩ => ⟨a, b.symm⟩
  have HP : ∀ w', Calls Tryd.prog 45 #[.int .i64 h] w' fun e w'' => e = .returned (.bool (decide (0 < h) && andB h == 0)) ∧ w'' = w' := fun w' => (power_any h w' hh0 hh1).mono fun _ _ ⟨a, b⟩ => ⟨a, b.symm⟩
  have hand := and_head h
  have e0 := shape_no u c h k
  have e1 := shape_yes u c h k
  have ek : shapeOk u c h k = (isUnit u && headOk h && decide (4096 ≤ k) && decide (k ≤ 134217728) && k % 4096 == 0 && decide (c ≤ 4294967296) && decide ((2 * h + k) / u < c)) := rfl
  have hub := @unit_bd u
  have hhd := head_bd h
  generalize isUnit u = bu at *
  generalize shapeOk u c h k = ok at *
  generalize sectN u c h k = n at *
  generalize sectE u c h k = er at *
  generalize andB h = ah at *
  generalize headOk h = ho at *
  clear ht
  have hbl : Below w.heap.size w (w.alloc (.cells #[.int .i64 u, .int .u64 c, .int .i64 h, .int .i64 k] 31)) := (Below.refl _ _).alloc (Nat.le_refl _) _
  have HU' := fun n => HU _ (below_drewN hbl n)
  replace HU := Lib.hid HU'
  replace HP := Lib.hid HP
  clear HU'
  have hsl : ∀ w' : World, Below w.heap.size (w.alloc (.cells #[.int .i64 u, .int .u64 c, .int .i64 h, .int .i64 k] 31)) w' → Below w.heap.size w w' := fun w' hb => hbl.trans hb
  cases bu
  · obtain ⟨rfl, rfl⟩ := e0 (by rw [ek]; rfl)
    clear hand e0 e1 ek hub HP hhd
    go_enter Tryd.func12, Tryd.ntmps12
    go_wp2
    go_quiet ((go_at_call 39; exact Calls.quiet_of_same (HU.out _)))
    go_wp2
    go_ret2
    exact ⟨rfl, below_drewN hbl _⟩
  by_cases hh2 : h < 16384
  · have hho : ok = false := by
      rw [ek]
      cases ho
      · rfl
      · have := hhd rfl
        omega
    obtain ⟨rfl, rfl⟩ := e0 hho
    clear hand e0 e1 ek hub hho hhd
    generalize hpw : (decide (0 < h) && ah == 0) = pw at *
    clear hpw
    cases pw
    all_goals
      go_enter Tryd.func12, Tryd.ntmps12
      go_wp2
      go_quiet ((first | (go_at_call 39; exact Calls.quiet_of_same (HU.out _)) | (go_at_call 45; exact Calls.quiet_of_same (HP.out _))))
      go_wp2
      go_ret2
      exact ⟨rfl, below_drewN hbl _⟩
  have hpw : (decide (0 < h) && ah == 0) = (ah == 0) := by rw [decide_eq_true (by omega : 0 < h), Bool.true_and]
  rw [hpw] at HP
  clear hpw
  by_cases hh3 : 4194304 < h
  · have hho : ok = false := by
      rw [ek]
      cases ho
      · rfl
      · have := hhd rfl
        omega
    obtain ⟨rfl, rfl⟩ := e0 hho
    clear hand e0 e1 ek hub hho hhd
    cases hpw : (ah == 0)
    all_goals
      rw [hpw] at HP
      clear hpw
      go_enter Tryd.func12, Tryd.ntmps12
      go_wp2
      go_quiet ((first | (go_at_call 39; exact Calls.quiet_of_same (HU.out _)) | (go_at_call 45; exact Calls.quiet_of_same (HP.out _))))
      go_wp2
      go_ret2
      exact ⟨rfl, below_drewN hbl _⟩
  rw [hand (by omega) (by omega)] at HP
  clear hand
  cases ho
  · obtain ⟨rfl, rfl⟩ := e0 (by rw [ek]; rfl)
    clear e0 e1 ek hub hhd
    go_enter Tryd.func12, Tryd.ntmps12
    go_wp2
    go_quiet ((first | (go_at_call 39; exact Calls.quiet_of_same (HU.out _)) | (go_at_call 45; exact Calls.quiet_of_same (HP.out _))))
    go_wp2
    go_ret2
    exact ⟨rfl, below_drewN hbl _⟩
  have E0 := Lib.hid e0
  have E1 := Lib.hid e1
  have EK := Lib.hid ek
  clear e0 e1 ek hhd
  obtain ⟨hu1, hu2⟩ := hub rfl
  clear hub
  go_enter Tryd.func12, Tryd.ntmps12
  go_wp2
  go_quiet ((first | (go_at_call 39; exact Calls.quiet_of_same (HU.out _)) | (go_at_call 45; exact Calls.quiet_of_same (HP.out _))))
  go_wp2
  all_goals
    go_ret2
    refine ⟨?_, below_drewN hbl _⟩
    first
      | (have hz := E0.out (by rw [EK.out]; simp only [Bool.true_and, Bool.and_eq_false_iff, decide_eq_false_iff_not, beq_eq_false_iff_ne]; omega); rw [hz.1, hz.2]; rfl)
      | (have hz := E1.out (by rw [EK.out]; simp only [Bool.true_and, Bool.and_eq_true, decide_eq_true_eq, beq_iff_eq]; omega)
         rw [hz.1, hz.2]
         have hd0 : 0 ≤ (2 * h + k) / u := Int.ediv_nonneg (by omega) (by omega)
         show Ending.returned (.tuple #[.int .u64 (IntKind.u64.wrap (c - (2 * h + k) / u)), .int .i64 0]) = _
         rw [show IntKind.u64.wrap (c - (2 * h + k) / u) = c - (2 * h + k) / u from IntWalk.u64_in _ (by omega)])


theorem ediv_lt_iff (a u c : Int) (hu : 1 ≤ u) : (a / u < c) ↔ a < c * u := Int.ediv_lt_iff_lt_mul (by omega)


def preB (m h : Int) : Bool := headOk h && decide (h < m)
def Rung (m : Int) : Prop := m = 16384 ∨ m = 32768 ∨ m = 65536 ∨ m = 131072 ∨ m = 262144 ∨ m = 524288 ∨ m = 1048576 ∨ m = 2097152 ∨ m = 4194304
theorem pre_step {m h : Int} (hm : Rung m) : (preB m h || h == m) = preB (2 * m) h := by
  rw [Bool.eq_iff_iff]
  simp only [preB, headOk, Bool.or_eq_true, Bool.and_eq_true, beq_iff_eq, decide_eq_true_eq]
  rcases hm with rfl | rfl | rfl | rfl | rfl | rfl | rfl | rfl | rfl <;> omega
theorem pre_end (h : Int) : preB 8388608 h = headOk h := by
  rw [Bool.eq_iff_iff]
  simp only [preB, headOk, Bool.or_eq_true, Bool.and_eq_true, beq_iff_eq, decide_eq_true_eq]
  omega
theorem pre_start (h : Int) : preB 16384 h = false := by
  rw [Bool.eq_false_iff]
  simp only [preB, headOk, Bool.or_eq_true, Bool.and_eq_true, beq_iff_eq, decide_eq_true_eq, ne_eq]
  omega
theorem rung_next {m : Int} (hm : Rung m) : Rung (2 * m) ∨ 2 * m = 8388608 := by unfold Rung at *; omega
theorem rung_bd {m : Int} (hm : Rung m) : 16384 ≤ m ∧ m ≤ 4194304 := by unfold Rung at hm; omega

set_option maxHeartbeats 1600000 in
theorem refSectors_any (u c h k : Int) (w : World) (c0 : 0 ≤ c) (c1 : c < 18446744073709551616) (hh0 : -9223372036854775808 ≤ h) (hh1 : h ≤ 9223372036854775807) (hk0 : -9223372036854775808 ≤ k) (hk1 : k ≤ 9223372036854775807) :
    Calls Tryd.prog 13 #[.agg #[.int .i64 u, .int .u64 c, .int .i64 h, .int .i64 k]] w fun e w' => e = .returned (.tuple #[.int .u64 (sectN u c h k), .int .i64 (sectE u c h k)]) ∧ Below w.heap.size w w' := by
  have hbl : Below w.heap.size w (w.alloc (.cells #[.int .i64 u, .int .u64 c, .int .i64 h, .int .i64 k] 31)) := (Below.refl _ _).alloc (Nat.le_refl _) _
  have HS := Lib.hid (pre_start h)
  have HE := Lib.hid (pre_end h)
  have E0 := Lib.hid (shape_no u c h k)
  have E1 := Lib.hid (shape_yes u c h k)
  have hub := Lib.hid (@unit_bd u)
  have hhd := Lib.hid (head_bd h)
  have EK : Hid (shapeOk u c h k = (isUnit u && headOk h && decide (4096 ≤ k) && decide (k ≤ 134217728) && k % 4096 == 0 && decide (c ≤ 4294967296) && decide ((2 * h + k) / u < c))) := Lib.hid rfl
  have HL : Hid (1 ≤ u → (((2 * h + k) / u < c) ↔ 2 * h + k < c * u)) := Lib.hid (ediv_lt_iff (2 * h + k) u c)
  generalize sectN u c h k = n at *
  generalize sectE u c h k = er at *
  generalize shapeOk u c h k = ok at *
  go_enter Tryd.func13, Tryd.ntmps13
  go_wp2
  go_loop [4, 5] (fun b i => ∃ m : Int, (Rung m ∨ m = 8388608) ∧ i = .int .i64 m ∧ b = .bool (preB m h)) (fun _ i => (8388608 - intOf i).toNat)
  case atStart => exact ⟨16384, .inl (.inl rfl), rfl, by rw [HS.out]⟩
  case round =>
    obtain ⟨m, hm, rfl, rfl⟩ := hrel
    rcases hm with hm | rfl
    · obtain ⟨b1, b2⟩ := rung_bd hm
      have HP := Lib.hid (pre_step (h := h) hm)
      have HN := Lib.hid (rung_next hm)
      clear hm
      cases hb : preB m h
      all_goals
        rw [hb] at HP
        clear hb
        go_wp2
        go_round
        case rel => exact ⟨2 * m, HN.out, rfl, by rw [← HP.out]; simp⟩
        case measure => simp [intOf]; omega
    · rw [HE.out]
      generalize hho : headOk h = ho at *
      have HHO := Lib.hid hho
      clear hho HE
      generalize hbu : isUnit u = bu at *
      have HBU := Lib.hid hbu
      clear hbu
      cases bu
      · have hz := Lib.hid (E0.out (by rw [EK.out]; rfl))
        go_wp2_with (go_at_call 46; refine (unit_any _ _).mono ?_; rw [HBU.out]; rintro e w' ⟨rfl, rfl⟩)
        go_ret2
        exact ⟨by rw [hz.out.1, hz.out.2]; rfl, hbl⟩
      cases ho
      · have hz := Lib.hid (E0.out (by rw [EK.out]; rfl))
        go_wp2_with (go_at_call 46; refine (unit_any _ _).mono ?_; rw [HBU.out]; rintro e w' ⟨rfl, rfl⟩)
        go_ret2
        exact ⟨by rw [hz.out.1, hz.out.2]; rfl, hbl⟩
      obtain ⟨hu1, hu2⟩ := hub.out rfl
      obtain ⟨hd1, hd2⟩ := hhd.out rfl
      have hu0 : (u == 0) = false := by simp; omega
      by_cases hc : c ≤ 4294967296
      · have hcu0 : 0 ≤ c * u := Int.mul_nonneg c0 (by omega)
        have hcu1 : c * u ≤ 4294967296 * 4096 := Int.mul_le_mul hc hu2 (by omega) (by omega)
        have HL' := Lib.hid (HL.out hu1)
        go_wp2_with (go_at_call 46; refine (unit_any _ _).mono ?_; rw [HBU.out]; rintro e w' ⟨rfl, rfl⟩)
        all_goals try go_quiet (fail)
        all_goals try go_wp2
        all_goals
          go_ret2
          refine ⟨?_, by first | exact hbl | exact below_drewN hbl _⟩
          first
            | (have hz := E0.out (by rw [EK.out]; simp only [Bool.true_and, Bool.and_eq_false_iff, decide_eq_false_iff_not, beq_eq_false_iff_ne]; have := HL'.out; omega); rw [hz.1, hz.2]; rfl)
            | (have hz := E1.out (by rw [EK.out]; simp only [Bool.true_and, Bool.and_eq_true, decide_eq_true_eq, beq_iff_eq]; have := HL'.out; omega)
               rw [hz.1, hz.2]
               have hd0 : 0 ≤ (2 * h + k) / u := Int.ediv_nonneg (by omega) (by omega)
               have hd1 := HL'.out
               show Ending.returned (.tuple #[.int .u64 (IntKind.u64.wrap (c - (2 * h + k) / u)), .int .i64 0]) = _
               rw [show IntKind.u64.wrap (c - (2 * h + k) / u) = c - (2 * h + k) / u from IntWalk.u64_in _ (by omega)])
      · go_wp2_with (go_at_call 46; refine (unit_any _ _).mono ?_; rw [HBU.out]; rintro e w' ⟨rfl, rfl⟩)
        all_goals
          go_ret2
          refine ⟨?_, hbl⟩
          have hz := E0.out (by rw [EK.out]; simp only [Bool.true_and, Bool.and_eq_false_iff, decide_eq_false_iff_not, beq_eq_false_iff_ne]; omega)
          rw [hz.1, hz.2]; rfl


set_option maxHeartbeats 800000 in
theorem law_any (u c h k st m hot un : Int) (w : World) (ht : Table 1 w) (hg : 1 < w.heap.size) (c0 : 0 ≤ c) (c1 : c < 18446744073709551616) (hh0 : -9223372036854775808 ≤ h) (hh1 : h ≤ 9223372036854775807) (hk0 : -9223372036854775808 ≤ k) (hk1 : k ≤ 9223372036854775807)
    (ho0 : 0 ≤ hot) (ho1 : hot < 18446744073709551616) :
    Calls Tryd.prog 4 #[.agg #[.int .i64 u, .int .u64 c, .int .i64 h, .int .i64 k], .int .i64 st, .int .i64 m, .int .u64 hot, .int .i64 un] w fun e w' => e = .returned (.bool true) ∧ Below w.heap.size w w' := by
  have HT : Hid (∀ w', Below w.heap.size w w' → Table 1 w') := Lib.hid fun w' hb i hi => by rw [hb.cell (p := ⟨1, i, none⟩) hg]; exact ht i hi
  clear ht
  have hbl : Below w.heap.size w (w.alloc (.cells #[.int .i64 u, .int .u64 c, .int .i64 h, .int .i64 k] 31)) := (Below.refl _ _).alloc (Nat.le_refl _) _
  have R1 := Lib.hid (fun w ht hg => sectors_any u c h k w ht hg c0 c1 hh0 hh1 hk0 hk1)
  have R2 := Lib.hid (fun w => refSectors_any u c h k w c0 c1 hh0 hh1 hk0 hk1)
  have R3 := Lib.hid (fun w => slotSize_any st w)
  have R4 := Lib.hid (fun w => refSlotSize_any st w)
  have R5 := Lib.hid (fun w ht => journalSize_any m hot un w ht ho0 ho1)
  have R6 := Lib.hid (fun w => refJournalSize_any m hot un w ho0 ho1)
  generalize sectN u c h k = n at *
  generalize sectE u c h k = er at *
  generalize slotN st = sl at *
  generalize journalN m hot un = jo at *
  go_enter Tryd.func4, Tryd.ntmps4
  go_wp2_with fail
  refine (R1.out _ (HT.out _ hbl) (by simp; omega)).mono ?_
  rintro e w1 ⟨rfl, hb1⟩
  have hb1' := hbl.trans (hb1.mono (by simp))
  have hsz : w.heap.size < w1.heap.size := by have := hb1.size; simp at this; omega
  have hc0 : w1.cell? ⟨w.heap.size, 0, none⟩ = some (.int .i64 u) := by rw [hb1.cell (by simp)]; simp [go_sem]
  have hc1 : w1.cell? ⟨w.heap.size, 1, none⟩ = some (.int .u64 c) := by rw [hb1.cell (by simp)]; simp [go_sem]
  have hc2 : w1.cell? ⟨w.heap.size, 2, none⟩ = some (.int .i64 h) := by rw [hb1.cell (by simp)]; simp [go_sem]
  have hc3 : w1.cell? ⟨w.heap.size, 3, none⟩ = some (.int .i64 k) := by rw [hb1.cell (by simp)]; simp [go_sem]
  go_wp2_with fail
  refine (R2.out _).mono ?_
  rintro e w2 ⟨rfl, hb2⟩
  have hb2' := hb1'.trans (hb2.mono (by omega))
  go_wp2_with fail
  go_wp2_with (first | (go_at_call 14; refine (num_any _ _).mono ?_; rintro e w' ⟨rfl, rfl⟩) | (go_at_call 15; refine (R3.out _).mono ?_; rintro e w' ⟨rfl, rfl⟩) | (go_at_call 16; refine (R4.out _).mono ?_; rintro e w' ⟨rfl, rfl⟩) | (go_at_call 17; refine (R5.out _ (HT.out _ hb2')).mono ?_; rintro e w' ⟨rfl, rfl⟩) | (go_at_call 18; refine (R6.out _).mono ?_; rintro e w' ⟨rfl, rfl⟩))
  go_ret
  exact ⟨rfl, hb2'⟩

end Go.Proofs.YtfchbodbkdkcfaaDoor.Shapes
