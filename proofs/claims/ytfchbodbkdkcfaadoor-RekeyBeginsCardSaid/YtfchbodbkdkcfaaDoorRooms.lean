/- Contracts of the functions that RekeyRooms reaches, and what they compute. -/
import Derived.Test.YtfchbodbkdkcfaaDoorRows
import Derived.WalkKit
import Derived.ProofKit
import Derived.Outline
import Derived.Below
import Derived.IntWalk
import Derived.Lib.Hide
import Derived.Deep.QuietTactic
import Derived.BigQuiet
import Derived.WalkSpells
namespace Go.Proofs.YtfchbodbkdkcfaaDoor.Rooms
open Go.RowKit Go.Lib

def isUnit (n : Int) : Bool := n == 512 || n == 1024 || n == 2048 || n == 4096
def anyEq (v : Int) (zs : List Int) : Bool := zs.any (fun z => v == z)

theorem num_any (x : Int) (w : World) : Calls Tryd.prog 11 #[.int .i64 x] w fun e w' => e = .returned (.int .i64 x) ∧ w = w' := by
  go_enter Tryd.func11, Tryd.ntmps11
  go_wp2
  go_ret
  exact ⟨rfl, rfl⟩

theorem unit_any (x : Int) (w : World) : Calls Tryd.prog 42 #[.int .i64 x] w fun e w' => e = .returned (.bool (isUnit x)) ∧ w = w' := by
  go_enter Tryd.func42, Tryd.ntmps42
  go_wp2
  all_goals (go_ret; exact ⟨by simp_all [isUnit], rfl⟩)

/-- what slices.Index answers: a place, or -1 -/
def IdxPost (zs : List Int) (v : Int) (w : World) (e : Ending) (w' : World) : Prop := ∃ n : Int, e = .returned (.int .i64 n) ∧ (0 ≤ n ↔ anyEq v zs = true) ∧ w = w'

theorem anyEq_take_succ (v : Int) (zs : List Int) (k : Nat) (h : k < zs.length) : anyEq v (zs.take (k + 1)) = (anyEq v (zs.take k) || v == zs.getD k 0) := by
  unfold anyEq
  rw [List.take_add_one, List.any_append]
  simp [List.getElem?_eq_getElem h]
theorem anyEq_mem (v : Int) (zs : List Int) (k : Nat) (h : k < zs.length) (hv : v = zs.getD k 0) : anyEq v zs = true := by
  unfold anyEq
  rw [List.any_eq_true]
  exact ⟨zs.getD k 0, by simp [List.getD_eq_getElem?_getD, List.getElem?_eq_getElem h], by simp [hv]⟩

set_option maxHeartbeats 400000 in
theorem index_any (b off : Nat) (zs : List Int) (cap : Nat) (v : Int) (w : World) (hl : zs.length ≤ 1000000)
    (hc : ∀ i, i < zs.length → w.cell? ⟨b, off + i, none⟩ = some (.int .i64 (zs.getD i 0))) :
    Calls Tryd.prog 78 #[.slice (some ⟨b, off, none⟩) zs.length cap, .int .i64 v] w (IdxPost zs v w) := by
  have HC := Lib.hid hc
  clear hc
  have HS := anyEq_take_succ v zs
  have HM := anyEq_mem v zs
  generalize hf : (fun k => zs.getD k 0) = f at *
  have HF : ∀ k, zs.getD k 0 = f k := fun k => by rw [← hf]
  simp only [HF] at HC HS HM
  clear HF hf
  replace HS := Lib.hid HS
  replace HM := Lib.hid HM
  have HZ : Hid (zs.take zs.length = zs) := Lib.hid List.take_length
  generalize hn : zs.length = n at *
  clear hn
  go_enter Tryd.func78, Tryd.ntmps78
  go_wp2
  go_loop [8, 5] (fun i _ => ∃ k : Nat, k ≤ n ∧ i = .int .i64 k ∧ anyEq v (zs.take k) = false) (fun i _ => n - (intOf i).toNat)
  case atStart => exact ⟨0, Nat.zero_le _, rfl, rfl⟩
  case round =>
    obtain ⟨k, hk, rfl, ha⟩ := hrel
    have HA := Lib.hid ha
    clear ha
    by_cases hlt : k < n
    · have hcell := HC.out k hlt
      have hs := HS.out k hlt
      rw [HA.out] at hs
      have HS' := Lib.hid hs
      have hm := Lib.hid (HM.out k hlt)
      clear hs
      generalize f k = x at *
      cases hvb : (v == x)
      · go_wp2
        go_round
        case rel => exact ⟨k + 1, by omega, by go_num, by rw [HS'.out, hvb]; rfl⟩
        case measure => simp [intOf]; omega
      · go_wp2
        go_ret
        exact ⟨k, rfl, ⟨fun _ => hm.out (by simpa using hvb), fun _ => by omega⟩, rfl⟩
    · obtain rfl : k = n := by omega
      go_wp2
      go_ret
      exact ⟨-1, rfl, ⟨fun h => by omega, fun h => by rw [HZ.out] at HA; rw [HA.out] at h; cases h⟩, rfl⟩


theorem contains_any (b off : Nat) (zs : List Int) (cap : Nat) (v : Int) (w : World) (hl : zs.length ≤ 1000000)
    (hc : ∀ i, i < zs.length → w.cell? ⟨b, off + i, none⟩ = some (.int .i64 (zs.getD i 0))) :
    Calls Tryd.prog 39 #[.slice (some ⟨b, off, none⟩) zs.length cap, .int .i64 v] w fun e w' => e = .returned (.bool (anyEq v zs)) ∧ w = w' := by
  have H := Lib.hid (index_any b off zs cap v w hl hc)
  clear hc
  generalize zs.length = n at *
  go_enter Tryd.func39, Tryd.ntmps39
  go_wp2_with fail
  refine H.out.mono ?_
  rintro e w' ⟨m, rfl, hm, rfl⟩
  have HM := Lib.hid hm
  clear hm H
  go_wp2
  go_ret
  refine ⟨?_, rfl⟩
  have := HM.out
  cases hb : anyEq v zs <;> rw [hb] at this <;> simp at this ⊢ <;> omega

def upN (n s : Int) : Int := (n + s - 1) / s * s

theorem up_ge (n s : Int) (hs : 1 ≤ s) : n ≤ upN n s := by
  unfold upN
  have := Int.ediv_mul_le (n + s - 1) (b := s) (by omega)
  have h2 := Int.lt_ediv_add_one_mul_self (n + s - 1) (b := s) (by omega)
  rw [Int.add_mul] at h2
  omega
theorem up_lt (n s : Int) (hs : 1 ≤ s) : upN n s < n + s := by
  unfold upN
  have := Int.ediv_mul_le (n + s - 1) (b := s) (by omega)
  omega
theorem up_mod (n s : Int) : upN n s % s = 0 := by unfold upN; exact Int.mul_emod_left _ _
theorem up_unique (n s m : Int) (hs : 1 ≤ s) (h1 : n ≤ m) (h2 : m ≤ upN n s) (h3 : m % s = 0) : m = upN n s := by
  have a := up_lt n s hs
  have b := up_mod n s
  obtain ⟨p, rfl⟩ := Int.dvd_of_emod_eq_zero h3
  obtain ⟨q, hq⟩ := Int.dvd_of_emod_eq_zero b
  rw [hq] at a h2 ⊢
  have c : s * q < s * (p + 1) := by rw [Int.mul_add]; omega
  have c' := Int.lt_of_mul_lt_mul_left c (by omega)
  have d' := Int.le_of_mul_le_mul_left h2 (by omega)
  have : p = q := by omega
  rw [this]

theorem upwards_any (n s : Int) (w : World) (h0 : 0 ≤ n) (h1 : n ≤ 1000000000) (hs : 1 ≤ s) (hs2 : s ≤ 4096) :
    Calls Tryd.prog 40 #[.int .i64 n, .int .i64 s] w fun e w' => e = .returned (.int .i64 (upN n s)) ∧ w = w' := by
  have a := up_lt n s hs
  have b := up_ge n s hs
  go_enter Tryd.func40, Tryd.ntmps40
  have hw : wrap64 ((n + s - 1) / s * s) = upN n s := by unfold wrap64; show _ = (n + s - 1) / s * s; have : (n + s - 1) / s * s = upN n s := rfl; omega
  have HW := Lib.hid hw
  clear hw
  go_wp2
  go_ret
  exact ⟨by rw [← HW.out]; rfl, rfl⟩

def perN (unit mode : Int) : Int := if mode = 2 then 32 else unit
theorem per_any (u m : Int) (w : World) :
    Calls Tryd.prog 41 #[.int .i64 u, .int .i64 m] w fun e w' => e = .returned (.int .i64 (perN u m)) ∧ w = w' := by
  go_enter Tryd.func41, Tryd.ntmps41
  cases hb : (m == 2)
  all_goals
    go_wp2
    go_ret
    refine ⟨?_, rfl⟩
    simp at hb
    simp [perN, hb]

set_option maxHeartbeats 400000 in
theorem whole_any (n s : Int) (w : World) (h0 : 0 ≤ n) (h1 : n ≤ 1000000000) (hs : 1 ≤ s) (hs2 : s ≤ 4096) :
    Calls Tryd.prog 43 #[.int .i64 n, .int .i64 s] w fun e w' => e = .returned (.int .i64 (upN n s)) ∧ w = w' := by
  have a := up_lt n s hs
  have b := up_ge n s hs
  have HM := Lib.hid (up_mod n s)
  have HU := Lib.hid (up_unique n s · hs)
  generalize upN n s = u at *
  have hs0 : (s == 0) = false := by simp; omega
  go_enter Tryd.func43, Tryd.ntmps43
  go_wp2
  go_loop [0] (fun i => ∃ m : Int, n ≤ m ∧ m ≤ u ∧ i = .int .i64 m) (fun i => (u - intOf i).toNat)
  case atStart => exact ⟨n, by omega, by omega, rfl⟩
  case round =>
    obtain ⟨m, hm1, hm2, rfl⟩ := hrel
    cases hb : (m % s != 0)
    · have hmu := Lib.hid (HU.out m hm1 hm2 (by simpa using hb))
      go_wp2
      go_ret
      exact ⟨by rw [hmu.out]; rfl, rfl⟩
    · have hne : m ≠ u := fun h => by subst h; rw [HM.out] at hb; simp at hb
      have hlt : m < u := by omega
      clear hne
      go_wp2
      go_round
      case rel => exact ⟨m + 1, by omega, by omega, rfl⟩
      case measure => simp [intOf]; omega

theorem needs_any (u m h : Int) (w : World) (h1 : 1 ≤ h) (h2 : h ≤ 4096) (hu : 1 ≤ u) (hu2 : u ≤ 4096) (hm : m = 1 ∨ m = 2) :
    Calls Tryd.prog 44 #[.int .i64 u, .int .i64 m, .int .u64 h] w fun e w' => e = .returned (.int .i64 (h * perN u m)) ∧ w = w' := by
  have hb : 0 ≤ h * u := Int.mul_nonneg (by omega) (by omega)
  have hb2 : h * u ≤ 4096 * 4096 := Int.mul_le_mul h2 hu2 (by omega) (by omega)
  rcases hm with rfl | rfl
  · go_enter Tryd.func44, Tryd.ntmps44
    go_wp2
    go_ret
    exact ⟨by simp [perN], rfl⟩
  · go_enter Tryd.func44, Tryd.ntmps44
    go_wp2
    go_ret
    exact ⟨by simp [perN], rfl⟩


/-- what both Rooms answer: the bytes, and the error -/
def roomOk (u m h : Int) : Bool := isUnit u && (m == 1 || m == 2) && decide (1 ≤ h) && decide (h ≤ 4096)
def roomN (u m h : Int) : Int := if roomOk u m h then upN (upN (h * perN u m) u) 4096 else 0
def roomE (u m h : Int) : Int := if roomOk u m h then 0 else 2

theorem unit_bd {u : Int} (h : isUnit u = true) : 1 ≤ u ∧ u ≤ 4096 := by
  simp [isUnit] at h
  omega
theorem room_bd (u m h : Int) (hk : roomOk u m h = true) : 0 ≤ h * perN u m ∧ h * perN u m ≤ 16777216 ∧ 1 ≤ perN u m ∧ perN u m ≤ 4096 := by
  simp only [roomOk, Bool.and_eq_true, decide_eq_true_eq] at hk
  obtain ⟨⟨⟨hu, _⟩, h1⟩, h2⟩ := hk
  have := unit_bd hu
  have hp : 1 ≤ perN u m ∧ perN u m ≤ 4096 := by unfold perN; split <;> omega
  exact ⟨Int.mul_nonneg (by omega) (by omega), Int.mul_le_mul h2 hp.2 (by omega) (by omega), hp⟩


set_option maxHeartbeats 800000 in
theorem refRoom_any (u m h : Int) (w : World) (h0 : 0 ≤ h) (h1 : h < 18446744073709551616) :
    Calls Tryd.prog 10 #[.int .i64 u, .int .i64 m, .int .u64 h] w fun e w' => e = .returned (.tuple #[.int .i64 (roomN u m h), .int .i64 (roomE u m h)]) ∧ w = w' := by
  cases hk : roomOk u m h
  · have hz : roomN u m h = 0 ∧ roomE u m h = 2 := by simp [roomN, roomE, hk]
    rw [hz.1, hz.2]
    clear hz
    simp only [roomOk] at hk
    have HK := Lib.hid hk
    clear hk
    go_enter Tryd.func10, Tryd.ntmps10
    go_wp2_with (go_at_call 42; refine (unit_any _ _).mono ?_; rintro e w' ⟨rfl, rfl⟩)
    all_goals first
      | (go_ret2; exact ⟨rfl, rfl⟩)
      | (exfalso; have := HK.out; simp_all; done)
      | (exfalso; have := HK.out; simp_all; omega)
  · obtain ⟨b1, b2, b3, b4⟩ := room_bd u m h hk
    have hz : roomN u m h = upN (upN (h * perN u m) u) 4096 ∧ roomE u m h = 0 := by simp [roomN, roomE, hk]
    rw [hz.1, hz.2]
    clear hz
    simp only [roomOk, Bool.and_eq_true, Bool.or_eq_true, decide_eq_true_eq] at hk
    obtain ⟨⟨⟨hu, hm⟩, hh1⟩, hh2⟩ := hk
    obtain ⟨hu1, hu2⟩ := unit_bd hu
    have k1 := up_lt (h * perN u m) u hu1
    have k2 := up_ge (h * perN u m) u hu1
    have hm' : m = 1 ∨ m = 2 := by simpa using hm
    have HN := Lib.hid (needs_any u m h · hh1 hh2 hu1 hu2 hm')
    generalize h * perN u m = x at *
    generalize hy : upN x u = y at *
    have HY := Lib.hid hy
    clear hy
    rcases hm' with rfl | rfl
    all_goals
      clear hm
      go_enter Tryd.func10, Tryd.ntmps10
      go_wp2_with fail
      refine (unit_any _ _).mono ?_; rw [hu]; rintro e w' ⟨rfl, rfl⟩
      go_wp2_with fail
      refine (HN.out _).mono ?_; rintro e w' ⟨rfl, rfl⟩
      go_wp2_with fail
      refine (whole_any x u _ (by omega) (by omega) (by omega) (by omega)).mono ?_
      rw [HY.out]
      rintro e w' ⟨rfl, rfl⟩
      go_wp2_with fail
      refine (whole_any y 4096 _ (by omega) (by omega) (by omega) (by omega)).mono ?_
      rintro e w' ⟨rfl, rfl⟩
      go_wp2
      go_ret2
      exact ⟨rfl, rfl⟩


/-- the listed table -/
def Table (g : Nat) (w : World) : Prop := ∀ i, i < [512, 1024, 2048, 4096].length → w.cell? ⟨g, i, none⟩ = some (.int .i64 (([512, 1024, 2048, 4096] : List Int).getD i 0))
theorem anyEq_units (v : Int) : anyEq v [512, 1024, 2048, 4096] = isUnit v := by simp [anyEq, isUnit, Bool.or_assoc]
theorem units_any (w : World) (g cap : Nat) (v : Int) (ht : Table g w) :
    Calls Tryd.prog 39 #[.slice (some ⟨g, 0, none⟩) 4 cap, .int .i64 v] w fun e w' => e = .returned (.bool (isUnit v)) ∧ w = w' := by
  have := contains_any g 0 [512, 1024, 2048, 4096] cap v w (by decide) (fun i hi => by rw [Nat.zero_add]; exact ht i hi)
  rw [anyEq_units] at this
  exact this

set_option maxHeartbeats 800000 in
theorem room_any (u m h : Int) (w : World) (ht : Table 0 w) (h0 : 0 ≤ h) (h1 : h < 18446744073709551616) :
    Calls Tryd.prog 9 #[.int .i64 u, .int .i64 m, .int .u64 h] w fun e w' => e = .returned (.tuple #[.int .i64 (roomN u m h), .int .i64 (roomE u m h)]) ∧ w = w' := by
  have HT := Lib.hid ht
  clear ht
  cases hk : roomOk u m h
  · have hz : roomN u m h = 0 ∧ roomE u m h = 2 := by simp [roomN, roomE, hk]
    rw [hz.1, hz.2]
    clear hz
    simp only [roomOk] at hk
    have HK := Lib.hid hk
    clear hk
    go_enter Tryd.func9, Tryd.ntmps9
    go_wp2_with (go_at_call 39; refine (units_any _ _ _ _ HT.out).mono ?_; rintro e w' ⟨rfl, rfl⟩)
    all_goals first
      | (go_ret2; exact ⟨rfl, rfl⟩)
      | (exfalso; have := HK.out; simp_all; done)
      | (exfalso; have := HK.out; simp_all; omega)
  · obtain ⟨b1, b2, b3, b4⟩ := room_bd u m h hk
    have hz : roomN u m h = upN (upN (h * perN u m) u) 4096 ∧ roomE u m h = 0 := by simp [roomN, roomE, hk]
    rw [hz.1, hz.2]
    clear hz
    simp only [roomOk, Bool.and_eq_true, Bool.or_eq_true, decide_eq_true_eq] at hk
    obtain ⟨⟨⟨hu, hm⟩, hh1⟩, hh2⟩ := hk
    obtain ⟨hu1, hu2⟩ := unit_bd hu
    have k1 := up_lt (h * perN u m) u hu1
    have k2 := up_ge (h * perN u m) u hu1
    have hm' : m = 1 ∨ m = 2 := by simpa using hm
    generalize hp : perN u m = q at *
    have HP := Lib.hid hp
    clear hp
    generalize hx : h * q = x at *
    have HX := Lib.hid hx
    clear hx
    generalize hy : upN x u = y at *
    have HY := Lib.hid hy
    clear hy
    rcases hm' with rfl | rfl
    all_goals
      clear hm
      go_enter Tryd.func9, Tryd.ntmps9
      go_wp2_with fail
      refine (units_any _ _ _ _ HT.out).mono ?_; rw [hu]; rintro e w' ⟨rfl, rfl⟩
      go_wp2_with fail
      refine (per_any _ _ _).mono ?_; rw [HP.out]; rintro e w' ⟨rfl, rfl⟩
      go_wp2_with fail
      rw [show wrap64 (h * q) = x by rw [HX.out]; unfold wrap64; omega]
      refine (upwards_any x u _ (by omega) (by omega) (by omega) (by omega)).mono ?_
      rw [HY.out]
      rintro e w' ⟨rfl, rfl⟩
      go_wp2_with fail
      refine (upwards_any y 4096 _ (by omega) (by omega) (by omega) (by omega)).mono ?_
      rintro e w' ⟨rfl, rfl⟩
      go_wp2
      go_ret2
      exact ⟨rfl, rfl⟩

theorem law_any (u m h : Int) (w : World) (ht : Table 0 w) (h0 : 0 ≤ h) (h1 : h < 18446744073709551616) :
    Calls Tryd.prog 3 #[.int .i64 u, .int .i64 m, .int .u64 h] w fun e w' => e = .returned (.bool true) ∧ w = w' := by
  have HT := Lib.hid ht
  clear ht
  have R1 := Lib.hid (fun w ht => room_any u m h w ht h0 h1)
  have R2 := Lib.hid (fun w => refRoom_any u m h w h0 h1)
  have R3 := Lib.hid (fun w ht => room_any 512 1 2 w ht (by omega) (by omega))
  have e3 : roomN 512 1 2 = 4096 ∧ roomE 512 1 2 = 0 := by decide
  rw [e3.1, e3.2] at R3
  clear e3
  generalize roomN u m h = n at *
  generalize roomE u m h = f at *
  go_enter Tryd.func3, Tryd.ntmps3
  go_wp2_with fail
  refine (R1.out _ HT.out).mono ?_; rintro e w' ⟨rfl, rfl⟩
  go_wp2_with fail
  refine (R2.out _).mono ?_; rintro e w' ⟨rfl, rfl⟩
  go_wp2_with fail
  refine (R3.out _ HT.out).mono ?_; rintro e w' ⟨rfl, rfl⟩
  go_wp2_with (go_at_call 11; refine (num_any _ _).mono ?_; rintro e w' ⟨rfl, rfl⟩)
  go_ret
  exact ⟨rfl, rfl⟩

end Go.Proofs.YtfchbodbkdkcfaaDoor.Rooms
