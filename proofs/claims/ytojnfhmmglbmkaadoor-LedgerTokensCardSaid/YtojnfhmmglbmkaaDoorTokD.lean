/- The document's own TokenMay says the same. -/
import Derived.Test.YtojnfhmmglbmkaaDoorTokC
import Derived.Test.YtojnfhmmglbmkaaDoorIsText
namespace Go.Proofs.YtojnfhmmglbmkaaDoor.Tok
open Go.RowKit Go.Lib Go.Proofs.YtojnfhmmglbmkaaDoor.Blk Go.Proofs.YtojnfhmmglbmkaaDoor.TokV

theorem good_nonneg {top : Int} {f : Nat → Int} : ∀ {k : Nat}, (∀ j, j < k → goodAt top f j) → -1 ≤ lastOf f k
  | 0, _ => by simp [lastOf]
  | k + 1, h => by
    have h1 := (h k (by omega)).1
    have h2 := good_nonneg (k := k) fun j hj => h j (by omega)
    rw [last_succ]
    omega

set_option maxRecDepth 100000 in
set_option maxHeartbeats 4000000 in
theorem refTokenMay_any (num : Int) (kd nt : ByteArray) (q : Option Addr) (n cap : Nat) (f : Nat → Int) (w : World) (hk : kd.size ≤ 4611686018427387904) (ht : nt.size ≤ 4611686018427387904) (hn : n ≤ maxLen) (h1 : IL w q n f) :
    Calls Tryd.prog 6 #[tokV num kd q n cap nt] w fun e w' => e = .returned (.bool (tokOk num kd nt n f)) ∧ Below w.heap.size w w' := by
  have hn' : n ≤ 9223372036854775807 := hn
  have CA : ∀ w, Calls Tryd.prog 12 #[.int .i64 num, .int .i64 0, .int .i64 31] w fun e w' => e = .returned (.bool (inB 0 31 num)) ∧ w = w' := fun w => refIn_any _ _ _ w
  have CB : ∀ w, Calls Tryd.prog 12 #[.int .i64 kd.size, .int .i64 1, .int .i64 64] w fun e w' => e = .returned (.bool (inB 1 64 kd.size)) ∧ w = w' := fun w => refIn_any _ _ _ w
  obtain ⟨V1, hV1⟩ : ∃ V, validD kd.data.toList = V := ⟨_, rfl⟩
  obtain ⟨V2, hV2⟩ : ∃ V, validD nt.data.toList = V := ⟨_, rfl⟩
  obtain ⟨S, hS⟩ : ∃ V, slotsOk 31 n f = V := ⟨_, rfl⟩
  obtain ⟨C, hC⟩ : ∃ V, decide ((4096 : Int) < nt.size) = V := ⟨_, rfl⟩
  have CV1 : ∀ w', Calls Tryd.prog 13 #[.string kd] w' fun e w2 => e = .returned (.bool V1) ∧ w' = w2 := fun w' => by rw [← hV1]; exact Letter.isText_any kd hk w'
  have CV2 : ∀ w', Calls Tryd.prog 13 #[.string nt] w' fun e w2 => e = .returned (.bool V2) ∧ w' = w2 := fun w' => by rw [← hV2]; exact Letter.isText_any nt ht w'
  have HA := Lib.hid CA
  have HB := Lib.hid CB
  have H1 := Lib.hid CV1
  have H2 := Lib.hid CV2
  have HI := Lib.hid h1
  have HS := Lib.hid hS
  clear CA CB CV1 CV2
  obtain ⟨R, hR⟩ : ∃ R, tokOk num kd nt n f = R := ⟨_, rfl⟩
  rw [hR]
  have HR := Lib.hid hR
  unfold tokOk at HR
  rw [hV1, hV2, hS, hC] at HR
  clear hR hV1 hV2 hS h1
  generalize inB 0 31 num = A at HA HR
  generalize inB 1 64 (kd.size : Int) = B at HB HR
  have HW := Lib.hid (TW.made w num kd (.slice q n cap) nt 24)
  unfold tokV
  cases A
  · go_enter Tryd.func6, Tryd.ntmps6
    go_wp2_with fail
    refine (HA.out _).mono ?_; rintro e w1 ⟨rfl, rfl⟩
    go_wp2_with fail
    go_ret
    exact ⟨by rw [← HR.out]; rfl, HW.out.bel⟩
  cases B
  · go_enter Tryd.func6, Tryd.ntmps6
    go_wp2_with fail
    refine (HA.out _).mono ?_; rintro e w1 ⟨rfl, rfl⟩
    go_wp2_with fail
    refine (HB.out _).mono ?_; rintro e w1 ⟨rfl, rfl⟩
    go_wp2_with fail
    go_ret
    exact ⟨by rw [← HR.out]; rfl, HW.out.bel⟩
  cases C
  case true =>
    have hC' : (4096 : Int) < nt.size := of_decide_eq_true hC
    clear hC
    go_enter Tryd.func6, Tryd.ntmps6
    go_wp2_with fail
    refine (HA.out _).mono ?_; rintro e w1 ⟨rfl, rfl⟩
    go_wp2_with fail
    refine (HB.out _).mono ?_; rintro e w1 ⟨rfl, rfl⟩
    go_wp2_with fail
    go_ret
    exact ⟨by rw [← HR.out]; rfl, HW.out.bel⟩
  have hC' : ¬ ((4096 : Int) < nt.size) := of_decide_eq_false hC
  clear hC
  cases V1
  · go_enter Tryd.func6, Tryd.ntmps6
    go_wp2_with fail
    refine (HA.out _).mono ?_; rintro e w1 ⟨rfl, rfl⟩
    go_wp2_with fail
    refine (HB.out _).mono ?_; rintro e w1 ⟨rfl, rfl⟩
    go_wp2_with fail
    refine (H1.out _).mono ?_; rintro e w1 ⟨rfl, rfl⟩
    go_wp2_with fail
    go_ret
    exact ⟨by rw [← HR.out]; rfl, HW.out.bel⟩
  cases V2
  · go_enter Tryd.func6, Tryd.ntmps6
    go_wp2_with fail
    refine (HA.out _).mono ?_; rintro e w1 ⟨rfl, rfl⟩
    go_wp2_with fail
    refine (HB.out _).mono ?_; rintro e w1 ⟨rfl, rfl⟩
    go_wp2_with fail
    refine (H1.out _).mono ?_; rintro e w1 ⟨rfl, rfl⟩
    go_wp2_with fail
    refine (H2.out _).mono ?_; rintro e w1 ⟨rfl, rfl⟩
    go_wp2_with fail
    go_ret
    exact ⟨by rw [← HR.out]; rfl, HW.out.bel⟩
  go_enter Tryd.func6, Tryd.ntmps6
  go_wp2_with fail
  refine (HA.out _).mono ?_; rintro e w1 ⟨rfl, rfl⟩
  go_wp2_with fail
  refine (HB.out _).mono ?_; rintro e w1 ⟨rfl, rfl⟩
  go_wp2_with fail
  refine (H1.out _).mono ?_; rintro e w1 ⟨rfl, rfl⟩
  go_wp2_with fail
  refine (H2.out _).mono ?_; rintro e w1 ⟨rfl, rfl⟩
  have HE : Hid (S = R) := Lib.hid (by rw [← HR.out]; rfl)
  clear HR HA HB H1 H2
  generalize w.alloc (.cells #[.int .i64 num, .string kd, .slice q n cap, .string nt] 24) = w1 at *
  go_wp2
  go_loopw [3] (fun i wr => ∃ k : Nat, k ≤ n ∧ i = .int .i64 k ∧ (∀ j, j < k → goodAt 31 f j) ∧ TW w num kd (.slice q n cap) nt wr) (fun i _ => n - (RowKit.intOf i).toNat)
  case atStart => exact ⟨0, by omega, rfl, fun j hj => by omega, HW.out⟩
  case round =>
    obtain ⟨k, hk2, rfl, hg, hw⟩ := hrel
    have HG := Lib.hid hg
    have HX := Lib.hid hw
    obtain ⟨_, k0, k1, k2, k3⟩ := hw
    clear hg
    by_cases hlt : k < n
    · obtain ⟨g, off, rfl, hc⟩ := HI.out k hlt
      rw [← HX.out.bel.cell (Frame.block_lt hc)] at hc
      have HN : Hid (¬ goodAt 31 f k → R = false) := Lib.hid fun h => by rw [← HE.out, ← HS.out]; exact slots_no hlt h
      have HY : Hid (goodAt 31 f k ↔ lastOf f k < f k ∧ f k ≤ 31) := Lib.hid Iff.rfl
      have HL := Lib.hid (good_nonneg HG.out)
      obtain ⟨x, hx⟩ : ∃ x, f k = x := ⟨_, rfl⟩
      rw [hx] at hc HY
      obtain ⟨l, hl⟩ : ∃ l, lastOf f k = l := ⟨_, rfl⟩
      rw [hl] at HY HL
      have HIN := Lib.hid (fun (m : Nat) => (refIn_any x 0 31 (wr.drewN m)).mono (R' := fun e w2 => e = .returned (.bool (decide (0 ≤ x) && decide (x ≤ 31))) ∧ w2 = wr.drewN m) fun e w2 h => ⟨h.1, h.2.symm⟩)
      obtain ⟨I, hI⟩ : ∃ I, (decide (0 ≤ x) && decide (x ≤ 31)) = I := ⟨_, rfl⟩
      rw [hI] at HIN
      have HII := Lib.hid hI
      clear hI hx
      cases I
      · clear hl
        go_wp2
        go_big_quiet ((go_at_call 12; exact Calls.quiet_of_same (HIN.out _)))
        go_wp2
        go_ret
        exact ⟨by rw [HN.out (fun q => by
          have h1 := HY.out.1 q
          have h2 := HL.out
          have h3 := HII.out
          rw [decide_eq_true (by omega : 0 ≤ x), decide_eq_true (by omega : x ≤ 31)] at h3
          cases h3)]; rfl, below_drewN HX.out.bel _⟩
      · have hx0 : Hid (0 ≤ x ∧ x ≤ 31) := Lib.hid (by have := HII.out; simpa using this)
        by_cases k00 : k = 0
        · subst k00
          rw [Nat.add_zero] at hc
          have hl2 : Hid (l = -1) := Lib.hid (by rw [← hl]; rfl)
          clear hl
          go_wp2
          go_big_quiet ((go_at_call 12; exact Calls.quiet_of_same (HIN.out _)))
          go_wp2
          go_roundw
          case rel => exact ⟨1, by omega, rfl, fun j hj => by
            obtain rfl : j = 0 := by omega
            exact HY.out.2 ⟨by have := hl2.out; have := hx0.out; omega, hx0.out.2⟩, HX.out.keep (below_drewN (Below.refl _ _) _)⟩
          case measure => simp [RowKit.intOf]; omega
        · obtain ⟨g', off', e', hc'⟩ := HI.out (k - 1) (by omega)
          cases e'
          rw [← HX.out.bel.cell (Frame.block_lt hc')] at hc'
          have el : f (k - 1) = l := by rw [← hl]; simp [lastOf, k00]
          rw [el] at hc'
          clear hl el
          obtain ⟨m, rfl⟩ : ∃ m, k = m + 1 := ⟨k - 1, by omega⟩
          have em : m + 1 - 1 = m := by omega
          rw [em] at hc'
          clear em k00
          by_cases c1 : x ≤ l
          · go_wp2
            go_big_quiet ((go_at_call 12; exact Calls.quiet_of_same (HIN.out _)))
            go_wp2
            go_ret
            exact ⟨by rw [HN.out (fun q => by have h1 := HY.out.1 q; omega)]; rfl, below_drewN HX.out.bel _⟩
          · go_wp2
            go_big_quiet ((go_at_call 12; exact Calls.quiet_of_same (HIN.out _)))
            go_wp2
            go_roundw
            case rel => exact ⟨m + 2, by omega, rfl, fun j hj => by
              by_cases e : j = m + 1
              · subst e; exact HY.out.2 ⟨by omega, hx0.out.2⟩
              · exact HG.out j (by omega), HX.out.keep (below_drewN (Below.refl _ _) _)⟩
            case measure => simp [RowKit.intOf]; omega
    · have HT : Hid (R = true) := Lib.hid (by rw [← HE.out, ← HS.out]; exact slots_yes fun j hj => HG.out j (by omega))
      go_wp2
      go_ret
      exact ⟨by rw [HT.out]; rfl, HX.out.bel⟩
end Go.Proofs.YtojnfhmmglbmkaaDoor.Tok
