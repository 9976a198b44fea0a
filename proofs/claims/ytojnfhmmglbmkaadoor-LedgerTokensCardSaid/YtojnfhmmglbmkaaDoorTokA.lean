/- Lists of ints: the contracts of Ints, SameInts, WholeInts; small tests of numbers. -/
import Derived.Test.YtojnfhmmglbmkaaDoorBase
namespace Go.Proofs.YtojnfhmmglbmkaaDoor.Tok
open Go.RowKit Go.Lib Go.Proofs.YtojnfhmmglbmkaaDoor.Blk

/-- a slice of n numbers f -/
def IL (w : World) (q : Option Addr) (n : Nat) (f : Nat → Int) : Prop := ∀ i, i < n → ∃ g off, q = some ⟨g, off, none⟩ ∧ w.cell? ⟨g, off + i, none⟩ = some (.int .i64 (f i))
theorem IL.below {w w' : World} {q : Option Addr} {n : Nat} {f : Nat → Int} (h : IL w q n f) (hb : Below w.heap.size w w') : IL w' q n f := fun i hi => by
  obtain ⟨g, off, e, hc⟩ := h i hi
  refine ⟨g, off, e, ?_⟩
  have hlt : g < w.heap.size := by
    rcases Nat.lt_or_ge g w.heap.size with h' | h'
    · exact h'
    · simp [World.cell?, Array.getElem?_eq_none h'] at hc
  rw [← hc]
  exact hb.cell hlt

theorem within_any (x lo hi : Int) (w : World) : Calls Tryd.prog 8 #[.int .i64 x, .int .i64 lo, .int .i64 hi] w fun e w' => e = .returned (.bool (decide (lo ≤ x) && decide (x ≤ hi))) ∧ w = w' := by
  by_cases h : lo ≤ x
  all_goals
    go_enter Tryd.func8, Tryd.ntmps8
    go_wp2
    go_ret
    exact ⟨by first | (simp [h]; done) | (rw [decide_eq_false (by omega)]; rfl), rfl⟩
theorem refIn_any (x lo hi : Int) (w : World) : Calls Tryd.prog 12 #[.int .i64 x, .int .i64 lo, .int .i64 hi] w fun e w' => e = .returned (.bool (decide (lo ≤ x) && decide (x ≤ hi))) ∧ w = w' := by
  by_cases h : lo ≤ x
  all_goals
    go_enter Tryd.func12, Tryd.ntmps12
    go_wp2
    go_ret
    exact ⟨by first | (simp [h]; done) | (rw [decide_eq_false (by omega)]; rfl), rfl⟩
theorem tokId_any (x : Int) (w : World) : Calls Tryd.prog 11 #[.int .i64 x] w fun e w' => e = .returned (.int .i64 x) ∧ w = w' := by
  go_enter Tryd.func11, Tryd.ntmps11
  go_wp2
  go_ret
  exact ⟨rfl, rfl⟩

set_option maxHeartbeats 1000000 in
/-- two lists that are alike -/
theorem sameInts_any (q q2 : Option Addr) (n cap cap2 : Nat) (f : Nat → Int) (w : World) (hn : n ≤ maxLen) (h1 : IL w q n f) (h2 : IL w q2 n f) :
    Calls Tryd.prog 14 #[.slice q n cap, .slice q2 n cap2] w fun e w' => e = .returned (.bool true) ∧ Below w.heap.size w w' := by
  have hn' : n ≤ 9223372036854775807 := hn
  have H1 := Lib.hid h1
  have H2 := Lib.hid h2
  clear h1 h2
  go_enter Tryd.func14, Tryd.ntmps14
  go_wp2
  go_loopw [5] (fun i wr => ∃ k : Nat, k ≤ n ∧ i = .int .i64 k ∧ Below w.heap.size w wr) (fun i _ => n - (intOf i).toNat)
  case atStart => exact ⟨0, by omega, rfl, Below.refl _ _⟩
  case round =>
    obtain ⟨k, hk, rfl, hb⟩ := hrel
    have HB := Lib.hid hb
    clear hb
    by_cases hlt : k < n
    · obtain ⟨g, off, rfl, hc⟩ := H1.out k hlt
      obtain ⟨g2, off2, rfl, hc2⟩ := H2.out k hlt
      have l1 := Frame.block_lt hc
      have l2 := Frame.block_lt hc2
      rw [← HB.out.cell l1] at hc
      rw [← HB.out.cell l2] at hc2
      go_wp2
      go_region
      go_wp2
      go_roundw
      case rel => exact ⟨k + 1, by omega, rfl, below_drewN HB.out _⟩
      case measure => simp [intOf]; omega
    · go_wp2
      go_ret
      exact ⟨rfl, HB.out⟩

/-- what Ints lays: the list, and the marks behind it -/
def row (n : Nat) (f : Nat → Int) (k : Nat) : List Value := ((List.range n).map fun i => Value.int .i64 (f i)) ++ (List.range k).map fun (j : Nat) => Value.int .i64 (1000181 + j)
theorem row_succ (n : Nat) (f : Nat → Int) (k : Nat) : row n f k ++ [.int .i64 (1000181 + k)] = row n f (k + 1) := by
  simp [row, List.range_succ]
theorem row_get (n : Nat) (f : Nat → Int) (k i : Nat) (h : i < n) : (row n f k)[i]? = some (.int .i64 (f i)) := by
  simp [row, List.getElem?_append, h]
theorem row_mark (n : Nat) (f : Nat → Int) (k j : Nat) (h : j < k) : (row n f k)[n + j]? = some (.int .i64 (1000181 + j)) := by
  simp [row, h]

set_option maxRecDepth 100000 in
set_option maxHeartbeats 1000000 in
/-- a list's own copy, marks behind it -/
theorem ints_any (q : Option Addr) (n cap : Nat) (f : Nat → Int) (w : World) (hn : n ≤ 17592186043904) (hle : n ≤ cap) (hq : q = none → n = 0 ∧ cap = 0) (h1 : IL w q n f) :
    Calls Tryd.prog 4 #[.slice q n cap] w fun e w' => ∃ g c, e = .returned (.slice (some ⟨g, 0, none⟩) n c) ∧ w.heap.size ≤ g ∧ n + 70 ≤ c ∧ c ≤ maxLen ∧ (∀ j, j < n + 70 → w'.cell? ⟨g, j, none⟩ = (row n f 70)[j]?) ∧ Below w.heap.size w w' := by
  have H1 := Lib.hid h1
  clear h1
  obtain ⟨i0, hi, hz0, hz1, hz2⟩ : ∃ i, Tryd.prog.info? 3 = some i ∧ i.zero = some (.int .i64 0) ∧ i.size = 1 ∧ i.bytes = 8 := by
    have h : (Tryd.prog.info? 3).map (fun i => (i.size, i.bytes, i.zero)) = some (1, 8, some (.int .i64 0)) := by kernel_rfl
    cases hi : Tryd.prog.info? 3 with
    | none => simp [hi] at h
    | some I =>
      simp only [hi, Option.map_some, Option.some.injEq, Prod.mk.injEq] at h
      exact ⟨I, rfl, h.2.2, h.1, h.2.1⟩
  go_enter Tryd.func4, Tryd.ntmps4
  go_upto_region 2 with fail
  go_cut [3] from 6 to 8 (fun s wx => wx.ownsRow w.heap.size 3 1 s n (row n f 0) ∧ Below w.heap.size w wx)
  case first =>
    cases hqq : q with
    | none =>
      obtain ⟨rfl, rfl⟩ := hq hqq
      subst hqq
      go_wp2_with (first | (at_builtin; refine wpList_append_own_none rfl _ _ 22 rfl w.heap.size 3 i0 1 Tryd.underlying22 hi _ 0 [] rfl (World.ownsRow_nil _ _ _ _) rfl ?_) | fail)
      go_wp2_with fail
      go_meet
      case rel => exact ⟨World.ownsRow_nil _ _ _ _, Below.refl _ _⟩
    | some a =>
      subst hqq
      go_wp2_with (first | (at_builtin; refine wpList_append_own_at _ rfl _ _ 22 rfl w.heap.size 3 i0 (.int .i64 0) 1 8 Tryd.underlying22 hi hz0 hz1 hz2 rfl (by decide) _ 0 [] rfl (World.ownsRow_nil _ _ _ _) a n cap (row n f 0) rfl ?c1 ?c2 ?c3 ?c4 ?c5 (Nat.le_refl _) ?_) | fail)
      case c1 => simp [row]
      case c2 =>
        intro j u hj
        have hjn : j < n := by
          have := (List.getElem?_eq_some_iff.1 hj).1
          simpa [row] using this
        obtain ⟨g, off, e, hc⟩ := H1.out j hjn
        cases e
        rw [row_get _ _ _ _ hjn] at hj
        rw [Addr.add_mid, hc, hj]
      case c3 =>
        intro u hu
        simp only [row, List.range_zero, List.map_nil, List.append_nil, List.mem_map] at hu
        obtain ⟨_, _, rfl⟩ := hu
        rfl
      case c4 => unfold maxLen; omega
      case c5 => omega
      · intro v' w1 hown hgrow _ _
        try simp only [Nat.zero_add, List.nil_append] at hown
        have HO := Lib.hid hown
        have HB := Lib.hid ((Below.refl w.heap.size w).grown hgrow (Nat.le_refl _) (fun j hj => by cases hj))
        clear hown hgrow
        go_wp2_with fail
        go_meet
        case rel => exact ⟨HO.out, HB.out⟩
  obtain ⟨hown, hbel⟩ := hcut
  have HO := Lib.hid hown
  have HB := Lib.hid hbel
  clear hown hbel
  go_wp2
  go_loopw [4, 3] (fun i s wr => ∃ k : Nat, k ≤ 70 ∧ i = .int .i64 k ∧ wr.ownsRow w.heap.size 3 1 s (n + k) (row n f k) ∧ Below w.heap.size w wr) (fun i _ _ => 70 - (intOf i).toNat)
  case atStart => exact ⟨0, by omega, rfl, HO.out, HB.out⟩
  case round =>
    obtain ⟨k, hk, rfl, hown, hbel⟩ := hrel
    have HO2 := Lib.hid hown
    have HB2 := Lib.hid hbel
    clear hown hbel HO HB
    by_cases hlt : k < 70
    · go_wp2_with (first | (at_builtin; refine wpList_append_own_at _ rfl _ _ 22 rfl w.heap.size 3 i0 (.int .i64 0) 1 8 Tryd.underlying22 hi hz0 hz1 hz2 rfl (by decide) _ (n + k) (row n f k) rfl (HO2.out.alloc _) ⟨wr.heap.size, 0, none⟩ 1 1 [.int .i64 (1000181 + k)] rfl rfl (cell_one_new _ _ _) ?c3 ?c4 ?c5 ?c6 ?_) | fail)
      case c3 => intro u hu; simp at hu; subst hu; rfl
      case c4 => unfold maxLen; omega
      case c5 => omega
      case c6 => have := HB2.out.size; simp; omega
      · intro v' w1 hown hgrow _ _
        rw [row_succ] at hown
        have HO3 := Lib.hid hown
        have HB3 := Lib.hid ((HB2.out.alloc HB2.out.size _).grown hgrow (by have := HB2.out.size; simp; omega) (fun j hj => (HO2.out.lt j hj).1))
        clear hown hgrow
        go_wp2_with fail
        go_roundw
        case rel => exact ⟨k + 1, by omega, rfl, HO3.out, HB3.out⟩
        case measure => simp [intOf]; omega
    · obtain rfl : k = 70 := by omega
      rcases HO2.out.2 with ⟨_, h⟩ | ⟨g, c, cur, rfl, hg, hcur, hnc, hcm, _, _⟩
      · omega
      · have hcm' : c ≤ 9223372036854775807 := hcm
        go_wp2
        go_ret
        refine ⟨g, c, rfl, hg, hnc, hcm, fun j hj => HO2.out.cellAt j (by omega), HB2.out⟩

set_option maxHeartbeats 1000000 in
/-- a list of Ints, whole -/
theorem wholeInts_any (g c : Nat) (q : Option Addr) (n cap : Nat) (f : Nat → Int) (w : World) (hn : n ≤ 17592186043904) (hc : n + 70 ≤ c) (hcm : c ≤ maxLen) (hr : ∀ j, j < n + 70 → w.cell? ⟨g, j, none⟩ = (row n f 70)[j]?) (h1 : IL w q n f) :
    Calls Tryd.prog 7 #[.slice (some ⟨g, 0, none⟩) n c, .slice q n cap] w fun e w' => e = .returned (.bool true) ∧ Below w.heap.size w w' := by
  have hcm' : c ≤ 9223372036854775807 := hcm
  have h0 : IL w (some ⟨g, 0, none⟩) n f := fun i hi => ⟨g, 0, rfl, by rw [Nat.zero_add, hr i (by omega), row_get _ _ _ _ hi]⟩
  have H0 := Lib.hid h0
  have H1 := Lib.hid h1
  have HR := Lib.hid hr
  have hg : g < w.heap.size := by
    have h := hr n (by omega)
    have h2 := row_mark n f 70 0 (by omega)
    rw [Nat.add_zero] at h2
    rw [h2] at h
    exact Frame.block_lt h
  clear h0 h1 hr
  go_enter Tryd.func7, Tryd.ntmps7
  go_wp2_with (go_at_call 14; refine (sameInts_any _ _ n _ _ f w (by unfold maxLen; omega) H0.out H1.out).mono ?_; rintro e w1 ⟨rfl, hb1⟩; have HB1 := Lib.hid hb1; clear hb1)
  go_loopw [7] (fun i wr => ∃ k : Nat, k ≤ 70 ∧ i = .int .i64 k ∧ Below w.heap.size w wr) (fun i _ => 70 - (intOf i).toNat)
  case atStart => exact ⟨0, by omega, rfl, HB1.out⟩
  case round =>
    obtain ⟨k, hk, rfl, hb⟩ := hrel
    have HB := Lib.hid hb
    clear hb
    by_cases hlt : k < 70
    · have hcell := HR.out (n + k) (by omega)
      rw [row_mark n f 70 k hlt, ← HB.out.cell hg] at hcell
      go_wp2
      go_roundw
      case rel => exact ⟨k + 1, by omega, rfl, HB.out⟩
      case measure => simp [intOf]; omega
    · go_wp2
      go_ret
      exact ⟨rfl, HB.out⟩
end Go.Proofs.YtojnfhmmglbmkaaDoor.Tok
