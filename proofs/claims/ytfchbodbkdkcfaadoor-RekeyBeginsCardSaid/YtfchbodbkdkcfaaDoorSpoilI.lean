/- cofferbook.SpoilInts of a row of the call's own: it writes that row, and new blocks. -/
import Derived.Test.YtfchbodbkdkcfaaDoorCopy
import Derived.Test.YtfchbodbkdkcfaaDoorTokA
namespace Go.Proofs.YtfchbodbkdkcfaaDoor.Meta
open Go.RowKit Go.Lib Go.Proofs.YtfchbodbkdkcfaaDoor.Coll

theorem intC_set (f : Nat → Int) (n k : Nat) (z : Int) : (intC f n).set k (.int .i64 z) = intC (fun i => if i = k then z else f i) n := by
  apply List.ext_getElem (by simp [intC])
  intro i h1 h2
  simp only [intC, List.length_map, List.length_range] at h2
  simp only [List.getElem_set, intC, List.getElem_map, List.getElem_range]
  by_cases e : k = i
  · subst e; simp
  · rw [if_neg e, if_neg (fun e' => e e'.symm)]
theorem grown_step {w wr w2 : World} {o ob : Option Nat} (h : w.grownBy wr o) (h2 : wr.grownBy w2 ob) (ho : ob = o ∨ ∀ g, ob = some g → w.heap.size ≤ g) : w.grownBy w2 o :=
  ⟨h2.os.trans h.os, h2.tape.trans h.tape, h2.output.trans h.output, Nat.le_trans h.size h2.size, fun k hk hne => by
    rw [h2.block k (Nat.lt_of_lt_of_le hk h.size) (fun e => by
      rcases ho with rfl | ho
      · exact hne e
      · have := ho k e.symm; omega), h.block k hk hne]⟩

set_option maxRecDepth 100000 in
set_option maxHeartbeats 4000000 in
theorem spoilInts_any (q : Option Addr) (n cap lo : Nat) (f : Nat → Int) (w : World) (hn : n ≤ 17592186043904) (hown : w.ownsRow lo 3 1 (.slice q n cap) n (intC f n)) (hlo : lo ≤ w.heap.size) :
    Calls Tryd.prog 58 #[.slice q n cap] w fun e w' => (∃ x, e = .returned x) ∧ w.grownBy w' (Value.slice q n cap).ownBlock := by
  obtain ⟨i0, hi, hz0, hz1, hz2⟩ := info_of (t := 3) (z := .int .i64 0) (s := 1) (b := 8) (by kernel_rfl)
  have H0 := Lib.hid hown
  clear hown
  go_enter Tryd.func58, Tryd.ntmps58
  go_wp2
  go_loopw [2] (fun i wr => ∃ (k : Nat) (f2 : Nat → Int), k ≤ n ∧ i = .int .i64 k ∧ wr.ownsRow lo 3 1 (.slice q n cap) n (intC f2 n) ∧ w.grownBy wr (Value.slice q n cap).ownBlock) (fun i _ => n - (intOf i).toNat)
  case atStart => exact ⟨0, f, by omega, rfl, H0.out, ⟨rfl, rfl, rfl, Nat.le_refl _, fun _ _ _ => rfl⟩⟩
  case round =>
    obtain ⟨k, f2, hk, rfl, hown, hgr⟩ := hrel
    have HO := Lib.hid hown
    have HG := Lib.hid hgr
    clear hgr
    by_cases hlt : k < n
    · rcases hown.2 with ⟨_, h⟩ | ⟨g, c, cur, h1, hg, hcur, hnc, hcm, hcs, htk⟩
      · omega
      · simp only [Value.slice.injEq, true_and] at h1
        obtain ⟨rfl, rfl⟩ := h1
        have hcell := hown.cellAt k (by simpa using hlt)
        have hfr := hown.frozenAt k
        rw [List.getElem?_eq_getElem (by simpa [intC] using hlt)] at hcell
        simp only [intC, List.getElem_map, List.getElem_range] at hcell
        have hcm' : cap ≤ 9223372036854775807 := hcm
        clear hown hcur hcs htk hcm
        generalize hz : f2 k = z at hcell
        have HZ := Lib.hid hz
        clear hz
        go_wp2
        go_roundw
        case rel =>
          refine ⟨k + 1, fun i => if i = k then bits .xor .i64 z 10855845 else f2 i, by omega, rfl, ?_, grown_step (ob := some g) (o := some g) HG.out (HO.out.stored k (.int .i64 (bits .xor .i64 z 10855845))).2 (.inl rfl)⟩
          have := (HO.out.stored k (.int .i64 (bits .xor .i64 z 10855845))).1
          rw [intC_set] at this
          exact this
        case measure => simp [intOf]; omega
    · obtain rfl : k = n := by omega
      clear hown H0
      obtain ⟨W0, rfl⟩ : ∃ W0, W0 = wr := ⟨_, rfl⟩
      go_wp2_with (first | (at_builtin; refine wpList_append_own_at _ rfl _ _ 39 rfl lo 3 i0 (.int .i64 0) 1 8 Tryd.underlying39 hi hz0 hz1 hz2 rfl (by decide) _ k (intC f2 k) rfl (HO.out.alloc _) ⟨W0.heap.size, 0, none⟩ 1 1 [.int .i64 1] rfl rfl (cell_one_new _ _ _) ?c3 ?c4 ?c5 ?c6 ?_) | fail)
      case c3 => intro u hu; simp at hu; subst hu; rfl
      case c4 => unfold maxLen; omega
      case c5 => omega
      case c6 => have := HG.out.size; simp; omega
      intro v1 w1 hown1 hgr1 _ hob
      have HG1 := Lib.hid (grown_step (grown_step HG.out (World.grownBy_alloc W0 (.cells #[.int .i64 1] 3) none) (.inr (fun _ h => by cases h))) hgr1 (.inl rfl))
      have HO1 : Hid (∃ xs, w1.ownsRow lo 3 1 v1 (k + 1) xs) := Lib.hid ⟨_, hown1⟩
      have HB1 : Hid (v1.ownBlock = (Value.slice q k cap).ownBlock ∨ ∀ g, v1.ownBlock = some g → w.heap.size ≤ g) := Lib.hid (by
        rcases hob with h | h
        · exact .inl h
        · exact .inr fun g hg => by rw [h] at hg; cases hg; have := HG.out.size; simp; omega)
      clear hown1 hgr1 hob
      go_wp2
      go_loopw [3, 0] (fun i v wr => ∃ j : Nat, j ≤ 70 ∧ i = .int .i64 j ∧ (∃ xs, wr.ownsRow lo 3 1 v (k + 1 + j) xs) ∧ w.grownBy wr (Value.slice q k cap).ownBlock ∧ (v.ownBlock = (Value.slice q k cap).ownBlock ∨ ∀ g, v.ownBlock = some g → w.heap.size ≤ g)) (fun i _ _ => 70 - (intOf i).toNat)
      case atStart => exact ⟨0, by omega, rfl, HO1.out, HG1.out, HB1.out⟩
      case round =>
        obtain ⟨j, hj, rfl, ⟨xs, hown⟩, hgr, hob⟩ := hrel
        have HO2 := Lib.hid hown
        have HG2 := Lib.hid hgr
        have HB2 := Lib.hid hob
        clear hown hgr hob HO1 HG1 HB1 HO HG
        by_cases hlt2 : j < 70
        · go_wp2_with (first | (at_builtin; refine wpList_append_own_at _ rfl _ _ 39 rfl lo 3 i0 (.int .i64 0) 1 8 Tryd.underlying39 hi hz0 hz1 hz2 rfl (by decide) _ (k + 1 + j) xs rfl (HO2.out.alloc _) ⟨wr.heap.size, 0, none⟩ 1 1 [.int .i64 (7 * j + 3)] rfl rfl (cell_one_new _ _ _) ?c3 ?c4 ?c5 ?c6 ?_) | fail)
          case c3 => intro u hu; simp at hu; subst hu; rfl
          case c4 => unfold maxLen; omega
          case c5 => omega
          case c6 => have := HG2.out.size; simp; omega
          · intro v2 w2 hown2 hgr2 _ hob2
            have HG3 := Lib.hid (grown_step (grown_step HG2.out (World.grownBy_alloc wr (.cells #[.int .i64 (7 * j + 3)] 3) none) (.inr (fun _ h => by cases h))) hgr2 HB2.out)
            have HO3 : Hid (∃ xs, w2.ownsRow lo 3 1 v2 (k + 1 + (j + 1)) xs) := Lib.hid ⟨_, hown2⟩
            have HB3 : Hid (v2.ownBlock = (Value.slice q k cap).ownBlock ∨ ∀ g, v2.ownBlock = some g → w.heap.size ≤ g) := Lib.hid (by
              rcases hob2 with h | h
              · rw [h]; exact HB2.out
              · exact .inr fun g hg => by rw [h] at hg; cases hg; have := HG2.out.size; simp; omega)
            clear hown2 hgr2 hob2
            go_wp2_with fail
            go_roundw
            case rel => exact ⟨j + 1, by omega, rfl, HO3.out, HG3.out, HB3.out⟩
            case measure => simp [intOf]; omega
        · obtain rfl : j = 70 := by omega
          rcases HO2.out.2 with ⟨_, h⟩ | ⟨g, c, cur, rfl, hg, hcur, hnc, hcm, _, _⟩
          · omega
          · have hcm' : c ≤ 9223372036854775807 := hcm
            have hcell := HO2.out.cellAt (k + 70) (by omega)
            have hfr := HO2.out.frozenAt (k + 70)
            rw [List.getElem?_eq_getElem (by have := HO2.out.1; omega)] at hcell
            clear hcur
            have HG4 := Lib.hid (grown_step HG2.out (HO2.out.stored (k + 70) (.int .i64 77)).2 HB2.out)
            go_wp2
            go_end0
            exact ⟨⟨_, rfl⟩, HG4.out⟩
end Go.Proofs.YtfchbodbkdkcfaaDoor.Meta
