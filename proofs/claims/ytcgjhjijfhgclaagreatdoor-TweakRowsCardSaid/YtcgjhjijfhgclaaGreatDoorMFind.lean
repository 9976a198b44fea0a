/- tweak.find: the mode of a name. -/
import Derived.Test.YtcgjhjijfhgclaaGreatDoorMKin
import Derived.Test.YtcgjhjijfhgclaaGreatDoorMPick
import Derived.Test.YtcgjhjijfhgclaaGreatDoorMSeg
import Derived.Ground.NamesProg
import Derived.Shelf.Small.Wraps
namespace Go.Proofs.YtcgjhjijfhgclaaGreatDoor.Tab
open Go.RowKit Go.Lib

theorem kindL_len (d : Nat) : ∀ k, k < 17 → (kindL d k).length = 7
  | 0, _ | 1, _ | 2, _ | 3, _ | 4, _ | 5, _ | 6, _ | 7, _ | 8, _ | 9, _ | 10, _ | 11, _ | 12, _ | 13, _ | 14, _ | 15, _ | 16, _ => rfl
  | k + 17, hk => absurd hk (by omega)
theorem kindL_0 (d : Nat) : ∀ k, k < 17 → (kindL d k)[0]? = some (.string (nm k))
  | 0, _ | 1, _ | 2, _ | 3, _ | 4, _ | 5, _ | 6, _ | 7, _ | 8, _ | 9, _ | 10, _ | 11, _ | 12, _ | 13, _ | 14, _ | 15, _ | 16, _ => rfl
  | k + 17, hk => absurd hk (by omega)
theorem nm_inj : ∀ i, i < 17 → ∀ k, k < 17 → nm i = nm k → i = k := by
  have h : ∀ i, i < 17 → ∀ k, k < 17 → (nm i).data.toList = (nm k).data.toList → i = k := by decide +kernel
  exact fun i hi k hk e => h i hi k hk (by rw [e])

theorem bytes_ne {a b : ByteArray} (h : ¬ a = b) : (a.toList == b.toList) = false := by
  rw [ByteArray.toList_eq, ByteArray.toList_eq]
  refine beq_eq_false_iff_ne.2 fun e => h ?_
  cases a; cases b
  simp only [ByteArray.mk.injEq]
  exact Array.toList_inj.1 e

set_option maxHeartbeats 1000000 in
theorem find1_any (a0 s : ByteArray) (cs : Array Value) (h0 : cs[0]? = some (.string a0)) (mb : Nat) (w : World) (hc : w.cell? ⟨mb, 0, none⟩ = some (.string s)) :
    Calls Tryz.prog 35 #[.agg cs, .pointer (some ⟨mb, 0, none⟩)] w fun e w' => e = .returned (.bool (a0.toList == s.toList)) ∧ Below w.heap.size w w' := by
  have B1 := Lib.hid ((Below.refl w.heap.size w).alloc (Nat.le_refl _) (.cells cs 68))
  have C0 : Hid ((w.alloc (.cells cs 68)).cell? ⟨w.heap.size, 0, none⟩ = some (.string a0)) := Lib.hid (by rw [cell_of_row _ _ _ _ _ _ (heap_alloc_new w _)]; exact h0)
  have C1 : Hid ((w.alloc (.cells cs 68)).cell? ⟨mb, 0, none⟩ = some (.string s)) := Lib.hid (cell_below ((Below.refl _ _).alloc (Nat.le_refl _) _) hc)
  clear h0 hc
  go_enter Tryz.func35, Tryz.ntmps35
  go_upto_region 0 with fail
  refine wp_region_lit ?_
  refine Seg.p_boxA rfl 68 _ rfl cs rfl ?_
  simp only [Act.put, List.setIfInBounds_toArray, List.set_cons_zero, List.set_cons_succ]
  generalize w.alloc (.cells cs 68) = w1 at *
  refine Step.p_assign rfl _ rfl (.bool false) rfl ?_
  simp only [Act.put, List.setIfInBounds_toArray, List.set_cons_zero, List.set_cons_succ]
  refine wpList_nil ?_
  have c0 := C0.out
  have c1 := C1.out
  go_wp2
  go_ret
  exact ⟨rfl, B1.out⟩

set_option maxRecDepth 100000 in
set_option maxHeartbeats 4000000 in
theorem indexFunc_any (g d mb j : Nat) (s : ByteArray) (w : World) (hk : KindsAt g d w) (hc : w.cell? ⟨mb, 0, none⟩ = some (.string s)) (hj : j ≤ 17) (hne : ∀ i, i < j → ¬ nm i = s) (hlast : j < 17 → nm j = s) :
    Calls Tryz.prog 34 #[.slice (some ⟨g, 0, none⟩) 17 17, .func (.func 35) #[] #[.pointer (some ⟨mb, 0, none⟩)]] w fun e w' => e = .returned (.int .i64 (if j < 17 then (j : Int) else -1)) ∧ Below w.heap.size w w' := by
  have HK := Lib.hid hk
  have HC := Lib.hid hc
  have HN := Lib.hid hne
  have HL := Lib.hid hlast
  clear hk hc hne hlast
  go_enter Tryz.func34, Tryz.ntmps34
  go_wp2
  go_loopw [8] (fun i wr => ∃ k : Nat, k ≤ j ∧ i = .int .i64 k ∧ Below w.heap.size w wr) (fun i _ => 17 - (Lib.intOf i).toNat)
  case atStart => exact ⟨0, by omega, rfl, Below.refl _ _⟩
  case round =>
    obtain ⟨k, hk, rfl, hb⟩ := hrel
    have HB := Lib.hid hb
    clear hb
    by_cases hlt : k < 17
    · have HR : Hid (wr.rangeAt g (0 + k * 7) (kindL d k)) := Lib.hid fun c v hv => by rw [Nat.zero_add]; exact (HK.out.below HB.out).c k hlt c v hv
      have F1 := Lib.hid (find1_any (nm k) s (kindL d k).toArray (by rw [List.getElem?_toArray]; exact kindL_0 d k hlt) mb wr (cell_below HB.out HC.out))
      have LL : Hid ((Tryz.prog.info? 68).map (·.size) = some (kindL d k).length) := Lib.hid (by rw [kindL_len d k hlt]; kernel_rfl)
      by_cases hkj : k = j
      · subst hkj
        have he : nm k = s := HL.out hlt
        rw [he, beq_self_eq_true] at F1
        go_upto_region 4 with fail
        refine wp_region_lit ?_
        refine Step.p_move rfl _ rfl (.func (.func 35) #[] #[.pointer (some ⟨mb, 0, none⟩)]) rfl ?_
        simp only [Act.put, List.setIfInBounds_toArray, List.set_cons_zero, List.set_cons_succ]
        refine Step.p_move rfl _ rfl (.slice (some ⟨g, 0, none⟩) 17 17) rfl ?_
        simp only [Act.put, List.setIfInBounds_toArray, List.set_cons_zero, List.set_cons_succ]
        refine Step.p_move rfl _ rfl (.int .i64 k) rfl ?_
        simp only [Act.put, List.setIfInBounds_toArray, List.set_cons_zero, List.set_cons_succ]
        refine Step.p_index rfl _ 68 _ _ rfl g 0 17 17 rfl k rfl hlt 7 Tryz.underlying80 (by kernel_rfl) ?_
        simp only [Act.put, List.setIfInBounds_toArray, List.set_cons_zero, List.set_cons_succ]
        refine Tree.p_loadmid rfl _ _ rfl g (0 + k * 7) rfl (kindL d k) HR.out Tryz.underlying68 rfl LL.out ?_
        simp only [Act.put, List.setIfInBounds_toArray, List.set_cons_zero, List.set_cons_succ]
        clear HR LL
        go_wp2_with (go_at_call 35; refine F1.out.mono ?_; rintro e w2 ⟨rfl, hb2⟩)
        go_ret
        exact ⟨by first | rfl | (rw [if_pos hlt]; rfl), HB.out.trans (hb2.mono HB.out.size)⟩
      · have he : ¬ nm k = s := HN.out k (by omega)
        rw [show ((nm k).toList == s.toList) = false from bytes_ne he] at F1
        go_upto_region 4 with fail
        refine wp_region_lit ?_
        refine Step.p_move rfl _ rfl (.func (.func 35) #[] #[.pointer (some ⟨mb, 0, none⟩)]) rfl ?_
        simp only [Act.put, List.setIfInBounds_toArray, List.set_cons_zero, List.set_cons_succ]
        refine Step.p_move rfl _ rfl (.slice (some ⟨g, 0, none⟩) 17 17) rfl ?_
        simp only [Act.put, List.setIfInBounds_toArray, List.set_cons_zero, List.set_cons_succ]
        refine Step.p_move rfl _ rfl (.int .i64 k) rfl ?_
        simp only [Act.put, List.setIfInBounds_toArray, List.set_cons_zero, List.set_cons_succ]
        refine Step.p_index rfl _ 68 _ _ rfl g 0 17 17 rfl k rfl hlt 7 Tryz.underlying80 (by kernel_rfl) ?_
        simp only [Act.put, List.setIfInBounds_toArray, List.set_cons_zero, List.set_cons_succ]
        refine Tree.p_loadmid rfl _ _ rfl g (0 + k * 7) rfl (kindL d k) HR.out Tryz.underlying68 rfl LL.out ?_
        simp only [Act.put, List.setIfInBounds_toArray, List.set_cons_zero, List.set_cons_succ]
        clear HR LL
        go_wp2_with (go_at_call 35; refine F1.out.mono ?_; rintro e w2 ⟨rfl, hb2⟩)
        go_roundw
        case rel => exact ⟨k + 1, by omega, rfl, HB.out.trans (hb2.mono HB.out.size)⟩
        case measure => simp [Lib.intOf]; omega
    · obtain rfl : k = 17 := by omega
      obtain rfl : j = 17 := by omega
      go_wp2
      go_ret
      exact ⟨rfl, HB.out⟩
end Go.Proofs.YtcgjhjijfhgclaaGreatDoor.Tab

namespace Go.Proofs
open Go.RowKit Go.Shelf Go.Lib

def Tryz.laysCut_ren : Go.Shelf.Ren := ⟨fun | 103 => 33 | 210 => 66 | 206 => 110 | n => n, fun | 9 => 9 | 4 => 4 | 24 => 84 | 3 => 3 | n => n, fun | n => n⟩
theorem Tryz.laysCut : Go.Proofs.Lays.n103 Tryz.prog Tryz.laysCut_ren := {
  mixed := by kernel_rfl
  f103 := Tryz.func33.trans (congrArg some (by kernel_rfl))
  f206 := Tryz.func110.trans (congrArg some (by kernel_rfl))
  f210 := Tryz.func66.trans (congrArg some (by kernel_rfl))
  t3 := Tryz.underlying3
  a3 := Tryz.isAgg3
  z3 := Tryz.sizeOf3
  v3 := Tryz.zeroValue3
  t4 := Tryz.underlying4
  a4 := Tryz.isAgg4
  z4 := Tryz.sizeOf4
  v4 := Tryz.zeroValue4
  t9 := Tryz.underlying9
  a9 := Tryz.isAgg9
  z9 := Tryz.sizeOf9
  v9 := Tryz.zeroValue9
  t24 := Tryz.underlying84
  a24 := Tryz.isAgg84
  z24 := Tryz.sizeOf84
  v24 := Tryz.zeroValue84 }

namespace YtcgjhjijfhgclaaGreatDoor.Tab
theorem cut_any (s p : ByteArray) (w : World) : Calls Tryz.prog 33 #[.string s, .string p] w fun e w' => e = .returned (.tuple #[.string ⟨(Lib.trimPrefix s.data.toList p.data.toList).toArray⟩, .bool (Lib.hasPrefix s.data.toList p.data.toList)]) ∧ w' = w := Any.strings_CutPrefix Tryz.laysCut s p w
theorem cut_facts : ∀ i, i < 3 → ∀ k, k < 17 → ∀ r, r < 3 → Lib.hasPrefix (pre i ++ nm k).data.toList (pre r).data.toList = decide (i = r) ∧ Lib.trimPrefix (pre i ++ nm k).data.toList (pre r).data.toList = if i = r then (nm k).data.toList else (pre i ++ nm k).data.toList := by decide +kernel
theorem nm_facts : ∀ i, i < 3 → ∀ k, k < 17 → ∀ m, m < 17 → (nm m).data.toList ≠ (pre i ++ nm k).data.toList := by decide +kernel
theorem null_facts : ∀ i, i < 3 → ∀ k, k < 17 → (pre i ++ nm k).data.toList ≠ null.data.toList := by decide +kernel
theorem of_list (b : ByteArray) : (⟨b.data.toList.toArray⟩ : ByteArray) = b := by cases b; simp
theorem cut_spec (i k r : Nat) (hi : i < 3) (hk : k < 17) (hr : r < 3) (w : World) : Calls Tryz.prog 33 #[.string (pre i ++ nm k), .string (pre r)] w fun e w' => e = .returned (.tuple #[.string (if i = r then nm k else pre i ++ nm k), .bool (decide (i = r))]) ∧ w' = w :=
  (cut_any _ _ w).mono fun e w' ⟨h1, h2⟩ => ⟨by
    obtain ⟨a, b⟩ := cut_facts i hi k hk r hr
    rw [h1, a, b]
    split
    · rw [of_list]
    · rw [of_list], h2⟩
theorem kindL_12 (d : Nat) : ∀ k, k < 17 → (kindL d k)[1]? = some (.bool (decide (moT k < 0))) ∧ (kindL d k)[2]? = some (.int .i64 (if moT k < 0 then 0 else moT k))
  | 0, _ | 1, _ | 2, _ | 3, _ | 4, _ | 5, _ | 6, _ | 7, _ | 8, _ | 9, _ | 10, _ | 11, _ | 12, _ | 13, _ | 14, _ | 15, _ | 16, _ => ⟨rfl, rfl⟩
  | k + 17, hk => absurd hk (by omega)
theorem str_ne {a b : ByteArray} (h : a.data.toList ≠ b.data.toList) : (a.toList == b.toList) = false := by
  rw [ByteArray.toList_eq, ByteArray.toList_eq]
  exact beq_eq_false_iff_ne.2 h

set_option maxRecDepth 100000 in
set_option maxHeartbeats 4000000 in
theorem find_any (i0 k0 : Nat) (hi : i0 < 3) (hk : k0 < 17) (w : World) (hS : Sizes w) :
    Calls Tryz.prog 22 #[.string (pre i0 ++ nm k0)] w fun e w' => ∃ g d, e = .returned (.tuple #[.pointer (some ⟨g, k0 * 7, none⟩), .int .i64 (szT i0 k0)]) ∧ w.heap.size ≤ g ∧ KindsAt g d w' ∧ Below w.heap.size w w' := by
  have NF : Hid (¬ (pre i0 ++ nm k0).toList = [110, 117, 108, 108]) := Lib.hid (by rw [ByteArray.toList_eq]; exact null_facts i0 hi k0 hk)
  have CT := Lib.hid (fun r hr w => cut_spec i0 k0 r hi hk hr w)
  have NM := Lib.hid (nm_facts i0 hi k0 hk)
  have HS := Lib.hid hS
  have KD := Lib.hid (fun w => kinds_any w)
  clear hS
  generalize hspec : pre i0 ++ nm k0 = spec at *
  have HSP := Lib.hid hspec
  clear hspec
  go_enter Tryz.func22, Tryz.ntmps22
  go_upto_region 1 with fail
  refine wp_region_lit ?_
  refine Step.p_move rfl _ rfl (.string spec) rfl ?_
  simp only [Act.put, List.setIfInBounds_toArray, List.set_cons_zero, List.set_cons_succ]
  refine Step.p_val rfl (.bool false) (by unfold execOp; go_simp; exact NF.out) ?_
  simp only [Act.put, List.setIfInBounds_toArray, List.set_cons_zero, List.set_cons_succ]
  refine wpList_nil ?_
  go_upto_region 4 with (go_at_call 32; refine (KD.out _).mono ?_; rintro e w1 ⟨g, d, rfl, hg, hka, hb⟩)
  have H1 := Lib.hid hka
  have B1 := Lib.hid hb
  clear hka hb KD
  obtain ⟨gs, os, cs, q0, q1, q2, q3⟩ := (HS.out.below B1.out).h
  have Q3 := Lib.hid q3
  have q2' : cs ≤ 9223372036854775807 := q2
  clear q3 HS q2
  go_wp2
  go_loopw [18] (fun i wr => ∃ r : Nat, r ≤ i0 ∧ i = .int .i64 r ∧ Below w1.heap.size w1 wr) (fun i _ => 3 - (Lib.intOf i).toNat)
  case atStart => exact ⟨0, by omega, rfl, Below.refl _ _⟩
  case round =>
    obtain ⟨r, hr, rfl, hb⟩ := hrel
    have HB := Lib.hid hb
    clear hb
    have hr3 : r < 3 := by omega
    obtain ⟨p0, p1⟩ := Q3.out r hr3
    have c0 := cell_below HB.out p0
    have c1 := cell_below HB.out p1
    clear p0 p1
    have CR := Lib.hid (CT.out r hr3)
    by_cases he : r = i0
    · subst he
      have CR : Hid (∀ w, Calls Tryz.prog 33 #[.string spec, .string (pre r)] w fun e w' => e = .returned (.tuple #[.string (nm k0), .bool true]) ∧ w' = w) := Lib.hid (by have := CT.out r hr3; simpa using this)
      go_upto_region 8 with (go_at_call 33; refine (CR.out _).mono ?_; rintro e w' ⟨rfl, rfl⟩)
      have XB : Hid (Below w1.heap.size w1 ((wr.alloc (.cells #[.string (pre r), .int .i64 (aesT r : Nat)] 83)).alloc (.cells #[.string (nm k0)] 9))) := Lib.hid ((HB.out.alloc HB.out.size _).alloc (by have := HB.out.size; simp; omega) _)
      have XM : Hid (((wr.alloc (.cells #[.string (pre r), .int .i64 (aesT r : Nat)] 83)).alloc (.cells #[.string (nm k0)] 9)).cell? ⟨wr.heap.size + 1, 0, none⟩ = some (.string (nm k0))) := Lib.hid (by
        have := heap_alloc_new (wr.alloc (.cells #[.string (pre r), .int .i64 (aesT r : Nat)] 83)) (.cells #[.string (nm k0)] 9)
        rw [World.size_alloc] at this
        rw [cell_of_row _ _ _ _ _ _ this]
        rfl)
      have XS : Hid (((wr.alloc (.cells #[.string (pre r), .int .i64 (aesT r : Nat)] 83)).alloc (.cells #[.string (nm k0)] 9)).cell? ⟨wr.heap.size, 1, none⟩ = some (.int .i64 (aesT r : Nat))) := Lib.hid (by
        rw [cell_of_row _ _ _ _ _ _ ((heap_alloc_old _ _ (by simp)).trans (heap_alloc_new wr _))]
        rfl)
      clear c0 c1 CR
      generalize ((wr.alloc (.cells #[.string (pre r), .int .i64 (aesT r : Nat)] 83)).alloc (.cells #[.string (nm k0)] 9)) = X at *
      have IX := Lib.hid (indexFunc_any g d (wr.heap.size + 1) k0 (nm k0) X (H1.out.below XB.out) XM.out (by omega) (fun i hi he => by have := nm_inj i (by omega) k0 hk he; omega) (fun _ => rfl))
      rw [if_pos hk] at IX
      have hk7 : k0 * 7 + 7 ≤ 119 := by omega
      go_upto_region 10 with (go_at_call 34; refine IX.out.mono ?_; rintro e w2 ⟨rfl, hb2⟩)
      have KB := Lib.hid ((H1.out.below XB.out).below hb2)
      have BB := Lib.hid (XB.out.trans (hb2.mono XB.out.size))
      have x1 := cell_below hb2 XS.out
      have y1 := KB.out.c k0 hk 1 _ (kindL_12 d k0 hk).1
      have y2 := KB.out.c k0 hk 2 _ (kindL_12 d k0 hk).2
      obtain ⟨m1, m2⟩ := moT_bd k0 hk
      have hsz : szT r k0 = if moT k0 < 0 then 2 * (16 + 8 * (r : Int)) else 16 + 8 * (r : Int) + moT k0 := rfl
      unfold aesT at x1
      clear XS XM hb2 IX
      generalize moT k0 = mo at *
      by_cases hmo : mo < 0
      all_goals
        simp only [hmo, if_true, if_false, decide_true, decide_false] at y1 y2 hsz
        have HZ := Lib.hid hsz
        clear hsz
        go_region
        go_wp2
        go_ret2
        first | exact ⟨g, by rw [HZ.out]; rfl, hg, ⟨d, KB.out.below (Below.refl _ _).drew⟩, (B1.out.trans (BB.out.mono B1.out.size)).drew⟩ | exact ⟨g, d, by rw [HZ.out]; rfl, hg, KB.out.below (Below.refl _ _).drew, (B1.out.trans (BB.out.mono B1.out.size)).drew⟩
    · have CR : Hid (∀ w, Calls Tryz.prog 33 #[.string spec, .string (pre r)] w fun e w' => e = .returned (.tuple #[.string spec, .bool false]) ∧ w' = w) := Lib.hid (by have := CT.out r hr3; rw [if_neg (by omega), decide_eq_false (by omega)] at this; exact this)
      go_upto_region 8 with (go_at_call 33; refine (CR.out _).mono ?_; rintro e w' ⟨rfl, rfl⟩)
      have XB : Hid (Below w1.heap.size w1 ((wr.alloc (.cells #[.string (pre r), .int .i64 (aesT r : Nat)] 83)).alloc (.cells #[.string spec] 9))) := Lib.hid ((HB.out.alloc HB.out.size _).alloc (by have := HB.out.size; simp; omega) _)
      have XM : Hid (((wr.alloc (.cells #[.string (pre r), .int .i64 (aesT r : Nat)] 83)).alloc (.cells #[.string spec] 9)).cell? ⟨wr.heap.size + 1, 0, none⟩ = some (.string spec)) := Lib.hid (by
        have := heap_alloc_new (wr.alloc (.cells #[.string (pre r), .int .i64 (aesT r : Nat)] 83)) (.cells #[.string spec] 9)
        rw [World.size_alloc] at this
        rw [cell_of_row _ _ _ _ _ _ this]
        rfl)
      have XS : Hid (((wr.alloc (.cells #[.string (pre r), .int .i64 (aesT r : Nat)] 83)).alloc (.cells #[.string spec] 9)).cell? ⟨wr.heap.size, 1, none⟩ = some (.int .i64 (aesT r : Nat))) := Lib.hid (by
        rw [cell_of_row _ _ _ _ _ _ ((heap_alloc_old _ _ (by simp)).trans (heap_alloc_new wr _))]
        rfl)
      clear c0 c1 CR
      generalize ((wr.alloc (.cells #[.string (pre r), .int .i64 (aesT r : Nat)] 83)).alloc (.cells #[.string spec] 9)) = X at *
      have IX := Lib.hid (indexFunc_any g d (wr.heap.size + 1) 17 spec X (H1.out.below XB.out) XM.out (by omega) (fun i hi he => NM.out i hi (by rw [he])) (fun h => absurd h (by omega)))
      rw [if_neg (by omega)] at IX
      go_wp2_with (go_at_call 34; refine IX.out.mono ?_; rintro e w2 ⟨rfl, hb2⟩)
      go_roundw
      case rel => exact ⟨r + 1, by omega, rfl, XB.out.trans (hb2.mono XB.out.size)⟩
      case measure => simp [Lib.intOf]; omega
end YtcgjhjijfhgclaaGreatDoor.Tab
end Go.Proofs
