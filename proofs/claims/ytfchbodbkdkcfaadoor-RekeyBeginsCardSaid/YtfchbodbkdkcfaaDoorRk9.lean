/- What the document's Workable answers. -/
import Derived.Test.YtfchbodbkdkcfaaDoorRk8
namespace Go.Proofs.YtfchbodbkdkcfaaDoor.Rk
open Go.RowKit Go.Lib Go.Proofs.YtfchbodbkdkcfaaDoor.Coll Go.Proofs.YtfchbodbkdkcfaaDoor.Meta Go.Proofs.YtfchbodbkdkcfaaDoor.Rooms

theorem pl_hot {u h k off size mode hot : Int} (hp : plB u h k off size mode hot = true) : 1 ≤ hot := by
  simp only [plB, Bool.and_eq_true, decide_eq_true_eq] at hp
  obtain ⟨⟨⟨⟨⟨h1, _⟩, _⟩, _⟩, _⟩, _⟩ := hp
  cases hk : roomOk u mode hot with
  | false => simp [roomE, hk] at h1
  | true =>
    simp only [roomOk, Bool.and_eq_true, decide_eq_true_eq] at hk
    exact hk.1.2
set_option maxRecDepth 100000 in
set_option maxHeartbeats 8000000 in
theorem refWorkable_any (m : MetaD) (p : Places) (w : World) (h : WIn w m p) (hon : m.rot.on = true) :
    Calls Tryd.prog 76 #[metaV m p] w fun e w' => e = .returned (.bool (wkB m)) ∧ Below w.heap.size w w' := by
  have HW := Lib.hid h
  have HON := Lib.hid hon
  clear h hon
  have hi27 : (Tryd.prog.info? 56).map (·.size) = some 27 := by kernel_rfl
  obtain ⟨B, hB⟩ : ∃ B, wkB m = B := ⟨_, rfl⟩
  rw [hB, metaV_eq]
  have HB := Lib.hid hB
  unfold wkB at HB
  clear hB
  have MCS := Lib.hid (mc m p)
  generalize metaA m p = cs at *
  go_enter Tryd.func76, Tryd.ntmps76
  go_upto_region 1 with fail
  have b1 : Below w.heap.size w (w.alloc (.cells cs 56)) := (Below.refl _ _).alloc (Nat.le_refl _) _
  have o1 := heap_alloc_new w (.cells cs 56)
  generalize w.alloc (.cells cs 56) = w1 at *
  have hl1 := (Array.getElem?_eq_some_iff.1 o1).1
  have x14 := (cell_of_row _ _ 14 _ _ _ o1).trans MCS.out.c14
  have x15 := (cell_of_row _ _ 15 _ _ _ o1).trans MCS.out.c15
  have x16 := (cell_of_row _ _ 16 _ _ _ o1).trans MCS.out.c16
  have x17 := (cell_of_row _ _ 17 _ _ _ o1).trans MCS.out.c17
  have x18 := (cell_of_row _ _ 18 _ _ _ o1).trans MCS.out.c18
  have x19 := (cell_of_row _ _ 19 _ _ _ o1).trans MCS.out.c19
  have x20 := (cell_of_row _ _ 20 _ _ _ o1).trans MCS.out.c20
  have x21 := (cell_of_row _ _ 21 _ _ _ o1).trans MCS.out.c21
  have x22 := (cell_of_row _ _ 22 _ _ _ o1).trans MCS.out.c22
  have x23 := (cell_of_row _ _ 23 _ _ _ o1).trans MCS.out.c23
  have x24 := (cell_of_row _ _ 24 _ _ _ o1).trans MCS.out.c24
  have x25 := (cell_of_row _ _ 25 _ _ _ o1).trans MCS.out.c25
  go_upto_region 2 with fail
  have b2 : Below w.heap.size w (w1.alloc (.cells (rotC m.rot) 53)) := b1.alloc b1.size _
  have b12 : Below w1.heap.size w1 (w1.alloc (.cells (rotC m.rot) 53)) := (Below.refl _ _).alloc (Nat.le_refl _) _
  have o2 := heap_alloc_new w1 (.cells (rotC m.rot) 53)
  have hrc : rotC m.rot = #[.bool m.rot.on, .int .u64 m.rot.fr, .int .u64 m.rot.tn, .bool m.rot.back, .int .i64 m.rot.mode, .int .u64 m.rot.hot, .int .u64 m.rot.done, .int .i64 m.rot.off, .int .i64 m.rot.size, .bool m.rot.active, .int .u64 m.rot.count, .string m.rot.sum] := rfl
  rw [← hrc]
  clear hrc
  have WB2 : Hid (WB w.heap.size w1.heap.size cs m p (w1.alloc (.cells (rotC m.rot) 53))) := Lib.hid ⟨(b12.block _ hl1).trans o1, o2, HW.out.below b2⟩
  generalize w1.alloc (.cells (rotC m.rot) 53) = w2 at *
  have B2 := Lib.hid b2
  clear x14 x15 x16 x17 x18 x19 x20 x21 x22 x23 x24 x25 b1 b2 b12 o1 o2
  have rc : 0 ≤ m.count ∧ m.count ≤ 18446744073709551615 := HW.out.r.count
  have rh : -9223372036854775808 ≤ m.head ∧ m.head ≤ 9223372036854775807 := HW.out.r.head
  have rk : -9223372036854775808 ≤ m.keys ∧ m.keys ≤ 9223372036854775807 := HW.out.r.keys
  have SH := Lib.hid (refShaped_any m.unit m.count m.head m.keys w2 (by omega) (by omega) (by omega) (by omega) (by omega) (by omega))
  clear rc rh rk
  have y4 := (cell_of_row _ _ 4 _ _ _ WB2.out.box).trans MCS.out.c4
  have y5 := (cell_of_row _ _ 5 _ _ _ WB2.out.box).trans MCS.out.c5
  have y6 := (cell_of_row _ _ 6 _ _ _ WB2.out.box).trans MCS.out.c6
  have y7 := (cell_of_row _ _ 7 _ _ _ WB2.out.box).trans MCS.out.c7
  go_wp2_with fail
  refine SH.out.mono ?_
  rintro e w3 ⟨rfl, hb3⟩
  have WB3 := Lib.hid (WB2.out.below hb3)
  have B3 := Lib.hid (B2.out.trans (hb3.mono B2.out.size))
  clear y4 y5 y6 y7 hb3 SH WB2 B2
  cases hsh : shB m.unit m.count m.head m.keys with
  | false =>
    obtain rfl : B = false := by rw [← HB.out, hsh]; simp only [Bool.false_and]
    go_wp2
    go_ret
    exact ⟨rfl, B3.out⟩
  | true =>
    have HSH := Lib.hid hsh
    have y4 := (cell_of_row _ _ 4 _ _ _ WB3.out.box).trans MCS.out.c4
    have y5 := (cell_of_row _ _ 5 _ _ _ WB3.out.box).trans MCS.out.c5
    have y6 := (cell_of_row _ _ 6 _ _ _ WB3.out.box).trans MCS.out.c6
    have y7 := (cell_of_row _ _ 7 _ _ _ WB3.out.box).trans MCS.out.c7
    obtain ⟨c0, c1, c2, c3, c4, c5, c6, c7, c8, c9, c10, c11⟩ := rot_cells WB3.out.rot
    have PL := Lib.hid (area_any m.unit m.count m.head m.keys m.rot.off m.rot.size m.rot.mode m.rot.hot w3 hsh HW.out.r.hot.1 (Int.lt_add_one_iff.2 HW.out.r.hot.2) HW.out.r.size.1 HW.out.r.size.2)
    clear hsh
    go_wp2_with fail
    refine PL.out.mono ?_
    rintro e w4 ⟨rfl, hb4⟩
    have WB4 := Lib.hid (WB3.out.below hb4)
    have B4 := Lib.hid (B3.out.trans (hb4.mono B3.out.size))
    clear y4 y5 y6 y7 c0 c1 c2 c3 c4 c5 c6 c7 c8 c9 c10 c11 hb4 PL WB3 B3
    cases hpl : plB m.unit m.head m.keys m.rot.off m.rot.size m.rot.mode m.rot.hot with
    | false =>
      obtain rfl : B = false := by rw [← HB.out, hpl]; simp only [Bool.false_and, Bool.and_false]
      go_wp2
      go_ret
      exact ⟨rfl, B4.out⟩
    | true =>
      have HPL := Lib.hid hpl
      clear hpl
      obtain ⟨c0, c1, c2, c3, c4, c5, c6, c7, c8, c9, c10, c11⟩ := rot_cells WB4.out.rot
      by_cases hft : m.rot.fr < m.rot.tn
      · have HF := Lib.hid hft
        have ME := epochs_any m p m.rot.fr w4 WB4.out.win.e WB4.out.win.el
        rw [MCS.out.eq] at ME
        have HME := Lib.hid ME
        clear ME
        go_wp2_with (first | (rw [show decide (m.rot.tn ≤ m.rot.fr) = false from decide_eq_false (Int.not_le.2 HF.out)]; refine Tree.p_loadrow rfl 56 _ rfl w.heap.size rfl WB4.out.box Tryd.underlying56 rfl (by rw [MCS.out.size]; exact hi27) ?_; simp only [Act.put, List.setIfInBounds_toArray, List.set_cons_zero, List.set_cons_succ]) | fail)
        refine HME.out.mono ?_
        rintro e w5 ⟨rfl, hb5⟩
        have WB5 := Lib.hid (WB4.out.below hb5)
        have B5 := Lib.hid (B4.out.trans (hb5.mono B4.out.size))
        clear c0 c1 c2 c3 c4 c5 c6 c7 c8 c9 c10 c11 hb5 WB4 B4 HME
        obtain ⟨c0, c1, c2, c3, c4, c5, c6, c7, c8, c9, c10, c11⟩ := rot_cells WB5.out.rot
        have hcl1 : cntE m.epochs m.rot.fr ≤ m.epochs.length := cntK_le _ _ _
        obtain ⟨n1, hn1⟩ : ∃ n1, cntE m.epochs m.rot.fr = n1 := ⟨_, rfl⟩
        rw [hn1] at HB hcl1 ⊢
        by_cases hc1 : n1 = 1
        · subst hc1
          have ME := epochs_any m p m.rot.tn w5 WB5.out.win.e WB5.out.win.el
          rw [MCS.out.eq] at ME
          have HME := Lib.hid ME
          clear ME hn1
          go_wp2_with (first | (refine Tree.p_loadrow rfl 56 _ rfl w.heap.size rfl WB5.out.box Tryd.underlying56 rfl (by rw [MCS.out.size]; exact hi27) ?_; simp only [Act.put, List.setIfInBounds_toArray, List.set_cons_zero, List.set_cons_succ]) | fail)
          refine HME.out.mono ?_
          rintro e w6 ⟨rfl, hb6⟩
          have WB6 := Lib.hid (WB5.out.below hb6)
          have B6 := Lib.hid (B5.out.trans (hb6.mono B5.out.size))
          clear c0 c1 c2 c3 c4 c5 c6 c7 c8 c9 c10 c11 hb6 WB5 B5 HME
          have hcl2 : cntE m.epochs m.rot.tn ≤ m.epochs.length := cntK_le _ _ _
          obtain ⟨n2, hn2⟩ : ∃ n2, cntE m.epochs m.rot.tn = n2 := ⟨_, rfl⟩
          rw [hn2] at HB hcl2 ⊢
          have hel := HW.out.el
          by_cases hc2 : n2 = 1
          · subst hc2
            clear hn2 hcl1 hcl2 hel
            have y4 := (cell_of_row _ _ 4 _ _ _ WB6.out.box).trans MCS.out.c4
            have y5 := (cell_of_row _ _ 5 _ _ _ WB6.out.box).trans MCS.out.c5
            have y6 := (cell_of_row _ _ 6 _ _ _ WB6.out.box).trans MCS.out.c6
            have y7 := (cell_of_row _ _ 7 _ _ _ WB6.out.box).trans MCS.out.c7
            go_wp2_with fail
            refine (refSize_any m.unit m.count m.head m.keys w6 HSH.out).mono ?_
            rintro e w7 ⟨rfl, hb7⟩
            have WB7 := Lib.hid (WB6.out.below hb7)
            have B7 := Lib.hid (B6.out.trans (hb7.mono B6.out.size))
            clear y4 y5 y6 y7 hb7 WB6 B6
            have hnb : 0 ≤ nOf m ∧ nOf m ≤ 4294967296 ∧ 1 ≤ nOf m := by
              obtain ⟨_, _, _, q1, q2, q3⟩ := shB_bd HSH.out
              have e : nOf m = m.count - (2 * m.head + m.keys) / m.unit := rfl
              omega
            have hnn : szN m.unit m.count m.head m.keys = nOf m := rfl
            rw [hnn]
            clear hnn
            have hrd : 0 ≤ m.rot.done ∧ m.rot.done ≤ 18446744073709551615 := HW.out.r.done
            obtain ⟨c0, c1, c2, c3, c4, c5, c6, c7, c8, c9, c10, c11⟩ := rot_cells WB7.out.rot
            have HRV : Hid (rotV m.rot = .agg #[.bool m.rot.on, .int .u64 m.rot.fr, .int .u64 m.rot.tn, .bool m.rot.back, .int .i64 m.rot.mode, .int .u64 m.rot.hot, .int .u64 m.rot.done, .int .i64 m.rot.off, .int .i64 m.rot.size, .bool m.rot.active, .int .u64 m.rot.count, .string m.rot.sum]) := Lib.hid rfl
            have SG := Lib.hid (refSegments_any (nOf m) m.rot w7 hnb.1 (by omega) hrd.1 (by omega))
            go_wp2_with fail
            rw [← HRV.out]
            refine SG.out.mono ?_
            rintro e w8 ⟨v, rfl, hown, hb8⟩
            have WB8 := Lib.hid (WB7.out.below hb8)
            have B8 := Lib.hid (B7.out.trans (hb8.mono B7.out.size))
            clear c0 c1 c2 c3 c4 c5 c6 c7 c8 c9 c10 c11 hb8 WB7 B7 SG
            by_cases hdn : m.rot.done ≤ nOf m
            · have hok : segsOk (nOf m) m.rot = true := by
                simp only [segsOk, HON.out, Bool.and_true, Bool.and_eq_true, decide_eq_true_eq]
                exact ⟨⟨hnb.2.2, hnb.2.1⟩, hdn⟩
              have hE : segsE (nOf m) m.rot = 0 := by simp [segsE, hok]
              have hL : segsL (nOf m) m.rot = segsR (nOf m) m.rot := by simp [segsL, hok]
              rw [hL] at hown
              rw [hE]
              clear hok hE hL
              obtain ⟨qv, cv, rfl, hlv⟩ := own_lv (L := segsR (nOf m) m.rot) hown
              have y13 := (cell_of_row _ _ 13 _ _ _ WB8.out.box).trans MCS.out.c13
              have SQ := Lib.hid (same13_any qv p.qg cv p.kg (segsR (nOf m) m.rot) m.segs w8 hlv WB8.out.win.g (by
                have := segsOf_len (if m.rot.back then nOf m - m.rot.done else m.rot.done) (if m.rot.back then m.rot.fr else m.rot.tn) (nOf m) (if m.rot.back then m.rot.tn else m.rot.fr)
                unfold segsR
                omega))
              clear hown hlv
              go_wp2_with fail
              refine SQ.out.mono ?_
              rintro e w9 ⟨rfl, hb9⟩
              have WB9 := Lib.hid (WB8.out.below hb9)
              have B9 := Lib.hid (B8.out.trans (hb9.mono B8.out.size))
              clear y13 hb9 WB8 B8 SQ
              by_cases hsg : m.segs = segsR (nOf m) m.rot
              · rw [decide_eq_true hsg.symm]
                have HT2 : Hid (tailB m = B) := Lib.hid (by rw [← HB.out, HSH.out, HPL.out, decide_eq_true HF.out, decide_eq_true hdn, decide_eq_true hsg]; simp only [decide_true, Bool.true_and])
                clear hsg
                obtain ⟨c0, c1, c2, c3, c4, c5, c6, c7, c8, c9, c10, c11⟩ := rot_cells WB9.out.rot
                have ZN := Lib.hid (hotzone_any (nOf m) m.rot w9 hnb.1 hnb.2.1 hrd.1 hdn HW.out.r.hot.1 HW.out.r.hot.2)
                go_wp2_with fail
                rw [← HRV.out]
                refine ZN.out.mono ?_
                rintro e w11 ⟨rfl, hb11⟩
                have WB11 := Lib.hid (WB9.out.below hb11)
                have B11 := Lib.hid (B9.out.trans (hb11.mono B9.out.size))
                clear c0 c1 c2 c3 c4 c5 c6 c7 c8 c9 c10 c11 hb11 ZN HRV
                obtain ⟨c0, c1, c2, c3, c4, c5, c6, c7, c8, c9, c10, c11⟩ := rot_cells WB11.out.rot
                have hsz : m.rot.sum.size ≤ 9223372036854775807 := HW.out.sum
                have hh := pl_hot HPL.out
                cases hac : m.rot.active with
                | false =>
                  rw [hac] at c9
                  have hT : tailB m = (decide (m.rot.count = 0) && m.rot.sum.toList.isEmpty) := by unfold tailB; rw [hac]; rfl
                  have HT3 := Lib.hid (hT.symm.trans HT2.out)
                  clear hT hac
                  by_cases hct : m.rot.count = 0
                  · go_wp2
                    go_ret
                    exact ⟨by rw [← HT3.out, decide_eq_true hct, Bool.true_and]; rfl, B11.out⟩
                  · go_wp2
                    go_ret
                    exact ⟨by rw [← HT3.out, decide_eq_false hct, Bool.false_and]; rfl, B11.out⟩
                | true =>
                  rw [hac] at c9
                  have hT : tailB m = (decide (m.rot.done < nOf m) && decide (m.rot.count = zoneC (nOf m) m.rot) && decide (m.rot.sum.size = 32)) := by unfold tailB; rw [hac]; rfl
                  have HT3 := Lib.hid (hT.symm.trans HT2.out)
                  clear hT hac
                  by_cases hd2 : m.rot.done < nOf m
                  · have hz0 : 0 < zoneC (nOf m) m.rot := by unfold zoneC; split <;> omega
                    generalize zoneC (nOf m) m.rot = zc at *
                    by_cases hct : m.rot.count = zc
                    · have hBe : Hid (B = decide (m.rot.sum.size = 32)) := Lib.hid (by rw [← HT3.out, decide_eq_true hd2, decide_eq_true hct, Bool.true_and, Bool.true_and])
                      subst hct
                      go_wp2
                      go_ret
                      refine ⟨?_, B11.out⟩
                      rw [hBe.out]
                      refine congrArg (fun b => Ending.returned (.bool b)) ?_
                      show ((m.rot.sum.size : Int) == 32) = _
                      rw [Bool.eq_iff_iff]
                      simp only [beq_iff_eq, decide_eq_true_eq]
                      omega
                    · have hcb : (m.rot.count == zc) = false := by simp [hct]
                      obtain rfl : B = false := by rw [← HT3.out, decide_eq_false hct, Bool.and_false, Bool.false_and]
                      go_wp2
                      go_ret
                      exact ⟨rfl, B11.out⟩
                  · have hz0 : zoneC (nOf m) m.rot = 0 := by unfold zoneC; split <;> omega
                    obtain rfl : B = false := by rw [← HT3.out, decide_eq_false hd2, Bool.false_and, Bool.false_and]
                    rw [hz0]
                    go_wp2
                    go_ret
                    exact ⟨rfl, B11.out⟩
              · rw [decide_eq_false (fun e => hsg e.symm)]
                obtain rfl : B = false := by rw [← HB.out, decide_eq_false hsg]; simp only [Bool.false_and, Bool.and_false]
                clear hsg
                go_wp2
                go_ret
                exact ⟨rfl, B9.out⟩
            · have hok : segsOk (nOf m) m.rot = false := by
                simp only [segsOk, decide_eq_false hdn, Bool.and_false]
              have hE : segsE (nOf m) m.rot = 2 := by simp [segsE, hok]
              obtain rfl : B = false := by rw [← HB.out, decide_eq_false hdn]; simp only [Bool.false_and, Bool.and_false]
              rw [hE]
              obtain ⟨qv, cv, rfl, hlv⟩ := own_lv hown
              clear hok hE hown hlv
              go_wp2
              go_ret
              exact ⟨rfl, B8.out⟩
          · obtain rfl : B = false := by rw [← HB.out, decide_eq_false hc2]; simp only [Bool.false_and, Bool.and_false]
            have hcb : ((n2 : Int) == 1) = false := by simp only [beq_eq_false_iff_ne, ne_eq]; omega
            clear hc2
            go_wp2
            go_ret
            exact ⟨rfl, B6.out⟩
        · obtain rfl : B = false := by rw [← HB.out, decide_eq_false hc1]; simp only [Bool.false_and, Bool.and_false]
          have hcb : ((n1 : Int) == 1) = false := by simp only [beq_eq_false_iff_ne, ne_eq]; omega
          have hcb2 : ((n1 : Int) != 1) = true := by rw [bne, hcb]; rfl
          clear hc1
          go_wp2
          go_ret
          exact ⟨rfl, B5.out⟩
      · obtain rfl : B = false := by rw [← HB.out, decide_eq_false hft]; simp only [Bool.false_and, Bool.and_false]
        go_wp2
        go_ret
        exact ⟨rfl, B4.out⟩
end Go.Proofs.YtfchbodbkdkcfaaDoor.Rk
