/- cofferlaw13.untouched: what roomy gave is as it was, the marks too. -/
import Derived.Test.YtfchbodbkdkcfaaDoorWhole
import Derived.Test.YtfchbodbkdkcfaaDoorSame13
import Derived.Test.YtfchbodbkdkcfaaDoorRoomy
namespace Go.Proofs.YtfchbodbkdkcfaaDoor.Meta
open Go.RowKit Go.Lib Go.Proofs.YtfchbodbkdkcfaaDoor.Coll

set_option maxRecDepth 100000 in
set_option maxHeartbeats 8000000 in
theorem untouched13 (lo : Nat) (m m2 : MetaD) (p p2 : Places) (w : World) (h : MIn w m p) (t : Twin lo 2 mS13 mE13 mG13 mT13 w m m2 p2) :
    Calls Tryd.prog 35 #[metaV m2 p2, metaV m p] w fun e w' => e = .returned (.bool true) ∧ Below w.heap.size w w' := by
  obtain ⟨T, rfl⟩ : ∃ T, m2 = { m with toks := T } := ⟨m2.toks, t.eq⟩
  have HL := Lib.hid (twin_like h t)
  have HM := Lib.hid h
  have HT := Lib.hid t
  have HLT := Lib.hid (show T.length = m.toks.length from t.len)
  obtain ⟨gs, hgs⟩ := t.s.ad
  obtain ⟨ge, hge⟩ := t.e.ad
  obtain ⟨gg, hgg⟩ := t.g.ad
  obtain ⟨gt, hgt⟩ := t.t.ad
  have ms := HL.out.ms
  have me := HL.out.me
  have mg := HL.out.mg
  have mt := HL.out.mt
  obtain ⟨qs2, ks2, qe2, ke2, qg2, kg2, qt2, kt2⟩ := p2
  simp only at hgs hge hgg hgt
  subst hgs hge hgg hgt
  clear h t
  obtain ⟨p2, hp2⟩ : ∃ p2 : Places, (⟨some ⟨gs, 0, none⟩, ks2, some ⟨ge, 0, none⟩, ke2, some ⟨gg, 0, none⟩, kg2, some ⟨gt, 0, none⟩, kt2⟩ : Places) = p2 := ⟨_, rfl⟩
  have HP2 := Lib.hid hp2
  rw [hp2] at HL HT ⊢
  clear hp2
  rw [metaV_eq, metaV_eq]
  have v1 := metaV_eq { m with toks := T } p2
  have v2 := metaV_eq m p
  have c11 : (metaA { m with toks := T } p2)[11]? = some (.slice (some ⟨gs, 0, none⟩) m.slots.length ks2) := by rw [← HP2.out]; rfl
  have c12 : (metaA { m with toks := T } p2)[12]? = some (.slice (some ⟨ge, 0, none⟩) m.epochs.length ke2) := by rw [← HP2.out]; rfl
  have c13 : (metaA { m with toks := T } p2)[13]? = some (.slice (some ⟨gg, 0, none⟩) m.segs.length kg2) := by rw [← HP2.out]; rfl
  have c26 : (metaA { m with toks := T } p2)[26]? = some (.slice (some ⟨gt, 0, none⟩) m.toks.length kt2) := by rw [← HP2.out, ← HLT.out]; rfl
  have d11 : (metaA m p)[11]? = some (.slice p.qs m.slots.length p.ks) := rfl
  have d12 : (metaA m p)[12]? = some (.slice p.qe m.epochs.length p.ke) := rfl
  have d13 : (metaA m p)[13]? = some (.slice p.qg m.segs.length p.kg) := rfl
  have d26 : (metaA m p)[26]? = some (.slice p.qt m.toks.length p.kt) := rfl
  have hs1 : (metaA { m with toks := T } p2).size = 27 := rfl
  have hs2 : (metaA m p).size = 27 := rfl
  have hi27 : (Tryd.prog.info? 56).map (·.size) = some 27 := by kernel_rfl
  generalize metaA { m with toks := T } p2 = cs1 at *
  generalize metaA m p = cs2 at *
  have V1 := Lib.hid v1
  have V2 := Lib.hid v2
  clear v1 v2
  go_enter Tryd.func35, Tryd.ntmps35
  go_upto_region 1 with fail
  have o1 : ((w.alloc (.cells cs1 56)).alloc (.cells cs2 56)).heap[w.heap.size]? = some (.cells cs1 56 (0, 0)) := (heap_alloc_old _ _ (by simp)).trans (heap_alloc_new w _)
  have o2 : ((w.alloc (.cells cs1 56)).alloc (.cells cs2 56)).heap[w.heap.size + 1]? = some (.cells cs2 56 (0, 0)) := alloc_two w _ _
  have b1 : Below w.heap.size w ((w.alloc (.cells cs1 56)).alloc (.cells cs2 56)) := ((Below.refl _ _).alloc (Nat.le_refl _) _).alloc (by simp) _
  generalize (w.alloc (.cells cs1 56)).alloc (.cells cs2 56) = w1 at *
  refine wp_region_lit ?_
  refine Tree.p_loadrow rfl _ _ rfl w.heap.size rfl o1 Tryd.underlying56 rfl (by rw [hs1]; exact hi27) ?_
  simp only [Act.put, List.setIfInBounds_toArray, List.set_cons_zero, List.set_cons_succ]
  refine Tree.p_loadrow rfl _ _ rfl (w.heap.size + 1) rfl o2 Tryd.underlying56 rfl (by rw [hs2]; exact hi27) ?_
  simp only [Act.put, List.setIfInBounds_toArray, List.set_cons_zero, List.set_cons_succ]
  refine Step.p_wp rfl (Step.w_callx 34 [.tmp 11, .tmp 12] _ rfl Tryd.func34 (by kernel_rfl) rfl [.agg cs1, .agg cs2] rfl (by rw [← V1.out, ← V2.out]; exact same13 m { m with toks := T } p p2 w1 (HL.out.below b1)) ?_)
  rintro e w2 ⟨rfl, hb2⟩
  refine ⟨_, rfl, ?_⟩
  simp only [Act.put, List.setIfInBounds_toArray, List.set_cons_zero, List.set_cons_succ]
  have HB2 := Lib.hid (b1.trans (hb2.mono b1.size))
  have r1 := (hb2.block _ (Array.getElem?_eq_some_iff.1 o1).1).trans o1
  have r2 := (hb2.block _ (Array.getElem?_eq_some_iff.1 o2).1).trans o2
  clear o1 o2 b1
  clear hb2
  have hl1 := (Array.getElem?_eq_some_iff.1 r1).1
  have hl2 := (Array.getElem?_eq_some_iff.1 r2).1
  have X11 := Lib.hid ((cell_of_row _ _ 11 _ _ _ r1).trans c11)
  have X12 := Lib.hid ((cell_of_row _ _ 12 _ _ _ r1).trans c12)
  have X13 := Lib.hid ((cell_of_row _ _ 13 _ _ _ r1).trans c13)
  have X26 := Lib.hid ((cell_of_row _ _ 26 _ _ _ r1).trans c26)
  have Y11 := Lib.hid ((cell_of_row _ _ 11 _ _ _ r2).trans d11)
  have Y12 := Lib.hid ((cell_of_row _ _ 12 _ _ _ r2).trans d12)
  have Y13 := Lib.hid ((cell_of_row _ _ 13 _ _ _ r2).trans d13)
  have Y26 := Lib.hid ((cell_of_row _ _ 26 _ _ _ r2).trans d26)
  clear r1 r2 c11 c12 c13 c26 d11 d12 d13 d26
  have tw0 := HT.out
  rw [← HP2.out] at tw0
  have q11 : m.slots.length + 2 ≤ ks2 := tw0.s.room
  have q12 : m.epochs.length + 2 ≤ ke2 := tw0.e.room
  have q13 : m.segs.length + 2 ≤ kg2 := tw0.g.room
  have q26 : m.toks.length + 2 ≤ kt2 := tw0.t.room
  have r11 : ks2 ≤ 9223372036854775807 := tw0.s.max
  have r12 : ke2 ≤ 9223372036854775807 := tw0.e.max
  have r13 : kg2 ≤ 9223372036854775807 := tw0.g.max
  have r26 : kt2 ≤ 9223372036854775807 := tw0.t.max
  have x11 := X11.out
  have x12 := X12.out
  have x13 := X13.out
  have x26 := X26.out
  clear tw0
  go_wp2
  clear x11 x12 x13 x26
  go_loopw [10] (fun i wr => ∃ k : Nat, k ≤ m.toks.length ∧ i = .int .i64 k ∧ Below w2.heap.size w2 wr) (fun i _ => m.toks.length - (intOf i).toNat)
  case atStart => exact ⟨0, by omega, rfl, Below.refl _ _⟩
  case round =>
    obtain ⟨k, hk, rfl, hb⟩ := hrel
    have HB3 := Lib.hid hb
    have hbw := HB2.out.trans (hb.mono HB2.out.size)
    clear hb
    by_cases hlt : k < m.toks.length
    · have hkT : k < T.length := by rw [HLT.out]; exact hlt
      obtain ⟨g2, o2, hq2, E2⟩ := lv_cells (L := T) (sz := 4) (fun _ => rfl) (by decide) (HL.out.t2.below HB2.out) k hkT
      obtain ⟨g1, o1, hq1, E1⟩ := lv_cells (sz := 4) (fun _ => rfl) (by decide) (HL.out.t1.below HB2.out) k hlt
      obtain ⟨rfl, rfl⟩ : gt = g2 ∧ 0 = o2 := by
        rw [← HP2.out] at hq2
        simpa using hq2
      clear hq2
      have TR : TokRel lo w2 (m.toks[k]'hlt) (T[k]'hkT) := (HT.out.below (HB2.out.mono (Nat.le_refl _))).tok k hlt hkT
      have TK := HM.out.tok _ (List.getElem_mem hlt)
      have a2 := E2 2 _ rfl
      have b2 := E1 2 _ rfl
      clear E1 E2 hbw
      generalize m.toks[k]'hlt = d at b2 TR TK
      generalize T[k]'hkT = d2 at a2 TR
      obtain ⟨z0, z1, z2, z3, z4, z5, z6⟩ := d
      obtain ⟨v0, v1, v2, v3, v4, v5, v6⟩ := d2
      have t3 : v3 = z3 := TR.n
      subst t3
      obtain ⟨gq, hgq, _, _, hcq⟩ := TR.q
      have hgq' : v2 = some ⟨gq, 0, none⟩ := hgq
      subst hgq'
      have CQ := Lib.hid (show ∀ j, j < v3 + 70 → w2.cell? ⟨gq, j, none⟩ = (Tok.row v3 z5 70)[j]? from hcq)
      have RM := Lib.hid (show v3 + 70 ≤ v4 from TR.room)
      have RX := Lib.hid (show v4 ≤ maxLen from TR.max)
      have TI := Lib.hid (show Tok.IL w2 z2 v3 z5 from TK.2.2.2.1.below HB2.out)
      have TN := Lib.hid (show v3 ≤ 17592186043904 from TK.2.2.2.2)
      clear TR TK hcq hgq hkT
      go_upto_region 14 with fail
      have A2 := Lib.hid a2
      have B2 := Lib.hid b2
      clear a2 b2
      refine Step.wp_region_class (C := fun w' => Below w2.heap.size w2 w') (by kernel_rfl) (by kernel_rfl) HB3.out.drew ?_
      refine Step.q_field rfl _ _ _ rfl w.heap.size 0 rfl Tryd.underlying56 rfl (sz := 1) (by kernel_rfl) (by decide) 26 rfl ?_
      simp only [Act.put, List.setIfInBounds_toArray, List.set_cons_zero, List.set_cons_succ]
      refine Step.q_load1 rfl _ _ rfl w.heap.size 26 rfl (.slice (some ⟨gt, 0, none⟩) m.toks.length kt2) (fun w' hw' => (hw'.cell (p := ⟨w.heap.size, 26, none⟩) hl1).trans X26.out) Tryd.underlying54 rfl ?_
      simp only [Act.put, List.setIfInBounds_toArray, List.set_cons_zero, List.set_cons_succ]
      refine Step.q_move rfl _ rfl (.int .i64 k) rfl ?_
      simp only [Act.put, List.setIfInBounds_toArray, List.set_cons_zero, List.set_cons_succ]
      refine Step.q_idx rfl _ 41 _ _ rfl gt 0 m.toks.length kt2 rfl k rfl hlt 4 Tryd.underlying54 (by kernel_rfl) ?_
      simp only [Act.put, List.setIfInBounds_toArray, List.set_cons_zero, List.set_cons_succ]
      refine Step.q_field rfl _ _ _ rfl gt (0 + k * 4) rfl Tryd.underlying41 rfl (sz := 1) (by kernel_rfl) (by decide) (0 + k * 4 + 2) rfl ?_
      simp only [Act.put, List.setIfInBounds_toArray, List.set_cons_zero, List.set_cons_succ]
      refine Step.q_load1 rfl _ _ rfl gt (0 + k * 4 + 2) rfl (.slice (some ⟨gq, 0, none⟩) v3 v4) (fun w' hw' => (hw'.cell (p := ⟨gt, 0 + k * 4 + 2, none⟩) (Frame.block_lt A2.out)).trans A2.out) Tryd.underlying39 rfl ?_
      simp only [Act.put, List.setIfInBounds_toArray, List.set_cons_zero, List.set_cons_succ]
      refine Step.q_field rfl _ _ _ rfl (w.heap.size + 1) 0 rfl Tryd.underlying56 rfl (sz := 1) (by kernel_rfl) (by decide) 26 rfl ?_
      simp only [Act.put, List.setIfInBounds_toArray, List.set_cons_zero, List.set_cons_succ]
      refine Step.q_load1 rfl _ _ rfl (w.heap.size + 1) 26 rfl (.slice (some ⟨g1, o1, none⟩) m.toks.length p.kt) (fun w' hw' => (hw'.cell (p := ⟨w.heap.size + 1, 26, none⟩) hl2).trans (by rw [Y26.out, hq1])) Tryd.underlying54 rfl ?_
      simp only [Act.put, List.setIfInBounds_toArray, List.set_cons_zero, List.set_cons_succ]
      refine Step.q_move rfl _ rfl (.int .i64 k) rfl ?_
      simp only [Act.put, List.setIfInBounds_toArray, List.set_cons_zero, List.set_cons_succ]
      refine Step.q_idx rfl _ 41 _ _ rfl g1 o1 m.toks.length p.kt rfl k rfl hlt 4 Tryd.underlying54 (by kernel_rfl) ?_
      simp only [Act.put, List.setIfInBounds_toArray, List.set_cons_zero, List.set_cons_succ]
      refine Step.q_field rfl _ _ _ rfl g1 (o1 + k * 4) rfl Tryd.underlying41 rfl (sz := 1) (by kernel_rfl) (by decide) (o1 + k * 4 + 2) rfl ?_
      simp only [Act.put, List.setIfInBounds_toArray, List.set_cons_zero, List.set_cons_succ]
      refine Step.q_load1 rfl _ _ rfl g1 (o1 + k * 4 + 2) rfl (.slice z2 v3 z4) (fun w' hw' => (hw'.cell (p := ⟨g1, o1 + k * 4 + 2, none⟩) (Frame.block_lt B2.out)).trans B2.out) Tryd.underlying39 rfl ?_
      simp only [Act.put, List.setIfInBounds_toArray, List.set_cons_zero, List.set_cons_succ]
      refine Step.q_call rfl 22 [.tmp 57, .tmp 63] _ rfl Tryd.func22 (by kernel_rfl) rfl (.bool true) [.slice (some ⟨gq, 0, none⟩) v3 v4, .slice z2 v3 z4] rfl (fun w' hw' => (Tok.wholeInts_any gq v4 z2 v3 z4 z5 w' TN.out RM.out RX.out (fun j hj => (hw'.cell (p := ⟨gq, j, none⟩) (Frame.block_lt ((CQ.out j hj).trans (List.getElem?_eq_getElem (by simp [Tok.row]; omega))))).trans (CQ.out j hj)) (TI.out.below hw')).mono fun e w2 ⟨he, hb⟩ => ⟨he, hw'.trans (hb.mono hw'.size)⟩) ?_
      simp only [Act.put, List.setIfInBounds_toArray, List.set_cons_zero, List.set_cons_succ]
      refine Step.q_pure rfl (.bool false) (fun w' => by unfold execOp; go_simp) ?_
      simp only [Act.put, List.setIfInBounds_toArray, List.set_cons_zero, List.set_cons_succ]
      refine wpQuiet_nil ?_
      intro w4 hw4
      have HW4 := Lib.hid hw4
      clear hw4
      go_wp2
      go_roundw
      case rel => exact ⟨k + 1, by omega, rfl, HW4.out⟩
      case measure => simp [intOf]; omega
    · have tw := HT.out.below hbw
      rw [← HP2.out] at tw
      have z11 := tw.s.mark (flat_len (sz := 9) (fun _ => rfl) _) 0 (by decide) _ rfl
      have z12 := tw.e.mark (flat_len (sz := 5) (fun _ => rfl) _) 0 (by decide) _ rfl
      have z13 := tw.g.mark (flat_len (sz := 3) (fun _ => rfl) _) 2 (by decide) _ rfl
      have z26 := tw.t.mark (by rw [flat_len (sz := 4) (fun _ => rfl), HLT.out]) 0 (by decide) _ rfl
      have v11 := tw.s.mark (flat_len (sz := 9) (fun _ => rfl) _) 9 (by decide) _ rfl
      have v12 := tw.e.mark (flat_len (sz := 5) (fun _ => rfl) _) 5 (by decide) _ rfl
      have v13 := tw.g.mark (flat_len (sz := 3) (fun _ => rfl) _) 5 (by decide) _ rfl
      have v26 := tw.t.mark (by rw [flat_len (sz := 4) (fun _ => rfl), HLT.out]) 4 (by decide) _ rfl
      rw [Nat.add_zero] at z11 z12 z26
      rw [show m.slots.length * 9 + 9 = (m.slots.length + 1) * 9 by omega] at v11
      rw [show m.epochs.length * 5 + 5 = (m.epochs.length + 1) * 5 by omega] at v12
      rw [show m.segs.length * 3 + 5 = (m.segs.length + 1) * 3 + 2 by omega] at v13
      rw [show m.toks.length * 4 + 4 = (m.toks.length + 1) * 4 by omega] at v26
      have HBW := Lib.hid hbw
      clear tw hbw
      go_wp2
      go_ret
      exact ⟨rfl, HBW.out⟩
end Go.Proofs.YtfchbodbkdkcfaaDoor.Meta
