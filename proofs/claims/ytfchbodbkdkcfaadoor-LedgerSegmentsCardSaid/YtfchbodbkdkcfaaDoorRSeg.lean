/- cofferref09.Segments: what any rotation makes of the data. -/
import Derived.Test.YtfchbodbkdkcfaaDoorLSeg
namespace Go.Proofs.YtfchbodbkdkcfaaDoor.Fill
open Go.RowKit Go.Lib Go.Proofs.YtfchbodbkdkcfaaDoor.Coll Go.Proofs.YtfchbodbkdkcfaaDoor.Meta Go.Proofs.YtfchbodbkdkcfaaDoor.Shapes Go.Proofs.YtfchbodbkdkcfaaDoor.Rooms

/-- a slice that holds segments -/
def SegR (w : World) (v : Value) (L : List Sg) : Prop := ∃ q c, v = .slice q L.length c ∧ LV sgC w q L
theorem SegR.below {w w' : World} {v : Value} {L : List Sg} (h : SegR w v L) (hb : Below w.heap.size w w') : SegR w' v L := by
  obtain ⟨q, c, a, b⟩ := h
  exact ⟨q, c, a, b.below hb⟩
theorem u64_wrap {x : Int} (h0 : 0 ≤ x) (h1 : x ≤ 4294967296) : IntKind.u64.wrap x = x := by
  have e : IntKind.u64.wrap x = x % 18446744073709551616 := rfl
  rw [e]
  omega
set_option maxRecDepth 100000 in
set_option maxHeartbeats 4000000 in
theorem refSegs_any (m : MetaD) (p : Places) (w : World) (h : SIn w m p) :
    Calls Tryd.prog 25 #[metaV m p] w fun e w' => ∃ v, e = .returned v ∧ SegR w' v (segsOf m) ∧ Below w.heap.size w w' := by
  obtain ⟨L, hL⟩ : ∃ L, segsOf m = L := ⟨_, rfl⟩
  rw [hL]
  have HS := Lib.hid hL
  have H := Lib.hid h
  have hl := h.len
  clear hL h
  obtain ⟨i0, a1, a2, a3, a4⟩ := info_of (t := 92) (z := .agg #[.int .u64 0, .int .u64 0, .int .u64 0]) (s := 3) (b := 24) (by kernel_rfl)
  rw [metaV_eq]
  have c4 : (metaA m p)[4]? = some (.int .i64 m.unit) := rfl
  have c5 : (metaA m p)[5]? = some (.int .u64 m.count) := rfl
  have c6 : (metaA m p)[6]? = some (.int .i64 m.head) := rfl
  have c7 : (metaA m p)[7]? = some (.int .i64 m.keys) := rfl
  have c12 : (metaA m p)[12]? = some (.slice p.qe m.epochs.length p.ke) := rfl
  have c14 : (metaA m p)[14]? = some (.bool m.rot.on) := rfl
  have c15 : (metaA m p)[15]? = some (.int .u64 m.rot.fr) := rfl
  have c16 : (metaA m p)[16]? = some (.int .u64 m.rot.tn) := rfl
  have c17 : (metaA m p)[17]? = some (.bool m.rot.back) := rfl
  have c18 : (metaA m p)[18]? = some (.int .i64 m.rot.mode) := rfl
  have c19 : (metaA m p)[19]? = some (.int .u64 m.rot.hot) := rfl
  have c20 : (metaA m p)[20]? = some (.int .u64 m.rot.done) := rfl
  have c21 : (metaA m p)[21]? = some (.int .i64 m.rot.off) := rfl
  have c22 : (metaA m p)[22]? = some (.int .i64 m.rot.size) := rfl
  have c23 : (metaA m p)[23]? = some (.bool m.rot.active) := rfl
  have c24 : (metaA m p)[24]? = some (.int .u64 m.rot.count) := rfl
  have c25 : (metaA m p)[25]? = some (.string m.rot.sum) := rfl
  generalize metaA m p = cs at *
  have C4 := Lib.hid c4
  have C5 := Lib.hid c5
  have C6 := Lib.hid c6
  have C7 := Lib.hid c7
  have C12 := Lib.hid c12
  have C14 := Lib.hid c14
  have C15 := Lib.hid c15
  have C16 := Lib.hid c16
  have C17 := Lib.hid c17
  have C18 := Lib.hid c18
  have C19 := Lib.hid c19
  have C20 := Lib.hid c20
  have C21 := Lib.hid c21
  have C22 := Lib.hid c22
  have C23 := Lib.hid c23
  have C24 := Lib.hid c24
  have C25 := Lib.hid c25
  clear c4 c5 c6 c7 c12 c14 c15 c16 c17 c18 c19 c20 c21 c22 c23 c24 c25
  go_enter Tryd.func25, Tryd.ntmps25
  go_upto_region 1 with fail
  have hb1 : Below w.heap.size w (w.alloc (.cells cs 56)) := (Below.refl _ _).alloc (Nat.le_refl _) _
  have o1 := heap_alloc_new w (.cells cs 56)
  generalize w.alloc (.cells cs 56) = w1 at *
  have x4 := (cell_of_row _ _ 4 _ _ _ o1).trans C4.out
  have x5 := (cell_of_row _ _ 5 _ _ _ o1).trans C5.out
  have x6 := (cell_of_row _ _ 6 _ _ _ o1).trans C6.out
  have x7 := (cell_of_row _ _ 7 _ _ _ o1).trans C7.out
  go_wp2_with fail
  clear x4 x5 x6 x7
  have rc : 0 ≤ m.count ∧ m.count ≤ 18446744073709551615 := H.out.r.count
  have rh : -9223372036854775808 ≤ m.head ∧ m.head ≤ 9223372036854775807 := H.out.r.head
  have rk : -9223372036854775808 ≤ m.keys ∧ m.keys ≤ 9223372036854775807 := H.out.r.keys
  have rd : 0 ≤ m.rot.done ∧ m.rot.done ≤ 18446744073709551615 := H.out.r.done
  refine (refSectors_any m.unit m.count m.head m.keys w1 (by omega) (by omega) (by omega) (by omega) (by omega) (by omega)).mono ?_
  rintro e w2 ⟨rfl, hb2⟩
  have HB2 := Lib.hid (hb1.trans (hb2.mono hb1.size))
  have o2 := (hb2.block _ (Array.getElem?_eq_some_iff.1 o1).1).trans o1
  have nb := sectN_bd m.unit m.count m.head m.keys
  have eb : sectE m.unit m.count m.head m.keys = 0 ∨ sectE m.unit m.count m.head m.keys = 90 := by unfold sectE; split <;> simp
  unfold segsOf at HS
  generalize sectN m.unit m.count m.head m.keys = n at *
  generalize sectE m.unit m.count m.head m.keys = er at *
  clear hb1 hb2 o1 rc rh rk
  have x12 := (cell_of_row _ _ 12 _ _ _ o2).trans C12.out
  have x14 := (cell_of_row _ _ 14 _ _ _ o2).trans C14.out
  have x15 := (cell_of_row _ _ 15 _ _ _ o2).trans C15.out
  have x16 := (cell_of_row _ _ 16 _ _ _ o2).trans C16.out
  have x17 := (cell_of_row _ _ 17 _ _ _ o2).trans C17.out
  have x18 := (cell_of_row _ _ 18 _ _ _ o2).trans C18.out
  have x19 := (cell_of_row _ _ 19 _ _ _ o2).trans C19.out
  have x20 := (cell_of_row _ _ 20 _ _ _ o2).trans C20.out
  have x21 := (cell_of_row _ _ 21 _ _ _ o2).trans C21.out
  have x22 := (cell_of_row _ _ 22 _ _ _ o2).trans C22.out
  have x23 := (cell_of_row _ _ 23 _ _ _ o2).trans C23.out
  have x24 := (cell_of_row _ _ 24 _ _ _ o2).trans C24.out
  have x25 := (cell_of_row _ _ 25 _ _ _ o2).trans C25.out
  have hl1 : w.heap.size < w2.heap.size := (Array.getElem?_eq_some_iff.1 o2).1
  clear o2
  have HE := Lib.hid (H.out.e.below HB2.out)
  rcases eb with rfl | rfl
  · by_cases hz : m.epochs.length = 0
    · have HL := Lib.hid (show L = [] by rw [← HS.out]; simp [hz])
      go_wp2
      go_ret
      rw [HL.out]
      exact ⟨_, rfl, ⟨_, _, rfl, fun j v h => by simp at h⟩, HB2.out⟩
    · obtain ⟨rot, hrot⟩ : ∃ r, m.rot = r := ⟨_, rfl⟩
      rw [hrot] at HS rd x14 x15 x16 x17 x18 x19 x20 x21 x22 x23 x24 x25
      obtain ⟨on, fr, tn, back, mode, hot, done, off, size, active, count, sum⟩ := rot
      simp only at HS rd x14 x15 x16 x17 x18 x19 x20 x21 x22 x23 x24 x25
      cases on with
      | false =>
        obtain ⟨k, hk⟩ : ∃ k, m.epochs.length = k + 1 := ⟨m.epochs.length - 1, by omega⟩
        obtain ⟨ge, oe, hq, E⟩ := lv_cells (sz := 5) (fun _ => rfl) (by decide) HE.out k (by omega)
        have e0 := E 0 _ rfl
        have hL : L = [(0, n, lastNum m.epochs)] := by rw [← HS.out]; simp [hz]
        have hlast : lastNum m.epochs = (m.epochs[k]'(by omega)).num := by
          have h1 : m.epochs.length - 1 = k := by omega
          simp only [lastNum, List.getLast?_eq_getElem?, h1, List.getElem?_eq_getElem (show k < m.epochs.length by omega), Option.map_some, Option.getD_some]
        rw [← hlast, Nat.add_zero] at e0
        generalize lastNum m.epochs = last at *
        have hge := Frame.block_lt e0
        clear E hlast
        rw [hq, hk] at x12
        have HL := Lib.hid hL
        clear hL
        go_wp2
        go_ret
        rw [HL.out]
        have hs := HB2.out.size
        exact ⟨_, rfl, (one_new _ 0 _ (0, n, last) (by simp) (by omega)).lv, (HB2.out.alloc hs _).alloc (by simp; omega) _⟩
      | true =>
        by_cases hd : n < done
        · have HL := Lib.hid (show L = [] by rw [← HS.out]; simp [hz, hd])
          go_wp2
          go_ret
          rw [HL.out]
          exact ⟨_, rfl, ⟨_, _, rfl, fun j v h => by simp at h⟩, HB2.out.alloc HB2.out.size _⟩
        · cases back with
          | false =>
            have hL : L = sgF (0, done, tn) (done, n - (done), fr) := by
              rw [← HS.out]; simp [hz, hd]
            have HL := Lib.hid hL
            clear hL
            go_upto_region 17 with fail
            have hW2 := HB2.out.alloc HB2.out.size (.cells #[.bool true, .int .u64 fr, .int .u64 tn, .bool false, .int .i64 mode, .int .u64 hot, .int .u64 done, .int .i64 off, .int .i64 size, .bool active, .int .u64 count, .string sum] 53)
            generalize w2.alloc (.cells #[.bool true, .int .u64 fr, .int .u64 tn, .bool false, .int .i64 mode, .int .u64 hot, .int .u64 done, .int .i64 off, .int .i64 size, .bool active, .int .u64 count, .string sum] 53) = w2' at *
            have HW2 := Lib.hid hW2
            clear hW2 x12 x14 x15 x16 x17 x18 x19 x20 x21 x22 x23 x24 x25 HB2 hl1 HE
            obtain ⟨mk, hmk⟩ : ∃ mk, done = mk := ⟨_, rfl⟩
            have mk0 : 0 ≤ mk := by omega
            have mkn : mk ≤ n := by omega
            rw [hmk] at HL
            try rw [hmk]
            clear hmk hd
            by_cases h1 : 0 < mk
            · have hn : mk ≠ 0 := by omega
              have H1 := Lib.hid h1
              go_upto_region 18 with fail
              refine wp_region_lit ?_
              refine Step.p_move rfl _ rfl (.slice none 0 0) rfl ?_
              simp only [Act.put, List.setIfInBounds_toArray, List.set_cons_zero, List.set_cons_succ]
              refine Step.p_move rfl _ rfl (.int .u64 mk) rfl ?_
              simp only [Act.put, List.setIfInBounds_toArray, List.set_cons_zero, List.set_cons_succ]
              refine Step.p_move rfl _ rfl (.int .u64 tn) rfl ?_
              simp only [Act.put, List.setIfInBounds_toArray, List.set_cons_zero, List.set_cons_succ]
              refine Step.p_val rfl (.agg #[Value.int .u64 0, .int .u64 mk, .int .u64 tn]) (by unfold execOp; go_simp) ?_
              simp only [Act.put, List.setIfInBounds_toArray, List.set_cons_zero, List.set_cons_succ]
              refine Tree.p_one rfl 49 92 (.tmp 66) rfl #[Value.int .u64 0, .int .u64 mk, .int .u64 tn] (n := 3) rfl rfl Tryd.underlying49 (by kernel_rfl) (by kernel_rfl) (by decide) (by decide) ?_
              simp only [Act.put, List.setIfInBounds_toArray, List.set_cons_zero, List.set_cons_succ]
              have own1 := (World.ownsRow_nil w2' w.heap.size 92 3).alloc (.cells #[Value.int .u64 0, .int .u64 mk, .int .u64 tn] 92)
              have bel1 := HW2.out.alloc HW2.out.size (.cells #[Value.int .u64 0, .int .u64 mk, .int .u64 tn] 92)
              have new1 := heap_alloc_new w2' (.cells #[Value.int .u64 0, .int .u64 mk, .int .u64 tn] 92)
              generalize w2'.alloc (.cells #[Value.int .u64 0, .int .u64 mk, .int .u64 tn] 92) = wa at *
              refine App.wpList_append_src wa rfl _ _ 49 rfl w.heap.size 92 i0 (.agg #[.int .u64 0, .int .u64 0, .int .u64 0]) 3 24 Tryd.underlying49 a1 a2 a3 a4 rfl (by decide) _ 0 [] rfl own1 (some ⟨w2'.heap.size, 0, none⟩) 1 1 (#[Value.int .u64 0, .int .u64 mk, .int .u64 tn].toList) rfl rfl (fun h => by cases h)
                (fun j u hj => ⟨w2'.heap.size, 0, rfl, by rw [Nat.zero_add, cell_of_row _ _ j _ _ _ new1]; simpa using hj⟩) (by intro u hu; simp at hu; rcases hu with rfl | rfl | rfl <;> rfl) (by unfold maxLen; omega) (by omega) bel1.size ?_
              intro v2 w3 ho hgr _
              have bel2 : Below w.heap.size w w3 := bel1.trans ⟨hgr.os, hgr.tape, hgr.output, hgr.size, fun k hk => hgr.block k (Nat.lt_of_lt_of_le hk bel1.size) (fun e => by have := (Step.own_lt own1 e.symm).1; omega)⟩
              obtain ⟨q2, c2, rfl⟩ : ∃ q2 c2, v2 = .slice q2 (0 + 1) c2 := by
                rcases ho.2 with ⟨_, h⟩ | ⟨g, c, cur, a, _⟩
                · omega
                · exact ⟨_, _, a⟩
              have OW := Lib.hid ho
              have BL := Lib.hid bel2
              clear own1 bel1 new1 ho hgr bel2
              simp only [Act.put, List.setIfInBounds_toArray, List.set_cons_zero, List.set_cons_succ]
              refine Step.p_assign rfl _ rfl (.slice q2 (0 + 1) c2) rfl ?_
              refine wpList_nil ?_
              simp only [Act.put, List.setIfInBounds_toArray, List.set_cons_zero, List.set_cons_succ]
              by_cases h2 : mk < n
              · have hF : sgF (0, mk, tn) (mk, n - mk, fr) = [(0, mk, tn), (mk, n - mk, fr)] := by simp [sgF, hn]; omega
                have HF := Lib.hid hF
                clear hF
                have OW1 := OW
                have BL1 := BL
                clear OW BL
                go_upto_region 20 with fail
                refine wp_region_lit ?_
                refine Step.p_move rfl _ rfl (.slice q2 (0 + 1) c2) rfl ?_
                simp only [Act.put, List.setIfInBounds_toArray, List.set_cons_zero, List.set_cons_succ]
                refine Step.p_move rfl _ rfl (.int .u64 mk) rfl ?_
                simp only [Act.put, List.setIfInBounds_toArray, List.set_cons_zero, List.set_cons_succ]
                refine Step.p_move rfl _ rfl (.int .u64 n) rfl ?_
                simp only [Act.put, List.setIfInBounds_toArray, List.set_cons_zero, List.set_cons_succ]
                refine Step.p_move rfl _ rfl (.int .u64 mk) rfl ?_
                simp only [Act.put, List.setIfInBounds_toArray, List.set_cons_zero, List.set_cons_succ]
                refine Step.p_val rfl (.int .u64 (n - mk)) (by unfold execOp; go_simp; exact u64_wrap (by omega) (by omega)) ?_
                simp only [Act.put, List.setIfInBounds_toArray, List.set_cons_zero, List.set_cons_succ]
                refine Step.p_move rfl _ rfl (.int .u64 fr) rfl ?_
                simp only [Act.put, List.setIfInBounds_toArray, List.set_cons_zero, List.set_cons_succ]
                refine Step.p_val rfl (.agg #[Value.int .u64 mk, .int .u64 (n - mk), .int .u64 fr]) (by unfold execOp; go_simp) ?_
                simp only [Act.put, List.setIfInBounds_toArray, List.set_cons_zero, List.set_cons_succ]
                refine Tree.p_one rfl 49 92 (.tmp 78) rfl #[Value.int .u64 mk, .int .u64 (n - mk), .int .u64 fr] (n := 3) rfl rfl Tryd.underlying49 (by kernel_rfl) (by kernel_rfl) (by decide) (by decide) ?_
                simp only [Act.put, List.setIfInBounds_toArray, List.set_cons_zero, List.set_cons_succ]
                have own1 := OW1.out.alloc (.cells #[Value.int .u64 mk, .int .u64 (n - mk), .int .u64 fr] 92)
                have bel1 := BL1.out.alloc BL1.out.size (.cells #[Value.int .u64 mk, .int .u64 (n - mk), .int .u64 fr] 92)
                have new1 := heap_alloc_new w3 (.cells #[Value.int .u64 mk, .int .u64 (n - mk), .int .u64 fr] 92)
                generalize w3.alloc (.cells #[Value.int .u64 mk, .int .u64 (n - mk), .int .u64 fr] 92) = wa at *
                refine App.wpList_append_src wa rfl _ _ 49 rfl w.heap.size 92 i0 (.agg #[.int .u64 0, .int .u64 0, .int .u64 0]) 3 24 Tryd.underlying49 a1 a2 a3 a4 rfl (by decide) _ (0 + 1) _ rfl own1 (some ⟨w3.heap.size, 0, none⟩) 1 1 (#[Value.int .u64 mk, .int .u64 (n - mk), .int .u64 fr].toList) rfl rfl (fun h => by cases h)
                  (fun j u hj => ⟨w3.heap.size, 0, rfl, by rw [Nat.zero_add, cell_of_row _ _ j _ _ _ new1]; simpa using hj⟩) (by intro u hu; simp at hu; rcases hu with rfl | rfl | rfl <;> rfl) (by unfold maxLen; omega) (by omega) bel1.size ?_
                intro v2 w3 ho hgr _
                have bel2 : Below w.heap.size w w3 := bel1.trans ⟨hgr.os, hgr.tape, hgr.output, hgr.size, fun k hk => hgr.block k (Nat.lt_of_lt_of_le hk bel1.size) (fun e => by have := (Step.own_lt own1 e.symm).1; omega)⟩
                obtain ⟨q2, c2, rfl⟩ : ∃ q2 c2, v2 = .slice q2 ((0 + 1) + 1) c2 := by
                  rcases ho.2 with ⟨_, h⟩ | ⟨g, c, cur, a, _⟩
                  · omega
                  · exact ⟨_, _, a⟩
                have OW := Lib.hid ho
                have BL := Lib.hid bel2
                clear own1 bel1 new1 ho hgr bel2
                simp only [Act.put, List.setIfInBounds_toArray, List.set_cons_zero, List.set_cons_succ]
                refine Step.p_assign rfl _ rfl (.slice q2 ((0 + 1) + 1) c2) rfl ?_
                refine wpList_nil ?_
                simp only [Act.put, List.setIfInBounds_toArray, List.set_cons_zero, List.set_cons_succ]
                go_wp2
                go_ret
                rw [HL.out, HF.out]
                exact ⟨_, rfl, ⟨_, _, rfl, LV.of_own (L := [(0, mk, tn), (mk, n - mk, fr)]) (ms := []) (by simpa [sgC] using OW.out)⟩, BL.out⟩
              · have hF : sgF (0, mk, tn) (mk, n - mk, fr) = [(0, mk, tn)] := by
                  have : n - mk = 0 := by omega
                  simp [sgF, hn, this]
                have HF := Lib.hid hF
                clear hF
                go_wp2
                go_ret
                rw [HL.out, HF.out]
                exact ⟨_, rfl, ⟨_, _, rfl, LV.of_own (L := [(0, mk, tn)]) (ms := []) (by simpa [sgC] using OW.out)⟩, BL.out⟩
            · obtain rfl : mk = 0 := by omega
              by_cases h2 : 0 < n
              · have hF : sgF (0, 0, tn) (0, n - 0, fr) = [(0, n - 0, fr)] := by
                  have : n ≠ 0 := by omega
                  simp [sgF, this]
                have HF := Lib.hid hF
                clear hF
                go_upto_region 20 with fail
                refine wp_region_lit ?_
                refine Step.p_move rfl _ rfl (.slice none 0 0) rfl ?_
                simp only [Act.put, List.setIfInBounds_toArray, List.set_cons_zero, List.set_cons_succ]
                refine Step.p_move rfl _ rfl (.int .u64 0) rfl ?_
                simp only [Act.put, List.setIfInBounds_toArray, List.set_cons_zero, List.set_cons_succ]
                refine Step.p_move rfl _ rfl (.int .u64 n) rfl ?_
                simp only [Act.put, List.setIfInBounds_toArray, List.set_cons_zero, List.set_cons_succ]
                refine Step.p_move rfl _ rfl (.int .u64 0) rfl ?_
                simp only [Act.put, List.setIfInBounds_toArray, List.set_cons_zero, List.set_cons_succ]
                refine Step.p_val rfl (.int .u64 (n - 0)) (by unfold execOp; go_simp; exact u64_wrap (by omega) (by omega)) ?_
                simp only [Act.put, List.setIfInBounds_toArray, List.set_cons_zero, List.set_cons_succ]
                refine Step.p_move rfl _ rfl (.int .u64 fr) rfl ?_
                simp only [Act.put, List.setIfInBounds_toArray, List.set_cons_zero, List.set_cons_succ]
                refine Step.p_val rfl (.agg #[Value.int .u64 0, .int .u64 (n - 0), .int .u64 fr]) (by unfold execOp; go_simp) ?_
                simp only [Act.put, List.setIfInBounds_toArray, List.set_cons_zero, List.set_cons_succ]
                refine Tree.p_one rfl 49 92 (.tmp 78) rfl #[Value.int .u64 0, .int .u64 (n - 0), .int .u64 fr] (n := 3) rfl rfl Tryd.underlying49 (by kernel_rfl) (by kernel_rfl) (by decide) (by decide) ?_
                simp only [Act.put, List.setIfInBounds_toArray, List.set_cons_zero, List.set_cons_succ]
                have own1 := (World.ownsRow_nil w2' w.heap.size 92 3).alloc (.cells #[Value.int .u64 0, .int .u64 (n - 0), .int .u64 fr] 92)
                have bel1 := HW2.out.alloc HW2.out.size (.cells #[Value.int .u64 0, .int .u64 (n - 0), .int .u64 fr] 92)
                have new1 := heap_alloc_new w2' (.cells #[Value.int .u64 0, .int .u64 (n - 0), .int .u64 fr] 92)
                generalize w2'.alloc (.cells #[Value.int .u64 0, .int .u64 (n - 0), .int .u64 fr] 92) = wa at *
                refine App.wpList_append_src wa rfl _ _ 49 rfl w.heap.size 92 i0 (.agg #[.int .u64 0, .int .u64 0, .int .u64 0]) 3 24 Tryd.underlying49 a1 a2 a3 a4 rfl (by decide) _ 0 [] rfl own1 (some ⟨w2'.heap.size, 0, none⟩) 1 1 (#[Value.int .u64 0, .int .u64 (n - 0), .int .u64 fr].toList) rfl rfl (fun h => by cases h)
                  (fun j u hj => ⟨w2'.heap.size, 0, rfl, by rw [Nat.zero_add, cell_of_row _ _ j _ _ _ new1]; simpa using hj⟩) (by intro u hu; simp at hu; rcases hu with rfl | rfl | rfl <;> rfl) (by unfold maxLen; omega) (by omega) bel1.size ?_
                intro v2 w3 ho hgr _
                have bel2 : Below w.heap.size w w3 := bel1.trans ⟨hgr.os, hgr.tape, hgr.output, hgr.size, fun k hk => hgr.block k (Nat.lt_of_lt_of_le hk bel1.size) (fun e => by have := (Step.own_lt own1 e.symm).1; omega)⟩
                obtain ⟨q2, c2, rfl⟩ : ∃ q2 c2, v2 = .slice q2 (0 + 1) c2 := by
                  rcases ho.2 with ⟨_, h⟩ | ⟨g, c, cur, a, _⟩
                  · omega
                  · exact ⟨_, _, a⟩
                have OW := Lib.hid ho
                have BL := Lib.hid bel2
                clear own1 bel1 new1 ho hgr bel2
                simp only [Act.put, List.setIfInBounds_toArray, List.set_cons_zero, List.set_cons_succ]
                refine Step.p_assign rfl _ rfl (.slice q2 (0 + 1) c2) rfl ?_
                refine wpList_nil ?_
                simp only [Act.put, List.setIfInBounds_toArray, List.set_cons_zero, List.set_cons_succ]
                go_wp2
                go_ret
                rw [HL.out, HF.out]
                exact ⟨_, rfl, ⟨_, _, rfl, LV.of_own (L := [(0, n - 0, fr)]) (ms := []) (by simpa [sgC] using OW.out)⟩, BL.out⟩
              · have hF : sgF (0, 0, tn) (0, n - 0, fr) = [] := by
                  have : n = 0 := by omega
                  simp [sgF, this]
                go_wp2
                go_ret
                rw [HL.out, hF]
                exact ⟨_, rfl, ⟨_, _, rfl, fun j v h => by simp at h⟩, HW2.out⟩
          | true =>
            have hL : L = sgF (0, n - done, fr) (n - done, n - (n - done), tn) := by
              rw [← HS.out]; rw [show n - (n - done) = done by omega]; simp [hz, hd]
            have HL := Lib.hid hL
            clear hL
            go_upto_region 17 with fail
            have hW2 := HB2.out.alloc HB2.out.size (.cells #[.bool true, .int .u64 fr, .int .u64 tn, .bool true, .int .i64 mode, .int .u64 hot, .int .u64 done, .int .i64 off, .int .i64 size, .bool active, .int .u64 count, .string sum] 53)
            generalize w2.alloc (.cells #[.bool true, .int .u64 fr, .int .u64 tn, .bool true, .int .i64 mode, .int .u64 hot, .int .u64 done, .int .i64 off, .int .i64 size, .bool active, .int .u64 count, .string sum] 53) = w2' at *
            have HW2 := Lib.hid hW2
            clear hW2 x12 x14 x15 x16 x17 x18 x19 x20 x21 x22 x23 x24 x25 HB2 hl1 HE
            obtain ⟨mk, hmk⟩ : ∃ mk, n - done = mk := ⟨_, rfl⟩
            have mk0 : 0 ≤ mk := by omega
            have mkn : mk ≤ n := by omega
            rw [hmk] at HL
            try rw [hmk]
            clear hmk hd
            by_cases h1 : 0 < mk
            · have hn : mk ≠ 0 := by omega
              have H1 := Lib.hid h1
              go_upto_region 18 with fail
              refine wp_region_lit ?_
              refine Step.p_move rfl _ rfl (.slice none 0 0) rfl ?_
              simp only [Act.put, List.setIfInBounds_toArray, List.set_cons_zero, List.set_cons_succ]
              refine Step.p_move rfl _ rfl (.int .u64 mk) rfl ?_
              simp only [Act.put, List.setIfInBounds_toArray, List.set_cons_zero, List.set_cons_succ]
              refine Step.p_move rfl _ rfl (.int .u64 fr) rfl ?_
              simp only [Act.put, List.setIfInBounds_toArray, List.set_cons_zero, List.set_cons_succ]
              refine Step.p_val rfl (.agg #[Value.int .u64 0, .int .u64 mk, .int .u64 fr]) (by unfold execOp; go_simp) ?_
              simp only [Act.put, List.setIfInBounds_toArray, List.set_cons_zero, List.set_cons_succ]
              refine Tree.p_one rfl 49 92 (.tmp 66) rfl #[Value.int .u64 0, .int .u64 mk, .int .u64 fr] (n := 3) rfl rfl Tryd.underlying49 (by kernel_rfl) (by kernel_rfl) (by decide) (by decide) ?_
              simp only [Act.put, List.setIfInBounds_toArray, List.set_cons_zero, List.set_cons_succ]
              have own1 := (World.ownsRow_nil w2' w.heap.size 92 3).alloc (.cells #[Value.int .u64 0, .int .u64 mk, .int .u64 fr] 92)
              have bel1 := HW2.out.alloc HW2.out.size (.cells #[Value.int .u64 0, .int .u64 mk, .int .u64 fr] 92)
              have new1 := heap_alloc_new w2' (.cells #[Value.int .u64 0, .int .u64 mk, .int .u64 fr] 92)
              generalize w2'.alloc (.cells #[Value.int .u64 0, .int .u64 mk, .int .u64 fr] 92) = wa at *
              refine App.wpList_append_src wa rfl _ _ 49 rfl w.heap.size 92 i0 (.agg #[.int .u64 0, .int .u64 0, .int .u64 0]) 3 24 Tryd.underlying49 a1 a2 a3 a4 rfl (by decide) _ 0 [] rfl own1 (some ⟨w2'.heap.size, 0, none⟩) 1 1 (#[Value.int .u64 0, .int .u64 mk, .int .u64 fr].toList) rfl rfl (fun h => by cases h)
                (fun j u hj => ⟨w2'.heap.size, 0, rfl, by rw [Nat.zero_add, cell_of_row _ _ j _ _ _ new1]; simpa using hj⟩) (by intro u hu; simp at hu; rcases hu with rfl | rfl | rfl <;> rfl) (by unfold maxLen; omega) (by omega) bel1.size ?_
              intro v2 w3 ho hgr _
              have bel2 : Below w.heap.size w w3 := bel1.trans ⟨hgr.os, hgr.tape, hgr.output, hgr.size, fun k hk => hgr.block k (Nat.lt_of_lt_of_le hk bel1.size) (fun e => by have := (Step.own_lt own1 e.symm).1; omega)⟩
              obtain ⟨q2, c2, rfl⟩ : ∃ q2 c2, v2 = .slice q2 (0 + 1) c2 := by
                rcases ho.2 with ⟨_, h⟩ | ⟨g, c, cur, a, _⟩
                · omega
                · exact ⟨_, _, a⟩
              have OW := Lib.hid ho
              have BL := Lib.hid bel2
              clear own1 bel1 new1 ho hgr bel2
              simp only [Act.put, List.setIfInBounds_toArray, List.set_cons_zero, List.set_cons_succ]
              refine Step.p_assign rfl _ rfl (.slice q2 (0 + 1) c2) rfl ?_
              refine wpList_nil ?_
              simp only [Act.put, List.setIfInBounds_toArray, List.set_cons_zero, List.set_cons_succ]
              by_cases h2 : mk < n
              · have hF : sgF (0, mk, fr) (mk, n - mk, tn) = [(0, mk, fr), (mk, n - mk, tn)] := by simp [sgF, hn]; omega
                have HF := Lib.hid hF
                clear hF
                have OW1 := OW
                have BL1 := BL
                clear OW BL
                go_upto_region 20 with fail
                refine wp_region_lit ?_
                refine Step.p_move rfl _ rfl (.slice q2 (0 + 1) c2) rfl ?_
                simp only [Act.put, List.setIfInBounds_toArray, List.set_cons_zero, List.set_cons_succ]
                refine Step.p_move rfl _ rfl (.int .u64 mk) rfl ?_
                simp only [Act.put, List.setIfInBounds_toArray, List.set_cons_zero, List.set_cons_succ]
                refine Step.p_move rfl _ rfl (.int .u64 n) rfl ?_
                simp only [Act.put, List.setIfInBounds_toArray, List.set_cons_zero, List.set_cons_succ]
                refine Step.p_move rfl _ rfl (.int .u64 mk) rfl ?_
                simp only [Act.put, List.setIfInBounds_toArray, List.set_cons_zero, List.set_cons_succ]
                refine Step.p_val rfl (.int .u64 (n - mk)) (by unfold execOp; go_simp; exact u64_wrap (by omega) (by omega)) ?_
                simp only [Act.put, List.setIfInBounds_toArray, List.set_cons_zero, List.set_cons_succ]
                refine Step.p_move rfl _ rfl (.int .u64 tn) rfl ?_
                simp only [Act.put, List.setIfInBounds_toArray, List.set_cons_zero, List.set_cons_succ]
                refine Step.p_val rfl (.agg #[Value.int .u64 mk, .int .u64 (n - mk), .int .u64 tn]) (by unfold execOp; go_simp) ?_
                simp only [Act.put, List.setIfInBounds_toArray, List.set_cons_zero, List.set_cons_succ]
                refine Tree.p_one rfl 49 92 (.tmp 78) rfl #[Value.int .u64 mk, .int .u64 (n - mk), .int .u64 tn] (n := 3) rfl rfl Tryd.underlying49 (by kernel_rfl) (by kernel_rfl) (by decide) (by decide) ?_
                simp only [Act.put, List.setIfInBounds_toArray, List.set_cons_zero, List.set_cons_succ]
                have own1 := OW1.out.alloc (.cells #[Value.int .u64 mk, .int .u64 (n - mk), .int .u64 tn] 92)
                have bel1 := BL1.out.alloc BL1.out.size (.cells #[Value.int .u64 mk, .int .u64 (n - mk), .int .u64 tn] 92)
                have new1 := heap_alloc_new w3 (.cells #[Value.int .u64 mk, .int .u64 (n - mk), .int .u64 tn] 92)
                generalize w3.alloc (.cells #[Value.int .u64 mk, .int .u64 (n - mk), .int .u64 tn] 92) = wa at *
                refine App.wpList_append_src wa rfl _ _ 49 rfl w.heap.size 92 i0 (.agg #[.int .u64 0, .int .u64 0, .int .u64 0]) 3 24 Tryd.underlying49 a1 a2 a3 a4 rfl (by decide) _ (0 + 1) _ rfl own1 (some ⟨w3.heap.size, 0, none⟩) 1 1 (#[Value.int .u64 mk, .int .u64 (n - mk), .int .u64 tn].toList) rfl rfl (fun h => by cases h)
                  (fun j u hj => ⟨w3.heap.size, 0, rfl, by rw [Nat.zero_add, cell_of_row _ _ j _ _ _ new1]; simpa using hj⟩) (by intro u hu; simp at hu; rcases hu with rfl | rfl | rfl <;> rfl) (by unfold maxLen; omega) (by omega) bel1.size ?_
                intro v2 w3 ho hgr _
                have bel2 : Below w.heap.size w w3 := bel1.trans ⟨hgr.os, hgr.tape, hgr.output, hgr.size, fun k hk => hgr.block k (Nat.lt_of_lt_of_le hk bel1.size) (fun e => by have := (Step.own_lt own1 e.symm).1; omega)⟩
                obtain ⟨q2, c2, rfl⟩ : ∃ q2 c2, v2 = .slice q2 ((0 + 1) + 1) c2 := by
                  rcases ho.2 with ⟨_, h⟩ | ⟨g, c, cur, a, _⟩
                  · omega
                  · exact ⟨_, _, a⟩
                have OW := Lib.hid ho
                have BL := Lib.hid bel2
                clear own1 bel1 new1 ho hgr bel2
                simp only [Act.put, List.setIfInBounds_toArray, List.set_cons_zero, List.set_cons_succ]
                refine Step.p_assign rfl _ rfl (.slice q2 ((0 + 1) + 1) c2) rfl ?_
                refine wpList_nil ?_
                simp only [Act.put, List.setIfInBounds_toArray, List.set_cons_zero, List.set_cons_succ]
                go_wp2
                go_ret
                rw [HL.out, HF.out]
                exact ⟨_, rfl, ⟨_, _, rfl, LV.of_own (L := [(0, mk, fr), (mk, n - mk, tn)]) (ms := []) (by simpa [sgC] using OW.out)⟩, BL.out⟩
              · have hF : sgF (0, mk, fr) (mk, n - mk, tn) = [(0, mk, fr)] := by
                  have : n - mk = 0 := by omega
                  simp [sgF, hn, this]
                have HF := Lib.hid hF
                clear hF
                go_wp2
                go_ret
                rw [HL.out, HF.out]
                exact ⟨_, rfl, ⟨_, _, rfl, LV.of_own (L := [(0, mk, fr)]) (ms := []) (by simpa [sgC] using OW.out)⟩, BL.out⟩
            · obtain rfl : mk = 0 := by omega
              by_cases h2 : 0 < n
              · have hF : sgF (0, 0, fr) (0, n - 0, tn) = [(0, n - 0, tn)] := by
                  have : n ≠ 0 := by omega
                  simp [sgF, this]
                have HF := Lib.hid hF
                clear hF
                go_upto_region 20 with fail
                refine wp_region_lit ?_
                refine Step.p_move rfl _ rfl (.slice none 0 0) rfl ?_
                simp only [Act.put, List.setIfInBounds_toArray, List.set_cons_zero, List.set_cons_succ]
                refine Step.p_move rfl _ rfl (.int .u64 0) rfl ?_
                simp only [Act.put, List.setIfInBounds_toArray, List.set_cons_zero, List.set_cons_succ]
                refine Step.p_move rfl _ rfl (.int .u64 n) rfl ?_
                simp only [Act.put, List.setIfInBounds_toArray, List.set_cons_zero, List.set_cons_succ]
                refine Step.p_move rfl _ rfl (.int .u64 0) rfl ?_
                simp only [Act.put, List.setIfInBounds_toArray, List.set_cons_zero, List.set_cons_succ]
                refine Step.p_val rfl (.int .u64 (n - 0)) (by unfold execOp; go_simp; exact u64_wrap (by omega) (by omega)) ?_
                simp only [Act.put, List.setIfInBounds_toArray, List.set_cons_zero, List.set_cons_succ]
                refine Step.p_move rfl _ rfl (.int .u64 tn) rfl ?_
                simp only [Act.put, List.setIfInBounds_toArray, List.set_cons_zero, List.set_cons_succ]
                refine Step.p_val rfl (.agg #[Value.int .u64 0, .int .u64 (n - 0), .int .u64 tn]) (by unfold execOp; go_simp) ?_
                simp only [Act.put, List.setIfInBounds_toArray, List.set_cons_zero, List.set_cons_succ]
                refine Tree.p_one rfl 49 92 (.tmp 78) rfl #[Value.int .u64 0, .int .u64 (n - 0), .int .u64 tn] (n := 3) rfl rfl Tryd.underlying49 (by kernel_rfl) (by kernel_rfl) (by decide) (by decide) ?_
                simp only [Act.put, List.setIfInBounds_toArray, List.set_cons_zero, List.set_cons_succ]
                have own1 := (World.ownsRow_nil w2' w.heap.size 92 3).alloc (.cells #[Value.int .u64 0, .int .u64 (n - 0), .int .u64 tn] 92)
                have bel1 := HW2.out.alloc HW2.out.size (.cells #[Value.int .u64 0, .int .u64 (n - 0), .int .u64 tn] 92)
                have new1 := heap_alloc_new w2' (.cells #[Value.int .u64 0, .int .u64 (n - 0), .int .u64 tn] 92)
                generalize w2'.alloc (.cells #[Value.int .u64 0, .int .u64 (n - 0), .int .u64 tn] 92) = wa at *
                refine App.wpList_append_src wa rfl _ _ 49 rfl w.heap.size 92 i0 (.agg #[.int .u64 0, .int .u64 0, .int .u64 0]) 3 24 Tryd.underlying49 a1 a2 a3 a4 rfl (by decide) _ 0 [] rfl own1 (some ⟨w2'.heap.size, 0, none⟩) 1 1 (#[Value.int .u64 0, .int .u64 (n - 0), .int .u64 tn].toList) rfl rfl (fun h => by cases h)
                  (fun j u hj => ⟨w2'.heap.size, 0, rfl, by rw [Nat.zero_add, cell_of_row _ _ j _ _ _ new1]; simpa using hj⟩) (by intro u hu; simp at hu; rcases hu with rfl | rfl | rfl <;> rfl) (by unfold maxLen; omega) (by omega) bel1.size ?_
                intro v2 w3 ho hgr _
                have bel2 : Below w.heap.size w w3 := bel1.trans ⟨hgr.os, hgr.tape, hgr.output, hgr.size, fun k hk => hgr.block k (Nat.lt_of_lt_of_le hk bel1.size) (fun e => by have := (Step.own_lt own1 e.symm).1; omega)⟩
                obtain ⟨q2, c2, rfl⟩ : ∃ q2 c2, v2 = .slice q2 (0 + 1) c2 := by
                  rcases ho.2 with ⟨_, h⟩ | ⟨g, c, cur, a, _⟩
                  · omega
                  · exact ⟨_, _, a⟩
                have OW := Lib.hid ho
                have BL := Lib.hid bel2
                clear own1 bel1 new1 ho hgr bel2
                simp only [Act.put, List.setIfInBounds_toArray, List.set_cons_zero, List.set_cons_succ]
                refine Step.p_assign rfl _ rfl (.slice q2 (0 + 1) c2) rfl ?_
                refine wpList_nil ?_
                simp only [Act.put, List.setIfInBounds_toArray, List.set_cons_zero, List.set_cons_succ]
                go_wp2
                go_ret
                rw [HL.out, HF.out]
                exact ⟨_, rfl, ⟨_, _, rfl, LV.of_own (L := [(0, n - 0, tn)]) (ms := []) (by simpa [sgC] using OW.out)⟩, BL.out⟩
              · have hF : sgF (0, 0, fr) (0, n - 0, tn) = [] := by
                  have : n = 0 := by omega
                  simp [sgF, this]
                go_wp2
                go_ret
                rw [HL.out, hF]
                exact ⟨_, rfl, ⟨_, _, rfl, fun j v h => by simp at h⟩, HW2.out⟩
  · have HL := Lib.hid (show L = [] by rw [← HS.out]; simp)
    go_wp2
    go_ret
    rw [HL.out]
    exact ⟨_, rfl, ⟨_, _, rfl, fun j v h => by simp at h⟩, HB2.out⟩
end Go.Proofs.YtfchbodbkdkcfaaDoor.Fill
