/- Metadata that hold the same are the same to cofferlaw09.same. -/
import Derived.Test.YtfchbodbkdkcfaaDoorSame0
namespace Go.Proofs.YtfchbodbkdkcfaaDoor.Meta
open Go.RowKit Go.Lib Go.Proofs.YtfchbodbkdkcfaaDoor.Coll

/-- a token and a like one -/
structure TokLike (w : World) (d d2 : TokD) : Prop where
  num : d2.num = d.num
  kind : d2.kind = d.kind
  note : d2.note = d.note
  n : d2.n = d.n
  max : d.n ≤ maxLen
  a : Tok.IL w d.q d.n d.f
  b : Tok.IL w d2.q d.n d.f
/-- metadata and like ones, both to be read -/
structure Like (w : World) (m : MetaD) (p : Places) (m2 : MetaD) (p2 : Places) : Prop where
  eq : m2 = { m with toks := m2.toks }
  len : m2.toks.length = m.toks.length
  s1 : LV slotC w p.qs m.slots
  s2 : LV slotC w p2.qs m.slots
  e1 : LV epochC w p.qe m.epochs
  e2 : LV epochC w p2.qe m.epochs
  g1 : LV sgC w p.qg m.segs
  g2 : LV sgC w p2.qg m.segs
  t1 : LV tokC w p.qt m.toks
  t2 : LV tokC w p2.qt m2.toks
  tok : ∀ k (h : k < m.toks.length) (h2 : k < m2.toks.length), TokLike w (m.toks[k]'h) (m2.toks[k]'h2)
  ms : m.slots.length ≤ 9223372036854775807
  me : m.epochs.length ≤ 9223372036854775807
  mg : m.segs.length ≤ 9223372036854775807
  mt : m.toks.length ≤ 9223372036854775807
theorem TokLike.below {w w' : World} {d d2 : TokD} (h : TokLike w d d2) (hb : Below w.heap.size w w') : TokLike w' d d2 := ⟨h.num, h.kind, h.note, h.n, h.max, h.a.below hb, h.b.below hb⟩
theorem Like.below {w w' : World} {m m2 : MetaD} {p p2 : Places} (h : Like w m p m2 p2) (hb : Below w.heap.size w w') : Like w' m p m2 p2 :=
  ⟨h.eq, h.len, h.s1.below hb, h.s2.below hb, h.e1.below hb, h.e2.below hb, h.g1.below hb, h.g2.below hb, h.t1.below hb, h.t2.below hb, fun k a b => (h.tok k a b).below hb, h.ms, h.me, h.mg, h.mt⟩
theorem tokOk_max {w : World} {d : TokD} (h : tokOkd w d) : d.n ≤ maxLen := Nat.le_trans h.1 h.2.1
theorem twin_like {lo k : Nat} {mS mE mG mT : List Value} {w : World} {m m2 : MetaD} {p p2 : Places} (h : MIn w m p) (t : Twin lo k mS mE mG mT w m m2 p2) : Like w m p m2 p2 where
  eq := t.eq
  len := t.len
  s1 := h.s.lv
  s2 := t.s.lv
  e1 := h.e.lv
  e2 := t.e.lv
  g1 := h.g.lv
  g2 := t.g.lv
  t1 := h.t.lv
  t2 := t.t.lv
  tok := fun i hi hi2 => by
    obtain ⟨k1, k2, k3, k4, k5⟩ := h.tok _ (List.getElem_mem hi)
    have r := t.tok i hi hi2
    obtain ⟨g, hg, _, _, hc⟩ := r.q
    refine ⟨r.num, r.kind, r.note, r.n, Nat.le_trans k1 k2, k4, fun j hj => ⟨g, 0, hg, ?_⟩⟩
    rw [Nat.zero_add, hc j (by omega), Tok.row_get _ _ _ _ hj]
  ms := Nat.le_trans h.s.le h.s.max
  me := Nat.le_trans h.e.le h.e.max
  mg := Nat.le_trans h.g.le h.g.max
  mt := Nat.le_trans h.t.le h.t.max

set_option maxRecDepth 100000 in
set_option maxHeartbeats 8000000 in
theorem same09 (m m2 : MetaD) (p p2 : Places) (w : World) (h : Like w m p m2 p2) :
    Calls Tryd.prog 57 #[metaV m2 p2, metaV m p] w fun e w' => e = .returned (.bool true) ∧ Below w.heap.size w w' := by
  obtain ⟨T, rfl⟩ : ∃ T, m2 = { m with toks := T } := ⟨m2.toks, h.eq⟩
  have H := Lib.hid h
  have HLT := Lib.hid (show T.length = m.toks.length from h.len)
  have ms := h.ms
  have me := h.me
  have mt := h.mt
  clear h
  unfold metaV metaL
  go_enter Tryd.func57, Tryd.ntmps57
  go_upto_region 1 with fail
  have hb0 : Below w.heap.size w ((w.alloc (.cells (metaA { m with toks := T } p2) 56)).alloc (.cells (metaA m p) 56)) := ((Below.refl _ _).alloc (Nat.le_refl _) _).alloc (by simp) _
  have o1 : ((w.alloc (.cells (metaA { m with toks := T } p2) 56)).alloc (.cells (metaA m p) 56)).heap[w.heap.size]? = some (.cells (metaA { m with toks := T } p2) 56 (0, 0)) := by
    rw [heap_alloc_old _ _ (by simp)]
    exact heap_alloc_new w _
  have o2 : ((w.alloc (.cells (metaA { m with toks := T } p2) 56)).alloc (.cells (metaA m p) 56)).heap[w.heap.size + 1]? = some (.cells (metaA m p) 56 (0, 0)) := by
    have := heap_alloc_new (w.alloc (.cells (metaA { m with toks := T } p2) 56)) (.cells (metaA m p) 56)
    simpa using this
  go_upto_region 3 with fail
  generalize hw2 : (w.alloc (.cells _ 56)).alloc (.cells _ 56) = w2
  have hb2 : Below w.heap.size w w2 := by rw [← hw2]; exact hb0
  have r1 : w2.heap[w.heap.size]? = some (.cells (metaA { m with toks := T } p2) 56 (0, 0)) := by rw [← hw2]; exact o1
  have r2 : w2.heap[w.heap.size + 1]? = some (.cells (metaA m p) 56 (0, 0)) := by rw [← hw2]; exact o2
  clear hw2 o1 o2 hb0
  have x11 : w2.cell? ⟨w.heap.size, 11, none⟩ = some (.slice p2.qs m.slots.length p2.ks) := cell_of_row _ _ 11 _ _ _ r1
  have x12 : w2.cell? ⟨w.heap.size, 12, none⟩ = some (.slice p2.qe m.epochs.length p2.ke) := cell_of_row _ _ 12 _ _ _ r1
  have x13 : w2.cell? ⟨w.heap.size, 13, none⟩ = some (.slice p2.qg m.segs.length p2.kg) := cell_of_row _ _ 13 _ _ _ r1
  have x26 : w2.cell? ⟨w.heap.size, 26, none⟩ = some (.slice p2.qt T.length p2.kt) := cell_of_row _ _ 26 _ _ _ r1
  have y11 : w2.cell? ⟨w.heap.size + 1, 11, none⟩ = some (.slice p.qs m.slots.length p.ks) := cell_of_row _ _ 11 _ _ _ r2
  have y12 : w2.cell? ⟨w.heap.size + 1, 12, none⟩ = some (.slice p.qe m.epochs.length p.ke) := cell_of_row _ _ 12 _ _ _ r2
  have y13 : w2.cell? ⟨w.heap.size + 1, 13, none⟩ = some (.slice p.qg m.segs.length p.kg) := cell_of_row _ _ 13 _ _ _ r2
  have y26 : w2.cell? ⟨w.heap.size + 1, 26, none⟩ = some (.slice p.qt m.toks.length p.kt) := cell_of_row _ _ 26 _ _ _ r2
  have hl2 := (Array.getElem?_eq_some_iff.1 r2).1
  clear r1 r2
  have hlT := HLT.out
  rw [hlT] at x26
  have X11 := Lib.hid x11
  have X12 := Lib.hid x12
  have X26 := Lib.hid x26
  have Y11 := Lib.hid y11
  have Y12 := Lib.hid y12
  have Y26 := Lib.hid y26
  have hl1 : w.heap.size < w2.heap.size := by omega
  go_wp2_with fail
  refine (sameSegs09 p2.qg p.qg p2.kg p.kg m.segs w2 (H.out.g2.below hb2) (H.out.g1.below hb2) H.out.mg).mono ?_
  rintro e w3 ⟨rfl, hb3⟩
  clear x11 x12 x13 x26 y11 y12 y13 y26
  have HB3 := Lib.hid hb3
  have HB2 := Lib.hid hb2
  clear hb3 hb2
  go_wp2
  go_loopw [5] (fun i wr => ∃ k : Nat, k ≤ m.slots.length ∧ i = .int .i64 k ∧ Below w2.heap.size w2 wr) (fun i _ => m.slots.length - (intOf i).toNat)
  case atStart => exact ⟨0, by omega, rfl, HB3.out⟩
  case round =>
    obtain ⟨k, hk, rfl, hb⟩ := hrel
    have HB3 := Lib.hid hb
    have x := (hb.cell (p := ⟨w.heap.size, 11, none⟩) hl1).trans X11.out
    have y := (hb.cell (p := ⟨w.heap.size + 1, 11, none⟩) hl2).trans Y11.out
    have hbw := HB2.out.trans (hb.mono HB2.out.size)
    by_cases hlt : k < m.slots.length
    · obtain ⟨g2, o2, hq2, E2⟩ := lv_cells (sz := 9) (fun _ => rfl) (by decide) (H.out.s2.below hbw) k hlt
      obtain ⟨g1, o1, hq1, E1⟩ := lv_cells (sz := 9) (fun _ => rfl) (by decide) (H.out.s1.below hbw) k hlt
      clear hb hbw
      rw [hq2] at x
      rw [hq1] at y
      clear hq1 hq2
      generalize m.slots[k]'hlt = d at E1 E2
      obtain ⟨z0, z1, z2, z3, z4, z5, z6, z7, z8⟩ := d
      have a0 := E2 0 _ rfl
      have b0 := E1 0 _ rfl
      have a1 := E2 1 _ rfl
      have b1 := E1 1 _ rfl
      have a2 := E2 2 _ rfl
      have b2 := E1 2 _ rfl
      have a3 := E2 3 _ rfl
      have b3 := E1 3 _ rfl
      have a4 := E2 4 _ rfl
      have b4 := E1 4 _ rfl
      have a5 := E2 5 _ rfl
      have b5 := E1 5 _ rfl
      have a6 := E2 6 _ rfl
      have b6 := E1 6 _ rfl
      have a7 := E2 7 _ rfl
      have b7 := E1 7 _ rfl
      have a8 := E2 8 _ rfl
      have b8 := E1 8 _ rfl
      rw [Nat.add_zero] at a0 b0
      clear E1 E2
      go_wp2
      go_region
      go_wp2
      go_roundw
      case rel => exact ⟨k + 1, by omega, rfl, HB3.out.drew⟩
      case measure => simp [intOf]; omega
    · clear hb hbw
      go_wp2
      go_loopw [6] (fun i wr => ∃ k : Nat, k ≤ m.epochs.length ∧ i = .int .i64 k ∧ Below w2.heap.size w2 wr) (fun i _ => m.epochs.length - (intOf i).toNat)
      case atStart => exact ⟨0, by omega, rfl, HB3.out⟩
      case round =>
        obtain ⟨k, hk, rfl, hb⟩ := hrel
        have HB3 := Lib.hid hb
        have x := (hb.cell (p := ⟨w.heap.size, 12, none⟩) hl1).trans X12.out
        have y := (hb.cell (p := ⟨w.heap.size + 1, 12, none⟩) hl2).trans Y12.out
        have hbw := HB2.out.trans (hb.mono HB2.out.size)
        by_cases hlt : k < m.epochs.length
        · obtain ⟨g2, o2, hq2, E2⟩ := lv_cells (sz := 5) (fun _ => rfl) (by decide) (H.out.e2.below hbw) k hlt
          obtain ⟨g1, o1, hq1, E1⟩ := lv_cells (sz := 5) (fun _ => rfl) (by decide) (H.out.e1.below hbw) k hlt
          clear hb hbw
          rw [hq2] at x
          rw [hq1] at y
          clear hq1 hq2
          generalize m.epochs[k]'hlt = d at E1 E2
          obtain ⟨z0, z1, z2, z3, z4⟩ := d
          have a0 := E2 0 _ rfl
          have b0 := E1 0 _ rfl
          have a1 := E2 1 _ rfl
          have b1 := E1 1 _ rfl
          have a2 := E2 2 _ rfl
          have b2 := E1 2 _ rfl
          have a3 := E2 3 _ rfl
          have b3 := E1 3 _ rfl
          have a4 := E2 4 _ rfl
          have b4 := E1 4 _ rfl
          rw [Nat.add_zero] at a0 b0
          clear E1 E2
          go_wp2
          go_region
          go_wp2
          go_roundw
          case rel => exact ⟨k + 1, by omega, rfl, HB3.out.drew⟩
          case measure => simp [intOf]; omega
        · clear hb hbw
          go_wp2
          go_loopw [7] (fun i wr => ∃ k : Nat, k ≤ m.toks.length ∧ i = .int .i64 k ∧ Below w2.heap.size w2 wr) (fun i _ => m.toks.length - (intOf i).toNat)
          case atStart => exact ⟨0, by omega, rfl, HB3.out⟩
          case round =>
            obtain ⟨k, hk, rfl, hb⟩ := hrel
            have HB3 := Lib.hid hb
            have x := (hb.cell (p := ⟨w.heap.size, 26, none⟩) hl1).trans X26.out
            have y := (hb.cell (p := ⟨w.heap.size + 1, 26, none⟩) hl2).trans Y26.out
            have hbw := HB2.out.trans (hb.mono HB2.out.size)
            by_cases hlt : k < m.toks.length
            · have hkT : k < T.length := by rw [HLT.out]; exact hlt
              obtain ⟨g2, o2, hq2, E2⟩ := lv_cells (L := T) (sz := 4) (fun _ => rfl) (by decide) (H.out.t2.below hbw) k hkT
              obtain ⟨g1, o1, hq1, E1⟩ := lv_cells (sz := 4) (fun _ => rfl) (by decide) (H.out.t1.below hbw) k hlt
              have TL : TokLike w (m.toks[k]'hlt) (T[k]'hkT) := H.out.tok k hlt hkT
              have HBW := Lib.hid hbw
              clear hb hbw
              rw [hq2] at x
              rw [hq1] at y
              clear hq1 hq2
              generalize m.toks[k]'hlt = d at E1 TL
              generalize T[k]'hkT = d2 at E2 TL
              obtain ⟨z0, z1, z2, z3, z4, z5, z6⟩ := d
              obtain ⟨v0, v1, v2, v3, v4, v5, v6⟩ := d2
              have t0 : v0 = z0 := TL.num
              have t1 : v1 = z1 := TL.kind
              have t3 : v3 = z3 := TL.n
              have t6 : v6 = z6 := TL.note
              subst t0 t1 t3 t6
              have T2 := Lib.hid TL.max
              have T3 := Lib.hid TL.a
              have T4 := Lib.hid TL.b
              clear TL hkT
              have a0 := E2 0 _ rfl
              have b0 := E1 0 _ rfl
              have a1 := E2 1 _ rfl
              have b1 := E1 1 _ rfl
              have a2 := E2 2 _ rfl
              have b2 := E1 2 _ rfl
              have a3 := E2 3 _ rfl
              have b3 := E1 3 _ rfl
              rw [Nat.add_zero] at a0 b0
              clear E1 E2
              have hw1 : w.heap.size + 1 < wr.heap.size := Nat.lt_of_lt_of_le hl2 HB3.out.size
              go_upto_region 19 with fail
              generalize hw4 : wr.alloc (.cells #[.int .i64 v0, .string v1, .slice v2 v3 v4, .string v6] 41) = w4
              have B4 : Below wr.heap.size wr w4 := by rw [← hw4]; exact (Below.refl _ _).alloc (Nat.le_refl _) _
              have o4 : w4.heap[wr.heap.size]? = some (.cells #[.int .i64 v0, .string v1, .slice v2 v3 v4, .string v6] 41 (0, 0)) := by rw [← hw4]; exact heap_alloc_new wr _
              clear hw4 x a0 a1 a2 a3
              have hg1 := Frame.block_lt b0
              have y' := (B4.cell (p := ⟨w.heap.size + 1, 26, none⟩) hw1).trans y
              have b0' := (B4.cell (p := ⟨g1, _, none⟩) hg1).trans b0
              have b1' := (B4.cell (p := ⟨g1, _, none⟩) hg1).trans b1
              have b2' := (B4.cell (p := ⟨g1, _, none⟩) hg1).trans b2
              have b3' := (B4.cell (p := ⟨g1, _, none⟩) hg1).trans b3
              clear y b0 b1 b2 b3
              go_upto_region 20 with fail
              generalize hw5 : w4.alloc (.cells #[.int .i64 v0, .string v1, .slice z2 v3 z4, .string v6] 41) = w5
              have B5 : Below w4.heap.size w4 w5 := by rw [← hw5]; exact (Below.refl _ _).alloc (Nat.le_refl _) _
              have o5 : w5.heap[w4.heap.size]? = some (.cells #[.int .i64 v0, .string v1, .slice z2 v3 z4, .string v6] 41 (0, 0)) := by rw [← hw5]; exact heap_alloc_new w4 _
              have o45 := (B5.block _ (Array.getElem?_eq_some_iff.1 o4).1).trans o4
              clear hw5 y' b0' b1' b2' b3' o4
              have d0 := cell_of_row _ _ 0 _ _ _ o45
              have d1 := cell_of_row _ _ 1 _ _ _ o45
              have d2 := cell_of_row _ _ 2 _ _ _ o45
              have d3 := cell_of_row _ _ 3 _ _ _ o45
              have f0 := cell_of_row _ _ 0 _ _ _ o5
              have f1 := cell_of_row _ _ 1 _ _ _ o5
              have f2 := cell_of_row _ _ 2 _ _ _ o5
              have f3 := cell_of_row _ _ 3 _ _ _ o5
              clear o45 o5
              simp only [List.getElem?_toArray, List.getElem?_cons_succ, List.getElem?_cons_zero] at d0 d1 d2 d3 f0 f1 f2 f3
              have B45 := HBW.out.trans ((B4.trans (B5.mono B4.size)).mono HBW.out.size)
              have B25 := HB3.out.trans ((B4.trans (B5.mono B4.size)).mono HB3.out.size)
              have HB45 := Lib.hid B45
              have HB25 := Lib.hid B25
              clear B4 B5 B45 B25
              go_wp2_with fail
              refine (Tok.sameInts_any _ _ _ _ _ _ _ T2.out (T4.out.below HB45.out) (T3.out.below HB45.out)).mono ?_
              rintro e w6 ⟨rfl, hb6⟩
              have h35 : Below w2.heap.size w2 w6 := HB25.out.trans (hb6.mono HB25.out.size)
              go_wp2
              go_roundw
              case rel => exact ⟨k + 1, by omega, rfl, h35⟩
              case measure => simp [intOf]; omega
            · have HBW := Lib.hid hbw
              clear hb hbw
              go_wp2
              go_ret
              exact ⟨rfl, HBW.out⟩
end Go.Proofs.YtfchbodbkdkcfaaDoor.Meta
