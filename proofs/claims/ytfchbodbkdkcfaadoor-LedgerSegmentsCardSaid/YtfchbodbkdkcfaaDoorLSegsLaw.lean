/- LedgerSegments answers true. -/
import Derived.Test.YtfchbodbkdkcfaaDoorRSeg
import Derived.Test.YtfchbodbkdkcfaaDoorSpoil9
import Derived.Test.YtfchbodbkdkcfaaDoorWhole
namespace Go.Proofs.YtfchbodbkdkcfaaDoor.Fill
open Go.RowKit Go.Lib Go.Proofs.YtfchbodbkdkcfaaDoor.Coll Go.Proofs.YtfchbodbkdkcfaaDoor.Meta Go.Proofs.YtfchbodbkdkcfaaDoor.Shapes Go.Proofs.YtfchbodbkdkcfaaDoor.Rooms

section
variable {P : Program} {ops : Array Oper} {Q : Exit → Act → World → Prop} {a : Act} {w : World} {o : Oper} {rest : List Oper}
theorem run_storeI (t : TypeId) (hi : (P.info? t).map (·.size) = some 1) (w : World) (b off : Nat) (k : IntKind) (z : Int) {T : TypeId} {cs : Array Value} (hb : w.heap[b]? = some (.cells cs T (0, 0))) (ho : off < cs.size) :
    (Instr.storeAt t (.pointer (some ⟨b, off, none⟩)) (.int k z)).run P w = .ok () (w.setCell ⟨b, off, none⟩ (.int k z)) := by
  cases hie : P.info? t with
  | none => simp [hie] at hi
  | some ie =>
    simp only [hie, Option.map_some, Option.some.injEq] at hi
    have hs : (sizeOf t).run P w = .ok 1 w := by simp [sizeOf, typeInfo, hie, hi]
    have hc := cell_of_row w b off _ _ _ hb
    have hf := frozen_of_row w b off _ _ hb
    rw [Array.getElem?_eq_getElem ho] at hc
    simp [Instr.storeAt, go_sem, storeVar, hs, storeCells, hc, hf]
theorem p_storeI (hgd : o.guard = none) (t : TypeId) (x y : Operand) (ho : o.op = .store t x y) (b off : Nat) (hx : a.eval x = .pointer (some ⟨b, off, none⟩)) (k : IntKind) (z : Int) (hy : a.eval y = .int k z) (hi : (P.info? t).map (·.size) = some 1) {T : TypeId} {cs : Array Value} (hb : w.heap[b]? = some (.cells cs T (0, 0))) (hol : off < cs.size)
    (h : wpList P ops Q rest (a.put o.dst undef) (w.setCell ⟨b, off, none⟩ (.int k z))) : wpList P ops Q (o :: rest) a w :=
  wpList_plain hgd fun K hK => Tree.w_skip (by
    unfold execOp
    simp only [ho, hx, hy, Sem.run_bind, run_storeI t hi w b off k z hb hol, Result.andThen_ok, Sem.run_pure]) (hK _ _ h)
end
theorem SegR.same (w : World) {v1 v2 : Value} {L : List Sg} (h1 : SegR w v1 L) (h2 : SegR w v2 L) (hn : L.length ≤ 2) :
    Calls Tryd.prog 27 #[v1, v2] w fun e w' => e = .returned (.bool true) ∧ Below w.heap.size w w' := by
  obtain ⟨q1, c1, rfl, l1⟩ := h1
  obtain ⟨q2, c2, rfl, l2⟩ := h2
  exact sameSegs09 q1 q2 c1 c2 L w l1 l2 (by omega)
theorem SegV.r {w : World} {B : Nat} {v : Value} {L : List Sg} (h : SegV w B v L) : SegR w v L := by
  obtain ⟨q, c, a, b⟩ := h.lv
  exact ⟨q, c, a, b⟩
theorem SegV.other {w w' : World} {B : Nat} {v : Value} {L : List Sg} (h : SegV w B v L) {ob : Option Nat} (hg : w.grownBy w' ob) (ho : ∀ b, ob = some b → b < B) : SegV w' B v L := by
  rcases h with h | ⟨g, cur, a, b, c, d⟩
  · exact .inl h
  · exact .inr ⟨g, cur, a, b, (hg.block _ (Array.getElem?_eq_some_iff.1 c).1 (fun e => by have := ho _ e.symm; omega)).trans c, d⟩
theorem SegV.block {w : World} {B : Nat} {v : Value} {L : List Sg} (h : SegV w B v L) : ∀ g, v.ownBlock = some g → B ≤ g ∧ g < w.heap.size := by
  intro g hg
  rcases h with ⟨rfl, _⟩ | ⟨g', cur, rfl, b, c, _⟩
  · cases hg
  · obtain rfl : g' = g := by simpa [Value.ownBlock] using hg
    exact ⟨b, (Array.getElem?_eq_some_iff.1 c).1⟩
theorem segsOf_len (m : MetaD) : (segsOf m).length ≤ 2 := by
  unfold segsOf
  repeat' split
  all_goals first | exact sgF_le _ _ | simp
/-- what the law holds -/
structure At (w0 : World) (cs cn : Array Value) (b0 n0 lo : Nat) (m : MetaD) (p : Places) (m2 : MetaD) (p2 : Places) (vw : Value) (X : World) : Prop where
  box : X.heap[b0]? = some (.cells cs 56 (0, 0))
  nrow : X.heap[n0]? = some (.cells cn 56 (0, 0))
  min : MIn X m p
  twin : Meta.Twin lo 1 mS9 mE9 mG9 mT9 X m m2 p2
  want : SegR X vw (segsOf m)
  tab : Table 1 X
  tl : 1 < X.heap.size
  below : Below w0.heap.size w0 X
theorem _root_.Go.Proofs.YtfchbodbkdkcfaaDoor.Meta.MIn.below {w w' : World} {m : MetaD} {p : Places} (h : MIn w m p) (hb : Below w.heap.size w w') : MIn w' m p :=
  ⟨⟨h.s.lv.below hb, h.s.le, h.s.max, h.s.nil, h.s.reach⟩, ⟨h.e.lv.below hb, h.e.le, h.e.max, h.e.nil, h.e.reach⟩, ⟨h.g.lv.below hb, h.g.le, h.g.max, h.g.nil, h.g.reach⟩, ⟨h.t.lv.below hb, h.t.le, h.t.max, h.t.nil, h.t.reach⟩, fun x hx => by
    obtain ⟨a, b, c, d, e⟩ := h.tok x hx
    exact ⟨a, b, c, d.below hb, e⟩⟩
theorem tab_below {w w' : World} (h : Table 1 w) (hl : 1 < w.heap.size) (hb : Below w.heap.size w w') : Table 1 w' := fun i hi => (hb.cell (p := ⟨1, i, none⟩) hl).trans (h i hi)
theorem At.on {w0 X X' : World} {cs cn : Array Value} {b0 n0 lo : Nat} {m m2 : MetaD} {p p2 : Places} {vw : Value} (h : At w0 cs cn b0 n0 lo m p m2 p2 vw X) (hb : Below X.heap.size X X') : At w0 cs cn b0 n0 lo m p m2 p2 vw X' :=
  ⟨(hb.block _ (Array.getElem?_eq_some_iff.1 h.box).1).trans h.box, (hb.block _ (Array.getElem?_eq_some_iff.1 h.nrow).1).trans h.nrow, h.min.below hb, h.twin.below hb, h.want.below hb, tab_below h.tab h.tl hb, Nat.lt_of_lt_of_le h.tl hb.size, h.below.trans (hb.mono h.below.size)⟩

set_option maxRecDepth 100000 in
set_option maxHeartbeats 8000000 in
theorem law_any (m : MetaD) (p : Places) (w : World) (h : MIn w m p) (hr : MR m) (ht : Table 1 w) (hg : 1 < w.heap.size) :
    Calls Tryd.prog 6 #[metaV m p] w fun e w' => e = .returned (.bool true) ∧ Below w.heap.size w w' := by
  have HI := Lib.hid h
  have HR := Lib.hid hr
  have HT := Lib.hid ht
  clear h hr ht
  have hi27 : (Tryd.prog.info? 56).map (·.size) = some 27 := by kernel_rfl
  have V := Lib.hid (metaV_eq m p)
  have hs : (metaA m p).size = 27 := rfl
  have h1c : (metaA m p).all (·.oneCell') = true := by rw [← Array.all_toList]; rfl
  have HD := Lib.hid (show (metaA m p).setIfInBounds 20 (.int .u64 (m.rot.done / 2)) = metaA { m with rot := { m.rot with done := m.rot.done / 2 } } p from rfl)
  have C20 := Lib.hid (show (metaA m p)[20]? = some (.int .u64 m.rot.done) from rfl)
  rw [metaV_eq]
  generalize metaA m p = cs at *
  go_enter Tryd.func6, Tryd.ntmps6
  go_upto_region 1 with fail
  have b1 : Below w.heap.size w (w.alloc (.cells cs 56)) := (Below.refl _ _).alloc (Nat.le_refl _) _
  have o1 := heap_alloc_new w (.cells cs 56)
  generalize w.alloc (.cells cs 56) = w1 at *
  have HI1 := Lib.hid (HI.out.below b1)
  refine wp_region_lit ?_
  refine Tree.p_loadrow rfl _ _ rfl (w.heap.size) rfl (o1) Tryd.underlying56 rfl (by rw [hs]; exact hi27) ?_
  simp only [Act.put, List.setIfInBounds_toArray, List.set_cons_zero, List.set_cons_succ]
  refine Step.p_wp rfl (Step.w_callx 23 [.tmp 8] _ rfl Tryd.func23 (by kernel_rfl) rfl [.agg cs] rfl (by rw [← V.out]; exact wide09_any m p w1 HI1.out) ?_)
  rintro e w2 ⟨rfl, hb2⟩
  refine ⟨_, rfl, ?_⟩
  simp only [Act.put, List.setIfInBounds_toArray, List.set_cons_zero, List.set_cons_succ]
  refine wpList_nil ?_
  try simp only [Act.put, List.setIfInBounds_toArray, List.set_cons_zero, List.set_cons_succ]
  have b2 := b1.trans (hb2.mono b1.size)
  have o2 := (hb2.block _ (Array.getElem?_eq_some_iff.1 o1).1).trans o1
  clear hb2 o1 b1 HI1
  cases hwide : wideB m with
  | true =>
    go_wp2
    go_ret
    exact ⟨rfl, b2⟩
  | false =>
    go_upto_region 3 with fail
    have HI2 := Lib.hid (HI.out.below b2)
    refine wp_region_lit ?_
    refine Tree.p_loadrow rfl _ _ rfl (w.heap.size) rfl (o2) Tryd.underlying56 rfl (by rw [hs]; exact hi27) ?_
    simp only [Act.put, List.setIfInBounds_toArray, List.set_cons_zero, List.set_cons_succ]
    refine Step.p_wp rfl (Step.w_callx 24 [.tmp 10] _ rfl Tryd.func24 (by kernel_rfl) rfl [.agg cs] rfl (by rw [← V.out]; exact twin_any m p w2 HI2.out) ?_)
    rintro e w3 ⟨m2, p2, rfl, htw, hb3⟩
    refine ⟨_, rfl, ?_⟩
    rw [metaV_eq]
    obtain ⟨T, rfl⟩ : ∃ T, m2 = { m with toks := T } := ⟨m2.toks, htw.eq⟩
    have V2 := Lib.hid (metaV_eq { m with toks := T } p2)
    have hs2 : (metaA { m with toks := T } p2).size = 27 := rfl
    have h2c : (metaA { m with toks := T } p2).all (·.oneCell') = true := by rw [← Array.all_toList]; rfl
    generalize metaA { m with toks := T } p2 = cn at *
    simp only [Act.put, List.setIfInBounds_toArray, List.set_cons_zero, List.set_cons_succ]
    refine Tree.p_new rfl 56 rfl (z := .agg metaZ) (by kernel_rfl) ?_
    simp only [Act.put, List.setIfInBounds_toArray, List.set_cons_zero, List.set_cons_succ]
    refine wpList_store_row rfl _ _ _ rfl w3.heap.size cn rfl rfl 56 metaZ (heap_alloc_new w3 _) (by rw [hs2]; exact hi27) (by rw [hs2]; rfl) h2c ?_
    rw [show Value.cells (.agg metaZ) = metaZ from rfl, World.setRow_alloc_new]
    refine wpList_nil ?_
    simp only [Act.put]
    have b4 : Below w.heap.size w (w3.alloc (.cells cn 56)) := (b2.trans (hb3.mono b2.size)).alloc (Nat.le_trans b2.size hb3.size) _
    have b34 : Below w3.heap.size w3 (w3.alloc (.cells cn 56)) := (Below.refl _ _).alloc (Nat.le_refl _) _
    have n4 := heap_alloc_new w3 (.cells cn 56)
    have o4 := (b34.block _ (Nat.lt_of_lt_of_le (Array.getElem?_eq_some_iff.1 o2).1 hb3.size)).trans ((hb3.block _ (Array.getElem?_eq_some_iff.1 o2).1).trans o2)
    have T4 := Lib.hid (htw.below b34)
    generalize w3.alloc (.cells cn 56) = w4 at *
    have HI4 := Lib.hid (HI.out.below b4)
    clear htw hb3 b34 o2 HI2
    go_upto_region 4 with fail
    refine wp_region_lit ?_
    refine Tree.p_loadrow rfl _ _ rfl (w.heap.size) rfl (o4) Tryd.underlying56 rfl (by rw [hs]; exact hi27) ?_
    simp only [Act.put, List.setIfInBounds_toArray, List.set_cons_zero, List.set_cons_succ]
    refine Step.p_wp rfl (Step.w_callx 25 [.tmp 12] _ rfl Tryd.func25 (by kernel_rfl) rfl [.agg cs] rfl (by rw [← V.out]; exact refSegs_any m p w4 ⟨HI4.out.e.lv, Nat.le_trans HI4.out.e.le HI4.out.e.max, HR.out⟩) ?_)
    rintro e w5 ⟨vw, rfl, hw, hb5⟩
    refine ⟨_, rfl, ?_⟩
    simp only [Act.put, List.setIfInBounds_toArray, List.set_cons_zero, List.set_cons_succ]
    refine Step.p_assign rfl _ rfl (vw) rfl ?_
    refine wpList_nil ?_
    try simp only [Act.put, List.setIfInBounds_toArray, List.set_cons_zero, List.set_cons_succ]
    have A5 : Hid (At w cs cn w.heap.size w3.heap.size w2.heap.size m p { m with toks := T } p2 vw w5) := Lib.hid ⟨(hb5.block _ (Array.getElem?_eq_some_iff.1 o4).1).trans o4, (hb5.block _ (Array.getElem?_eq_some_iff.1 n4).1).trans n4, HI4.out.below hb5, T4.out.below hb5, hw, tab_below HT.out hg (b4.trans (hb5.mono b4.size)), Nat.lt_of_lt_of_le hg (b4.trans (hb5.mono b4.size)).size, b4.trans (hb5.mono b4.size)⟩
    have hln := segsOf_len m
    have SG : Hid (∀ X, At w cs cn w.heap.size w3.heap.size w2.heap.size m p { m with toks := T } p2 vw X → Calls Tryd.prog 26 #[.agg cn] X fun e w' => ∃ v, e = .returned v ∧ SegV w' X.heap.size v (segsOf m) ∧ Below X.heap.size X w') := Lib.hid fun X hX => by
      rw [← V2.out]
      exact segs_any { m with toks := T } p2 X ⟨hX.twin.e.lv, Nat.le_trans hX.min.e.le hX.min.e.max, ⟨HR.out.unit, HR.out.count, HR.out.head, HR.out.keys, HR.out.turns, HR.out.fr, HR.out.tn, HR.out.mode, HR.out.hot, HR.out.done, HR.out.off, HR.out.size, HR.out.rcount⟩⟩ hX.tab hX.tl
    have SW : Hid (∀ X, At w cs cn w.heap.size w3.heap.size w2.heap.size m p { m with toks := T } p2 vw X → Calls Tryd.prog 28 #[.agg cn, .agg cs] X fun e w' => e = .returned (.bool true) ∧ Below X.heap.size X w') := Lib.hid fun X hX => by
      rw [← V2.out, ← V.out]
      exact whole09 _ m { m with toks := T } p p2 X hX.min hX.twin
    have hse : segsOf { m with toks := T } = segsOf m := rfl
    clear o4 n4 hw hb5 b4 HI4 T4 b2
    go_upto_region 5 with fail
    refine wp_region_lit ?_
    refine Tree.p_loadrow rfl _ _ rfl (w3.heap.size) rfl (A5.out.nrow) Tryd.underlying56 rfl (by rw [hs2]; exact hi27) ?_
    simp only [Act.put, List.setIfInBounds_toArray, List.set_cons_zero, List.set_cons_succ]
    refine Step.p_wp rfl (Step.w_callx 26 [.tmp 14] _ rfl Tryd.func26 (by kernel_rfl) rfl [.agg cn] rfl (SG.out w5 A5.out) ?_)
    rintro e w6 ⟨va, rfl, hva, hb6⟩
    refine ⟨_, rfl, ?_⟩
    simp only [Act.put, List.setIfInBounds_toArray, List.set_cons_zero, List.set_cons_succ]
    refine Step.p_assign rfl _ rfl (va) rfl ?_
    refine wpList_nil ?_
    try simp only [Act.put, List.setIfInBounds_toArray, List.set_cons_zero, List.set_cons_succ]
    have A6 := Lib.hid (A5.out.on hb6)
    have VA6 := Lib.hid hva
    have VAB := Lib.hid (fun g hg => (hva.block g hg).2)
    have B56 := Lib.hid hb6
    clear hva hb6
    go_upto_region 6 with fail
    refine wp_region_lit ?_
    refine Tree.p_loadrow rfl _ _ rfl (w3.heap.size) rfl (A6.out.nrow) Tryd.underlying56 rfl (by rw [hs2]; exact hi27) ?_
    simp only [Act.put, List.setIfInBounds_toArray, List.set_cons_zero, List.set_cons_succ]
    refine Step.p_wp rfl (Step.w_callx 26 [.tmp 16] _ rfl Tryd.func26 (by kernel_rfl) rfl [.agg cn] rfl (SG.out w6 A6.out) ?_)
    rintro e w7 ⟨vb, rfl, hvb, hb7⟩
    refine ⟨_, rfl, ?_⟩
    simp only [Act.put, List.setIfInBounds_toArray, List.set_cons_zero, List.set_cons_succ]
    refine Step.p_assign rfl _ rfl (vb) rfl ?_
    refine wpList_nil ?_
    try simp only [Act.put, List.setIfInBounds_toArray, List.set_cons_zero, List.set_cons_succ]
    have A7 := Lib.hid (A6.out.on hb7)
    have VA7 := Lib.hid (VA6.out.below hb7)
    have VB7 := Lib.hid hvb
    have B67 := Lib.hid hb7
    clear hvb hb7 VA6
    go_upto_region 7 with fail
    refine wp_region_lit ?_
    refine Tree.p_loadrow rfl _ _ rfl (w.heap.size) rfl (A7.out.box) Tryd.underlying56 rfl (by rw [hs]; exact hi27) ?_
    simp only [Act.put, List.setIfInBounds_toArray, List.set_cons_zero, List.set_cons_succ]
    refine Tree.p_new rfl 56 rfl (z := .agg metaZ) (by kernel_rfl) ?_
    simp only [Act.put, List.setIfInBounds_toArray, List.set_cons_zero, List.set_cons_succ]
    refine wpList_store_row rfl _ _ _ rfl w7.heap.size cs rfl rfl 56 metaZ (heap_alloc_new w7 _) (by rw [hs]; exact hi27) (by rw [hs]; rfl) h1c ?_
    rw [show Value.cells (.agg metaZ) = metaZ from rfl, World.setRow_alloc_new]
    refine wpList_nil ?_
    simp only [Act.put]
    have b78 : Below w7.heap.size w7 (w7.alloc (.cells cs 56)) := (Below.refl _ _).alloc (Nat.le_refl _) _
    have n8 := heap_alloc_new w7 (.cells cs 56)
    generalize w7.alloc (.cells cs 56) = w8 at *
    go_upto_region 8 with fail
    refine wp_region_lit ?_
    refine Tree.p_field rfl _ _ _ rfl w.heap.size 0 rfl Tryd.underlying56 rfl (sz := 12) (by kernel_rfl) (by decide) 14 rfl ?_
    simp only [Act.put, List.setIfInBounds_toArray, List.set_cons_zero, List.set_cons_succ]
    refine Tree.p_field rfl _ _ _ rfl w.heap.size 14 rfl Tryd.underlying53 rfl (sz := 1) (by kernel_rfl) (by decide) 20 rfl ?_
    simp only [Act.put, List.setIfInBounds_toArray, List.set_cons_zero, List.set_cons_succ]
    refine Tree.p_load1 rfl _ _ rfl w.heap.size 20 rfl (.int .u64 m.rot.done) ((cell_of_row _ _ 20 _ _ _ (A7.out.on b78).box).trans C20.out) Tryd.underlying22 rfl ?_
    simp only [Act.put, List.setIfInBounds_toArray, List.set_cons_zero, List.set_cons_succ]
    have rd : 0 ≤ m.rot.done ∧ m.rot.done ≤ 18446744073709551615 := HR.out.done
    refine Step.p_val rfl (.int .u64 (m.rot.done / 2)) (by unfold execOp; go_simp; rw [Int.tdiv_eq_ediv_of_nonneg rd.1]; show (m.rot.done / 2) % 18446744073709551616 = _; omega) ?_
    simp only [Act.put, List.setIfInBounds_toArray, List.set_cons_zero, List.set_cons_succ]
    refine Tree.p_field rfl _ _ _ rfl w7.heap.size 0 rfl Tryd.underlying56 rfl (sz := 12) (by kernel_rfl) (by decide) 14 rfl ?_
    simp only [Act.put, List.setIfInBounds_toArray, List.set_cons_zero, List.set_cons_succ]
    refine Tree.p_field rfl _ _ _ rfl w7.heap.size 14 rfl Tryd.underlying53 rfl (sz := 1) (by kernel_rfl) (by decide) 20 rfl ?_
    simp only [Act.put, List.setIfInBounds_toArray, List.set_cons_zero, List.set_cons_succ]
    refine p_storeI rfl _ _ _ rfl w7.heap.size 20 rfl .u64 (m.rot.done / 2) rfl (by kernel_rfl) n8 (by rw [hs]; decide) ?_
    refine wpList_nil ?_
    simp only [Act.put]
    have b89 : Below w7.heap.size w7 (w8.setCell ⟨w7.heap.size, 20, none⟩ (.int .u64 (m.rot.done / 2))) := below_of_gb (Tree.grown_trans (gb_of_below b78) (Tree.grown_setCell (Tree.grown_refl w8) ⟨w7.heap.size, 20, none⟩ _) (fun b hb => by cases hb; exact Nat.le_refl _))
    have n9 := heap_setCell_same w8 w7.heap.size 20 _ _ (.int .u64 (m.rot.done / 2)) n8
    rw [HD.out] at n9
    generalize w8.setCell ⟨w7.heap.size, 20, none⟩ (.int .u64 (m.rot.done / 2)) = w9 at *
    clear n8 b78
    have A9 := Lib.hid (A7.out.on b89)
    have B79 := Lib.hid b89
    clear b89
    have hs3 : (metaA { m with rot := { m.rot with done := m.rot.done / 2 } } p).size = 27 := rfl
    have V3 := Lib.hid (metaV_eq { m with rot := { m.rot with done := m.rot.done / 2 } } p)
    have S3 : Hid (SIn w9 { m with rot := { m.rot with done := m.rot.done / 2 } } p) := Lib.hid ⟨A9.out.min.e.lv, Nat.le_trans A9.out.min.e.le A9.out.min.e.max, ⟨HR.out.unit, HR.out.count, HR.out.head, HR.out.keys, HR.out.turns, HR.out.fr, HR.out.tn, HR.out.mode, HR.out.hot, (show 0 ≤ m.rot.done / 2 ∧ m.rot.done / 2 ≤ 18446744073709551615 by omega), HR.out.off, HR.out.size, HR.out.rcount⟩⟩
    generalize metaA { m with rot := { m.rot with done := m.rot.done / 2 } } p = co at *
    go_upto_region 9 with fail
    refine wp_region_lit ?_
    refine Tree.p_loadrow rfl _ _ rfl (w7.heap.size) rfl (n9) Tryd.underlying56 rfl (by rw [hs3]; exact hi27) ?_
    simp only [Act.put, List.setIfInBounds_toArray, List.set_cons_zero, List.set_cons_succ]
    refine Step.p_wp rfl (Step.w_callx 26 [.tmp 25] _ rfl Tryd.func26 (by kernel_rfl) rfl [.agg co] rfl (by rw [← V3.out]; exact segs_any _ p w9 S3.out A9.out.tab A9.out.tl) ?_)
    rintro e w10 ⟨vo, rfl, _, hb10⟩
    refine ⟨_, rfl, ?_⟩
    simp only [Act.put, List.setIfInBounds_toArray, List.set_cons_zero, List.set_cons_succ]
    refine wpList_nil ?_
    try simp only [Act.put, List.setIfInBounds_toArray, List.set_cons_zero, List.set_cons_succ]
    have A10 := Lib.hid (A9.out.on hb10)
    have B710 := Lib.hid (B79.out.trans (hb10.mono B79.out.size))
    clear hb10 n9 A9 S3
    have VA10 := Lib.hid (VA7.out.below B710.out)
    have VB10 := Lib.hid (VB7.out.below B710.out)
    go_upto_region 10 with fail
    refine wp_region_lit ?_
    refine Step.p_move rfl _ rfl (va) rfl ?_
    simp only [Act.put, List.setIfInBounds_toArray, List.set_cons_zero, List.set_cons_succ]
    refine Step.p_move rfl _ rfl (vw) rfl ?_
    simp only [Act.put, List.setIfInBounds_toArray, List.set_cons_zero, List.set_cons_succ]
    refine Step.p_wp rfl (Step.w_callx 27 [.tmp 27, .tmp 28] _ rfl Tryd.func27 (by kernel_rfl) rfl [va, vw] rfl (SegR.same w10 VA10.out.r A10.out.want hln) ?_)
    rintro e w11 ⟨rfl, hb11⟩
    refine ⟨_, rfl, ?_⟩
    simp only [Act.put, List.setIfInBounds_toArray, List.set_cons_zero, List.set_cons_succ]
    have A11 := Lib.hid (A10.out.on hb11)
    have VA11 := Lib.hid (VA10.out.below hb11)
    have VB11 := Lib.hid (VB10.out.below hb11)
    refine Step.p_val rfl (.bool false) (by unfold execOp; go_simp) ?_
    simp only [Act.put, List.setIfInBounds_toArray, List.set_cons_zero, List.set_cons_succ]
    refine Step.p_move rfl _ rfl (.bool false) rfl ?_
    simp only [Act.put, List.setIfInBounds_toArray, List.set_cons_zero, List.set_cons_succ]
    refine Step.p_move rfl _ rfl (vb) rfl ?_
    simp only [Act.put, List.setIfInBounds_toArray, List.set_cons_zero, List.set_cons_succ]
    refine Step.p_move rfl _ rfl (vw) rfl ?_
    simp only [Act.put, List.setIfInBounds_toArray, List.set_cons_zero, List.set_cons_succ]
    refine Step.p_wp rfl (Step.w_callx 27 [.tmp 32, .tmp 33] _ rfl Tryd.func27 (by kernel_rfl) rfl [vb, vw] rfl (SegR.same w11 VB11.out.r A11.out.want hln) ?_)
    rintro e w12 ⟨rfl, hb12⟩
    refine ⟨_, rfl, ?_⟩
    simp only [Act.put, List.setIfInBounds_toArray, List.set_cons_zero, List.set_cons_succ]
    have A12 := Lib.hid (A11.out.on hb12)
    have VA12 := Lib.hid (VA11.out.below hb12)
    have VB12 := Lib.hid (VB11.out.below hb12)
    refine Step.p_val rfl (.bool false) (by unfold execOp; go_simp) ?_
    simp only [Act.put, List.setIfInBounds_toArray, List.set_cons_zero, List.set_cons_succ]
    refine Step.p_pick rfl _ _ _ rfl _ rfl (.bool false) rfl ?_
    simp only [Act.put, List.setIfInBounds_toArray, List.set_cons_zero, List.set_cons_succ]
    refine Step.p_move rfl _ rfl (.bool false) rfl ?_
    simp only [Act.put, List.setIfInBounds_toArray, List.set_cons_zero, List.set_cons_succ]
    refine Tree.p_loadrow rfl _ _ rfl (w3.heap.size) rfl (A12.out.nrow) Tryd.underlying56 rfl (by rw [hs2]; exact hi27) ?_
    simp only [Act.put, List.setIfInBounds_toArray, List.set_cons_zero, List.set_cons_succ]
    refine Tree.p_loadrow rfl _ _ rfl (w.heap.size) rfl (A12.out.box) Tryd.underlying56 rfl (by rw [hs]; exact hi27) ?_
    simp only [Act.put, List.setIfInBounds_toArray, List.set_cons_zero, List.set_cons_succ]
    refine Step.p_wp rfl (Step.w_callx 28 [.tmp 38, .tmp 39] _ rfl Tryd.func28 (by kernel_rfl) rfl [.agg cn, .agg cs] rfl (SW.out w12 A12.out) ?_)
    rintro e w13 ⟨rfl, hb13⟩
    refine ⟨_, rfl, ?_⟩
    simp only [Act.put, List.setIfInBounds_toArray, List.set_cons_zero, List.set_cons_succ]
    have A13 := Lib.hid (A12.out.on hb13)
    have VA13 := Lib.hid (VA12.out.below hb13)
    have VB13 := Lib.hid (VB12.out.below hb13)
    have B713 := Lib.hid (((B710.out.trans (hb11.mono B710.out.size)).trans (hb12.mono (Nat.le_trans B710.out.size hb11.size))).trans (hb13.mono (Nat.le_trans (Nat.le_trans B710.out.size hb11.size) hb12.size)))
    clear hb11 hb12 hb13 A10 A11 A12 VA10 VA11 VA12 VB10 VB11 VB12
    refine Step.p_val rfl (.bool false) (by unfold execOp; go_simp) ?_
    simp only [Act.put, List.setIfInBounds_toArray, List.set_cons_zero, List.set_cons_succ]
    refine Step.p_pick rfl _ _ _ rfl _ rfl (.bool false) rfl ?_
    simp only [Act.put, List.setIfInBounds_toArray, List.set_cons_zero, List.set_cons_succ]
    refine wpList_nil ?_
    try simp only [Act.put, List.setIfInBounds_toArray, List.set_cons_zero, List.set_cons_succ]
    go_upto_region 12 with fail
    refine wp_region_lit ?_
    refine Step.p_move rfl _ rfl (va) rfl ?_
    simp only [Act.put, List.setIfInBounds_toArray, List.set_cons_zero, List.set_cons_succ]
    obtain ⟨qa, ca, hqa⟩ : ∃ qa ca, va = .slice qa (segsOf m).length ca := by
      obtain ⟨q, c, a, _⟩ := VA13.out.r
      exact ⟨q, c, a⟩
    have hmg : metaG va = metaG (.slice qa (segsOf m).length ca) := by rw [hqa]
    refine Step.p_val rfl (.agg (metaG va)) (by rw [hmg, hqa]; unfold execOp metaG metaZ; go_simp) ?_
    simp only [Act.put, List.setIfInBounds_toArray, List.set_cons_zero, List.set_cons_succ]
    refine Step.p_wp rfl (Step.w_callx 29 [.tmp 44] _ rfl Tryd.func29 (by kernel_rfl) rfl [.agg (metaG va)] rfl (spoil9_any va (segsOf m).length w13 hln (by rcases VA13.out with ⟨a, b⟩ | ⟨g, cur, a, _, c, d, _⟩; exact .inl ⟨a, by rw [b]; rfl⟩; exact .inr ⟨g, cur, a, c, d⟩)) ?_)
    rintro e w14 ⟨⟨x, rfl⟩, hg14⟩
    refine ⟨_, rfl, ?_⟩
    simp only [Act.put, List.setIfInBounds_toArray, List.set_cons_zero, List.set_cons_succ]
    refine wpList_nil ?_
    try simp only [Act.put, List.setIfInBounds_toArray, List.set_cons_zero, List.set_cons_succ]
    have hva := VA7.out.block
    have hva6 : ∀ g, va.ownBlock = some g → w5.heap.size ≤ g ∧ g < w6.heap.size := fun g hg => ⟨(hva g hg).1, VAB.out g hg⟩
    have B514 : Below w5.heap.size w5 w14 := ((B56.out.trans (B67.out.mono B56.out.size)).trans (B713.out.mono (Nat.le_trans B56.out.size B67.out.size))).trans ⟨hg14.os, hg14.tape, hg14.output, hg14.size, fun k hk => hg14.block k (Nat.lt_of_lt_of_le hk (Nat.le_trans B56.out.size (Nat.le_trans B67.out.size B713.out.size))) (fun e => by have := (hva6 k e.symm).1; omega)⟩
    have A14 := Lib.hid (A5.out.on B514)
    have VB14 := Lib.hid (VB13.out.other hg14 (fun b hb => (hva6 b hb).2))
    clear hg14 hva hva6 B514
    go_upto_region 13 with fail
    refine wp_region_lit ?_
    refine Step.p_move rfl _ rfl (vb) rfl ?_
    simp only [Act.put, List.setIfInBounds_toArray, List.set_cons_zero, List.set_cons_succ]
    refine Step.p_move rfl _ rfl (vw) rfl ?_
    simp only [Act.put, List.setIfInBounds_toArray, List.set_cons_zero, List.set_cons_succ]
    refine Step.p_wp rfl (Step.w_callx 27 [.tmp 46, .tmp 47] _ rfl Tryd.func27 (by kernel_rfl) rfl [vb, vw] rfl (SegR.same w14 VB14.out.r A14.out.want hln) ?_)
    rintro e w15 ⟨rfl, hb15⟩
    refine ⟨_, rfl, ?_⟩
    simp only [Act.put, List.setIfInBounds_toArray, List.set_cons_zero, List.set_cons_succ]
    have A15 := Lib.hid (A14.out.on hb15)
    refine Step.p_move rfl _ rfl (.bool true) rfl ?_
    simp only [Act.put, List.setIfInBounds_toArray, List.set_cons_zero, List.set_cons_succ]
    refine Tree.p_loadrow rfl _ _ rfl (w3.heap.size) rfl (A15.out.nrow) Tryd.underlying56 rfl (by rw [hs2]; exact hi27) ?_
    simp only [Act.put, List.setIfInBounds_toArray, List.set_cons_zero, List.set_cons_succ]
    refine Step.p_wp rfl (Step.w_callx 26 [.tmp 50] _ rfl Tryd.func26 (by kernel_rfl) rfl [.agg cn] rfl (SG.out w15 A15.out) ?_)
    rintro e w16 ⟨vc, rfl, hvc, hb16⟩
    refine ⟨_, rfl, ?_⟩
    simp only [Act.put, List.setIfInBounds_toArray, List.set_cons_zero, List.set_cons_succ]
    have A16 := Lib.hid (A15.out.on hb16)
    refine Step.p_move rfl _ rfl (vw) rfl ?_
    simp only [Act.put, List.setIfInBounds_toArray, List.set_cons_zero, List.set_cons_succ]
    refine Step.p_wp rfl (Step.w_callx 27 [.tmp 51, .tmp 52] _ rfl Tryd.func27 (by kernel_rfl) rfl [vc, vw] rfl (SegR.same w16 hvc.r A16.out.want hln) ?_)
    rintro e w17 ⟨rfl, hb17⟩
    refine ⟨_, rfl, ?_⟩
    simp only [Act.put, List.setIfInBounds_toArray, List.set_cons_zero, List.set_cons_succ]
    have A17 := Lib.hid (A16.out.on hb17)
    refine Step.p_pick rfl _ _ _ rfl _ rfl (.bool true) rfl ?_
    simp only [Act.put, List.setIfInBounds_toArray, List.set_cons_zero, List.set_cons_succ]
    refine Step.p_move rfl _ rfl (.bool true) rfl ?_
    simp only [Act.put, List.setIfInBounds_toArray, List.set_cons_zero, List.set_cons_succ]
    refine Tree.p_loadrow rfl _ _ rfl (w3.heap.size) rfl (A17.out.nrow) Tryd.underlying56 rfl (by rw [hs2]; exact hi27) ?_
    simp only [Act.put, List.setIfInBounds_toArray, List.set_cons_zero, List.set_cons_succ]
    refine Tree.p_loadrow rfl _ _ rfl (w.heap.size) rfl (A17.out.box) Tryd.underlying56 rfl (by rw [hs]; exact hi27) ?_
    simp only [Act.put, List.setIfInBounds_toArray, List.set_cons_zero, List.set_cons_succ]
    refine Step.p_wp rfl (Step.w_callx 28 [.tmp 56, .tmp 57] _ rfl Tryd.func28 (by kernel_rfl) rfl [.agg cn, .agg cs] rfl (SW.out w17 A17.out) ?_)
    rintro e w18 ⟨rfl, hb18⟩
    refine ⟨_, rfl, ?_⟩
    simp only [Act.put, List.setIfInBounds_toArray, List.set_cons_zero, List.set_cons_succ]
    have A18 := Lib.hid (A17.out.on hb18)
    refine Step.p_pick rfl _ _ _ rfl _ rfl (.bool true) rfl ?_
    simp only [Act.put, List.setIfInBounds_toArray, List.set_cons_zero, List.set_cons_succ]
    refine Step.p_assign rfl _ rfl (.bool true) rfl ?_
    refine wpList_nil ?_
    try simp only [Act.put, List.setIfInBounds_toArray, List.set_cons_zero, List.set_cons_succ]
    go_wp2
    go_ret
    exact ⟨rfl, A18.out.below⟩
end Go.Proofs.YtfchbodbkdkcfaaDoor.Fill
