/- RekeyNexts answers true. -/
import Derived.Test.YtfchbodbkdkcfaaDoorRk10
import Derived.Test.YtfchbodbkdkcfaaDoorUntouched
namespace Go.Proofs.YtfchbodbkdkcfaaDoor.Rk
open Go.RowKit Go.Lib Go.Proofs.YtfchbodbkdkcfaaDoor.Coll Go.Proofs.YtfchbodbkdkcfaaDoor.Meta Go.Proofs.YtfchbodbkdkcfaaDoor.Rooms

theorem win_of {w : World} {m : MetaD} {p : Places} (h : MIn w m p) (hr : MR m) (hs : m.rot.sum.size ≤ 9223372036854775807) : WIn w m p :=
  ⟨h.e.lv, Nat.le_trans h.e.le h.e.max, h.g.lv, Nat.le_trans h.g.le h.g.max, hs, hr⟩

set_option maxRecDepth 100000 in
theorem meta_sum {w : World} {r : Reach} {b : Nat} {m : MetaD} {p : Places} (hv : Value.okWide Tryd.prog w r b 56 (metaV m p)) : m.rot.sum.size ≤ 9223372036854775807 := by
  obtain ⟨cs, hcs, hn, hk⟩ := open_cells (ts := [9, 9, 9, 9, 3, 22, 3, 3, 3, 9, 9, 47, 48, 49,
    4, 22, 22, 4, 3, 22, 22, 2, 2, 4, 22, 9, 54]) (n := 27) Tryd.underlying56 (by kernel_rfl) (by kernel_rfl) hv
  have e : metaA m p = cs := by
    have := (metaV_eq m p).symm.trans hcs
    simpa using this
  have h25 : cs[25]? = some (.string m.rot.sum) := by rw [← e]; rfl
  obtain ⟨z, hz, hb⟩ := cell_str Tryd.underlying9 (hk 25 _ _ rfl h25)
  cases hz
  have hb' : (m.rot.sum.size : Int) ≤ 9223372036854775807 := hb
  omega
/-- what the law holds -/
structure At (w0 : World) (cs cn : Array Value) (b0 n0 lo : Nat) (m : MetaD) (p : Places) (m2 : MetaD) (p2 : Places) (X : World) : Prop where
  box : X.heap[b0]? = some (.cells cs 56 (0, 0))
  nrow : X.heap[n0]? = some (.cells cn 56 (0, 0))
  min : MIn X m p
  twin : Meta.Twin lo 2 mS13 mE13 mG13 mT13 X m m2 p2
  tab : Table 0 X
  tl : 0 < X.heap.size
  below : Below w0.heap.size w0 X
theorem min_below {w w' : World} {m : MetaD} {p : Places} (h : MIn w m p) (hb : Below w.heap.size w w') : MIn w' m p := MIn.gb h (gb_of_below hb)
theorem At.on {w0 X X' : World} {cs cn : Array Value} {b0 n0 lo : Nat} {m m2 : MetaD} {p p2 : Places} (h : At w0 cs cn b0 n0 lo m p m2 p2 X) (hb : Below X.heap.size X X') : At w0 cs cn b0 n0 lo m p m2 p2 X' :=
  ⟨(hb.block _ (Array.getElem?_eq_some_iff.1 h.box).1).trans h.box, (hb.block _ (Array.getElem?_eq_some_iff.1 h.nrow).1).trans h.nrow, min_below h.min hb, h.twin.below hb, tab_below h.tab h.tl hb, Nat.lt_of_lt_of_le h.tl hb.size, h.below.trans (hb.mono h.below.size)⟩

set_option maxRecDepth 100000 in
set_option maxHeartbeats 8000000 in
theorem nexts_any (m : MetaD) (p : Places) (w : World) (h : MIn w m p) (hr : MR m) (hsum : m.rot.sum.size ≤ 9223372036854775807) (ht : Table 0 w) (hg : 0 < w.heap.size) :
    Calls Tryd.prog 8 #[metaV m p] w fun e w' => e = .returned (.bool true) ∧ Below w.heap.size w w' := by
  have HI := Lib.hid h
  have HR := Lib.hid hr
  have HT := Lib.hid ht
  clear h hr ht
  have hi27 : (Tryd.prog.info? 56).map (·.size) = some 27 := by kernel_rfl
  have V := Lib.hid (metaV_eq m p)
  have hs : (metaA m p).size = 27 := rfl
  rw [metaV_eq]
  generalize metaA m p = cs at *
  go_enter Tryd.func8, Tryd.ntmps8
  go_upto_region 1 with fail
  have b1 : Below w.heap.size w (w.alloc (.cells cs 56)) := (Below.refl _ _).alloc (Nat.le_refl _) _
  have o1 := heap_alloc_new w (.cells cs 56)
  generalize w.alloc (.cells cs 56) = w1 at *
  have HI1 := Lib.hid (min_below HI.out b1)
  refine wp_region_lit ?_
  refine Tree.p_loadrow rfl _ _ rfl (w.heap.size) rfl (o1) Tryd.underlying56 rfl (by rw [hs]; exact hi27) ?_
  simp only [Act.put, List.setIfInBounds_toArray, List.set_cons_zero, List.set_cons_succ]
  refine Step.p_wp rfl (Step.w_callx 30 [.tmp 10] _ rfl Tryd.func30 (by kernel_rfl) rfl [.agg cs] rfl (by rw [← V.out]; exact wide13_any m p w1 HI1.out) ?_)
  rintro e w2 ⟨rfl, hb2⟩
  refine ⟨_, rfl, ?_⟩
  simp only [Act.put, List.setIfInBounds_toArray, List.set_cons_zero, List.set_cons_succ]
  refine wpList_nil ?_
  have b2 := b1.trans (hb2.mono b1.size)
  have o2 := (hb2.block _ (Array.getElem?_eq_some_iff.1 o1).1).trans o1
  clear hb2 o1 b1 HI1
  cases hwide : wideB m with
  | true =>
    go_wp2
    go_ret
    exact ⟨rfl, b2⟩
  | false =>
    go_upto_region 3 with fail
    have HI2 := Lib.hid (min_below HI.out b2)
    refine wp_region_lit ?_
    refine Tree.p_loadrow rfl _ _ rfl (w.heap.size) rfl (o2) Tryd.underlying56 rfl (by rw [hs]; exact hi27) ?_
    simp only [Act.put, List.setIfInBounds_toArray, List.set_cons_zero, List.set_cons_succ]
    refine Step.p_wp rfl (Step.w_callx 31 [.tmp 12] _ rfl Tryd.func31 (by kernel_rfl) rfl [.agg cs] rfl (by rw [← V.out]; exact roomy_any m p w2 HI2.out) ?_)
    rintro e w3 ⟨m2, p2, rfl, htw, hb3⟩
    refine ⟨_, rfl, ?_⟩
    rw [metaV_eq]
    obtain ⟨T, rfl⟩ : ∃ T, m2 = { m with toks := T } := ⟨m2.toks, htw.eq⟩
    have V2 := Lib.hid (metaV_eq { m with toks := T } p2)
    have hs2 : (metaA { m with toks := T } p2).size = 27 := rfl
    have h2c : (metaA { m with toks := T } p2).all (·.oneCell') = true := by rw [← Array.all_toList]; rfl
    generalize metaA { m with toks := T } p2 = cn at *
    simp only [Act.put, List.setIfInBounds_toArray, List.set_cons_zero, List.set_cons_succ]
    refine Tree.p_new rfl 56 rfl (z := .agg metaZ) (by kernel_rfl) ?_
    simp only [Act.put, List.setIfInBounds_toArray, List.set_cons_zero, List.set_cons_succ]
    refine wpList_store_row rfl _ _ _ rfl w3.heap.size cn rfl rfl 56 metaZ (heap_alloc_new w3 _) (by rw [hs2]; exact hi27) (by rw [hs2]; rfl) h2c ?_
    rw [show Value.cells (.agg metaZ) = metaZ from rfl, World.setRow_alloc_new]
    refine wpList_nil ?_
    simp only [Act.put]
    have b4 : Below w.heap.size w (w3.alloc (.cells cn 56)) := (b2.trans (hb3.mono b2.size)).alloc (Nat.le_trans b2.size hb3.size) _
    have b34 : Below w3.heap.size w3 (w3.alloc (.cells cn 56)) := (Below.refl _ _).alloc (Nat.le_refl _) _
    have A4 : Hid (At w cs cn w.heap.size w3.heap.size w2.heap.size m p { m with toks := T } p2 (w3.alloc (.cells cn 56))) := Lib.hid ⟨(b34.block _ (Nat.lt_of_lt_of_le (Array.getElem?_eq_some_iff.1 o2).1 hb3.size)).trans ((hb3.block _ (Array.getElem?_eq_some_iff.1 o2).1).trans o2), heap_alloc_new w3 _, min_below HI.out b4, htw.below b34, tab_below HT.out hg b4, Nat.lt_of_lt_of_le hg b4.size, b4⟩
    generalize w3.alloc (.cells cn 56) = w4 at *
    clear htw hb3 b34 o2 HI2 b4 b2
    obtain ⟨A, hA⟩ : ∃ A, nxA m = A := ⟨_, rfl⟩
    obtain ⟨C, hC⟩ : ∃ C, nxC m = C := ⟨_, rfl⟩
    obtain ⟨E, hE⟩ : ∃ E, nxE m = E := ⟨_, rfl⟩
    have hm2 : nxA { m with toks := T } = A ∧ nxC { m with toks := T } = C ∧ nxE { m with toks := T } = E := ⟨hA, hC, hE⟩
    have N1 := next_any { m with toks := T } p2 w4 ⟨A4.out.twin.e.lv, Nat.le_trans A4.out.min.e.le A4.out.min.e.max, A4.out.twin.g.lv, Nat.le_trans A4.out.min.g.le A4.out.min.g.max, hsum, ⟨HR.out.unit, HR.out.count, HR.out.head, HR.out.keys, HR.out.turns, HR.out.fr, HR.out.tn, HR.out.mode, HR.out.hot, HR.out.done, HR.out.off, HR.out.size, HR.out.rcount⟩⟩ A4.out.tab A4.out.tl
    rw [hm2.1, hm2.2.1, hm2.2.2, V2.out] at N1
    have HN1 := Lib.hid N1
    clear N1 hm2
    go_upto_region 4 with fail
    refine wp_region_lit ?_
    refine Tree.p_loadrow rfl _ _ rfl (w3.heap.size) rfl (A4.out.nrow) Tryd.underlying56 rfl (by rw [hs2]; exact hi27) ?_
    simp only [Act.put, List.setIfInBounds_toArray, List.set_cons_zero, List.set_cons_succ]
    refine Step.p_wp rfl (Step.w_callx 37 [.tmp 15] _ rfl Tryd.func37 (by kernel_rfl) rfl [.agg cn] rfl (HN1.out) ?_)
    rintro e w5 ⟨rfl, hb5⟩
    refine ⟨_, rfl, ?_⟩
    simp only [Act.put, List.setIfInBounds_toArray, List.set_cons_zero, List.set_cons_succ]
    refine Step.p_move rfl _ rfl (.tuple #[.int .u64 A, .int .u64 C, .int .i64 E]) rfl ?_
    simp only [Act.put, List.setIfInBounds_toArray, List.set_cons_zero, List.set_cons_succ]
    refine Step.p_val rfl (.int .u64 A) (by unfold execOp; go_simp) ?_
    simp only [Act.put, List.setIfInBounds_toArray, List.set_cons_zero, List.set_cons_succ]
    refine Step.p_val rfl (.int .u64 C) (by unfold execOp; go_simp) ?_
    simp only [Act.put, List.setIfInBounds_toArray, List.set_cons_zero, List.set_cons_succ]
    refine Step.p_val rfl (.int .i64 E) (by unfold execOp; go_simp) ?_
    simp only [Act.put, List.setIfInBounds_toArray, List.set_cons_zero, List.set_cons_succ]
    refine Step.p_assign rfl _ rfl (.int .u64 A) rfl ?_
    simp only [Act.put, List.setIfInBounds_toArray, List.set_cons_zero, List.set_cons_succ]
    refine Step.p_assign rfl _ rfl (.int .u64 C) rfl ?_
    simp only [Act.put, List.setIfInBounds_toArray, List.set_cons_zero, List.set_cons_succ]
    refine Step.p_assign rfl _ rfl (.int .i64 E) rfl ?_
    simp only [Act.put, List.setIfInBounds_toArray, List.set_cons_zero, List.set_cons_succ]
    refine wpList_nil ?_
    have A5 := Lib.hid (A4.out.on hb5)
    clear hb5 A4 HN1
    have N2 := refNext_any m p w5 (win_of A5.out.min HR.out hsum)
    rw [hA, hC, hE, V.out] at N2
    have HN2 := Lib.hid N2
    clear N2 hA hC hE
    go_upto_region 5 with fail
    refine wp_region_lit ?_
    refine Tree.p_loadrow rfl _ _ rfl (w.heap.size) rfl (A5.out.box) Tryd.underlying56 rfl (by rw [hs]; exact hi27) ?_
    simp only [Act.put, List.setIfInBounds_toArray, List.set_cons_zero, List.set_cons_succ]
    refine Step.p_wp rfl (Step.w_callx 38 [.tmp 21] _ rfl Tryd.func38 (by kernel_rfl) rfl [.agg cs] rfl (HN2.out) ?_)
    rintro e w6 ⟨rfl, hb6⟩
    refine ⟨_, rfl, ?_⟩
    simp only [Act.put, List.setIfInBounds_toArray, List.set_cons_zero, List.set_cons_succ]
    refine Step.p_move rfl _ rfl (.tuple #[.int .u64 A, .int .u64 C, .int .i64 E]) rfl ?_
    simp only [Act.put, List.setIfInBounds_toArray, List.set_cons_zero, List.set_cons_succ]
    refine Step.p_val rfl (.int .u64 A) (by unfold execOp; go_simp) ?_
    simp only [Act.put, List.setIfInBounds_toArray, List.set_cons_zero, List.set_cons_succ]
    refine Step.p_val rfl (.int .u64 C) (by unfold execOp; go_simp) ?_
    simp only [Act.put, List.setIfInBounds_toArray, List.set_cons_zero, List.set_cons_succ]
    refine Step.p_val rfl (.int .i64 E) (by unfold execOp; go_simp) ?_
    simp only [Act.put, List.setIfInBounds_toArray, List.set_cons_zero, List.set_cons_succ]
    refine Step.p_assign rfl _ rfl (.int .u64 A) rfl ?_
    simp only [Act.put, List.setIfInBounds_toArray, List.set_cons_zero, List.set_cons_succ]
    refine Step.p_assign rfl _ rfl (.int .u64 C) rfl ?_
    simp only [Act.put, List.setIfInBounds_toArray, List.set_cons_zero, List.set_cons_succ]
    refine Step.p_assign rfl _ rfl (.int .i64 E) rfl ?_
    simp only [Act.put, List.setIfInBounds_toArray, List.set_cons_zero, List.set_cons_succ]
    refine wpList_nil ?_
    have A6 := Lib.hid (A5.out.on hb6)
    clear hb6 A5 HN2
    go_upto_region 6 with fail
    refine wp_region_lit ?_
    refine Step.p_move rfl _ rfl (.int .u64 A) rfl ?_
    simp only [Act.put, List.setIfInBounds_toArray, List.set_cons_zero, List.set_cons_succ]
    refine Step.p_move rfl _ rfl (.int .u64 A) rfl ?_
    simp only [Act.put, List.setIfInBounds_toArray, List.set_cons_zero, List.set_cons_succ]
    refine Step.p_val rfl (.bool true) (by unfold execOp; go_simp) ?_
    simp only [Act.put, List.setIfInBounds_toArray, List.set_cons_zero, List.set_cons_succ]
    refine Step.p_move rfl _ rfl (.bool true) rfl ?_
    simp only [Act.put, List.setIfInBounds_toArray, List.set_cons_zero, List.set_cons_succ]
    refine Step.p_move rfl _ rfl (.int .u64 C) rfl ?_
    simp only [Act.put, List.setIfInBounds_toArray, List.set_cons_zero, List.set_cons_succ]
    refine Step.p_move rfl _ rfl (.int .u64 C) rfl ?_
    simp only [Act.put, List.setIfInBounds_toArray, List.set_cons_zero, List.set_cons_succ]
    refine Step.p_val rfl (.bool true) (by unfold execOp; go_simp) ?_
    simp only [Act.put, List.setIfInBounds_toArray, List.set_cons_zero, List.set_cons_succ]
    refine Step.p_pick rfl _ _ _ rfl _ rfl (.bool true) rfl ?_
    simp only [Act.put, List.setIfInBounds_toArray, List.set_cons_zero, List.set_cons_succ]
    refine Step.p_move rfl _ rfl (.bool true) rfl ?_
    simp only [Act.put, List.setIfInBounds_toArray, List.set_cons_zero, List.set_cons_succ]
    refine Step.p_move rfl _ rfl (.int .i64 E) rfl ?_
    simp only [Act.put, List.setIfInBounds_toArray, List.set_cons_zero, List.set_cons_succ]
    refine Step.p_wp rfl (Step.w_callx 11 [.tmp 35] _ rfl Tryd.func11 (by kernel_rfl) rfl [.int .i64 E] rfl (Rooms.num_any E w6) ?_)
    rintro e w7 ⟨rfl, hw7⟩
    subst hw7
    refine ⟨_, rfl, ?_⟩
    simp only [Act.put, List.setIfInBounds_toArray, List.set_cons_zero, List.set_cons_succ]
    refine Step.p_move rfl _ rfl (.int .i64 E) rfl ?_
    simp only [Act.put, List.setIfInBounds_toArray, List.set_cons_zero, List.set_cons_succ]
    refine Step.p_val rfl (.bool true) (by unfold execOp; go_simp) ?_
    simp only [Act.put, List.setIfInBounds_toArray, List.set_cons_zero, List.set_cons_succ]
    refine Step.p_pick rfl _ _ _ rfl _ rfl (.bool true) rfl ?_
    simp only [Act.put, List.setIfInBounds_toArray, List.set_cons_zero, List.set_cons_succ]
    refine Step.p_move rfl _ rfl (.bool true) rfl ?_
    simp only [Act.put, List.setIfInBounds_toArray, List.set_cons_zero, List.set_cons_succ]
    refine Tree.p_loadrow rfl _ _ rfl (w3.heap.size) rfl (A6.out.nrow) Tryd.underlying56 rfl (by rw [hs2]; exact hi27) ?_
    simp only [Act.put, List.setIfInBounds_toArray, List.set_cons_zero, List.set_cons_succ]
    refine Tree.p_loadrow rfl _ _ rfl (w.heap.size) rfl (A6.out.box) Tryd.underlying56 rfl (by rw [hs]; exact hi27) ?_
    simp only [Act.put, List.setIfInBounds_toArray, List.set_cons_zero, List.set_cons_succ]
    refine Step.p_wp rfl (Step.w_callx 35 [.tmp 41, .tmp 42] _ rfl Tryd.func35 (by kernel_rfl) rfl [.agg cn, .agg cs] rfl (by rw [← V2.out, ← V.out]; exact untouched13 _ m { m with toks := T } p p2 w6 A6.out.min A6.out.twin) ?_)
    rintro e w8 ⟨rfl, hb8⟩
    refine ⟨_, rfl, ?_⟩
    simp only [Act.put, List.setIfInBounds_toArray, List.set_cons_zero, List.set_cons_succ]
    have A8 := Lib.hid (A6.out.on hb8)
    clear hb8
    refine Step.p_pick rfl _ _ _ rfl _ rfl (.bool true) rfl ?_
    simp only [Act.put, List.setIfInBounds_toArray, List.set_cons_zero, List.set_cons_succ]
    refine Step.p_move rfl _ rfl (.bool true) rfl ?_
    simp only [Act.put, List.setIfInBounds_toArray, List.set_cons_zero, List.set_cons_succ]
    refine Step.p_wp rfl (Step.w_callx 3 [.const (.int .i64 1024), .const (.int .i64 2), .const (.int .u64 33)] _ rfl Tryd.func3 (by kernel_rfl) rfl [.int .i64 1024, .int .i64 2, .int .u64 33] rfl (Rooms.law_any 1024 2 33 w8 A8.out.tab (by decide) (by decide)) ?_)
    rintro e w9 ⟨rfl, hw9⟩
    subst hw9
    refine ⟨_, rfl, ?_⟩
    simp only [Act.put, List.setIfInBounds_toArray, List.set_cons_zero, List.set_cons_succ]
    refine Step.p_pick rfl _ _ _ rfl _ rfl (.bool true) rfl ?_
    simp only [Act.put, List.setIfInBounds_toArray, List.set_cons_zero, List.set_cons_succ]
    refine Step.p_assign rfl _ rfl (.bool true) rfl ?_
    refine wpList_nil ?_
    simp only [Act.put, List.setIfInBounds_toArray, List.set_cons_zero, List.set_cons_succ]
    go_wp2
    go_ret
    exact ⟨rfl, A8.out.below⟩
end Go.Proofs.YtfchbodbkdkcfaaDoor.Rk
