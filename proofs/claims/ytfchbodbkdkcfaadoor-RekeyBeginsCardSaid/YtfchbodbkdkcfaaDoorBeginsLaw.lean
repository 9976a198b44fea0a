/- RekeyBegins answers true. -/
import Derived.Test.YtfchbodbkdkcfaaDoorBeginsA
import Derived.Test.YtfchbodbkdkcfaaDoorGuard
namespace Go.Proofs.YtfchbodbkdkcfaaDoor.Rk
open Go.RowKit Go.Lib Go.Proofs.YtfchbodbkdkcfaaDoor.Coll Go.Proofs.YtfchbodbkdkcfaaDoor.Meta Go.Proofs.YtfchbodbkdkcfaaDoor.Rooms

/-- the parts of a Start's cells -/
structure SC (S cs ce ca ct : Array Value) : Prop where
  m : ∀ j v, cs.toList[j]? = some v → S[0 + j]? = some v
  e : ∀ j v, ce.toList[j]? = some v → S[27 + j]? = some v
  a : ∀ j v, ca.toList[j]? = some v → S[32 + j]? = some v
  t : ∀ j v, ct.toList[j]? = some v → S[34 + j]? = some v
theorem sc (m : MetaD) (p : Places) (d : EpochD) (off size : Int) (t : TurnD) : SC (startC m p d off size t) (metaA m p) (epochC d).toArray (areaC off size).toArray (turnC t).toArray := by
  have mid : ∀ (A B C : List Value) (j : Nat) (v : Value), B[j]? = some v → ((A ++ B ++ C).toArray)[A.length + j]? = some v := fun A B C j v h => by
    have hl := (List.getElem?_eq_some_iff.1 h).1
    rw [List.getElem?_toArray, List.append_assoc, List.getElem?_append_right (Nat.le_add_right _ _), Nat.add_sub_cancel_left, List.getElem?_append_left hl]
    exact h
  refine ⟨fun j v h => ?_, fun j v h => ?_, fun j v h => ?_, fun j v h => ?_⟩
  · have := mid [] (metaA m p).toList (epochC d ++ areaC off size ++ turnC t) j v h
    rw [show startC m p d off size t = ([] ++ (metaA m p).toList ++ (epochC d ++ areaC off size ++ turnC t)).toArray by simp [startC, metaA, List.append_assoc]]
    exact this
  · have := mid (metaA m p).toList (epochC d) (areaC off size ++ turnC t) j v h
    rw [show startC m p d off size t = ((metaA m p).toList ++ epochC d ++ (areaC off size ++ turnC t)).toArray by simp [startC, metaA, List.append_assoc]]
    exact this
  · have := mid ((metaA m p).toList ++ epochC d) (areaC off size) (turnC t) j v h
    rw [show startC m p d off size t = (((metaA m p).toList ++ epochC d) ++ areaC off size ++ turnC t).toArray by simp [startC, metaA, List.append_assoc]]
    exact this
  · have := mid ((metaA m p).toList ++ epochC d ++ areaC off size) (turnC t) [] j v h
    rw [show startC m p d off size t = (((metaA m p).toList ++ epochC d ++ areaC off size) ++ turnC t ++ []).toArray by simp [startC, metaA, List.append_assoc]]
    exact this

set_option maxRecDepth 100000 in
set_option maxHeartbeats 8000000 in
theorem begins_any (m : MetaD) (p : Places) (d : EpochD) (off size : Int) (t : TurnD) (w : World) (h : MIn w m p) (hr : MR m) (hh : IntKind.u64.has t.hot) (hz : IntKind.i64.has size) (ht : Table 0 w) (hg : 0 < w.heap.size) :
    Calls Tryd.prog 7 #[startV m p d off size t] w fun e w' => e = .returned (.bool true) ∧ Below w.heap.size w w' := by
  have HI := Lib.hid h
  have HR := Lib.hid hr
  have HT := Lib.hid ht
  have HH := Lib.hid hh
  have HZ := Lib.hid hz
  clear h hr ht hh hz
  have hi27 : (Tryd.prog.info? 56).map (·.size) = some 27 := by kernel_rfl
  have hi5 : (Tryd.prog.info? 64).map (·.size) = some 5 := by kernel_rfl
  have hi2 : (Tryd.prog.info? 51).map (·.size) = some 2 := by kernel_rfl
  have hi4 : (Tryd.prog.info? 66).map (·.size) = some 4 := by kernel_rfl
  have V := Lib.hid (metaV_eq m p)
  have HSC := Lib.hid (sc m p d off size t)
  have hs : (metaA m p).toList.length = 27 := rfl
  have hse : (epochC d).toArray.toList.length = 5 := rfl
  have hsA0 : (areaC off size).toArray.toList.length = 2 := rfl
  have hst : (turnC t).toArray.toList.length = 4 := rfl
  obtain ⟨ce, hce⟩ : ∃ c, (epochC d).toArray = c := ⟨_, rfl⟩
  obtain ⟨ca, hca⟩ : ∃ c, (areaC off size).toArray = c := ⟨_, rfl⟩
  obtain ⟨ct, hct⟩ : ∃ c, (turnC t).toArray = c := ⟨_, rfl⟩
  have HB := fun (m : MetaD) (p : Places) (w : World) h hr ht hg => begin_any m p d off size t w h hr HH.out HZ.out ht hg
  have HF := fun (m : MetaD) (p : Places) (w : World) h hr => refBegin_any m p d off size t w h hr HH.out HZ.out
  rw [hce] at hse HSC HB HF
  rw [hca] at hsA0 HSC HB HF
  rw [hct] at hst HSC HB HF
  have HBB := Lib.hid HB
  have HFF := Lib.hid HF
  clear hce hca hct HB HF
  unfold startV
  generalize startC m p d off size t = S at *
  generalize metaA m p = cs at *
  go_enter Tryd.func7, Tryd.ntmps7
  go_upto_region 1 with fail
  have b1 : Below w.heap.size w (w.alloc (.cells S 68)) := (Below.refl _ _).alloc (Nat.le_refl _) _
  have o1 := heap_alloc_new w (.cells S 68)
  generalize w.alloc (.cells S 68) = w1 at *
  have HI1 := Lib.hid (min_below HI.out b1)
  refine wp_region_lit ?_
  refine Tree.p_field rfl _ _ _ rfl (w.heap.size) (0) rfl Tryd.underlying68 rfl (sz := 27) (by kernel_rfl) (by decide) (0) rfl ?_
  simp only [Act.put, List.setIfInBounds_toArray, List.set_cons_zero, List.set_cons_succ]
  refine Tree.p_loadmid rfl _ _ rfl (w.heap.size) (0) rfl cs.toList (row_range (o1) HSC.out.m) Tryd.underlying56 rfl (by rw [hs]; exact hi27) ?_
  simp only [Act.put, List.setIfInBounds_toArray, List.set_cons_zero, List.set_cons_succ, Array.toArray_toList]
  refine Step.p_wp rfl (Step.w_callx 30 [.tmp 11] _ rfl Tryd.func30 (by kernel_rfl) rfl [.agg cs] rfl (by rw [← V.out]; exact wide13_any m p w1 HI1.out) ?_)
  rintro e w2 ⟨rfl, hb2⟩
  refine ⟨_, rfl, ?_⟩
  simp only [Act.put, List.setIfInBounds_toArray, List.set_cons_zero, List.set_cons_succ]
  refine wpList_nil ?_
  have b2 := b1.trans (hb2.mono b1.size)
  have o2 := (hb2.block _ (Array.getElem?_eq_some_iff.1 o1).1).trans o1
  clear hb2 o1 b1 HI1
  cases hwide : wideB m with
  | true =>
    go_wp2
    go_ret
    exact ⟨rfl, b2⟩
  | false =>
    go_upto_region 3 with fail
    refine wp_region_lit ?_
    have HI2 := Lib.hid (min_below HI.out b2)
    refine Tree.p_field rfl _ _ _ rfl (w.heap.size) (0) rfl Tryd.underlying68 rfl (sz := 27) (by kernel_rfl) (by decide) (0) rfl ?_
    simp only [Act.put, List.setIfInBounds_toArray, List.set_cons_zero, List.set_cons_succ]
    refine Tree.p_loadmid rfl _ _ rfl (w.heap.size) (0) rfl cs.toList (row_range (o2) HSC.out.m) Tryd.underlying56 rfl (by rw [hs]; exact hi27) ?_
    simp only [Act.put, List.setIfInBounds_toArray, List.set_cons_zero, List.set_cons_succ, Array.toArray_toList]
    refine Step.p_wp rfl (Step.w_callx 31 [.tmp 14] _ rfl Tryd.func31 (by kernel_rfl) rfl [.agg cs] rfl (by rw [← V.out]; exact roomy_any m p w2 HI2.out) ?_)
    rintro e w3 ⟨m2, p2, rfl, htw, hb3⟩
    refine ⟨_, rfl, ?_⟩
    simp only [Act.put, List.setIfInBounds_toArray, List.set_cons_zero, List.set_cons_succ]
    rw [metaV_eq]
    obtain ⟨T, rfl⟩ : ∃ T, m2 = { m with toks := T } := ⟨m2.toks, htw.eq⟩
    have V2 := Lib.hid (metaV_eq { m with toks := T } p2)
    have hs2 : (metaA { m with toks := T } p2).size = 27 := rfl
    have h2c : (metaA { m with toks := T } p2).all (·.oneCell') = true := by rw [← Array.all_toList]; rfl
    generalize metaA { m with toks := T } p2 = cn at *
    refine Tree.p_new rfl 56 rfl (z := .agg metaZ) (by kernel_rfl) ?_
    simp only [Act.put, List.setIfInBounds_toArray, List.set_cons_zero, List.set_cons_succ]
    refine wpList_store_row rfl _ _ _ rfl w3.heap.size cn rfl rfl 56 metaZ (heap_alloc_new w3 _) (by rw [hs2]; exact hi27) (by rw [hs2]; rfl) h2c ?_
    rw [show Value.cells (.agg metaZ) = metaZ from rfl, World.setRow_alloc_new]
    simp only [Act.put]
    refine wpList_nil ?_
    have b4 : Below w.heap.size w (w3.alloc (.cells cn 56)) := (b2.trans (hb3.mono b2.size)).alloc (Nat.le_trans b2.size hb3.size) _
    have b34 : Below w3.heap.size w3 (w3.alloc (.cells cn 56)) := (Below.refl _ _).alloc (Nat.le_refl _) _
    have A4 : Hid (At2 w S cn w.heap.size w3.heap.size w2.heap.size m p { m with toks := T } p2 (w3.alloc (.cells cn 56))) := Lib.hid ⟨(b34.block _ (Nat.lt_of_lt_of_le (Array.getElem?_eq_some_iff.1 o2).1 hb3.size)).trans ((hb3.block _ (Array.getElem?_eq_some_iff.1 o2).1).trans o2), heap_alloc_new w3 _, min_below HI.out b4, htw.below b34, tab_below HT.out hg b4, Nat.lt_of_lt_of_le hg b4.size, b4⟩
    generalize w3.alloc (.cells cn 56) = w4 at *
    clear htw hb3 b34 o2 HI2 b4 b2
    have HMR2 : Hid (MR { m with toks := T }) := Lib.hid ⟨HR.out.unit, HR.out.count, HR.out.head, HR.out.keys, HR.out.turns, HR.out.fr, HR.out.tn, HR.out.mode, HR.out.hot, HR.out.done, HR.out.off, HR.out.size, HR.out.rcount⟩
    have HE2 : Hid (bgE { m with toks := T } d off size t = bgE m d off size t) := Lib.hid rfl
    have HR2 : Hid (bgRot { m with toks := T } d off size t = bgRot m d off size t) := Lib.hid rfl
    generalize hEE : bgE m d off size t = E at HE2
    have HEE := Lib.hid hEE
    clear hEE
    generalize hRR : bgRot m d off size t = R at HR2
    have HRR := Lib.hid hRR
    clear hRR
    have TQ := Lib.hid (tokEq_of_twin A4.out.twin)
    go_upto_region 4 with fail
    refine wp_region_lit ?_
    refine Tree.p_loadrow rfl _ _ rfl (w3.heap.size) rfl (A4.out.nrow) Tryd.underlying56 rfl (by rw [hs2]; exact hi27) ?_
    simp only [Act.put, List.setIfInBounds_toArray, List.set_cons_zero, List.set_cons_succ]
    refine Tree.p_field rfl _ _ _ rfl (w.heap.size) (0) rfl Tryd.underlying68 rfl (sz := 5) (by kernel_rfl) (by decide) (27) rfl ?_
    simp only [Act.put, List.setIfInBounds_toArray, List.set_cons_zero, List.set_cons_succ]
    refine Tree.p_loadmid rfl _ _ rfl (w.heap.size) (27) rfl ce.toList (row_range (A4.out.box) HSC.out.e) Tryd.underlying64 rfl (by rw [hse]; exact hi5) ?_
    simp only [Act.put, List.setIfInBounds_toArray, List.set_cons_zero, List.set_cons_succ, Array.toArray_toList]
    refine Tree.p_field rfl _ _ _ rfl (w.heap.size) (0) rfl Tryd.underlying68 rfl (sz := 2) (by kernel_rfl) (by decide) (32) rfl ?_
    simp only [Act.put, List.setIfInBounds_toArray, List.set_cons_zero, List.set_cons_succ]
    refine Tree.p_loadmid rfl _ _ rfl (w.heap.size) (32) rfl ca.toList (row_range (A4.out.box) HSC.out.a) Tryd.underlying51 rfl (by rw [hsA0]; exact hi2) ?_
    simp only [Act.put, List.setIfInBounds_toArray, List.set_cons_zero, List.set_cons_succ, Array.toArray_toList]
    refine Tree.p_field rfl _ _ _ rfl (w.heap.size) (0) rfl Tryd.underlying68 rfl (sz := 4) (by kernel_rfl) (by decide) (34) rfl ?_
    simp only [Act.put, List.setIfInBounds_toArray, List.set_cons_zero, List.set_cons_succ]
    refine Tree.p_loadmid rfl _ _ rfl (w.heap.size) (34) rfl ct.toList (row_range (A4.out.box) HSC.out.t) Tryd.underlying66 rfl (by rw [hst]; exact hi4) ?_
    simp only [Act.put, List.setIfInBounds_toArray, List.set_cons_zero, List.set_cons_succ, Array.toArray_toList]
    refine Step.p_wp rfl (Step.w_callx 32 [.tmp 17, .tmp 19, .tmp 21, .tmp 23] _ rfl Tryd.func32 (by kernel_rfl) rfl [.agg cn, .agg ce, .agg ca, .agg ct] rfl (by rw [← V2.out]; exact HBB.out _ p2 w4 (twin_min A4.out.min A4.out.twin) HMR2.out A4.out.tab A4.out.tl) ?_)
    rintro e w5 ⟨ra, pa, rfl, hbg, hdist, hgb⟩
    refine ⟨_, rfl, ?_⟩
    simp only [Act.put, List.setIfInBounds_toArray, List.set_cons_zero, List.set_cons_succ]
    rw [metaV_eq]
    have hsa : (metaA ra pa).size = 27 := rfl
    have h1a : (metaA ra pa).all (·.oneCell') = true := by rw [← Array.all_toList]; rfl
    have Va := Lib.hid (metaV_eq ra pa)
    generalize metaA ra pa = cA at *
    rw [HE2.out] at hbg ⊢
    refine Step.p_move rfl _ rfl (.tuple #[.agg cA, .int .i64 E]) rfl ?_
    simp only [Act.put, List.setIfInBounds_toArray, List.set_cons_zero, List.set_cons_succ]
    refine Step.p_val rfl (.agg cA) (by unfold execOp; go_simp) ?_
    simp only [Act.put, List.setIfInBounds_toArray, List.set_cons_zero, List.set_cons_succ]
    refine Step.p_val rfl (.int .i64 E) (by unfold execOp; go_simp) ?_
    simp only [Act.put, List.setIfInBounds_toArray, List.set_cons_zero, List.set_cons_succ]
    refine Tree.p_new rfl 56 rfl (z := .agg metaZ) (by kernel_rfl) ?_
    simp only [Act.put, List.setIfInBounds_toArray, List.set_cons_zero, List.set_cons_succ]
    refine wpList_store_row rfl _ _ _ rfl w5.heap.size cA rfl rfl 56 metaZ (heap_alloc_new w5 _) (by rw [hsa]; exact hi27) (by rw [hsa]; rfl) h1a ?_
    rw [show Value.cells (.agg metaZ) = metaZ from rfl, World.setRow_alloc_new]
    simp only [Act.put]
    refine Step.p_assign rfl _ rfl (.int .i64 E) rfl ?_
    simp only [Act.put, List.setIfInBounds_toArray, List.set_cons_zero, List.set_cons_succ]
    refine wpList_nil ?_
    have HAa : Hid (Ans { m with toks := T } d R E ra) := Lib.hid ⟨fun h => by have := hbg.ok h; rw [HR2.out] at this; exact this, hbg.no⟩
    have bb : Below w4.heap.size w4 (w5.alloc (.cells cA 56)) := (below_of_gb hgb).alloc hgb.size _
    have hla : w4.heap.size ≤ w5.heap.size := hgb.size
    have HOa : Hid (MO w4.heap.size w5 ra pa) := Lib.hid hbg.own
    have ROWa := Lib.hid (heap_alloc_new w5 (.cells cA 56))
    have gza : w5.grownBy (w5.alloc (.cells cA 56)) none := World.grownBy_alloc w5 _ none
    have A5 := Lib.hid (A4.out.on bb)
    have sza : (w5.alloc (.cells cA 56)).heap.size = w5.heap.size + 1 := by simp
    have G45 : Hid (w4.grownBy w5 none) := Lib.hid hgb
    have HD := Lib.hid hdist
    clear hbg hdist bb hgb
    generalize w5.alloc (.cells cA 56) = w5b at *
    go_upto_region 5 with fail
    refine wp_region_lit ?_
    refine Tree.p_loadrow rfl _ _ rfl (w3.heap.size) rfl (A5.out.nrow) Tryd.underlying56 rfl (by rw [hs2]; exact hi27) ?_
    simp only [Act.put, List.setIfInBounds_toArray, List.set_cons_zero, List.set_cons_succ]
    refine Tree.p_field rfl _ _ _ rfl (w.heap.size) (0) rfl Tryd.underlying68 rfl (sz := 5) (by kernel_rfl) (by decide) (27) rfl ?_
    simp only [Act.put, List.setIfInBounds_toArray, List.set_cons_zero, List.set_cons_succ]
    refine Tree.p_loadmid rfl _ _ rfl (w.heap.size) (27) rfl ce.toList (row_range (A5.out.box) HSC.out.e) Tryd.underlying64 rfl (by rw [hse]; exact hi5) ?_
    simp only [Act.put, List.setIfInBounds_toArray, List.set_cons_zero, List.set_cons_succ, Array.toArray_toList]
    refine Tree.p_field rfl _ _ _ rfl (w.heap.size) (0) rfl Tryd.underlying68 rfl (sz := 2) (by kernel_rfl) (by decide) (32) rfl ?_
    simp only [Act.put, List.setIfInBounds_toArray, List.set_cons_zero, List.set_cons_succ]
    refine Tree.p_loadmid rfl _ _ rfl (w.heap.size) (32) rfl ca.toList (row_range (A5.out.box) HSC.out.a) Tryd.underlying51 rfl (by rw [hsA0]; exact hi2) ?_
    simp only [Act.put, List.setIfInBounds_toArray, List.set_cons_zero, List.set_cons_succ, Array.toArray_toList]
    refine Tree.p_field rfl _ _ _ rfl (w.heap.size) (0) rfl Tryd.underlying68 rfl (sz := 4) (by kernel_rfl) (by decide) (34) rfl ?_
    simp only [Act.put, List.setIfInBounds_toArray, List.set_cons_zero, List.set_cons_succ]
    refine Tree.p_loadmid rfl _ _ rfl (w.heap.size) (34) rfl ct.toList (row_range (A5.out.box) HSC.out.t) Tryd.underlying66 rfl (by rw [hst]; exact hi4) ?_
    simp only [Act.put, List.setIfInBounds_toArray, List.set_cons_zero, List.set_cons_succ, Array.toArray_toList]
    refine Step.p_wp rfl (Step.w_callx 32 [.tmp 28, .tmp 30, .tmp 32, .tmp 34] _ rfl Tryd.func32 (by kernel_rfl) rfl [.agg cn, .agg ce, .agg ca, .agg ct] rfl (by rw [← V2.out]; exact HBB.out _ p2 w5b (twin_min A5.out.min A5.out.twin) HMR2.out A5.out.tab A5.out.tl) ?_)
    rintro e w6 ⟨rb, pb, rfl, hbg, _, hgb⟩
    refine ⟨_, rfl, ?_⟩
    simp only [Act.put, List.setIfInBounds_toArray, List.set_cons_zero, List.set_cons_succ]
    rw [metaV_eq]
    have hsb : (metaA rb pb).size = 27 := rfl
    have h1b : (metaA rb pb).all (·.oneCell') = true := by rw [← Array.all_toList]; rfl
    have Vb := Lib.hid (metaV_eq rb pb)
    generalize metaA rb pb = cB at *
    rw [HE2.out] at hbg ⊢
    refine Step.p_move rfl _ rfl (.tuple #[.agg cB, .int .i64 E]) rfl ?_
    simp only [Act.put, List.setIfInBounds_toArray, List.set_cons_zero, List.set_cons_succ]
    refine Step.p_val rfl (.agg cB) (by unfold execOp; go_simp) ?_
    simp only [Act.put, List.setIfInBounds_toArray, List.set_cons_zero, List.set_cons_succ]
    refine Step.p_val rfl (.int .i64 E) (by unfold execOp; go_simp) ?_
    simp only [Act.put, List.setIfInBounds_toArray, List.set_cons_zero, List.set_cons_succ]
    refine Tree.p_new rfl 56 rfl (z := .agg metaZ) (by kernel_rfl) ?_
    simp only [Act.put, List.setIfInBounds_toArray, List.set_cons_zero, List.set_cons_succ]
    refine wpList_store_row rfl _ _ _ rfl w6.heap.size cB rfl rfl 56 metaZ (heap_alloc_new w6 _) (by rw [hsb]; exact hi27) (by rw [hsb]; rfl) h1b ?_
    rw [show Value.cells (.agg metaZ) = metaZ from rfl, World.setRow_alloc_new]
    simp only [Act.put]
    refine Step.p_assign rfl _ rfl (.int .i64 E) rfl ?_
    simp only [Act.put, List.setIfInBounds_toArray, List.set_cons_zero, List.set_cons_succ]
    refine wpList_nil ?_
    have HAb : Hid (Ans { m with toks := T } d R E rb) := Lib.hid ⟨fun h => by have := hbg.ok h; rw [HR2.out] at this; exact this, hbg.no⟩
    have bb : Below w5b.heap.size w5b (w6.alloc (.cells cB 56)) := (below_of_gb hgb).alloc hgb.size _
    have hlb : w5b.heap.size ≤ w6.heap.size := hgb.size
    have HOb : Hid (MO w5b.heap.size w6 rb pb) := Lib.hid hbg.own
    have ROWb := Lib.hid (heap_alloc_new w6 (.cells cB 56))
    have gzb : w6.grownBy (w6.alloc (.cells cB 56)) none := World.grownBy_alloc w6 _ none
    have A6 := Lib.hid (A5.out.on bb)
    have szb : (w6.alloc (.cells cB 56)).heap.size = w6.heap.size + 1 := by simp
    have gab := Lib.hid (gb_of_below bb)
    clear hbg bb hgb
    generalize w6.alloc (.cells cB 56) = w6b at *
    go_upto_region 6 with fail
    refine wp_region_lit ?_
    refine Tree.p_field rfl _ _ _ rfl (w.heap.size) (0) rfl Tryd.underlying68 rfl (sz := 27) (by kernel_rfl) (by decide) (0) rfl ?_
    simp only [Act.put, List.setIfInBounds_toArray, List.set_cons_zero, List.set_cons_succ]
    refine Tree.p_loadmid rfl _ _ rfl (w.heap.size) (0) rfl cs.toList (row_range (A6.out.box) HSC.out.m) Tryd.underlying56 rfl (by rw [hs]; exact hi27) ?_
    simp only [Act.put, List.setIfInBounds_toArray, List.set_cons_zero, List.set_cons_succ, Array.toArray_toList]
    refine Tree.p_field rfl _ _ _ rfl (w.heap.size) (0) rfl Tryd.underlying68 rfl (sz := 5) (by kernel_rfl) (by decide) (27) rfl ?_
    simp only [Act.put, List.setIfInBounds_toArray, List.set_cons_zero, List.set_cons_succ]
    refine Tree.p_loadmid rfl _ _ rfl (w.heap.size) (27) rfl ce.toList (row_range (A6.out.box) HSC.out.e) Tryd.underlying64 rfl (by rw [hse]; exact hi5) ?_
    simp only [Act.put, List.setIfInBounds_toArray, List.set_cons_zero, List.set_cons_succ, Array.toArray_toList]
    refine Tree.p_field rfl _ _ _ rfl (w.heap.size) (0) rfl Tryd.underlying68 rfl (sz := 2) (by kernel_rfl) (by decide) (32) rfl ?_
    simp only [Act.put, List.setIfInBounds_toArray, List.set_cons_zero, List.set_cons_succ]
    refine Tree.p_loadmid rfl _ _ rfl (w.heap.size) (32) rfl ca.toList (row_range (A6.out.box) HSC.out.a) Tryd.underlying51 rfl (by rw [hsA0]; exact hi2) ?_
    simp only [Act.put, List.setIfInBounds_toArray, List.set_cons_zero, List.set_cons_succ, Array.toArray_toList]
    refine Tree.p_field rfl _ _ _ rfl (w.heap.size) (0) rfl Tryd.underlying68 rfl (sz := 4) (by kernel_rfl) (by decide) (34) rfl ?_
    simp only [Act.put, List.setIfInBounds_toArray, List.set_cons_zero, List.set_cons_succ]
    refine Tree.p_loadmid rfl _ _ rfl (w.heap.size) (34) rfl ct.toList (row_range (A6.out.box) HSC.out.t) Tryd.underlying66 rfl (by rw [hst]; exact hi4) ?_
    simp only [Act.put, List.setIfInBounds_toArray, List.set_cons_zero, List.set_cons_succ, Array.toArray_toList]
    refine Step.p_wp rfl (Step.w_callx 33 [.tmp 40, .tmp 42, .tmp 44, .tmp 46] _ rfl Tryd.func33 (by kernel_rfl) rfl [.agg cs, .agg ce, .agg ca, .agg ct] rfl (by rw [← V.out]; exact HFF.out m p w6b A6.out.min HR.out) ?_)
    rintro e w7 ⟨rw, pw, rfl, hbg, hgb⟩
    refine ⟨_, rfl, ?_⟩
    simp only [Act.put, List.setIfInBounds_toArray, List.set_cons_zero, List.set_cons_succ]
    rw [metaV_eq]
    have hsw : (metaA rw pw).size = 27 := rfl
    have h1w : (metaA rw pw).all (·.oneCell') = true := by rw [← Array.all_toList]; rfl
    have Vw := Lib.hid (metaV_eq rw pw)
    generalize metaA rw pw = cW at *
    rw [HEE.out] at hbg ⊢
    refine Step.p_move rfl _ rfl (.tuple #[.agg cW, .int .i64 E]) rfl ?_
    simp only [Act.put, List.setIfInBounds_toArray, List.set_cons_zero, List.set_cons_succ]
    refine Step.p_val rfl (.agg cW) (by unfold execOp; go_simp) ?_
    simp only [Act.put, List.setIfInBounds_toArray, List.set_cons_zero, List.set_cons_succ]
    refine Step.p_val rfl (.int .i64 E) (by unfold execOp; go_simp) ?_
    simp only [Act.put, List.setIfInBounds_toArray, List.set_cons_zero, List.set_cons_succ]
    refine Tree.p_new rfl 56 rfl (z := .agg metaZ) (by kernel_rfl) ?_
    simp only [Act.put, List.setIfInBounds_toArray, List.set_cons_zero, List.set_cons_succ]
    refine wpList_store_row rfl _ _ _ rfl w7.heap.size cW rfl rfl 56 metaZ (heap_alloc_new w7 _) (by rw [hsw]; exact hi27) (by rw [hsw]; rfl) h1w ?_
    rw [show Value.cells (.agg metaZ) = metaZ from rfl, World.setRow_alloc_new]
    simp only [Act.put]
    refine Step.p_assign rfl _ rfl (.int .i64 E) rfl ?_
    simp only [Act.put, List.setIfInBounds_toArray, List.set_cons_zero, List.set_cons_succ]
    refine wpList_nil ?_
    have HAw : Hid (Ans m d R E rw) := Lib.hid ⟨fun h => by have := hbg.ok h; rw [HRR.out] at this; exact this, hbg.no⟩
    have bb : Below w6b.heap.size w6b (w7.alloc (.cells cW 56)) := (below_of_gb hgb).alloc hgb.size _
    have hlw : w6b.heap.size ≤ w7.heap.size := hgb.size
    have HOw : Hid (MO w6b.heap.size w7 rw pw) := Lib.hid hbg.own
    have ROWw := Lib.hid (heap_alloc_new w7 (.cells cW 56))
    have gzw : w7.grownBy (w7.alloc (.cells cW 56)) none := World.grownBy_alloc w7 _ none
    have A7 := Lib.hid (A6.out.on bb)
    have szw : (w7.alloc (.cells cW 56)).heap.size = w7.heap.size + 1 := by simp
    have gbw := Lib.hid (gb_of_below bb)
    clear hbg bb hgb
    generalize w7.alloc (.cells cW 56) = w7b at *
    skip
    have G5 : Hid (w5.grownBy w7b none) := Lib.hid (Tree.grown_trans gza (Tree.grown_trans gab.out gbw.out (by simp)) (by simp))
    have G4 : Hid (w4.grownBy w7b none) := Lib.hid (Tree.grown_trans G45.out G5.out (by simp))
    have G6 : Hid (w6.grownBy w7b none) := Lib.hid (Tree.grown_trans gzb gbw.out (by simp))
    have G7 : Hid (w7.grownBy w7b none) := Lib.hid gzw
    replace ROWa := Lib.hid (((Tree.grown_trans gab.out gbw.out (by simp)).block _ (Array.getElem?_eq_some_iff.1 ROWa.out).1 (by simp)).trans ROWa.out)
    replace ROWb := Lib.hid ((gbw.out.block _ (Array.getElem?_eq_some_iff.1 ROWb.out).1 (by simp)).trans ROWb.out)
    clear gza gzb gzw gab gbw G45
    have hs5 : w5.heap.size < w5b.heap.size := by omega
    have hs6 : w5b.heap.size ≤ w6.heap.size := hlb
    have hs7 : w6.heap.size ≤ w7.heap.size := by omega
    go_upto_region 7 with fail
    refine wp_region_lit ?_
    refine Step.p_move rfl _ rfl (.int .i64 E) rfl ?_
    simp only [Act.put, List.setIfInBounds_toArray, List.set_cons_zero, List.set_cons_succ]
    refine Step.p_wp rfl (Step.w_callx 11 [.tmp 50] _ rfl Tryd.func11 (by kernel_rfl) rfl [.int .i64 E] rfl (Rooms.num_any E w7b) ?_)
    rintro e wn1 ⟨rfl, hw⟩
    refine ⟨_, rfl, ?_⟩
    simp only [Act.put, List.setIfInBounds_toArray, List.set_cons_zero, List.set_cons_succ]
    subst hw
    refine Step.p_move rfl _ rfl (.int .i64 E) rfl ?_
    simp only [Act.put, List.setIfInBounds_toArray, List.set_cons_zero, List.set_cons_succ]
    refine Step.p_val rfl (.bool false) (by unfold execOp; go_simp) ?_
    simp only [Act.put, List.setIfInBounds_toArray, List.set_cons_zero, List.set_cons_succ]
    refine Step.p_move rfl _ rfl (.bool false) rfl ?_
    simp only [Act.put, List.setIfInBounds_toArray, List.set_cons_zero, List.set_cons_succ]
    with_reducible refine Step.p_unguard ?_ ?_
    · kernel_rfl
    refine Step.p_move rfl _ rfl (.int .i64 E) rfl ?_
    simp only [Act.put, List.setIfInBounds_toArray, List.set_cons_zero, List.set_cons_succ]
    with_reducible refine Step.p_unguard ?_ ?_
    · kernel_rfl
    refine Step.p_wp rfl (Step.w_callx 11 [.tmp 55] _ rfl Tryd.func11 (by kernel_rfl) rfl [.int .i64 E] rfl (Rooms.num_any E w7b) ?_)
    rintro e wn2 ⟨rfl, hw⟩
    refine ⟨_, rfl, ?_⟩
    simp only [Act.put, List.setIfInBounds_toArray, List.set_cons_zero, List.set_cons_succ]
    subst hw
    with_reducible refine Step.p_unguard ?_ ?_
    · kernel_rfl
    refine Step.p_move rfl _ rfl (.int .i64 E) rfl ?_
    simp only [Act.put, List.setIfInBounds_toArray, List.set_cons_zero, List.set_cons_succ]
    with_reducible refine Step.p_unguard ?_ ?_
    · kernel_rfl
    refine Step.p_val rfl (.bool false) (by unfold execOp; go_simp) ?_
    simp only [Act.put, List.setIfInBounds_toArray, List.set_cons_zero, List.set_cons_succ]
    refine Step.p_pick rfl _ _ _ rfl _ rfl (.bool false) rfl ?_
    simp only [Act.put, List.setIfInBounds_toArray, List.set_cons_zero, List.set_cons_succ]
    refine Step.p_move rfl _ rfl (.bool false) rfl ?_
    simp only [Act.put, List.setIfInBounds_toArray, List.set_cons_zero, List.set_cons_succ]
    with_reducible refine Step.p_unguard ?_ ?_
    · kernel_rfl
    refine Tree.p_loadrow rfl _ _ rfl (w5.heap.size) rfl (ROWa.out) Tryd.underlying56 rfl (by rw [hsa]; exact hi27) ?_
    simp only [Act.put, List.setIfInBounds_toArray, List.set_cons_zero, List.set_cons_succ]
    with_reducible refine Step.p_unguard ?_ ?_
    · kernel_rfl
    refine Tree.p_loadrow rfl _ _ rfl (w7.heap.size) rfl (ROWw.out) Tryd.underlying56 rfl (by rw [hsw]; exact hi27) ?_
    simp only [Act.put, List.setIfInBounds_toArray, List.set_cons_zero, List.set_cons_succ]
    have LKa := Lib.hid (HAa.out.like HAw.out (HOa.out.gb G5.out) (HOw.out.gb G7.out) TQ.out)
    with_reducible refine Step.p_unguard ?_ ?_
    · kernel_rfl
    refine Step.p_wp rfl (Step.w_callx 34 [.tmp 61, .tmp 62] _ rfl Tryd.func34 (by kernel_rfl) rfl [.agg cA, .agg cW] rfl (by rw [← Va.out, ← Vw.out]; exact same13 rw ra pw pa w7b LKa.out) ?_)
    rintro e w8 ⟨rfl, hb⟩
    refine ⟨_, rfl, ?_⟩
    simp only [Act.put, List.setIfInBounds_toArray, List.set_cons_zero, List.set_cons_succ]
    have A8 := Lib.hid (A7.out.on hb)
    replace G4 := Lib.hid (Tree.grown_trans G4.out (gb_of_below hb) (by simp))
    replace G5 := Lib.hid (Tree.grown_trans G5.out (gb_of_below hb) (by simp))
    replace G6 := Lib.hid (Tree.grown_trans G6.out (gb_of_below hb) (by simp))
    replace G7 := Lib.hid (Tree.grown_trans G7.out (gb_of_below hb) (by simp))
    replace ROWa := Lib.hid ((hb.block _ (Array.getElem?_eq_some_iff.1 ROWa.out).1).trans ROWa.out)
    replace ROWb := Lib.hid ((hb.block _ (Array.getElem?_eq_some_iff.1 ROWb.out).1).trans ROWb.out)
    replace ROWw := Lib.hid ((hb.block _ (Array.getElem?_eq_some_iff.1 ROWw.out).1).trans ROWw.out)
    clear hb
    with_reducible refine Step.p_unguard ?_ ?_
    · kernel_rfl
    refine Step.p_val rfl (.bool false) (by unfold execOp; go_simp) ?_
    simp only [Act.put, List.setIfInBounds_toArray, List.set_cons_zero, List.set_cons_succ]
    refine Step.p_pick rfl _ _ _ rfl _ rfl (.bool false) rfl ?_
    simp only [Act.put, List.setIfInBounds_toArray, List.set_cons_zero, List.set_cons_succ]
    refine Step.p_move rfl _ rfl (.bool false) rfl ?_
    simp only [Act.put, List.setIfInBounds_toArray, List.set_cons_zero, List.set_cons_succ]
    with_reducible refine Step.p_unguard ?_ ?_
    · kernel_rfl
    refine Tree.p_loadrow rfl _ _ rfl (w6.heap.size) rfl (ROWb.out) Tryd.underlying56 rfl (by rw [hsb]; exact hi27) ?_
    simp only [Act.put, List.setIfInBounds_toArray, List.set_cons_zero, List.set_cons_succ]
    with_reducible refine Step.p_unguard ?_ ?_
    · kernel_rfl
    refine Tree.p_loadrow rfl _ _ rfl (w7.heap.size) rfl (ROWw.out) Tryd.underlying56 rfl (by rw [hsw]; exact hi27) ?_
    simp only [Act.put, List.setIfInBounds_toArray, List.set_cons_zero, List.set_cons_succ]
    have LKb := Lib.hid (HAb.out.like HAw.out (HOb.out.gb G6.out) (HOw.out.gb G7.out) TQ.out)
    with_reducible refine Step.p_unguard ?_ ?_
    · kernel_rfl
    refine Step.p_wp rfl (Step.w_callx 34 [.tmp 67, .tmp 68] _ rfl Tryd.func34 (by kernel_rfl) rfl [.agg cB, .agg cW] rfl (by rw [← Vb.out, ← Vw.out]; exact same13 rw rb pw pb w8 LKb.out) ?_)
    rintro e w9 ⟨rfl, hb⟩
    refine ⟨_, rfl, ?_⟩
    simp only [Act.put, List.setIfInBounds_toArray, List.set_cons_zero, List.set_cons_succ]
    have A9 := Lib.hid (A8.out.on hb)
    replace G4 := Lib.hid (Tree.grown_trans G4.out (gb_of_below hb) (by simp))
    replace G5 := Lib.hid (Tree.grown_trans G5.out (gb_of_below hb) (by simp))
    replace G6 := Lib.hid (Tree.grown_trans G6.out (gb_of_below hb) (by simp))
    replace G7 := Lib.hid (Tree.grown_trans G7.out (gb_of_below hb) (by simp))
    replace ROWa := Lib.hid ((hb.block _ (Array.getElem?_eq_some_iff.1 ROWa.out).1).trans ROWa.out)
    replace ROWb := Lib.hid ((hb.block _ (Array.getElem?_eq_some_iff.1 ROWb.out).1).trans ROWb.out)
    replace ROWw := Lib.hid ((hb.block _ (Array.getElem?_eq_some_iff.1 ROWw.out).1).trans ROWw.out)
    clear hb
    with_reducible refine Step.p_unguard ?_ ?_
    · kernel_rfl
    refine Step.p_val rfl (.bool false) (by unfold execOp; go_simp) ?_
    simp only [Act.put, List.setIfInBounds_toArray, List.set_cons_zero, List.set_cons_succ]
    refine Step.p_pick rfl _ _ _ rfl _ rfl (.bool false) rfl ?_
    simp only [Act.put, List.setIfInBounds_toArray, List.set_cons_zero, List.set_cons_succ]
    refine Step.p_move rfl _ rfl (.bool false) rfl ?_
    simp only [Act.put, List.setIfInBounds_toArray, List.set_cons_zero, List.set_cons_succ]
    with_reducible refine Step.p_unguard ?_ ?_
    · kernel_rfl
    refine Tree.p_loadrow rfl _ _ rfl (w3.heap.size) rfl (A9.out.nrow) Tryd.underlying56 rfl (by rw [hs2]; exact hi27) ?_
    simp only [Act.put, List.setIfInBounds_toArray, List.set_cons_zero, List.set_cons_succ]
    with_reducible refine Step.p_unguard ?_ ?_
    · kernel_rfl
    refine Tree.p_field rfl _ _ _ rfl (w.heap.size) (0) rfl Tryd.underlying68 rfl (sz := 27) (by kernel_rfl) (by decide) (0) rfl ?_
    simp only [Act.put, List.setIfInBounds_toArray, List.set_cons_zero, List.set_cons_succ]
    with_reducible refine Step.p_unguard ?_ ?_
    · kernel_rfl
    refine Tree.p_loadmid rfl _ _ rfl (w.heap.size) (0) rfl cs.toList (row_range (A9.out.box) HSC.out.m) Tryd.underlying56 rfl (by rw [hs]; exact hi27) ?_
    simp only [Act.put, List.setIfInBounds_toArray, List.set_cons_zero, List.set_cons_succ, Array.toArray_toList]
    with_reducible refine Step.p_unguard ?_ ?_
    · kernel_rfl
    refine Step.p_wp rfl (Step.w_callx 35 [.tmp 73, .tmp 75] _ rfl Tryd.func35 (by kernel_rfl) rfl [.agg cn, .agg cs] rfl (by rw [← V2.out, ← V.out]; exact untouched13 _ m { m with toks := T } p p2 w9 A9.out.min A9.out.twin) ?_)
    rintro e w10 ⟨rfl, hb⟩
    refine ⟨_, rfl, ?_⟩
    simp only [Act.put, List.setIfInBounds_toArray, List.set_cons_zero, List.set_cons_succ]
    have A10 := Lib.hid (A9.out.on hb)
    replace G4 := Lib.hid (Tree.grown_trans G4.out (gb_of_below hb) (by simp))
    replace G5 := Lib.hid (Tree.grown_trans G5.out (gb_of_below hb) (by simp))
    replace G6 := Lib.hid (Tree.grown_trans G6.out (gb_of_below hb) (by simp))
    replace G7 := Lib.hid (Tree.grown_trans G7.out (gb_of_below hb) (by simp))
    replace ROWa := Lib.hid ((hb.block _ (Array.getElem?_eq_some_iff.1 ROWa.out).1).trans ROWa.out)
    replace ROWb := Lib.hid ((hb.block _ (Array.getElem?_eq_some_iff.1 ROWb.out).1).trans ROWb.out)
    replace ROWw := Lib.hid ((hb.block _ (Array.getElem?_eq_some_iff.1 ROWw.out).1).trans ROWw.out)
    clear hb
    with_reducible refine Step.p_unguard ?_ ?_
    · kernel_rfl
    refine Step.p_val rfl (.bool false) (by unfold execOp; go_simp) ?_
    simp only [Act.put, List.setIfInBounds_toArray, List.set_cons_zero, List.set_cons_succ]
    refine Step.p_pick rfl _ _ _ rfl _ rfl (.bool false) rfl ?_
    simp only [Act.put, List.setIfInBounds_toArray, List.set_cons_zero, List.set_cons_succ]
    refine wpList_nil ?_
    clear LKa LKb
    go_upto_region 9 with fail
    refine wp_region_lit ?_
    refine Tree.p_loadrow rfl _ _ rfl (w5.heap.size) rfl (ROWa.out) Tryd.underlying56 rfl (by rw [hsa]; exact hi27) ?_
    simp only [Act.put, List.setIfInBounds_toArray, List.set_cons_zero, List.set_cons_succ]
    have BN := Lib.hid (HAa.out.bnd (twin_min A10.out.min A10.out.twin))
    have hx5 : w5.heap.size ≤ w10.heap.size := G5.out.size
    have hx4 : w4.heap.size ≤ w10.heap.size := G4.out.size
    refine Step.p_wp rfl (Step.w_callx 36 [.tmp 79] _ rfl Tryd.func36 (by kernel_rfl) rfl [.agg cA] rfl (by rw [← Va.out]; exact spoil13_any ra pa w4.heap.size w5.heap.size w10 (HOa.out.gb G5.out) HD.out HOa.out.hi hx5 hx4 BN.out.s BN.out.e BN.out.g BN.out.t BN.out.n) ?_)
    rintro e w11 ⟨⟨x, rfl⟩, hsp⟩
    refine ⟨_, rfl, ?_⟩
    simp only [Act.put, List.setIfInBounds_toArray, List.set_cons_zero, List.set_cons_succ]
    refine wpList_nil ?_
    have A11 := Lib.hid (A4.out.on (SpW.below (below_of_gb G4.out) (Nat.le_refl _) rfl hsp))
    have kb : ∀ k, w5b.heap.size ≤ k → k < w6.heap.size → w11.heap[k]? = w6.heap[k]? := fun k h1 h2 => (hsp.block k (Nat.lt_of_lt_of_le h2 G6.out.size) (.inr (by omega))).trans (G6.out.block k h2 (by simp))
    have kw : ∀ k, w6b.heap.size ≤ k → k < w7.heap.size → w11.heap[k]? = w7.heap[k]? := fun k h1 h2 => (hsp.block k (Nat.lt_of_lt_of_le h2 G7.out.size) (.inr (by omega))).trans (G7.out.block k h2 (by simp))
    have LK := Lib.hid (HAb.out.like HAw.out (HOb.out.keep kb) (HOw.out.keep kw) TQ.out)
    replace ROWb := Lib.hid ((hsp.block _ (Array.getElem?_eq_some_iff.1 ROWb.out).1 (.inr (by omega))).trans ROWb.out)
    replace ROWw := Lib.hid ((hsp.block _ (Array.getElem?_eq_some_iff.1 ROWw.out).1 (.inr (by omega))).trans ROWw.out)
    clear hsp kb kw
    go_upto_region 10 with fail
    refine wp_region_lit ?_
    refine Tree.p_loadrow rfl _ _ rfl (w6.heap.size) rfl (ROWb.out) Tryd.underlying56 rfl (by rw [hsb]; exact hi27) ?_
    simp only [Act.put, List.setIfInBounds_toArray, List.set_cons_zero, List.set_cons_succ]
    refine Tree.p_loadrow rfl _ _ rfl (w7.heap.size) rfl (ROWw.out) Tryd.underlying56 rfl (by rw [hsw]; exact hi27) ?_
    simp only [Act.put, List.setIfInBounds_toArray, List.set_cons_zero, List.set_cons_succ]
    refine Step.p_wp rfl (Step.w_callx 34 [.tmp 81, .tmp 82] _ rfl Tryd.func34 (by kernel_rfl) rfl [.agg cB, .agg cW] rfl (by rw [← Vb.out, ← Vw.out]; exact same13 rw rb pw pb w11 LK.out) ?_)
    rintro e w12 ⟨rfl, hb⟩
    refine ⟨_, rfl, ?_⟩
    simp only [Act.put, List.setIfInBounds_toArray, List.set_cons_zero, List.set_cons_succ]
    have A12 := Lib.hid (A11.out.on hb)
    clear hb
    refine Step.p_move rfl _ rfl (.bool true) rfl ?_
    simp only [Act.put, List.setIfInBounds_toArray, List.set_cons_zero, List.set_cons_succ]
    with_reducible refine Step.p_unguard ?_ ?_
    · kernel_rfl
    refine Tree.p_loadrow rfl _ _ rfl (w3.heap.size) rfl (A12.out.nrow) Tryd.underlying56 rfl (by rw [hs2]; exact hi27) ?_
    simp only [Act.put, List.setIfInBounds_toArray, List.set_cons_zero, List.set_cons_succ]
    with_reducible refine Step.p_unguard ?_ ?_
    · kernel_rfl
    refine Tree.p_field rfl _ _ _ rfl (w.heap.size) (0) rfl Tryd.underlying68 rfl (sz := 27) (by kernel_rfl) (by decide) (0) rfl ?_
    simp only [Act.put, List.setIfInBounds_toArray, List.set_cons_zero, List.set_cons_succ]
    with_reducible refine Step.p_unguard ?_ ?_
    · kernel_rfl
    refine Tree.p_loadmid rfl _ _ rfl (w.heap.size) (0) rfl cs.toList (row_range (A12.out.box) HSC.out.m) Tryd.underlying56 rfl (by rw [hs]; exact hi27) ?_
    simp only [Act.put, List.setIfInBounds_toArray, List.set_cons_zero, List.set_cons_succ, Array.toArray_toList]
    with_reducible refine Step.p_unguard ?_ ?_
    · kernel_rfl
    refine Step.p_wp rfl (Step.w_callx 35 [.tmp 85, .tmp 87] _ rfl Tryd.func35 (by kernel_rfl) rfl [.agg cn, .agg cs] rfl (by rw [← V2.out, ← V.out]; exact untouched13 _ m { m with toks := T } p p2 w12 A12.out.min A12.out.twin) ?_)
    rintro e w13 ⟨rfl, hb⟩
    refine ⟨_, rfl, ?_⟩
    simp only [Act.put, List.setIfInBounds_toArray, List.set_cons_zero, List.set_cons_succ]
    have A13 := Lib.hid (A12.out.on hb)
    clear hb
    refine Step.p_pick rfl _ _ _ rfl _ rfl (.bool true) rfl ?_
    simp only [Act.put, List.setIfInBounds_toArray, List.set_cons_zero, List.set_cons_succ]
    refine Step.p_move rfl _ rfl (.bool true) rfl ?_
    simp only [Act.put, List.setIfInBounds_toArray, List.set_cons_zero, List.set_cons_succ]
    with_reducible refine Step.p_unguard ?_ ?_
    · kernel_rfl
    refine Step.p_wp rfl (Step.w_callx 3 [.const (.int .i64 512), .const (.int .i64 1), .const (.int .u64 4096)] _ rfl Tryd.func3 (by kernel_rfl) rfl [.int .i64 512, .int .i64 1, .int .u64 4096] rfl (Rooms.law_any 512 1 4096 w13 A13.out.tab (by decide) (by decide)) ?_)
    rintro e w14 ⟨rfl, hw⟩
    subst hw
    refine ⟨_, rfl, ?_⟩
    simp only [Act.put, List.setIfInBounds_toArray, List.set_cons_zero, List.set_cons_succ]
    refine Step.p_pick rfl _ _ _ rfl _ rfl (.bool true) rfl ?_
    simp only [Act.put, List.setIfInBounds_toArray, List.set_cons_zero, List.set_cons_succ]
    refine Step.p_assign rfl _ rfl (.bool true) rfl ?_
    simp only [Act.put, List.setIfInBounds_toArray, List.set_cons_zero, List.set_cons_succ]
    refine wpList_nil ?_
    go_wp2
    go_ret
    exact ⟨rfl, A13.out.below⟩
end Go.Proofs.YtfchbodbkdkcfaaDoor.Rk
