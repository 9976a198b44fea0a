/- rekey.Next and the document's. -/
import Derived.Test.YtfchbodbkdkcfaaDoorRk9
namespace Go.Proofs.YtfchbodbkdkcfaaDoor.Rk
open Go.RowKit Go.Lib Go.Proofs.YtfchbodbkdkcfaaDoor.Coll Go.Proofs.YtfchbodbkdkcfaaDoor.Meta Go.Proofs.YtfchbodbkdkcfaaDoor.Rooms

def nxA (m : MetaD) : Int := if m.rot.on && wkB m then zoneA (nOf m) m.rot else 0
def nxC (m : MetaD) : Int := if m.rot.on && wkB m then zoneC (nOf m) m.rot else 0
def nxE (m : MetaD) : Int := if m.rot.on then (if wkB m then 0 else 2) else 131
theorem wk_bd {m : MetaD} (h : wkB m = true) : shB m.unit m.count m.head m.keys = true ∧ (0 ≤ nOf m ∧ nOf m ≤ 4294967296) ∧ m.rot.done ≤ nOf m := by
  simp only [wkB, Bool.and_eq_true, decide_eq_true_eq] at h
  obtain ⟨⟨⟨⟨⟨⟨⟨h1, _⟩, _⟩, h2⟩, _⟩, _⟩, _⟩, _⟩ := h
  refine ⟨h1, ?_, h2⟩
  obtain ⟨_, _, _, q1, q2, q3⟩ := shB_bd h1
  have e : nOf m = m.count - (2 * m.head + m.keys) / m.unit := rfl
  omega
theorem meta_shape (m : MetaD) (p : Places) : ∀ j v, ([.int .i64 m.unit, .int .u64 m.count, .int .i64 m.head, .int .i64 m.keys] : List Value)[j]? = some v → (metaA m p)[4 + j]? = some v := by
  intro j v hj
  match j, hj with
  | 0, hj => exact hj
  | 1, hj => exact hj
  | 2, hj => exact hj
  | 3, hj => exact hj
theorem meta_rot (m : MetaD) (p : Places) : ∀ j v, ([.bool m.rot.on, .int .u64 m.rot.fr, .int .u64 m.rot.tn, .bool m.rot.back, .int .i64 m.rot.mode, .int .u64 m.rot.hot, .int .u64 m.rot.done, .int .i64 m.rot.off, .int .i64 m.rot.size, .bool m.rot.active, .int .u64 m.rot.count, .string m.rot.sum] : List Value)[j]? = some v → (metaA m p)[14 + j]? = some v := by
  intro j v hj
  match j, hj with
  | 0, hj => exact hj
  | 1, hj => exact hj
  | 2, hj => exact hj
  | 3, hj => exact hj
  | 4, hj => exact hj
  | 5, hj => exact hj
  | 6, hj => exact hj
  | 7, hj => exact hj
  | 8, hj => exact hj
  | 9, hj => exact hj
  | 10, hj => exact hj
  | 11, hj => exact hj
theorem row_range {w : World} {b o : Nat} {cs : Array Value} {t : TypeId} {L : List Value} (h : w.heap[b]? = some (.cells cs t (0, 0))) (hL : ∀ j v, L[j]? = some v → cs[o + j]? = some v) : w.rangeAt b o L := fun j v hj => (cell_of_row w b (o + j) _ _ _ h).trans (hL j v hj)
section
variable {P : Program} {ops : Array Oper} {C : World → Prop} {Q : Act → Prop} {o : Oper} {rest : List Oper} {a : Act}
theorem q_loadmid (hg : Region.wanted o (yielded ops a.tmps) = true) (ty : TypeId) (x : Operand) (ho : o.op = .load ty x) (b off : Nat) (hx : a.eval x = .pointer (some ⟨b, off, none⟩)) (cs : List Value) {d : TypeDesc} (hA : ∀ w, C w → w.rangeAt b off cs)
    (hu : P.underlying ty = some d) (hd : d.isRow = true) (hi : (P.info? ty).map (·.size) = some cs.length) (h : wpQuiet P ops C Q rest (a.put o.dst (.agg cs.toArray))) : wpQuiet P ops C Q (o :: rest) a :=
  Step.q_val hg _ (fun w hw => by
    unfold Oper.quietAt execOp
    simp only [ho, hx, Instr.loadAt, Instr.sureAddr, Sem.run_bind, Sem.run_pure, Result.andThen_ok, run_loadVar_mid w b off ty cs d (hA w hw) hu hd hi]
    exact ⟨rfl, rfl⟩) h
end

set_option maxRecDepth 100000 in
set_option maxHeartbeats 4000000 in
theorem next_any (m : MetaD) (p : Places) (w : World) (h : WIn w m p) (ht : Table 0 w) (hg : 0 < w.heap.size) :
    Calls Tryd.prog 37 #[metaV m p] w fun e w' => e = .returned (.tuple #[.int .u64 (nxA m), .int .u64 (nxC m), .int .i64 (nxE m)]) ∧ Below w.heap.size w w' := by
  have HW := Lib.hid h
  have hi27 : (Tryd.prog.info? 56).map (·.size) = some 27 := by kernel_rfl
  have MCS := Lib.hid (mc m p)
  have RS := Lib.hid (meta_shape m p)
  have RR := Lib.hid (meta_rot m p)
  obtain ⟨A, hA⟩ : ∃ A, nxA m = A := ⟨_, rfl⟩
  obtain ⟨C, hC⟩ : ∃ C, nxC m = C := ⟨_, rfl⟩
  obtain ⟨E, hE⟩ : ∃ E, nxE m = E := ⟨_, rfl⟩
  rw [metaV_eq, hA, hC, hE]
  have HA := Lib.hid (And.intro hA (And.intro hC hE))
  clear hA hC hE h
  generalize metaA m p = cs at *
  cases hon : m.rot.on with
  | false =>
    have HON := Lib.hid hon
    obtain ⟨rfl, rfl, rfl⟩ : A = 0 ∧ C = 0 ∧ E = 131 := by rw [← HA.out.1, ← HA.out.2.1, ← HA.out.2.2]; simp [nxA, nxC, nxE, hon]
    clear hon
    go_enter Tryd.func37, Tryd.ntmps37
    go_upto_region 1 with fail
    have b1 : Below w.heap.size w (w.alloc (.cells cs 56)) := (Below.refl _ _).alloc (Nat.le_refl _) _
    have o1 := heap_alloc_new w (.cells cs 56)
    generalize w.alloc (.cells cs 56) = w1 at *
    have x14 := (cell_of_row _ _ 14 _ _ _ o1).trans MCS.out.c14
    rw [HON.out] at x14
    go_wp2
    go_ret3
    exact ⟨rfl, b1⟩
  | true =>
    have HON := Lib.hid hon
    clear hon
    go_enter Tryd.func37, Tryd.ntmps37
    go_upto_region 1 with fail
    have b1 : Below w.heap.size w (w.alloc (.cells cs 56)) := (Below.refl _ _).alloc (Nat.le_refl _) _
    have o1 := heap_alloc_new w (.cells cs 56)
    generalize w.alloc (.cells cs 56) = w1 at *
    have hl1 := (Array.getElem?_eq_some_iff.1 o1).1
    have x14 := (cell_of_row _ _ 14 _ _ _ o1).trans MCS.out.c14
    rw [HON.out] at x14
    go_upto_region 3 with fail
    refine wp_region_lit ?_
    refine Tree.p_loadrow rfl _ _ rfl w.heap.size rfl o1 Tryd.underlying56 rfl (by rw [MCS.out.size]; exact hi27) ?_
    simp only [Act.put, List.setIfInBounds_toArray, List.set_cons_zero, List.set_cons_succ]
    have WK := workable_any m p w1 (HW.out.below b1) (tab_below ht hg b1) (Nat.lt_of_lt_of_le hg b1.size)
    rw [MCS.out.eq] at WK
    refine Step.p_wp rfl (Step.w_callx 74 [.tmp 13] _ rfl Tryd.func74 (by kernel_rfl) rfl [.agg cs] rfl WK ?_)
    rintro e w2 ⟨rfl, hb2⟩
    refine ⟨_, rfl, ?_⟩
    simp only [Act.put, List.setIfInBounds_toArray, List.set_cons_zero, List.set_cons_succ]
    clear WK x14
    have o2 := (hb2.block _ hl1).trans o1
    have b2 := b1.trans (hb2.mono b1.size)
    clear o1 b1 hb2
    cases hwk : wkB m with
    | false =>
      obtain ⟨rfl, rfl, rfl⟩ : A = 0 ∧ C = 0 ∧ E = 2 := by rw [← HA.out.1, ← HA.out.2.1, ← HA.out.2.2]; simp [nxA, nxC, nxE, HON.out, hwk]
      refine Step.p_val rfl (.bool true) (by unfold execOp; go_simp) ?_
      simp only [Act.put, List.setIfInBounds_toArray, List.set_cons_zero, List.set_cons_succ]
      refine Step.p_assign rfl _ rfl (.bool true) rfl ?_
      refine wpList_nil ?_
      simp only [Act.put, List.setIfInBounds_toArray, List.set_cons_zero, List.set_cons_succ]
      go_wp2
      go_ret3
      exact ⟨rfl, b2⟩
    | true =>
      obtain ⟨ha, hc, rfl⟩ : zoneA (nOf m) m.rot = A ∧ zoneC (nOf m) m.rot = C ∧ E = 0 := by rw [← HA.out.1, ← HA.out.2.1, ← HA.out.2.2]; simp [nxA, nxC, nxE, HON.out, hwk]
      refine Step.p_val rfl (.bool false) (by unfold execOp; go_simp) ?_
      simp only [Act.put, List.setIfInBounds_toArray, List.set_cons_zero, List.set_cons_succ]
      refine Step.p_assign rfl _ rfl (.bool false) rfl ?_
      refine wpList_nil ?_
      simp only [Act.put, List.setIfInBounds_toArray, List.set_cons_zero, List.set_cons_succ]
      obtain ⟨hsh, hnb, hdn⟩ := wk_bd hwk
      have SZ := Lib.hid (fun w => size_any m.unit m.count m.head m.keys w hsh)
      have ZN0 := fun w => zone_any (nOf m) m.rot w hnb.1 hnb.2 HW.out.r.done.1 hdn HW.out.r.hot.1 HW.out.r.hot.2
      simp only [ha, hc] at ZN0
      have ZN := Lib.hid ZN0
      clear ZN0 ha hc
      have hl2 := (Array.getElem?_eq_some_iff.1 o2).1
      clear hwk hsh hnb hdn
      go_upto_region 5 with fail
      refine Step.wp_region_class (C := fun w' => Below w2.heap.size w2 w') (by kernel_rfl) (by kernel_rfl) (Below.refl _ _).drew ?_
      refine Step.q_field rfl _ _ _ rfl w.heap.size 0 rfl Tryd.underlying56 rfl (sz := 4) (by kernel_rfl) (by decide) 4 rfl ?_
      simp only [Act.put, List.setIfInBounds_toArray, List.set_cons_zero, List.set_cons_succ]
      refine q_loadmid rfl _ _ rfl w.heap.size 4 rfl [.int .i64 m.unit, .int .u64 m.count, .int .i64 m.head, .int .i64 m.keys] (fun w' hw' => row_range ((hw'.block _ hl2).trans o2) RS.out) Tryd.underlying31 rfl (by kernel_rfl) ?_
      simp only [Act.put, List.setIfInBounds_toArray, List.set_cons_zero, List.set_cons_succ]
      refine Step.q_call rfl 62 [.tmp 18] _ rfl Tryd.func62 (by kernel_rfl) rfl (.int .u64 (nOf m)) [.agg #[.int .i64 m.unit, .int .u64 m.count, .int .i64 m.head, .int .i64 m.keys]] rfl (fun w' hw' => (SZ.out w').mono fun e w2 ⟨he, hb⟩ => ⟨he, hw'.trans (hb.mono hw'.size)⟩) ?_
      simp only [Act.put, List.setIfInBounds_toArray, List.set_cons_zero, List.set_cons_succ]
      refine Step.q_field rfl _ _ _ rfl w.heap.size 0 rfl Tryd.underlying56 rfl (sz := 12) (by kernel_rfl) (by decide) 14 rfl ?_
      simp only [Act.put, List.setIfInBounds_toArray, List.set_cons_zero, List.set_cons_succ]
      refine q_loadmid rfl _ _ rfl w.heap.size 14 rfl [.bool m.rot.on, .int .u64 m.rot.fr, .int .u64 m.rot.tn, .bool m.rot.back, .int .i64 m.rot.mode, .int .u64 m.rot.hot, .int .u64 m.rot.done, .int .i64 m.rot.off, .int .i64 m.rot.size, .bool m.rot.active, .int .u64 m.rot.count, .string m.rot.sum] (fun w' hw' => row_range ((hw'.block _ hl2).trans o2) RR.out) Tryd.underlying53 rfl (by kernel_rfl) ?_
      simp only [Act.put, List.setIfInBounds_toArray, List.set_cons_zero, List.set_cons_succ]
      refine Step.q_call rfl 75 [.tmp 19, .tmp 21] _ rfl Tryd.func75 (by kernel_rfl) rfl (.tuple #[.int .u64 A, .int .u64 C]) [.int .u64 (nOf m), .agg #[.bool m.rot.on, .int .u64 m.rot.fr, .int .u64 m.rot.tn, .bool m.rot.back, .int .i64 m.rot.mode, .int .u64 m.rot.hot, .int .u64 m.rot.done, .int .i64 m.rot.off, .int .i64 m.rot.size, .bool m.rot.active, .int .u64 m.rot.count, .string m.rot.sum]] rfl (fun w' hw' => (ZN.out w').mono fun e w2 ⟨he, hb⟩ => ⟨he, hw'.trans (hb.mono hw'.size)⟩) ?_
      simp only [Act.put, List.setIfInBounds_toArray, List.set_cons_zero, List.set_cons_succ]
      refine Step.q_move rfl _ rfl (.tuple #[.int .u64 A, .int .u64 C]) rfl ?_
      simp only [Act.put, List.setIfInBounds_toArray, List.set_cons_zero, List.set_cons_succ]
      refine Step.q_pure rfl (.int .u64 A) (fun w' => by unfold execOp; go_simp) ?_
      simp only [Act.put, List.setIfInBounds_toArray, List.set_cons_zero, List.set_cons_succ]
      refine Step.q_pure rfl (.int .u64 C) (fun w' => by unfold execOp; go_simp) ?_
      simp only [Act.put, List.setIfInBounds_toArray, List.set_cons_zero, List.set_cons_succ]
      refine Step.q_assign rfl _ rfl (.int .u64 A) rfl ?_
      simp only [Act.put, List.setIfInBounds_toArray, List.set_cons_zero, List.set_cons_succ]
      refine Step.q_assign rfl _ rfl (.int .u64 C) rfl ?_
      refine wpQuiet_nil ?_
      intro w3 hw3
      simp only [Act.put, List.setIfInBounds_toArray, List.set_cons_zero, List.set_cons_succ]
      have HB := Lib.hid (b2.trans (hw3.mono b2.size))
      go_wp2
      go_ret3
      exact ⟨rfl, HB.out⟩

set_option maxRecDepth 100000 in
set_option maxHeartbeats 4000000 in
theorem refNext_any (m : MetaD) (p : Places) (w : World) (h : WIn w m p) :
    Calls Tryd.prog 38 #[metaV m p] w fun e w' => e = .returned (.tuple #[.int .u64 (nxA m), .int .u64 (nxC m), .int .i64 (nxE m)]) ∧ Below w.heap.size w w' := by
  have HW := Lib.hid h
  have hi27 : (Tryd.prog.info? 56).map (·.size) = some 27 := by kernel_rfl
  have MCS := Lib.hid (mc m p)
  have RS := Lib.hid (meta_shape m p)
  have RR := Lib.hid (meta_rot m p)
  obtain ⟨A, hA⟩ : ∃ A, nxA m = A := ⟨_, rfl⟩
  obtain ⟨C, hC⟩ : ∃ C, nxC m = C := ⟨_, rfl⟩
  obtain ⟨E, hE⟩ : ∃ E, nxE m = E := ⟨_, rfl⟩
  rw [metaV_eq, hA, hC, hE]
  have HA := Lib.hid (And.intro hA (And.intro hC hE))
  clear hA hC hE h
  generalize metaA m p = cs at *
  cases hon : m.rot.on with
  | false =>
    have HON := Lib.hid hon
    obtain ⟨rfl, rfl, rfl⟩ : A = 0 ∧ C = 0 ∧ E = 131 := by rw [← HA.out.1, ← HA.out.2.1, ← HA.out.2.2]; simp [nxA, nxC, nxE, hon]
    clear hon
    go_enter Tryd.func38, Tryd.ntmps38
    go_upto_region 1 with fail
    have b1 : Below w.heap.size w (w.alloc (.cells cs 56)) := (Below.refl _ _).alloc (Nat.le_refl _) _
    have o1 := heap_alloc_new w (.cells cs 56)
    generalize w.alloc (.cells cs 56) = w1 at *
    have x14 := (cell_of_row _ _ 14 _ _ _ o1).trans MCS.out.c14
    rw [HON.out] at x14
    go_wp2
    go_ret3
    exact ⟨rfl, b1⟩
  | true =>
    have HON := Lib.hid hon
    clear hon
    go_enter Tryd.func38, Tryd.ntmps38
    go_upto_region 1 with fail
    have b1 : Below w.heap.size w (w.alloc (.cells cs 56)) := (Below.refl _ _).alloc (Nat.le_refl _) _
    have o1 := heap_alloc_new w (.cells cs 56)
    generalize w.alloc (.cells cs 56) = w1 at *
    have hl1 := (Array.getElem?_eq_some_iff.1 o1).1
    have x14 := (cell_of_row _ _ 14 _ _ _ o1).trans MCS.out.c14
    rw [HON.out] at x14
    go_upto_region 3 with fail
    refine wp_region_lit ?_
    refine Tree.p_loadrow rfl _ _ rfl w.heap.size rfl o1 Tryd.underlying56 rfl (by rw [MCS.out.size]; exact hi27) ?_
    simp only [Act.put, List.setIfInBounds_toArray, List.set_cons_zero, List.set_cons_succ]
    have WK := refWorkable_any m p w1 (HW.out.below b1) HON.out
    rw [MCS.out.eq] at WK
    refine Step.p_wp rfl (Step.w_callx 76 [.tmp 11] _ rfl Tryd.func76 (by kernel_rfl) rfl [.agg cs] rfl WK ?_)
    rintro e w2 ⟨rfl, hb2⟩
    refine ⟨_, rfl, ?_⟩
    simp only [Act.put, List.setIfInBounds_toArray, List.set_cons_zero, List.set_cons_succ]
    clear WK x14
    have o2 := (hb2.block _ hl1).trans o1
    have b2 := b1.trans (hb2.mono b1.size)
    clear o1 b1 hb2
    cases hwk : wkB m with
    | false =>
      obtain ⟨rfl, rfl, rfl⟩ : A = 0 ∧ C = 0 ∧ E = 2 := by rw [← HA.out.1, ← HA.out.2.1, ← HA.out.2.2]; simp [nxA, nxC, nxE, HON.out, hwk]
      refine Step.p_val rfl (.bool true) (by unfold execOp; go_simp) ?_
      simp only [Act.put, List.setIfInBounds_toArray, List.set_cons_zero, List.set_cons_succ]
      refine wpList_nil ?_
      go_wp2
      go_ret3
      exact ⟨rfl, b2⟩
    | true =>
      obtain ⟨ha, hc, rfl⟩ : zoneA (nOf m) m.rot = A ∧ zoneC (nOf m) m.rot = C ∧ E = 0 := by rw [← HA.out.1, ← HA.out.2.1, ← HA.out.2.2]; simp [nxA, nxC, nxE, HON.out, hwk]
      refine Step.p_val rfl (.bool false) (by unfold execOp; go_simp) ?_
      simp only [Act.put, List.setIfInBounds_toArray, List.set_cons_zero, List.set_cons_succ]
      refine wpList_nil ?_
      obtain ⟨hsh, hnb, hdn⟩ := wk_bd hwk
      have SZ := Lib.hid (fun w => refSize_any m.unit m.count m.head m.keys w hsh)
      have ZN0 := fun w => hotzone_any (nOf m) m.rot w hnb.1 hnb.2 HW.out.r.done.1 hdn HW.out.r.hot.1 HW.out.r.hot.2
      simp only [ha, hc] at ZN0
      have ZN := Lib.hid ZN0
      clear ZN0 ha hc
      have hl2 := (Array.getElem?_eq_some_iff.1 o2).1
      clear hwk hsh hnb hdn
      go_upto_region 5 with fail
      refine Step.wp_region_class (C := fun w' => Below w2.heap.size w2 w') (by kernel_rfl) (by kernel_rfl) (Below.refl _ _).drew ?_
      refine Step.q_field rfl _ _ _ rfl w.heap.size 0 rfl Tryd.underlying56 rfl (sz := 4) (by kernel_rfl) (by decide) 4 rfl ?_
      simp only [Act.put, List.setIfInBounds_toArray, List.set_cons_zero, List.set_cons_succ]
      refine q_loadmid rfl _ _ rfl w.heap.size 4 rfl [.int .i64 m.unit, .int .u64 m.count, .int .i64 m.head, .int .i64 m.keys] (fun w' hw' => row_range ((hw'.block _ hl2).trans o2) RS.out) Tryd.underlying31 rfl (by kernel_rfl) ?_
      simp only [Act.put, List.setIfInBounds_toArray, List.set_cons_zero, List.set_cons_succ]
      refine Step.q_call rfl 69 [.tmp 16] _ rfl Tryd.func69 (by kernel_rfl) rfl (.int .u64 (nOf m)) [.agg #[.int .i64 m.unit, .int .u64 m.count, .int .i64 m.head, .int .i64 m.keys]] rfl (fun w' hw' => (SZ.out w').mono fun e w2 ⟨he, hb⟩ => ⟨he, hw'.trans (hb.mono hw'.size)⟩) ?_
      simp only [Act.put, List.setIfInBounds_toArray, List.set_cons_zero, List.set_cons_succ]
      refine Step.q_field rfl _ _ _ rfl w.heap.size 0 rfl Tryd.underlying56 rfl (sz := 12) (by kernel_rfl) (by decide) 14 rfl ?_
      simp only [Act.put, List.setIfInBounds_toArray, List.set_cons_zero, List.set_cons_succ]
      refine q_loadmid rfl _ _ rfl w.heap.size 14 rfl [.bool m.rot.on, .int .u64 m.rot.fr, .int .u64 m.rot.tn, .bool m.rot.back, .int .i64 m.rot.mode, .int .u64 m.rot.hot, .int .u64 m.rot.done, .int .i64 m.rot.off, .int .i64 m.rot.size, .bool m.rot.active, .int .u64 m.rot.count, .string m.rot.sum] (fun w' hw' => row_range ((hw'.block _ hl2).trans o2) RR.out) Tryd.underlying53 rfl (by kernel_rfl) ?_
      simp only [Act.put, List.setIfInBounds_toArray, List.set_cons_zero, List.set_cons_succ]
      refine Step.q_call rfl 77 [.tmp 17, .tmp 19] _ rfl Tryd.func77 (by kernel_rfl) rfl (.tuple #[.int .u64 A, .int .u64 C]) [.int .u64 (nOf m), .agg #[.bool m.rot.on, .int .u64 m.rot.fr, .int .u64 m.rot.tn, .bool m.rot.back, .int .i64 m.rot.mode, .int .u64 m.rot.hot, .int .u64 m.rot.done, .int .i64 m.rot.off, .int .i64 m.rot.size, .bool m.rot.active, .int .u64 m.rot.count, .string m.rot.sum]] rfl (fun w' hw' => (ZN.out w').mono fun e w2 ⟨he, hb⟩ => ⟨he, hw'.trans (hb.mono hw'.size)⟩) ?_
      simp only [Act.put, List.setIfInBounds_toArray, List.set_cons_zero, List.set_cons_succ]
      refine Step.q_move rfl _ rfl (.tuple #[.int .u64 A, .int .u64 C]) rfl ?_
      simp only [Act.put, List.setIfInBounds_toArray, List.set_cons_zero, List.set_cons_succ]
      refine Step.q_pure rfl (.int .u64 A) (fun w' => by unfold execOp; go_simp) ?_
      simp only [Act.put, List.setIfInBounds_toArray, List.set_cons_zero, List.set_cons_succ]
      refine Step.q_pure rfl (.int .u64 C) (fun w' => by unfold execOp; go_simp) ?_
      simp only [Act.put, List.setIfInBounds_toArray, List.set_cons_zero, List.set_cons_succ]
      refine Step.q_assign rfl _ rfl (.int .u64 A) rfl ?_
      simp only [Act.put, List.setIfInBounds_toArray, List.set_cons_zero, List.set_cons_succ]
      refine Step.q_assign rfl _ rfl (.int .u64 C) rfl ?_
      refine wpQuiet_nil ?_
      intro w3 hw3
      simp only [Act.put, List.setIfInBounds_toArray, List.set_cons_zero, List.set_cons_succ]
      have HB := Lib.hid (b2.trans (hw3.mono b2.size))
      go_wp2
      go_ret3
      exact ⟨rfl, HB.out⟩
end Go.Proofs.YtfchbodbkdkcfaaDoor.Rk
