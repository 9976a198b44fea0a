/- What rekey.workable and the document's Workable answer. -/
import Derived.Test.YtfchbodbkdkcfaaDoorRk3
import Derived.Test.YtfchbodbkdkcfaaDoorRk6
import Derived.Test.YtfchbodbkdkcfaaDoorRk7
import Derived.Test.YtfchbodbkdkcfaaDoorSegsD
namespace Go.Proofs.YtfchbodbkdkcfaaDoor.Rk
open Go.RowKit Go.Lib Go.Proofs.YtfchbodbkdkcfaaDoor.Coll Go.Proofs.YtfchbodbkdkcfaaDoor.Meta Go.Proofs.YtfchbodbkdkcfaaDoor.Rooms

def nOf (m : MetaD) : Int := szN m.unit m.count m.head m.keys
def tailB (m : MetaD) : Bool := if m.rot.active then decide (m.rot.done < nOf m) && decide (m.rot.count = zoneC (nOf m) m.rot) && decide (m.rot.sum.size = 32) else decide (m.rot.count = 0) && m.rot.sum.toList.isEmpty
def wkB (m : MetaD) : Bool := shB m.unit m.count m.head m.keys && plB m.unit m.head m.keys m.rot.off m.rot.size m.rot.mode m.rot.hot && decide (m.rot.fr < m.rot.tn) && decide (m.rot.done ≤ nOf m) && decide (cntE m.epochs m.rot.fr = 1) && decide (cntE m.epochs m.rot.tn = 1) && decide (m.segs = segsR (nOf m) m.rot) && tailB m
/-- what is read of metadata -/
structure WIn (w : World) (m : MetaD) (p : Places) : Prop where
  e : LV epochC w p.qe m.epochs
  el : m.epochs.length ≤ 9223372036854775807
  g : LV sgC w p.qg m.segs
  gl : m.segs.length ≤ 9223372036854775807
  sum : m.rot.sum.size ≤ 9223372036854775807
  r : MR m
theorem WIn.below {w w' : World} {m : MetaD} {p : Places} (h : WIn w m p) (hb : Below w.heap.size w w') : WIn w' m p := ⟨h.e.below hb, h.el, h.g.below hb, h.gl, h.sum, h.r⟩
theorem tab_below {w w' : World} (h : Table 0 w) (hl : 0 < w.heap.size) (hb : Below w.heap.size w w') : Table 0 w' := fun i hi => (hb.cell (p := ⟨0, i, none⟩) hl).trans (h i hi)
/-- the boxes of metadata and of their rotation -/
structure WB (b b2 : Nat) (cs : Array Value) (m : MetaD) (p : Places) (X : World) : Prop where
  box : X.heap[b]? = some (.cells cs 56 (0, 0))
  rot : X.heap[b2]? = some (.cells (rotC m.rot) 53 (0, 0))
  win : WIn X m p
theorem WB.below {b b2 : Nat} {cs : Array Value} {m : MetaD} {p : Places} {X X' : World} (h : WB b b2 cs m p X) (hb : Below X.heap.size X X') : WB b b2 cs m p X' :=
  ⟨(hb.block _ (Array.getElem?_eq_some_iff.1 h.box).1).trans h.box, (hb.block _ (Array.getElem?_eq_some_iff.1 h.rot).1).trans h.rot, h.win.below hb⟩
theorem rot_cells {X : World} {b : Nat} {m : MetaD} (h : X.heap[b]? = some (.cells (rotC m.rot) 53 (0, 0))) :
    X.cell? ⟨b, 0, none⟩ = some (.bool m.rot.on) ∧ X.cell? ⟨b, 1, none⟩ = some (.int .u64 m.rot.fr) ∧ X.cell? ⟨b, 2, none⟩ = some (.int .u64 m.rot.tn) ∧ X.cell? ⟨b, 3, none⟩ = some (.bool m.rot.back) ∧ X.cell? ⟨b, 4, none⟩ = some (.int .i64 m.rot.mode) ∧ X.cell? ⟨b, 5, none⟩ = some (.int .u64 m.rot.hot) ∧ X.cell? ⟨b, 6, none⟩ = some (.int .u64 m.rot.done) ∧ X.cell? ⟨b, 7, none⟩ = some (.int .i64 m.rot.off) ∧ X.cell? ⟨b, 8, none⟩ = some (.int .i64 m.rot.size) ∧ X.cell? ⟨b, 9, none⟩ = some (.bool m.rot.active) ∧ X.cell? ⟨b, 10, none⟩ = some (.int .u64 m.rot.count) ∧ X.cell? ⟨b, 11, none⟩ = some (.string m.rot.sum) := by
  refine ⟨?_, ?_, ?_, ?_, ?_, ?_, ?_, ?_, ?_, ?_, ?_, ?_⟩ <;> rw [cell_of_row X b _ _ _ _ h] <;> rfl
/-- the cells of metadata that are asked for -/
structure MC (cs : Array Value) (m : MetaD) (p : Places) : Prop where
  size : cs.size = 27
  eq : metaV m p = .agg cs
  c4 : cs[4]? = some (.int .i64 m.unit)
  c5 : cs[5]? = some (.int .u64 m.count)
  c6 : cs[6]? = some (.int .i64 m.head)
  c7 : cs[7]? = some (.int .i64 m.keys)
  c12 : cs[12]? = some (.slice p.qe m.epochs.length p.ke)
  c13 : cs[13]? = some (.slice p.qg m.segs.length p.kg)
  c14 : cs[14]? = some (.bool m.rot.on)
  c15 : cs[15]? = some (.int .u64 m.rot.fr)
  c16 : cs[16]? = some (.int .u64 m.rot.tn)
  c17 : cs[17]? = some (.bool m.rot.back)
  c18 : cs[18]? = some (.int .i64 m.rot.mode)
  c19 : cs[19]? = some (.int .u64 m.rot.hot)
  c20 : cs[20]? = some (.int .u64 m.rot.done)
  c21 : cs[21]? = some (.int .i64 m.rot.off)
  c22 : cs[22]? = some (.int .i64 m.rot.size)
  c23 : cs[23]? = some (.bool m.rot.active)
  c24 : cs[24]? = some (.int .u64 m.rot.count)
  c25 : cs[25]? = some (.string m.rot.sum)
theorem own_lv {w : World} {B : Nat} {v : Value} {L : List Sg} (h : w.ownsRow B 92 3 v L.length (sgL L)) : ∃ q c, v = .slice q L.length c ∧ LV sgC w q L := by
  rcases h.2 with ⟨h1, h0⟩ | ⟨g, c, cur, h1, _⟩
  · subst h1
    obtain rfl := List.length_eq_zero_iff.1 h0
    exact ⟨none, 0, rfl, fun j v hj => by simp at hj⟩
  · subst h1
    exact ⟨_, _, rfl, LV.of_own (L := L) (ms := []) (by rw [List.append_nil]; exact h)⟩
section
variable {P : Program} {Q : Exit → Act → World → Prop} {S : World → Prop} {a : Act} {w : World} {fuel : Nat} {listed : Array Bool} {i : Nat} {o : Oper} {tl l : List Oper}
theorem t_loadrow (hi : l.drop i = o :: tl) (hg : Region.wanted o (yielded l.toArray a.tmps) = true) (hs : Region.noSelect l.toArray = true) (hf : Region.free .any l.toArray listed i = true) (hr : (Region.ready .any l.toArray listed).contains i = true) (hS : S w)
    (ty : TypeId) (x : Operand) (ho : o.op = .load ty x) (b : Nat) (hx : a.eval x = .pointer (some ⟨b, 0, none⟩)) {t : TypeId} {cs : Array Value} {d : TypeDesc} (hA : ∀ w, S w → w.heap[b]? = some (.cells cs t (0, 0))) (hu : P.underlying ty = some d) (hd : (match d with | .struct _ | .array _ _ => true | _ => false) = true)
    (hi' : (P.info? ty).map (·.size) = some cs.size) (h : wpAnyH P .any l.toArray (NoPanic Q) S fuel (listed.setIfInBounds i true) (a.put o.dst (.agg cs)) w) : wpAnyH P .any l.toArray (NoPanic Q) S (fuel + 1) listed a w :=
  Step.t_val hi hg hs hf hr hS _ (fun w hw => by
    unfold execOp
    simp only [ho, hx, Instr.loadAt, Instr.sureAddr, Sem.run_bind, Sem.run_pure, Result.andThen_ok, run_loadVar_row w b t ty _ _ d (hA w hw) hu hd hi']) h
end
theorem mc (m : MetaD) (p : Places) : MC (metaA m p) m p := ⟨rfl, rfl, rfl, rfl, rfl, rfl, rfl, rfl, rfl, rfl, rfl, rfl, rfl, rfl, rfl, rfl, rfl, rfl, rfl, rfl⟩

set_option maxRecDepth 100000 in
set_option maxHeartbeats 8000000 in
theorem workable_any (m : MetaD) (p : Places) (w : World) (h : WIn w m p) (ht : Table 0 w) (hg : 0 < w.heap.size) :
    Calls Tryd.prog 74 #[metaV m p] w fun e w' => e = .returned (.bool (wkB m)) ∧ Below w.heap.size w w' := by
  have HW := Lib.hid h
  have HT := Lib.hid ht
  clear h ht
  have hi27 : (Tryd.prog.info? 56).map (·.size) = some 27 := by kernel_rfl
  obtain ⟨B, hB⟩ : ∃ B, wkB m = B := ⟨_, rfl⟩
  rw [hB, metaV_eq]
  have HB := Lib.hid hB
  unfold wkB at HB
  clear hB
  have MCS := Lib.hid (mc m p)
  generalize metaA m p = cs at *
  go_enter Tryd.func74, Tryd.ntmps74
  go_upto_region 1 with fail
  have b1 : Below w.heap.size w (w.alloc (.cells cs 56)) := (Below.refl _ _).alloc (Nat.le_refl _) _
  have o1 := heap_alloc_new w (.cells cs 56)
  generalize w.alloc (.cells cs 56) = w1 at *
  have hl1 := (Array.getElem?_eq_some_iff.1 o1).1
  have x14 := (cell_of_row _ _ 14 _ _ _ o1).trans MCS.out.c14
  have x15 := (cell_of_row _ _ 15 _ _ _ o1).trans MCS.out.c15
  have x16 := (cell_of_row _ _ 16 _ _ _ o1).trans MCS.out.c16
  have x17 := (cell_of_row _ _ 17 _ _ _ o1).trans MCS.out.c17
  have x18 := (cell_of_row _ _ 18 _ _ _ o1).trans MCS.out.c18
  have x19 := (cell_of_row _ _ 19 _ _ _ o1).trans MCS.out.c19
  have x20 := (cell_of_row _ _ 20 _ _ _ o1).trans MCS.out.c20
  have x21 := (cell_of_row _ _ 21 _ _ _ o1).trans MCS.out.c21
  have x22 := (cell_of_row _ _ 22 _ _ _ o1).trans MCS.out.c22
  have x23 := (cell_of_row _ _ 23 _ _ _ o1).trans MCS.out.c23
  have x24 := (cell_of_row _ _ 24 _ _ _ o1).trans MCS.out.c24
  have x25 := (cell_of_row _ _ 25 _ _ _ o1).trans MCS.out.c25
  go_upto_region 2 with fail
  have b2 : Below w.heap.size w (w1.alloc (.cells (rotC m.rot) 53)) := b1.alloc b1.size _
  have b12 : Below w1.heap.size w1 (w1.alloc (.cells (rotC m.rot) 53)) := (Below.refl _ _).alloc (Nat.le_refl _) _
  have o2 := heap_alloc_new w1 (.cells (rotC m.rot) 53)
  have hrc : rotC m.rot = #[.bool m.rot.on, .int .u64 m.rot.fr, .int .u64 m.rot.tn, .bool m.rot.back, .int .i64 m.rot.mode, .int .u64 m.rot.hot, .int .u64 m.rot.done, .int .i64 m.rot.off, .int .i64 m.rot.size, .bool m.rot.active, .int .u64 m.rot.count, .string m.rot.sum] := rfl
  rw [← hrc]
  clear hrc
  have WB2 : Hid (WB w.heap.size w1.heap.size cs m p (w1.alloc (.cells (rotC m.rot) 53))) := Lib.hid ⟨(b12.block _ hl1).trans o1, o2, HW.out.below b2⟩
  generalize w1.alloc (.cells (rotC m.rot) 53) = w2 at *
  have B2 := Lib.hid b2
  clear x14 x15 x16 x17 x18 x19 x20 x21 x22 x23 x24 x25 b1 b2 b12 o1 o2
  have rc : 0 ≤ m.count ∧ m.count ≤ 18446744073709551615 := HW.out.r.count
  have rh : -9223372036854775808 ≤ m.head ∧ m.head ≤ 9223372036854775807 := HW.out.r.head
  have rk : -9223372036854775808 ≤ m.keys ∧ m.keys ≤ 9223372036854775807 := HW.out.r.keys
  have SH := Lib.hid (shaped_any m.unit m.count m.head m.keys w2 (tab_below HT.out hg B2.out) (Nat.lt_of_lt_of_le hg B2.out.size) (by omega) (by omega) (by omega) (by omega) (by omega) (by omega))
  clear rc rh rk
  have y4 := (cell_of_row _ _ 4 _ _ _ WB2.out.box).trans MCS.out.c4
  have y5 := (cell_of_row _ _ 5 _ _ _ WB2.out.box).trans MCS.out.c5
  have y6 := (cell_of_row _ _ 6 _ _ _ WB2.out.box).trans MCS.out.c6
  have y7 := (cell_of_row _ _ 7 _ _ _ WB2.out.box).trans MCS.out.c7
  go_wp2_with fail
  refine SH.out.mono ?_
  rintro e w3 ⟨rfl, hb3⟩
  have WB3 := Lib.hid (WB2.out.below hb3)
  have B3 := Lib.hid (B2.out.trans (hb3.mono B2.out.size))
  clear y4 y5 y6 y7 hb3 SH WB2 B2
  cases hsh : shB m.unit m.count m.head m.keys with
  | false =>
    obtain rfl : B = false := by rw [← HB.out, hsh]; simp only [Bool.false_and]
    go_wp2
    go_ret
    exact ⟨rfl, B3.out⟩
  | true =>
    have HSH := Lib.hid hsh
    have y4 := (cell_of_row _ _ 4 _ _ _ WB3.out.box).trans MCS.out.c4
    have y5 := (cell_of_row _ _ 5 _ _ _ WB3.out.box).trans MCS.out.c5
    have y6 := (cell_of_row _ _ 6 _ _ _ WB3.out.box).trans MCS.out.c6
    have y7 := (cell_of_row _ _ 7 _ _ _ WB3.out.box).trans MCS.out.c7
    obtain ⟨c0, c1, c2, c3, c4, c5, c6, c7, c8, c9, c10, c11⟩ := rot_cells WB3.out.rot
    have PL := Lib.hid (placed_any m.unit m.count m.head m.keys m.rot.off m.rot.size m.rot.mode m.rot.hot w3 hsh (tab_below HT.out hg B3.out) (Nat.lt_of_lt_of_le hg B3.out.size) HW.out.r.hot.1 (Int.lt_add_one_iff.2 HW.out.r.hot.2) HW.out.r.size.1 HW.out.r.size.2)
    clear hsh
    go_wp2_with fail
    refine PL.out.mono ?_
    rintro e w4 ⟨rfl, hb4⟩
    have WB4 := Lib.hid (WB3.out.below hb4)
    have B4 := Lib.hid (B3.out.trans (hb4.mono B3.out.size))
    clear y4 y5 y6 y7 c0 c1 c2 c3 c4 c5 c6 c7 c8 c9 c10 c11 hb4 PL WB3 B3
    cases hpl : plB m.unit m.head m.keys m.rot.off m.rot.size m.rot.mode m.rot.hot with
    | false =>
      obtain rfl : B = false := by rw [← HB.out, hpl]; simp only [Bool.false_and, Bool.and_false]
      go_wp2
      go_ret
      exact ⟨rfl, B4.out⟩
    | true =>
      have HPL := Lib.hid hpl
      clear hpl
      obtain ⟨c0, c1, c2, c3, c4, c5, c6, c7, c8, c9, c10, c11⟩ := rot_cells WB4.out.rot
      by_cases hft : m.rot.fr < m.rot.tn
      · have y4 := (cell_of_row _ _ 4 _ _ _ WB4.out.box).trans MCS.out.c4
        have y5 := (cell_of_row _ _ 5 _ _ _ WB4.out.box).trans MCS.out.c5
        have y6 := (cell_of_row _ _ 6 _ _ _ WB4.out.box).trans MCS.out.c6
        have y7 := (cell_of_row _ _ 7 _ _ _ WB4.out.box).trans MCS.out.c7
        go_wp2_with fail
        refine (size_any m.unit m.count m.head m.keys w4 HSH.out).mono ?_
        rintro e w5 ⟨rfl, hb5⟩
        have WB5 := Lib.hid (WB4.out.below hb5)
        have B5 := Lib.hid (B4.out.trans (hb5.mono B4.out.size))
        clear y4 y5 y6 y7 c0 c1 c2 c3 c4 c5 c6 c7 c8 c9 c10 c11 hb5 WB4 B4
        have hnb : 0 ≤ nOf m ∧ nOf m ≤ 4294967296 ∧ 1 ≤ nOf m := by
          obtain ⟨_, _, _, q1, q2, q3⟩ := shB_bd HSH.out
          have e : nOf m = m.count - (2 * m.head + m.keys) / m.unit := rfl
          omega
        have hnn : szN m.unit m.count m.head m.keys = nOf m := rfl
        rw [hnn]
        clear hnn
        have hrd : 0 ≤ m.rot.done ∧ m.rot.done ≤ 18446744073709551615 := HW.out.r.done
        have HBn : Hid (nOf m = nOf m) := Lib.hid rfl
        obtain ⟨c0, c1, c2, c3, c4, c5, c6, c7, c8, c9, c10, c11⟩ := rot_cells WB5.out.rot
        by_cases hdn : nOf m < m.rot.done
        · obtain rfl : B = false := by rw [← HB.out, decide_eq_false (show ¬ m.rot.done ≤ nOf m by omega)]; simp only [Bool.false_and, Bool.and_false]
          go_wp2
          go_ret
          exact ⟨rfl, B5.out⟩
        go_upto_region 7 with fail
        clear c0 c1 c2 c3 c4 c5 c6 c7 c8 c9 c10 c11
        refine wp_region_lit ?_
        refine Tree.p_loadrow rfl _ _ rfl w.heap.size rfl WB5.out.box Tryd.underlying56 rfl (by rw [MCS.out.size]; exact hi27) ?_
        simp only [Act.put, List.setIfInBounds_toArray, List.set_cons_zero, List.set_cons_succ]
        refine Tree.p_field rfl _ _ _ rfl w1.heap.size 0 rfl Tryd.underlying53 rfl (sz := 1) (by kernel_rfl) (by decide) 1 rfl ?_
        simp only [Act.put, List.setIfInBounds_toArray, List.set_cons_zero, List.set_cons_succ]
        refine Tree.p_load1 rfl _ _ rfl w1.heap.size 1 rfl (.int .u64 m.rot.fr) (cell_of_row _ _ 1 _ _ _ WB5.out.rot) Tryd.underlying22 rfl ?_
        simp only [Act.put, List.setIfInBounds_toArray, List.set_cons_zero, List.set_cons_succ]
        refine Step.p_wp rfl (Step.w_callx 63 [.tmp 44, .tmp 46] _ rfl Tryd.func63 (by kernel_rfl) rfl [.agg cs, .int .u64 m.rot.fr] rfl (by rw [← MCS.out.eq]; exact epoch_any m p m.rot.fr w5 WB5.out.win.e WB5.out.win.el) ?_)
        rintro e w6 ⟨dw6, rfl, hbe⟩
        refine ⟨_, rfl, ?_⟩
        simp only [Act.put, List.setIfInBounds_toArray, List.set_cons_zero, List.set_cons_succ]
        refine Step.p_move rfl _ rfl (.tuple #[.agg (epochC dw6).toArray, .bool (decide (cntE m.epochs m.rot.fr = 1))]) rfl ?_
        simp only [Act.put, List.setIfInBounds_toArray, List.set_cons_zero, List.set_cons_succ]
        refine Step.p_val rfl (.agg (epochC dw6).toArray) (by unfold execOp; go_simp) ?_
        simp only [Act.put, List.setIfInBounds_toArray, List.set_cons_zero, List.set_cons_succ]
        refine Step.p_val rfl (.bool (decide (cntE m.epochs m.rot.fr = 1))) (by unfold execOp; go_simp) ?_
        simp only [Act.put, List.setIfInBounds_toArray, List.set_cons_zero, List.set_cons_succ]
        refine Tree.p_new rfl 64 rfl (z := .agg (epochC epZ).toArray) (by kernel_rfl) ?_
        simp only [Act.put, List.setIfInBounds_toArray, List.set_cons_zero, List.set_cons_succ]
        refine wpList_store_row rfl _ _ _ rfl w6.heap.size (epochC dw6).toArray rfl rfl 64 (epochC epZ).toArray (heap_alloc_new w6 _) (by kernel_rfl) rfl (by rw [← Array.all_toList]; rfl) ?_
        rw [show Value.cells (.agg (epochC epZ).toArray) = (epochC epZ).toArray from rfl, World.setRow_alloc_new]
        simp only [Act.put]
        refine Step.p_assign rfl _ rfl (.bool (decide (cntE m.epochs m.rot.fr = 1))) rfl ?_
        refine wpList_nil ?_
        simp only [Act.put, List.setIfInBounds_toArray, List.set_cons_zero, List.set_cons_succ]
        have bx := hbe.trans ((Below.refl _ w6).alloc hbe.size (.cells (epochC dw6).toArray 64))
        generalize w6.alloc (.cells (epochC dw6).toArray 64) = w6' at *
        have WB6 := Lib.hid (WB5.out.below bx)
        have B6 := Lib.hid (B5.out.trans (bx.mono B5.out.size))
        clear hbe bx WB5 B5
        go_upto_region 8 with fail
        refine wp_region_lit ?_
        refine Tree.p_loadrow rfl _ _ rfl w.heap.size rfl WB6.out.box Tryd.underlying56 rfl (by rw [MCS.out.size]; exact hi27) ?_
        simp only [Act.put, List.setIfInBounds_toArray, List.set_cons_zero, List.set_cons_succ]
        refine Tree.p_field rfl _ _ _ rfl w1.heap.size 0 rfl Tryd.underlying53 rfl (sz := 1) (by kernel_rfl) (by decide) 2 rfl ?_
        simp only [Act.put, List.setIfInBounds_toArray, List.set_cons_zero, List.set_cons_succ]
        refine Tree.p_load1 rfl _ _ rfl w1.heap.size 2 rfl (.int .u64 m.rot.tn) (cell_of_row _ _ 2 _ _ _ WB6.out.rot) Tryd.underlying22 rfl ?_
        simp only [Act.put, List.setIfInBounds_toArray, List.set_cons_zero, List.set_cons_succ]
        refine Step.p_wp rfl (Step.w_callx 63 [.tmp 51, .tmp 53] _ rfl Tryd.func63 (by kernel_rfl) rfl [.agg cs, .int .u64 m.rot.tn] rfl (by rw [← MCS.out.eq]; exact epoch_any m p m.rot.tn w6' WB6.out.win.e WB6.out.win.el) ?_)
        rintro e w7 ⟨dw7, rfl, hbe⟩
        refine ⟨_, rfl, ?_⟩
        simp only [Act.put, List.setIfInBounds_toArray, List.set_cons_zero, List.set_cons_succ]
        refine Step.p_move rfl _ rfl (.tuple #[.agg (epochC dw7).toArray, .bool (decide (cntE m.epochs m.rot.tn = 1))]) rfl ?_
        simp only [Act.put, List.setIfInBounds_toArray, List.set_cons_zero, List.set_cons_succ]
        refine Step.p_val rfl (.agg (epochC dw7).toArray) (by unfold execOp; go_simp) ?_
        simp only [Act.put, List.setIfInBounds_toArray, List.set_cons_zero, List.set_cons_succ]
        refine Step.p_val rfl (.bool (decide (cntE m.epochs m.rot.tn = 1))) (by unfold execOp; go_simp) ?_
        simp only [Act.put, List.setIfInBounds_toArray, List.set_cons_zero, List.set_cons_succ]
        refine Tree.p_new rfl 64 rfl (z := .agg (epochC epZ).toArray) (by kernel_rfl) ?_
        simp only [Act.put, List.setIfInBounds_toArray, List.set_cons_zero, List.set_cons_succ]
        refine wpList_store_row rfl _ _ _ rfl w7.heap.size (epochC dw7).toArray rfl rfl 64 (epochC epZ).toArray (heap_alloc_new w7 _) (by kernel_rfl) rfl (by rw [← Array.all_toList]; rfl) ?_
        rw [show Value.cells (.agg (epochC epZ).toArray) = (epochC epZ).toArray from rfl, World.setRow_alloc_new]
        simp only [Act.put]
        refine Step.p_assign rfl _ rfl (.bool (decide (cntE m.epochs m.rot.tn = 1))) rfl ?_
        refine wpList_nil ?_
        simp only [Act.put, List.setIfInBounds_toArray, List.set_cons_zero, List.set_cons_succ]
        have bx := hbe.trans ((Below.refl _ w7).alloc hbe.size (.cells (epochC dw7).toArray 64))
        generalize w7.alloc (.cells (epochC dw7).toArray 64) = w7' at *
        have WB7 := Lib.hid (WB6.out.below bx)
        have B7 := Lib.hid (B6.out.trans (bx.mono B6.out.size))
        clear hbe bx WB6 B6
        by_cases hcf : cntE m.epochs m.rot.fr = 1 ∧ cntE m.epochs m.rot.tn = 1
        · obtain ⟨hc1, hc2⟩ := hcf
          rw [decide_eq_true hc1, decide_eq_true hc2]
          go_upto_region 9 with fail
          refine Step.begin_ (S := fun w' => WB w.heap.size w1.heap.size cs m p w' ∧ Below w.heap.size w w') 16 rfl (by kernel_rfl) ⟨WB7.out.below (Below.refl _ _).drew, B7.out.drew⟩ ?_
          intro hS
          have SX := Lib.hid hS
          clear hS
          refine Step.t_move (i := 0) rfl rfl (by kernel_rfl) (by kernel_rfl) (by kernel_rfl) SX.out _ rfl (.bool true) rfl ?_
          simp only [Act.put, List.setIfInBounds_toArray, List.set_cons_zero, List.set_cons_succ]
          refine Step.t_val (i := 1) rfl rfl (by kernel_rfl) (by kernel_rfl) (by kernel_rfl) SX.out (.bool false) (fun w' _ => by unfold execOp; go_simp) ?_
          simp only [Act.put, List.setIfInBounds_toArray, List.set_cons_zero, List.set_cons_succ]
          refine Step.t_move (i := 2) rfl rfl (by kernel_rfl) (by kernel_rfl) (by kernel_rfl) SX.out _ rfl (.bool false) rfl ?_
          simp only [Act.put, List.setIfInBounds_toArray, List.set_cons_zero, List.set_cons_succ]
          refine Step.t_move (i := 3) rfl rfl (by kernel_rfl) (by kernel_rfl) (by kernel_rfl) SX.out _ rfl (.bool true) rfl ?_
          simp only [Act.put, List.setIfInBounds_toArray, List.set_cons_zero, List.set_cons_succ]
          refine Step.t_val (i := 4) rfl rfl (by kernel_rfl) (by kernel_rfl) (by kernel_rfl) SX.out (.bool false) (fun w' _ => by unfold execOp; go_simp) ?_
          simp only [Act.put, List.setIfInBounds_toArray, List.set_cons_zero, List.set_cons_succ]
          refine Step.t_val (i := 5) rfl rfl (by kernel_rfl) (by kernel_rfl) (by kernel_rfl) SX.out (.bool false) (fun w' _ => by unfold execOp; go_simp) ?_
          simp only [Act.put, List.setIfInBounds_toArray, List.set_cons_zero, List.set_cons_succ]
          refine Step.t_move (i := 6) rfl rfl (by kernel_rfl) (by kernel_rfl) (by kernel_rfl) SX.out _ rfl (.bool false) rfl ?_
          simp only [Act.put, List.setIfInBounds_toArray, List.set_cons_zero, List.set_cons_succ]
          refine Tree.t_field (i := 7) rfl rfl (by kernel_rfl) (by kernel_rfl) (by kernel_rfl) SX.out _ _ _ rfl w.heap.size 0 rfl Tryd.underlying56 rfl (sz := 1) (by kernel_rfl) (by decide) 13 rfl ?_
          simp only [Act.put, List.setIfInBounds_toArray, List.set_cons_zero, List.set_cons_succ]
          refine Tree.t_load1 (i := 8) rfl rfl (by kernel_rfl) (by kernel_rfl) (by kernel_rfl) SX.out _ _ rfl w.heap.size 13 rfl (.slice p.qg m.segs.length p.kg) (fun w' hw' => (cell_of_row _ _ 13 _ _ _ hw'.1.box).trans MCS.out.c13) Tryd.underlying49 rfl ?_
          simp only [Act.put, List.setIfInBounds_toArray, List.set_cons_zero, List.set_cons_succ]
          refine Step.t_move (i := 9) rfl rfl (by kernel_rfl) (by kernel_rfl) (by kernel_rfl) SX.out _ rfl (.int .u64 (nOf m)) rfl ?_
          simp only [Act.put, List.setIfInBounds_toArray, List.set_cons_zero, List.set_cons_succ]
          refine t_loadrow (i := 10) rfl rfl (by kernel_rfl) (by kernel_rfl) (by kernel_rfl) SX.out _ _ rfl w1.heap.size rfl (fun w' hw' => hw'.1.rot) Tryd.underlying53 rfl (by kernel_rfl) ?_
          simp only [Act.put, List.setIfInBounds_toArray, List.set_cons_zero, List.set_cons_succ]
          refine Step.t_one (i := 11) rfl rfl (by kernel_rfl) (Step.w_callx 66 [.tmp 66, .tmp 67] _ rfl Tryd.func66 (by kernel_rfl) rfl [.int .u64 (nOf m), .agg (rotC m.rot)] rfl (Coll.segments_any (nOf m) m.rot _ hrd.1 (by omega) (by omega)) ?_)
          rintro e w8 ⟨b1, b2, b3, b4, rfl, k1, k2, k3, k4, hb8⟩
          refine ⟨_, rfl, ?_⟩
          simp only [Act.put, List.setIfInBounds_toArray, List.set_cons_zero, List.set_cons_succ]
          have S8 := Lib.hid (show WB w.heap.size w1.heap.size cs m p w8 ∧ Below w.heap.size w w8 from ⟨SX.out.1.below hb8, SX.out.2.trans (hb8.mono SX.out.2.size)⟩)
          refine ⟨S8.out, ?_⟩
          refine Step.t_one (i := 12) rfl rfl (by kernel_rfl) (Step.w_callx 65 [.tmp 68] _ rfl Tryd.func65 (by kernel_rfl) rfl [.func (.func 92) #[] #[.pointer (some ⟨b1, 0, none⟩), .pointer (some ⟨b2, 0, none⟩), .pointer (some ⟨b3, 0, none⟩), .pointer (some ⟨b4, 0, none⟩)]] rfl (Coll.collect_segs b1 b2 b3 b4 _ _ _ _ (by split <;> omega) (by omega) (by split <;> omega) (by omega) w8 k1 k2 k3 k4) ?_)
          rintro e w9 ⟨v, rfl, hown, hb9⟩
          refine ⟨_, rfl, ?_⟩
          simp only [Act.put, List.setIfInBounds_toArray, List.set_cons_zero, List.set_cons_succ]
          obtain ⟨qv, cv, rfl, hlv⟩ := own_lv (L := segsR (nOf m) m.rot) hown
          have S9 := Lib.hid (show WB w.heap.size w1.heap.size cs m p w9 ∧ Below w.heap.size w w9 from ⟨S8.out.1.below hb9, S8.out.2.trans (hb9.mono S8.out.2.size)⟩)
          refine ⟨S9.out, ?_⟩
          have HE9 := Lib.hid (equal_any p.qg qv p.kg cv m.segs (segsR (nOf m) m.rot) w9 S9.out.1.win.g hlv S9.out.1.win.gl)
          clear k1 k2 k3 k4 hb8 hown hb9 hlv
          refine Step.t_one (i := 13) rfl rfl (by kernel_rfl) (Step.w_callx 94 [.tmp 65, .tmp 69] _ rfl Tryd.func94 (by kernel_rfl) rfl [.slice p.qg m.segs.length p.kg, .slice qv (segsR (nOf m) m.rot).length cv] rfl HE9.out ?_)
          rintro e w10 ⟨rfl, hb10⟩
          refine ⟨_, rfl, ?_⟩
          simp only [Act.put, List.setIfInBounds_toArray, List.set_cons_zero, List.set_cons_succ]
          have S10 := Lib.hid (show WB w.heap.size w1.heap.size cs m p w10 ∧ Below w.heap.size w w10 from ⟨S9.out.1.below hb10, S9.out.2.trans (hb10.mono S9.out.2.size)⟩)
          refine ⟨S10.out, ?_⟩
          clear hb10 HE9
          obtain ⟨bq, hbq⟩ : ∃ bq, decide (m.segs = segsR (nOf m) m.rot) = bq := ⟨_, rfl⟩
          rw [hbq]
          refine Step.t_val (i := 14) rfl rfl (by kernel_rfl) (by kernel_rfl) (by kernel_rfl) S10.out (.bool (!bq)) (fun w' _ => by unfold execOp; go_simp) ?_
          simp only [Act.put, List.setIfInBounds_toArray, List.set_cons_zero, List.set_cons_succ]
          refine Step.t_val (i := 15) rfl rfl (by kernel_rfl) (by kernel_rfl) (by kernel_rfl) S10.out (.bool (!bq)) (fun w' _ => by unfold execOp; go_simp) ?_
          simp only [Act.put, List.setIfInBounds_toArray, List.set_cons_zero, List.set_cons_succ]
          refine Step.t_end (by kernel_rfl) ?_
          have HBQ := Lib.hid hbq
          clear hbq
          obtain ⟨c0, c1, c2, c3, c4, c5, c6, c7, c8, c9, c10, c11⟩ := rot_cells S10.out.1.rot
          cases bq with
          | false =>
            obtain rfl : B = false := by rw [← HB.out, HBQ.out]; simp only [Bool.false_and, Bool.and_false]
            rw [Bool.not_false]
            go_wp2
            go_ret
            exact ⟨rfl, S10.out.2⟩
          | true =>
            have HT2 : Hid (tailB m = B) := Lib.hid (by rw [← HB.out, HSH.out, HPL.out, decide_eq_true hft, decide_eq_true (show m.rot.done ≤ nOf m by omega), decide_eq_true hc1, decide_eq_true hc2, HBQ.out]; simp only [Bool.true_and])
            rw [Bool.not_true]
            cases hac : m.rot.active with
            | false =>
                rw [hac] at c9
                have hT : tailB m = (decide (m.rot.count = 0) && m.rot.sum.toList.isEmpty) := by unfold tailB; rw [hac]; rfl
                have HT3 := Lib.hid (hT.symm.trans HT2.out)
                clear hT hac
                by_cases hct : m.rot.count = 0
                · go_wp2
                  go_ret
                  exact ⟨by rw [← HT3.out, decide_eq_true hct, Bool.true_and]; rfl, S10.out.2⟩
                · go_wp2
                  go_ret
                  exact ⟨by rw [← HT3.out, decide_eq_false hct, Bool.false_and]; rfl, S10.out.2⟩
              | true =>
                rw [hac] at c9
                have hT : tailB m = (decide (m.rot.done < nOf m) && decide (m.rot.count = zoneC (nOf m) m.rot) && decide (m.rot.sum.size = 32)) := by unfold tailB; rw [hac]; rfl
                have HT3 := Lib.hid (hT.symm.trans HT2.out)
                have ZN := Lib.hid (zone_any (nOf m) m.rot w10 hnb.1 hnb.2.1 hrd.1 (by omega) HW.out.r.hot.1 HW.out.r.hot.2)
                have HRV : Hid (rotV m.rot = .agg #[.bool m.rot.on, .int .u64 m.rot.fr, .int .u64 m.rot.tn, .bool m.rot.back, .int .i64 m.rot.mode, .int .u64 m.rot.hot, .int .u64 m.rot.done, .int .i64 m.rot.off, .int .i64 m.rot.size, .bool true, .int .u64 m.rot.count, .string m.rot.sum]) := Lib.hid (by unfold rotV rotC; rw [hac])
                clear hT hac
                go_wp2_with fail
                rw [← HRV.out]
                refine ZN.out.mono ?_
                rintro e w11 ⟨rfl, hb11⟩
                have WB11 := Lib.hid (S10.out.1.below hb11)
                have B11 := Lib.hid (S10.out.2.trans (hb11.mono S10.out.2.size))
                clear c0 c1 c2 c3 c4 c5 c6 c7 c8 c9 c10 c11 hb11 ZN
                obtain ⟨c0, c1, c2, c3, c4, c5, c6, c7, c8, c9, c10, c11⟩ := rot_cells WB11.out.rot
                have hsz : m.rot.sum.size ≤ 9223372036854775807 := HW.out.sum
                generalize zoneC (nOf m) m.rot = zc at *
                by_cases hd2 : m.rot.done < nOf m
                · by_cases hct : m.rot.count = zc
                  · have hBe : Hid (B = decide (m.rot.sum.size = 32)) := Lib.hid (by rw [← HT3.out, decide_eq_true hd2, decide_eq_true hct, Bool.true_and, Bool.true_and])
                    subst hct
                    go_wp2
                    go_ret
                    refine ⟨?_, B11.out⟩
                    rw [hBe.out]
                    refine congrArg (fun b => Ending.returned (.bool b)) ?_
                    show ((m.rot.sum.size : Int) == 32) = _
                    rw [Bool.eq_iff_iff]
                    simp only [beq_iff_eq, decide_eq_true_eq]
                    omega
                  · have hcb : (m.rot.count == zc) = false := by simp [hct]
                    go_wp2
                    go_ret
                    exact ⟨by rw [← HT3.out, decide_eq_false hct, Bool.and_false, Bool.false_and]; rfl, B11.out⟩
                · obtain rfl : B = false := by rw [← HT3.out, decide_eq_false hd2, Bool.false_and, Bool.false_and]
                  go_wp2
                  go_ret
                  exact ⟨rfl, B11.out⟩
        · obtain rfl : B = false := by
            rw [← HB.out]
            by_cases hc1 : cntE m.epochs m.rot.fr = 1
            · rw [decide_eq_false (show ¬ cntE m.epochs m.rot.tn = 1 from fun e => hcf ⟨hc1, e⟩)]; simp only [Bool.false_and, Bool.and_false]
            · rw [decide_eq_false hc1]; simp only [Bool.false_and, Bool.and_false]
          have hcases : (decide (cntE m.epochs m.rot.fr = 1) = false) ∨ (decide (cntE m.epochs m.rot.fr = 1) = true ∧ decide (cntE m.epochs m.rot.tn = 1) = false) := by
            by_cases hc1 : cntE m.epochs m.rot.fr = 1
            · exact .inr ⟨decide_eq_true hc1, decide_eq_false (fun e => hcf ⟨hc1, e⟩)⟩
            · exact .inl (decide_eq_false hc1)
          clear hcf
          generalize decide (cntE m.epochs m.rot.fr = 1) = bf at *
          generalize decide (cntE m.epochs m.rot.tn = 1) = bt at *
          rcases hcases with rfl | ⟨rfl, rfl⟩
          all_goals
            go_upto_region 9 with fail
            go_quiet (fail)
            go_wp2
            go_ret
            exact ⟨rfl, below_drewN B7.out _⟩
      · obtain rfl : B = false := by rw [← HB.out, decide_eq_false hft]; simp only [Bool.false_and, Bool.and_false]
        go_wp2
        go_ret
        exact ⟨rfl, B4.out⟩
end Go.Proofs.YtfchbodbkdkcfaaDoor.Rk
