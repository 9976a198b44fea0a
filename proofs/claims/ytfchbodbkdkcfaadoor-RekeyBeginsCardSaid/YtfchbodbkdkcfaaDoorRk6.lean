/- rekey.epoch: the only epoch of a number. -/
import Derived.Test.YtfchbodbkdkcfaaDoorRk5
import Derived.Test.YtfchbodbkdkcfaaDoorTwinA
import Derived.Laws.ResultCell
namespace Go.Proofs.YtfchbodbkdkcfaaDoor.Rk
open Go.RowKit Go.Lib Go.Proofs.YtfchbodbkdkcfaaDoor.Coll Go.Proofs.YtfchbodbkdkcfaaDoor.Meta

theorem results_cell_row_tmp {P : Program} {fn : Func} {p u : Tmp} {ty : TypeId} (h : fn.results = #[.cell p ty, .tmp u]) (tmps : Array Value) (w : World) (g : Nat) (t : TypeId) (cs : Array Value) (fr : Nat × Nat) (d : TypeDesc)
    (hp : tmps.getD p undef = .pointer (some ⟨g, 0, none⟩)) (hg : w.heap[g]? = some (.cells cs t fr)) (hu : P.underlying ty = some d) (hd : (match d with | .struct _ | .array _ _ => true | _ => false) = true) (hi : (P.info? ty).map (·.size) = some cs.size) :
    (results fn tmps).run P w = .ok (.tuple #[.agg cs, tmps.getD u undef]) w := by
  have hp' : (asAddr (tmps.getD p undef)).run P w = .ok ⟨g, 0, none⟩ w := by rw [hp]; rfl
  rw [results_cell_tmp h, hp']
  simp only [Result.andThen_ok, run_loadVar_row w g t ty cs fr d hg hu hd hi]
theorem alloc_at (X : World) (o : Obj) (g : Nat) (hg : X.heap.size = g) : (X.alloc o).heap[g]? = some o := by
  subst hg
  exact heap_alloc_new X o
def epZ : EpochD := ⟨0, ⟨#[]⟩, ⟨#[]⟩, ⟨#[]⟩, ⟨#[]⟩⟩

set_option maxRecDepth 100000 in
set_option maxHeartbeats 4000000 in
theorem epoch_any (m : MetaD) (p : Places) (x : Int) (w : World) (h : LV epochC w p.qe m.epochs) (hl : m.epochs.length ≤ 9223372036854775807) :
    Calls Tryd.prog 63 #[metaV m p, .int .u64 x] w fun e w' => ∃ d : EpochD, e = .returned (.tuple #[.agg (epochC d).toArray, .bool (decide (cntE m.epochs x = 1))]) ∧ Below w.heap.size w w' := by
  obtain ⟨q, hq⟩ : ∃ q, p.qe = q := ⟨_, rfl⟩
  rw [hq] at h
  have HE := Lib.hid h
  have HL0 := Lib.hid h
  have CS := Lib.hid (cntK_succ m.epochs x)
  have CL := Lib.hid (cntK_le m.epochs x)
  have C0 : cntK m.epochs x 0 = 0 := by simp [cntK]
  clear h
  rw [metaV_eq]
  have c12 : (metaA m p)[12]? = some (.slice q m.epochs.length p.ke) := by rw [← hq]; rfl
  clear hq
  generalize metaA m p = cs at *
  go_enter Tryd.func63, Tryd.ntmps63
  go_upto_region 2 with fail
  have e0 : (epochC epZ).toArray = #[.int .u64 0, .string ⟨#[]⟩, .string ⟨#[]⟩, .string ⟨#[]⟩, .string ⟨#[]⟩] := rfl
  have b1 : Below w.heap.size w (((w.alloc (.cells cs 56)).alloc (.cells #[.int .u64 0, .string ⟨#[]⟩, .string ⟨#[]⟩, .string ⟨#[]⟩, .string ⟨#[]⟩] 64)).alloc (.cells #[.int .u64 0, .string ⟨#[]⟩, .string ⟨#[]⟩, .string ⟨#[]⟩, .string ⟨#[]⟩] 64)) := (((Below.refl _ _).alloc (Nat.le_refl _) _).alloc (by simp) _).alloc (by simp; omega) _
  have o1 : (((w.alloc (.cells cs 56)).alloc (.cells #[.int .u64 0, .string ⟨#[]⟩, .string ⟨#[]⟩, .string ⟨#[]⟩, .string ⟨#[]⟩] 64)).alloc (.cells #[.int .u64 0, .string ⟨#[]⟩, .string ⟨#[]⟩, .string ⟨#[]⟩, .string ⟨#[]⟩] 64)).heap[w.heap.size]? = some (.cells cs 56 (0, 0)) := by
    rw [heap_alloc_old _ _ (by simp; omega), heap_alloc_old _ _ (by simp)]
    exact heap_alloc_new w _
  have o2 : (((w.alloc (.cells cs 56)).alloc (.cells #[.int .u64 0, .string ⟨#[]⟩, .string ⟨#[]⟩, .string ⟨#[]⟩, .string ⟨#[]⟩] 64)).alloc (.cells #[.int .u64 0, .string ⟨#[]⟩, .string ⟨#[]⟩, .string ⟨#[]⟩, .string ⟨#[]⟩] 64)).heap[w.heap.size + 1]? = some (.cells (epochC epZ).toArray 64 (0, 0)) := (heap_alloc_old _ _ (by simp)).trans (alloc_at _ _ _ (by simp))
  have o3 : (((w.alloc (.cells cs 56)).alloc (.cells #[.int .u64 0, .string ⟨#[]⟩, .string ⟨#[]⟩, .string ⟨#[]⟩, .string ⟨#[]⟩] 64)).alloc (.cells #[.int .u64 0, .string ⟨#[]⟩, .string ⟨#[]⟩, .string ⟨#[]⟩, .string ⟨#[]⟩] 64)).heap[w.heap.size + 1 + 1]? = some (.cells (epochC epZ).toArray 64 (0, 0)) := alloc_at _ _ _ (by simp)
  generalize ((w.alloc (.cells cs 56)).alloc (.cells #[.int .u64 0, .string ⟨#[]⟩, .string ⟨#[]⟩, .string ⟨#[]⟩, .string ⟨#[]⟩] 64)).alloc (.cells #[.int .u64 0, .string ⟨#[]⟩, .string ⟨#[]⟩, .string ⟨#[]⟩, .string ⟨#[]⟩] 64) = w1 at *
  have x12 := (cell_of_row _ _ 12 _ _ _ o1).trans c12
  have HS := Lib.hid (And.intro b1 (And.intro o2 o3))
  have HE1 := Lib.hid (HE.out.below b1)
  clear e0 c12 b1 o1 o2 o3 HE
  go_wp2
  go_loopw [13, 7] (fun i c wr => ∃ (k : Nat) (d : EpochD), k ≤ m.epochs.length ∧ i = .int .i64 k ∧ c = .int .i64 (cntK m.epochs x k) ∧ (Below w.heap.size w wr ∧ LV epochC wr q m.epochs) ∧ wr.heap[w.heap.size + 1]? = some (.cells (epochC epZ).toArray 64 (0, 0)) ∧ wr.heap[w.heap.size + 1 + 1]? = some (.cells (epochC d).toArray 64 (0, 0))) (fun i _ _ => m.epochs.length - (intOf i).toNat)
  case atStart => exact ⟨0, epZ, by omega, rfl, by rw [C0]; rfl, ⟨HS.out.1, HE1.out⟩, HS.out.2.1, HS.out.2.2⟩
  case round =>
    obtain ⟨k, d, hk, rfl, rfl, hb, o2, o3⟩ := hrel
    have HB := Lib.hid hb
    have O2 := Lib.hid o2
    have O3 := Lib.hid o3
    have ck := CL.out k
    clear x12 o2 o3
    by_cases hlt : k < m.epochs.length
    · obtain ⟨ge, oe, rfl, E⟩ := lv_cells (sz := 5) (fun _ => rfl) (by decide) HB.out.2 k hlt
      have cc := CS.out k hlt
      generalize m.epochs[k]'hlt = y at E cc
      obtain ⟨y0, y1, y2, y3, y4⟩ := y
      have z0 := E 0 _ rfl
      have z1 := E 1 _ rfl
      have z2 := E 2 _ rfl
      have z3 := E 3 _ rfl
      have z4 := E 4 _ rfl
      rw [Nat.add_zero] at z0
      have CC := Lib.hid cc
      clear E hb cc
      go_upto_region 6 with fail
      clear z0 z1 z2 z3 z4
      have ba : Below wr.heap.size wr (wr.alloc (.cells #[.int .u64 y0, .string y1, .string y2, .string y3, .string y4] 64)) := (Below.refl _ _).alloc (Nat.le_refl _) _
      have on := heap_alloc_new wr (.cells #[.int .u64 y0, .string y1, .string y2, .string y3, .string y4] 64)
      generalize wr.alloc (.cells #[.int .u64 y0, .string y1, .string y2, .string y3, .string y4] 64) = w2 at *
      have BA := Lib.hid (show (Below w.heap.size w w2 ∧ LV epochC w2 (some ⟨ge, oe, none⟩) m.epochs) ∧ w2.heap[w.heap.size + 1]? = some (.cells (epochC epZ).toArray 64 (0, 0)) ∧ w2.heap[w.heap.size + 1 + 1]? = some (.cells (epochC d).toArray 64 (0, 0)) from
        ⟨⟨HB.out.1.trans (ba.mono HB.out.1.size), HB.out.2.below ba⟩, (ba.block _ (Array.getElem?_eq_some_iff.1 O2.out).1).trans O2.out, (ba.block _ (Array.getElem?_eq_some_iff.1 O3.out).1).trans O3.out⟩)
      have n0 := cell_of_row _ _ 0 _ _ _ on
      simp only [List.getElem?_toArray, List.getElem?_cons_zero] at n0
      have ON := Lib.hid on
      clear ba on
      generalize cntK m.epochs x k = cn at *
      by_cases hy : y0 = x
      · subst hy
        go_upto_region 7 with fail
        refine wp_region_lit ?_
        refine Tree.p_loadrow rfl _ _ rfl wr.heap.size rfl ON.out Tryd.underlying64 rfl (by kernel_rfl) ?_
        simp only [Act.put, List.setIfInBounds_toArray, List.set_cons_zero, List.set_cons_succ]
        refine wpList_store_row rfl _ _ _ rfl (w.heap.size + 1 + 1) #[.int .u64 y0, .string y1, .string y2, .string y3, .string y4] rfl rfl 64 (epochC d).toArray BA.out.2.2 (by kernel_rfl) rfl (by rw [← Array.all_toList]; rfl) ?_
        refine wpList_nil ?_
        simp only [Act.put]
        have nr := setRow_heap w2 (w.heap.size + 1 + 1) (epochC d).toArray #[.int .u64 y0, .string y1, .string y2, .string y3, .string y4] _ _ BA.out.2.2
        have B3 := Lib.hid (show (Below w.heap.size w (w2.setRow (w.heap.size + 1 + 1) #[.int .u64 y0, .string y1, .string y2, .string y3, .string y4]) ∧ LV epochC (w2.setRow (w.heap.size + 1 + 1) #[.int .u64 y0, .string y1, .string y2, .string y3, .string y4]) (some ⟨ge, oe, none⟩) m.epochs) ∧ (w2.setRow (w.heap.size + 1 + 1) #[.int .u64 y0, .string y1, .string y2, .string y3, .string y4]).heap[w.heap.size + 1]? = some (.cells (epochC epZ).toArray 64 (0, 0)) from
          ⟨⟨BA.out.1.1.trans ⟨rfl, rfl, rfl, by simp, fun i hi => setRow_other _ _ _ _ (by omega)⟩, fun j v hj => by
            obtain ⟨g, off, e, hc⟩ := BA.out.1.2 j v hj
            obtain ⟨g', off', e', hc'⟩ := HL0.out j v hj
            rw [e] at e'
            cases e'
            refine ⟨g, off, e, ?_⟩
            rw [← hc]
            exact World.cell?_of_block (setRow_other _ _ _ _ (by have h9 : g < w.heap.size := Frame.block_lt hc'; show g ≠ _; omega))⟩, (setRow_other _ _ _ _ (by omega)).trans BA.out.2.1⟩)
        have NR := Lib.hid nr
        clear nr
        generalize w2.setRow (w.heap.size + 1 + 1) #[.int .u64 y0, .string y1, .string y2, .string y3, .string y4] = w3 at *
        go_wp2
        go_roundw
        case rel => exact ⟨k + 1, ⟨y0, y1, y2, y3, y4⟩, by omega, rfl, by rw [CC.out]; simp, B3.out.1, B3.out.2, NR.out⟩
        case measure => simp [intOf]; omega
      · have hyb : (y0 == x) = false := by simp [hy]
        go_wp2
        go_roundw
        case rel => exact ⟨k + 1, d, by omega, rfl, by rw [CC.out]; simp [hy], BA.out.1, BA.out.2.1, BA.out.2.2⟩
        case measure => simp [intOf]; omega
    · obtain rfl : k = m.epochs.length := by omega
      clear hb
      go_upto_region 10 with fail
      refine wp_region_lit ?_
      refine Tree.p_loadrow rfl _ _ rfl (w.heap.size + 1 + 1) rfl O3.out Tryd.underlying64 rfl (by kernel_rfl) ?_
      simp only [Act.put, List.setIfInBounds_toArray, List.set_cons_zero, List.set_cons_succ]
      refine Step.p_move rfl _ rfl (.int .i64 (cntK m.epochs x m.epochs.length)) rfl ?_
      simp only [Act.put, List.setIfInBounds_toArray, List.set_cons_zero, List.set_cons_succ]
      refine Step.p_val rfl (.bool (decide (cntE m.epochs x = 1))) (by
        unfold execOp
        go_simp
        show (((cntE m.epochs x : Nat) : Int) == 1) = _
        rw [Bool.eq_iff_iff]
        simp only [beq_iff_eq, decide_eq_true_eq]
        omega) ?_
      simp only [Act.put, List.setIfInBounds_toArray, List.set_cons_zero, List.set_cons_succ]
      refine wpList_store_row rfl _ _ _ rfl (w.heap.size + 1) (epochC d).toArray rfl rfl 64 (epochC epZ).toArray O2.out (by kernel_rfl) rfl (by rw [← Array.all_toList]; rfl) ?_
      simp only [Act.put]
      refine Step.p_assign rfl _ rfl (.bool (decide (cntE m.epochs x = 1))) rfl ?_
      refine wpList_nil ?_
      simp only [Act.put, List.setIfInBounds_toArray, List.set_cons_zero, List.set_cons_succ]
      have nr := setRow_heap wr (w.heap.size + 1) (epochC epZ).toArray (epochC d).toArray _ _ O2.out
      have HB2 : Below w.heap.size w (wr.setRow (w.heap.size + 1) (epochC d).toArray) := HB.out.1.trans ⟨rfl, rfl, rfl, by simp, fun i hi => setRow_other _ _ _ _ (by omega)⟩
      generalize wr.setRow (w.heap.size + 1) (epochC d).toArray = w3 at *
      have HN := Lib.hid nr
      clear nr
      go_wp2
      refine bodyPost_ret (results_cell_row_tmp rfl _ _ (w.heap.size + 1) _ (epochC d).toArray _ _ rfl HN.out Tryd.underlying64 rfl (by kernel_rfl)) rfl ?_
      exact ⟨d, rfl, HB2⟩
end Go.Proofs.YtfchbodbkdkcfaaDoor.Rk
