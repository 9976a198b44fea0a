/- cofferref13.Begin: what it answers. -/
import Derived.Test.YtfchbodbkdkcfaaDoorBegin2
import Derived.BigQuiet
import Derived.Deep.QuietTactic
import Derived.WalkSmall
import Derived.Test.YtfchbodbkdkcfaaDoorGuard
namespace Go.Proofs.YtfchbodbkdkcfaaDoor.Rk
open Go.RowKit Go.Lib Go.Proofs.YtfchbodbkdkcfaaDoor.Coll Go.Proofs.YtfchbodbkdkcfaaDoor.Meta Go.Proofs.YtfchbodbkdkcfaaDoor.Rooms

set_option maxRecDepth 100000 in
set_option maxHeartbeats 8000000 in
theorem refBegin_any (m : MetaD) (p : Places) (d : EpochD) (off size : Int) (t : TurnD) (w : World) (h : MIn w m p) (hr : MR m) (hh : IntKind.u64.has t.hot) (hz : IntKind.i64.has size) :
    Calls Tryd.prog 33 #[metaV m p, .agg (epochC d).toArray, .agg (areaC off size).toArray, .agg (turnC t).toArray] w fun e w' => ∃ r p2, e = .returned (.tuple #[metaV r p2, .int .i64 (bgE m d off size t)]) ∧
      BgW w.heap.size w' m d off size t (bgE m d off size t) r p2 ∧ w.grownBy w' none := by
  have HM := Lib.hid h
  have HR := Lib.hid hr
  have HH := Lib.hid (And.intro hh hz)
  clear h hr hh hz
  have hlen : m.epochs.length ≤ 9223372036854775807 := Nat.le_trans HM.out.e.le (by have := HM.out.e.max; unfold maxLen at this; omega)
  have hi27 : (Tryd.prog.info? 56).map (·.size) = some 27 := by kernel_rfl
  obtain ⟨E, hE⟩ : ∃ E, bgE m d off size t = E := ⟨_, rfl⟩
  rw [hE, metaV_eq]
  have HE := Lib.hid hE
  unfold bgE okB at HE
  clear hE
  obtain ⟨qe, hqe⟩ : ∃ q, p.qe = q := ⟨_, rfl⟩
  obtain ⟨qg, hqg⟩ : ∃ q, p.qg = q := ⟨_, rfl⟩
  have MCS := Lib.hid (mc m p)
  have c12 := MCS.out.c12
  have c13 := MCS.out.c13
  have LE := Lib.hid HM.out.e.lv
  have LG := Lib.hid HM.out.g.lv
  rw [hqe] at c12 LE
  rw [hqg] at c13 LG
  clear hqe hqg
  have RS := Lib.hid (meta_shape m p)
  have hcs1 : (metaA m p).all (·.oneCell') = true := by rw [← Array.all_toList]; rfl
  have CE := Lib.hid (bc d off size t)
  generalize metaA m p = cs at *
  generalize (epochC d).toArray = ce at *
  generalize (areaC off size).toArray = ca at *
  generalize (turnC t).toArray = ct at *
  go_enter Tryd.func33, Tryd.ntmps33
  go_upto_region 1 with fail
  obtain ⟨w1, hw1, k0, k1, k2, k3, k4, hsz, hgr⟩ := al5 w (.cells cs 56) (.cells ce 64) (.cells ca 51) (.cells ct 66) (.cells metaZ 56)
  unfold metaZ at hw1
  rw [hw1]
  clear hw1
  have G1 := Lib.hid hgr
  have S1 := Lib.hid hsz
  have B1 : Hid (BB w.heap.size cs ce ca ct w1) := Lib.hid ⟨k0, k1, k2, k3, k4⟩
  clear k0 k1 k2 k3 k4 hgr hsz
  replace S1 : Hid (w.heap.size + 5 ≤ w1.heap.size) := Lib.hid (Nat.le_of_eq S1.out.symm)
  refine wp_region_lit ?_
  refine Tree.p_field rfl _ _ _ rfl (w.heap.size) (0) rfl Tryd.underlying56 rfl (sz := 4) (by kernel_rfl) (by decide) (4) rfl ?_
  simp only [Act.put, List.setIfInBounds_toArray, List.set_cons_zero, List.set_cons_succ]
  refine Tree.p_loadmid rfl _ _ rfl (w.heap.size) (4) rfl [.int .i64 m.unit, .int .u64 m.count, .int .i64 m.head, .int .i64 m.keys] (row_range B1.out.m RS.out) Tryd.underlying31 rfl (by kernel_rfl) ?_
  simp only [Act.put, List.setIfInBounds_toArray, List.set_cons_zero, List.set_cons_succ]
  refine Step.p_wp rfl (Step.w_callx 67 [.tmp 15] _ rfl Tryd.func67 (by kernel_rfl) rfl [.agg #[.int .i64 m.unit, .int .u64 m.count, .int .i64 m.head, .int .i64 m.keys]] rfl (refShaped_any m.unit m.count m.head m.keys w1 HR.out.count.1 (by have := HR.out.count.2; have e : IntKind.u64.max = 18446744073709551616 - 1 := rfl; omega) HR.out.head.1 HR.out.head.2 HR.out.keys.1 HR.out.keys.2) ?_)
  rintro e w2 ⟨rfl, hb⟩
  refine ⟨_, rfl, ?_⟩
  simp only [Act.put, List.setIfInBounds_toArray, List.set_cons_zero, List.set_cons_succ]
  replace B1 := Lib.hid (B1.out.step (gb_of_below hb) (by simp))
  replace S1 := Lib.hid (Nat.le_trans S1.out hb.size)
  replace G1 := Lib.hid (Tree.grown_trans G1.out (gb_of_below hb) (by simp))
  clear hb
  cases hsh : shB m.unit m.count m.head m.keys with
  | false =>
    refine Step.p_val rfl (.bool true) (by unfold execOp; go_simp) ?_
    simp only [Act.put, List.setIfInBounds_toArray, List.set_cons_zero, List.set_cons_succ]
    refine Step.p_move rfl _ rfl (.bool true) rfl ?_
    simp only [Act.put, List.setIfInBounds_toArray, List.set_cons_zero, List.set_cons_succ]
    with_reducible refine Step.p_skip ?_ ?_
    · kernel_rfl
    simp only [Act.put, List.setIfInBounds_toArray, List.set_cons_zero, List.set_cons_succ]
    with_reducible refine Step.p_skip ?_ ?_
    · kernel_rfl
    simp only [Act.put, List.setIfInBounds_toArray, List.set_cons_zero, List.set_cons_succ]
    with_reducible refine Step.p_skip ?_ ?_
    · kernel_rfl
    simp only [Act.put, List.setIfInBounds_toArray, List.set_cons_zero, List.set_cons_succ]
    with_reducible refine Step.p_skip ?_ ?_
    · kernel_rfl
    simp only [Act.put, List.setIfInBounds_toArray, List.set_cons_zero, List.set_cons_succ]
    refine Step.p_pick rfl _ _ _ rfl _ rfl (.bool true) rfl ?_
    simp only [Act.put, List.setIfInBounds_toArray, List.set_cons_zero, List.set_cons_succ]
    refine wpList_nil ?_
    go_upto_region 2 with fail
    refine wp_region_lit ?_
    refine Step.p_val rfl (.agg metaZ) (by unfold execOp; go_simp; rfl) ?_
    simp only [Act.put, List.setIfInBounds_toArray, List.set_cons_zero, List.set_cons_succ]
    refine wpList_store_row rfl _ _ _ rfl (w.heap.size + 4) metaZ rfl rfl 56 metaZ B1.out.r (by kernel_rfl) rfl (by rw [← Array.all_toList]; rfl) ?_
    simp only [Act.put]
    refine Step.p_assign rfl _ rfl (.int .i64 2) rfl ?_
    simp only [Act.put, List.setIfInBounds_toArray, List.set_cons_zero, List.set_cons_succ]
    refine wpList_nil ?_
    have hr4 := setRow_heap w2 (w.heap.size + 4) metaZ metaZ _ _ B1.out.r
    have g4 : w2.grownBy (w2.setRow (w.heap.size + 4) metaZ) (some (w.heap.size + 4)) := ⟨rfl, rfl, rfl, by simp, fun k hk hne => setRow_other _ _ _ _ (fun e => hne (by rw [e]))⟩
    have G4 := Lib.hid (Tree.grown_trans G1.out g4 (fun b hb => by cases hb; omega))
    clear g4
    generalize w2.setRow (w.heap.size + 4) metaZ = wz at *
    obtain rfl : E = 2 := by rw [← HE.out]; simp [hsh]
    go_wp2
    refine bodyPost_ret (results_cell_row_tmp rfl _ _ (w.heap.size + 4) _ metaZ _ _ rfl hr4 Tryd.underlying56 rfl (by kernel_rfl)) rfl ?_
    exact ⟨mZ, pZ, rfl, .zero (by decide), G4.out⟩
  | true =>
    refine Step.p_val rfl (.bool false) (by unfold execOp; go_simp) ?_
    simp only [Act.put, List.setIfInBounds_toArray, List.set_cons_zero, List.set_cons_succ]
    refine Step.p_move rfl _ rfl (.bool false) rfl ?_
    simp only [Act.put, List.setIfInBounds_toArray, List.set_cons_zero, List.set_cons_succ]
    with_reducible refine Step.p_unguard ?_ ?_
    · kernel_rfl
    refine Tree.p_field rfl _ _ _ rfl (w.heap.size) (0) rfl Tryd.underlying56 rfl (sz := 1) (by kernel_rfl) (by decide) (12) rfl ?_
    simp only [Act.put, List.setIfInBounds_toArray, List.set_cons_zero, List.set_cons_succ]
    with_reducible refine Step.p_unguard ?_ ?_
    · kernel_rfl
    refine Tree.p_load1 rfl _ _ rfl (w.heap.size) (12) rfl (.slice qe m.epochs.length p.ke) ((cell_of_row _ _ 12 _ _ _ B1.out.m).trans c12) Tryd.underlying48 rfl ?_
    simp only [Act.put, List.setIfInBounds_toArray, List.set_cons_zero, List.set_cons_succ]
    with_reducible refine Step.p_unguard ?_ ?_
    · kernel_rfl
    refine Step.p_len rfl _ _ 64 rfl (qe) (m.epochs.length) (p.ke) rfl Tryd.underlying48 ?_
    simp only [Act.put, List.setIfInBounds_toArray, List.set_cons_zero, List.set_cons_succ]
    cases hne : decide (m.epochs.length ≠ 0) with
    | false =>
      have hne' : m.epochs.length = 0 := by simpa using hne
      with_reducible refine Step.p_unguard ?_ ?_
      · kernel_rfl
      refine Step.p_val rfl (.bool true) (by unfold execOp; go_simp; try rw [hne']) ?_
      simp only [Act.put, List.setIfInBounds_toArray, List.set_cons_zero, List.set_cons_succ]
      refine Step.p_pick rfl _ _ _ rfl _ rfl (.bool true) rfl ?_
      simp only [Act.put, List.setIfInBounds_toArray, List.set_cons_zero, List.set_cons_succ]
      refine wpList_nil ?_
      go_upto_region 2 with fail
      refine wp_region_lit ?_
      refine Step.p_val rfl (.agg metaZ) (by unfold execOp; go_simp; rfl) ?_
      simp only [Act.put, List.setIfInBounds_toArray, List.set_cons_zero, List.set_cons_succ]
      refine wpList_store_row rfl _ _ _ rfl (w.heap.size + 4) metaZ rfl rfl 56 metaZ B1.out.r (by kernel_rfl) rfl (by rw [← Array.all_toList]; rfl) ?_
      simp only [Act.put]
      refine Step.p_assign rfl _ rfl (.int .i64 2) rfl ?_
      simp only [Act.put, List.setIfInBounds_toArray, List.set_cons_zero, List.set_cons_succ]
      refine wpList_nil ?_
      have hr4 := setRow_heap w2 (w.heap.size + 4) metaZ metaZ _ _ B1.out.r
      have g4 : w2.grownBy (w2.setRow (w.heap.size + 4) metaZ) (some (w.heap.size + 4)) := ⟨rfl, rfl, rfl, by simp, fun k hk hne => setRow_other _ _ _ _ (fun e => hne (by rw [e]))⟩
      have G4 := Lib.hid (Tree.grown_trans G1.out g4 (fun b hb => by cases hb; omega))
      clear g4
      generalize w2.setRow (w.heap.size + 4) metaZ = wz at *
      obtain rfl : E = 2 := by rw [← HE.out]; simp [hsh, hne']
      go_wp2
      refine bodyPost_ret (results_cell_row_tmp rfl _ _ (w.heap.size + 4) _ metaZ _ _ rfl hr4 Tryd.underlying56 rfl (by kernel_rfl)) rfl ?_
      exact ⟨mZ, pZ, rfl, .zero (by decide), G4.out⟩
    | true =>
      have hne' : m.epochs.length ≠ 0 := by simpa using hne
      with_reducible refine Step.p_unguard ?_ ?_
      · kernel_rfl
      refine Step.p_val rfl (.bool false) (by unfold execOp; go_simp; try (show (((m.epochs.length : Nat) : Int) == 0) = false; simp; omega)) ?_
      simp only [Act.put, List.setIfInBounds_toArray, List.set_cons_zero, List.set_cons_succ]
      refine Step.p_pick rfl _ _ _ rfl _ rfl (.bool false) rfl ?_
      simp only [Act.put, List.setIfInBounds_toArray, List.set_cons_zero, List.set_cons_succ]
      refine wpList_nil ?_
      go_upto_region 3 with fail
      refine wp_region_lit ?_
      refine Tree.p_field rfl _ _ _ rfl (w.heap.size) (0) rfl Tryd.underlying56 rfl (sz := 12) (by kernel_rfl) (by decide) (14) rfl ?_
      simp only [Act.put, List.setIfInBounds_toArray, List.set_cons_zero, List.set_cons_succ]
      refine Tree.p_field rfl _ _ _ rfl (w.heap.size) (14) rfl Tryd.underlying53 rfl (sz := 1) (by kernel_rfl) (by decide) (14) rfl ?_
      simp only [Act.put, List.setIfInBounds_toArray, List.set_cons_zero, List.set_cons_succ]
      refine Tree.p_load1 rfl _ _ rfl (w.heap.size) (14) rfl (.bool m.rot.on) ((cell_of_row _ _ 14 _ _ _ B1.out.m).trans MCS.out.c14) Tryd.underlying4 rfl ?_
      simp only [Act.put, List.setIfInBounds_toArray, List.set_cons_zero, List.set_cons_succ]
      refine wpList_nil ?_
      cases hon : m.rot.on with
      | true =>
        go_upto_region 4 with fail
        refine wp_region_lit ?_
        refine Step.p_val rfl (.agg metaZ) (by unfold execOp; go_simp; rfl) ?_
        simp only [Act.put, List.setIfInBounds_toArray, List.set_cons_zero, List.set_cons_succ]
        refine wpList_store_row rfl _ _ _ rfl (w.heap.size + 4) metaZ rfl rfl 56 metaZ B1.out.r (by kernel_rfl) rfl (by rw [← Array.all_toList]; rfl) ?_
        simp only [Act.put]
        refine Step.p_assign rfl _ rfl (.int .i64 132) rfl ?_
        simp only [Act.put, List.setIfInBounds_toArray, List.set_cons_zero, List.set_cons_succ]
        refine wpList_nil ?_
        have hr4 := setRow_heap w2 (w.heap.size + 4) metaZ metaZ _ _ B1.out.r
        have g4 : w2.grownBy (w2.setRow (w.heap.size + 4) metaZ) (some (w.heap.size + 4)) := ⟨rfl, rfl, rfl, by simp, fun k hk hne => setRow_other _ _ _ _ (fun e => hne (by rw [e]))⟩
        have G4 := Lib.hid (Tree.grown_trans G1.out g4 (fun b hb => by cases hb; omega))
        clear g4
        generalize w2.setRow (w.heap.size + 4) metaZ = wz at *
        obtain rfl : E = 132 := by rw [← HE.out]; simp [hsh, hne', hon]
        go_wp2
        refine bodyPost_ret (results_cell_row_tmp rfl _ _ (w.heap.size + 4) _ metaZ _ _ rfl hr4 Tryd.underlying56 rfl (by kernel_rfl)) rfl ?_
        exact ⟨mZ, pZ, rfl, .zero (by decide), G4.out⟩
      | false =>
        go_upto_region 5 with fail
        refine wp_region_lit ?_
        refine Tree.p_field rfl _ _ _ rfl (w.heap.size) (0) rfl Tryd.underlying56 rfl (sz := 4) (by kernel_rfl) (by decide) (4) rfl ?_
        simp only [Act.put, List.setIfInBounds_toArray, List.set_cons_zero, List.set_cons_succ]
        refine Tree.p_loadmid rfl _ _ rfl (w.heap.size) (4) rfl [.int .i64 m.unit, .int .u64 m.count, .int .i64 m.head, .int .i64 m.keys] (row_range B1.out.m RS.out) Tryd.underlying31 rfl (by kernel_rfl) ?_
        simp only [Act.put, List.setIfInBounds_toArray, List.set_cons_zero, List.set_cons_succ]
        refine Tree.p_loadmid rfl _ _ rfl (w.heap.size + 2) (0) rfl [.int .i64 off, .int .i64 size] (row_range B1.out.a CE.out.a) Tryd.underlying51 rfl (by kernel_rfl) ?_
        simp only [Act.put, List.setIfInBounds_toArray, List.set_cons_zero, List.set_cons_succ]
        refine Tree.p_field rfl _ _ _ rfl (w.heap.size + 3) (0) rfl Tryd.underlying66 rfl (sz := 1) (by kernel_rfl) (by decide) (1) rfl ?_
        simp only [Act.put, List.setIfInBounds_toArray, List.set_cons_zero, List.set_cons_succ]
        refine Tree.p_load1 rfl _ _ rfl (w.heap.size + 3) (1) rfl (.int .i64 t.mode) ((cell_of_row _ _ 1 _ _ _ B1.out.t).trans CE.out.t1) Tryd.underlying3 rfl ?_
        simp only [Act.put, List.setIfInBounds_toArray, List.set_cons_zero, List.set_cons_succ]
        refine Tree.p_field rfl _ _ _ rfl (w.heap.size + 3) (0) rfl Tryd.underlying66 rfl (sz := 1) (by kernel_rfl) (by decide) (3) rfl ?_
        simp only [Act.put, List.setIfInBounds_toArray, List.set_cons_zero, List.set_cons_succ]
        refine Tree.p_load1 rfl _ _ rfl (w.heap.size + 3) (3) rfl (.int .u64 t.hot) ((cell_of_row _ _ 3 _ _ _ B1.out.t).trans CE.out.t3) Tryd.underlying22 rfl ?_
        simp only [Act.put, List.setIfInBounds_toArray, List.set_cons_zero, List.set_cons_succ]
        refine Step.p_wp rfl (Step.w_callx 68 [.tmp 30, .tmp 31, .tmp 33, .tmp 35] _ rfl Tryd.func68 (by kernel_rfl) rfl [.agg #[.int .i64 m.unit, .int .u64 m.count, .int .i64 m.head, .int .i64 m.keys], .agg #[.int .i64 off, .int .i64 size], .int .i64 t.mode, .int .u64 t.hot] rfl (area_any m.unit m.count m.head m.keys off size t.mode t.hot w2 hsh HH.out.1.1 (by have := HH.out.1.2; have e : IntKind.u64.max = 18446744073709551616 - 1 := rfl; omega) HH.out.2.1 HH.out.2.2) ?_)
        rintro e w3 ⟨rfl, hb⟩
        refine ⟨_, rfl, ?_⟩
        simp only [Act.put, List.setIfInBounds_toArray, List.set_cons_zero, List.set_cons_succ]
        replace B1 := Lib.hid (B1.out.step (gb_of_below hb) (by simp))
        replace S1 := Lib.hid (Nat.le_trans S1.out hb.size)
        replace G1 := Lib.hid (Tree.grown_trans G1.out (gb_of_below hb) (by simp))
        clear hb
        cases hpl : plB m.unit m.head m.keys off size t.mode t.hot with
        | false =>
          refine Step.p_val rfl (.bool true) (by unfold execOp; go_simp) ?_
          simp only [Act.put, List.setIfInBounds_toArray, List.set_cons_zero, List.set_cons_succ]
          refine Step.p_move rfl _ rfl (.bool true) rfl ?_
          simp only [Act.put, List.setIfInBounds_toArray, List.set_cons_zero, List.set_cons_succ]
          with_reducible refine Step.p_skip ?_ ?_
          · kernel_rfl
          simp only [Act.put, List.setIfInBounds_toArray, List.set_cons_zero, List.set_cons_succ]
          with_reducible refine Step.p_skip ?_ ?_
          · kernel_rfl
          simp only [Act.put, List.setIfInBounds_toArray, List.set_cons_zero, List.set_cons_succ]
          with_reducible refine Step.p_skip ?_ ?_
          · kernel_rfl
          simp only [Act.put, List.setIfInBounds_toArray, List.set_cons_zero, List.set_cons_succ]
          with_reducible refine Step.p_skip ?_ ?_
          · kernel_rfl
          simp only [Act.put, List.setIfInBounds_toArray, List.set_cons_zero, List.set_cons_succ]
          with_reducible refine Step.p_skip ?_ ?_
          · kernel_rfl
          simp only [Act.put, List.setIfInBounds_toArray, List.set_cons_zero, List.set_cons_succ]
          refine Step.p_pick rfl _ _ _ rfl _ rfl (.bool true) rfl ?_
          simp only [Act.put, List.setIfInBounds_toArray, List.set_cons_zero, List.set_cons_succ]
          refine Step.p_move rfl _ rfl (.bool true) rfl ?_
          simp only [Act.put, List.setIfInBounds_toArray, List.set_cons_zero, List.set_cons_succ]
          with_reducible refine Step.p_skip ?_ ?_
          · kernel_rfl
          simp only [Act.put, List.setIfInBounds_toArray, List.set_cons_zero, List.set_cons_succ]
          with_reducible refine Step.p_skip ?_ ?_
          · kernel_rfl
          simp only [Act.put, List.setIfInBounds_toArray, List.set_cons_zero, List.set_cons_succ]
          with_reducible refine Step.p_skip ?_ ?_
          · kernel_rfl
          simp only [Act.put, List.setIfInBounds_toArray, List.set_cons_zero, List.set_cons_succ]
          with_reducible refine Step.p_skip ?_ ?_
          · kernel_rfl
          simp only [Act.put, List.setIfInBounds_toArray, List.set_cons_zero, List.set_cons_succ]
          refine Step.p_pick rfl _ _ _ rfl _ rfl (.bool true) rfl ?_
          simp only [Act.put, List.setIfInBounds_toArray, List.set_cons_zero, List.set_cons_succ]
          refine wpList_nil ?_
          go_upto_region 6 with fail
          refine wp_region_lit ?_
          refine Step.p_val rfl (.agg metaZ) (by unfold execOp; go_simp; rfl) ?_
          simp only [Act.put, List.setIfInBounds_toArray, List.set_cons_zero, List.set_cons_succ]
          refine wpList_store_row rfl _ _ _ rfl (w.heap.size + 4) metaZ rfl rfl 56 metaZ B1.out.r (by kernel_rfl) rfl (by rw [← Array.all_toList]; rfl) ?_
          simp only [Act.put]
          refine Step.p_assign rfl _ rfl (.int .i64 2) rfl ?_
          simp only [Act.put, List.setIfInBounds_toArray, List.set_cons_zero, List.set_cons_succ]
          refine wpList_nil ?_
          have hr4 := setRow_heap w3 (w.heap.size + 4) metaZ metaZ _ _ B1.out.r
          have g4 : w3.grownBy (w3.setRow (w.heap.size + 4) metaZ) (some (w.heap.size + 4)) := ⟨rfl, rfl, rfl, by simp, fun k hk hne => setRow_other _ _ _ _ (fun e => hne (by rw [e]))⟩
          have G4 := Lib.hid (Tree.grown_trans G1.out g4 (fun b hb => by cases hb; omega))
          clear g4
          generalize w3.setRow (w.heap.size + 4) metaZ = wz at *
          obtain rfl : E = 2 := by rw [← HE.out]; simp [hsh, hne', hon, hpl]
          go_wp2
          refine bodyPost_ret (results_cell_row_tmp rfl _ _ (w.heap.size + 4) _ metaZ _ _ rfl hr4 Tryd.underlying56 rfl (by kernel_rfl)) rfl ?_
          exact ⟨mZ, pZ, rfl, .zero (by decide), G4.out⟩
        | true =>
          refine Step.p_val rfl (.bool false) (by unfold execOp; go_simp) ?_
          simp only [Act.put, List.setIfInBounds_toArray, List.set_cons_zero, List.set_cons_succ]
          refine Step.p_move rfl _ rfl (.bool false) rfl ?_
          simp only [Act.put, List.setIfInBounds_toArray, List.set_cons_zero, List.set_cons_succ]
          with_reducible refine Step.p_unguard ?_ ?_
          · kernel_rfl
          refine Tree.p_field rfl _ _ _ rfl (w.heap.size + 1) (0) rfl Tryd.underlying64 rfl (sz := 1) (by kernel_rfl) (by decide) (1) rfl ?_
          simp only [Act.put, List.setIfInBounds_toArray, List.set_cons_zero, List.set_cons_succ]
          with_reducible refine Step.p_unguard ?_ ?_
          · kernel_rfl
          refine Tree.p_load1 rfl _ _ rfl (w.heap.size + 1) (1) rfl (.string d.ciph) ((cell_of_row _ _ 1 _ _ _ B1.out.d).trans CE.out.e1) Tryd.underlying9 rfl ?_
          simp only [Act.put, List.setIfInBounds_toArray, List.set_cons_zero, List.set_cons_succ]
          with_reducible refine Step.p_unguard ?_ ?_
          · kernel_rfl
          refine Tree.p_field rfl _ _ _ rfl (w.heap.size + 3) (0) rfl Tryd.underlying66 rfl (sz := 1) (by kernel_rfl) (by decide) (0) rfl ?_
          simp only [Act.put, List.setIfInBounds_toArray, List.set_cons_zero, List.set_cons_succ]
          with_reducible refine Step.p_unguard ?_ ?_
          · kernel_rfl
          refine Tree.p_load1 rfl _ _ rfl (w.heap.size + 3) (0) rfl (.string t.ciph) ((cell_of_row _ _ 0 _ _ _ B1.out.t).trans CE.out.t0) Tryd.underlying9 rfl ?_
          simp only [Act.put, List.setIfInBounds_toArray, List.set_cons_zero, List.set_cons_succ]
          cases hci : decide (d.ciph = t.ciph) with
          | false =>
            have hci2 : d.ciph ≠ t.ciph := by simpa using hci
            have hci3 : ¬ d.ciph.toList = t.ciph.toList := fun h => hci2 (ba_inj h)
            with_reducible refine Step.p_unguard ?_ ?_
            · kernel_rfl
            refine Step.p_val rfl (.bool true) (by unfold execOp; go_simp; try simp [hci3]) ?_
            simp only [Act.put, List.setIfInBounds_toArray, List.set_cons_zero, List.set_cons_succ]
            refine Step.p_pick rfl _ _ _ rfl _ rfl (.bool true) rfl ?_
            simp only [Act.put, List.setIfInBounds_toArray, List.set_cons_zero, List.set_cons_succ]
            refine Step.p_move rfl _ rfl (.bool true) rfl ?_
            simp only [Act.put, List.setIfInBounds_toArray, List.set_cons_zero, List.set_cons_succ]
            with_reducible refine Step.p_skip ?_ ?_
            · kernel_rfl
            simp only [Act.put, List.setIfInBounds_toArray, List.set_cons_zero, List.set_cons_succ]
            with_reducible refine Step.p_skip ?_ ?_
            · kernel_rfl
            simp only [Act.put, List.setIfInBounds_toArray, List.set_cons_zero, List.set_cons_succ]
            with_reducible refine Step.p_skip ?_ ?_
            · kernel_rfl
            simp only [Act.put, List.setIfInBounds_toArray, List.set_cons_zero, List.set_cons_succ]
            with_reducible refine Step.p_skip ?_ ?_
            · kernel_rfl
            simp only [Act.put, List.setIfInBounds_toArray, List.set_cons_zero, List.set_cons_succ]
            refine Step.p_pick rfl _ _ _ rfl _ rfl (.bool true) rfl ?_
            simp only [Act.put, List.setIfInBounds_toArray, List.set_cons_zero, List.set_cons_succ]
            refine wpList_nil ?_
            go_upto_region 6 with fail
            refine wp_region_lit ?_
            refine Step.p_val rfl (.agg metaZ) (by unfold execOp; go_simp; rfl) ?_
            simp only [Act.put, List.setIfInBounds_toArray, List.set_cons_zero, List.set_cons_succ]
            refine wpList_store_row rfl _ _ _ rfl (w.heap.size + 4) metaZ rfl rfl 56 metaZ B1.out.r (by kernel_rfl) rfl (by rw [← Array.all_toList]; rfl) ?_
            simp only [Act.put]
            refine Step.p_assign rfl _ rfl (.int .i64 2) rfl ?_
            simp only [Act.put, List.setIfInBounds_toArray, List.set_cons_zero, List.set_cons_succ]
            refine wpList_nil ?_
            have hr4 := setRow_heap w3 (w.heap.size + 4) metaZ metaZ _ _ B1.out.r
            have g4 : w3.grownBy (w3.setRow (w.heap.size + 4) metaZ) (some (w.heap.size + 4)) := ⟨rfl, rfl, rfl, by simp, fun k hk hne => setRow_other _ _ _ _ (fun e => hne (by rw [e]))⟩
            have G4 := Lib.hid (Tree.grown_trans G1.out g4 (fun b hb => by cases hb; omega))
            clear g4
            generalize w3.setRow (w.heap.size + 4) metaZ = wz at *
            obtain rfl : E = 2 := by rw [← HE.out]; simp [hsh, hne', hon, hpl, hci2]
            go_wp2
            refine bodyPost_ret (results_cell_row_tmp rfl _ _ (w.heap.size + 4) _ metaZ _ _ rfl hr4 Tryd.underlying56 rfl (by kernel_rfl)) rfl ?_
            exact ⟨mZ, pZ, rfl, .zero (by decide), G4.out⟩
          | true =>
            have hci2 : d.ciph = t.ciph := by simpa using hci
            with_reducible refine Step.p_unguard ?_ ?_
            · kernel_rfl
            refine Step.p_val rfl (.bool false) (by unfold execOp; go_simp; try simp [hci2]) ?_
            simp only [Act.put, List.setIfInBounds_toArray, List.set_cons_zero, List.set_cons_succ]
            refine Step.p_pick rfl _ _ _ rfl _ rfl (.bool false) rfl ?_
            simp only [Act.put, List.setIfInBounds_toArray, List.set_cons_zero, List.set_cons_succ]
            refine Step.p_move rfl _ rfl (.bool false) rfl ?_
            simp only [Act.put, List.setIfInBounds_toArray, List.set_cons_zero, List.set_cons_succ]
            with_reducible refine Step.p_unguard ?_ ?_
            · kernel_rfl
            refine Tree.p_field rfl _ _ _ rfl (w.heap.size) (0) rfl Tryd.underlying56 rfl (sz := 1) (by kernel_rfl) (by decide) (13) rfl ?_
            simp only [Act.put, List.setIfInBounds_toArray, List.set_cons_zero, List.set_cons_succ]
            with_reducible refine Step.p_unguard ?_ ?_
            · kernel_rfl
            refine Tree.p_load1 rfl _ _ rfl (w.heap.size) (13) rfl (.slice qg m.segs.length p.kg) ((cell_of_row _ _ 13 _ _ _ B1.out.m).trans c13) Tryd.underlying49 rfl ?_
            simp only [Act.put, List.setIfInBounds_toArray, List.set_cons_zero, List.set_cons_succ]
            with_reducible refine Step.p_unguard ?_ ?_
            · kernel_rfl
            refine Step.p_len rfl _ _ 92 rfl (qg) (m.segs.length) (p.kg) rfl Tryd.underlying49 ?_
            simp only [Act.put, List.setIfInBounds_toArray, List.set_cons_zero, List.set_cons_succ]
            by_cases hl1 : m.segs.length = 1
            rotate_left
            · have hsb : segB m = false := segB_ne hl1
              have hl2 : ¬ ((m.segs.length : Nat) : Int) = 1 := by omega
              with_reducible refine Step.p_unguard ?_ ?_
              · kernel_rfl
              refine Step.p_val rfl (.bool true) (by unfold execOp; go_simp; try simp [hl2]) ?_
              simp only [Act.put, List.setIfInBounds_toArray, List.set_cons_zero, List.set_cons_succ]
              refine Step.p_pick rfl _ _ _ rfl _ rfl (.bool true) rfl ?_
              simp only [Act.put, List.setIfInBounds_toArray, List.set_cons_zero, List.set_cons_succ]
              refine wpList_nil ?_
              go_upto_region 6 with fail
              refine wp_region_lit ?_
              refine Step.p_val rfl (.agg metaZ) (by unfold execOp; go_simp; rfl) ?_
              simp only [Act.put, List.setIfInBounds_toArray, List.set_cons_zero, List.set_cons_succ]
              refine wpList_store_row rfl _ _ _ rfl (w.heap.size + 4) metaZ rfl rfl 56 metaZ B1.out.r (by kernel_rfl) rfl (by rw [← Array.all_toList]; rfl) ?_
              simp only [Act.put]
              refine Step.p_assign rfl _ rfl (.int .i64 2) rfl ?_
              simp only [Act.put, List.setIfInBounds_toArray, List.set_cons_zero, List.set_cons_succ]
              refine wpList_nil ?_
              have hr4 := setRow_heap w3 (w.heap.size + 4) metaZ metaZ _ _ B1.out.r
              have g4 : w3.grownBy (w3.setRow (w.heap.size + 4) metaZ) (some (w.heap.size + 4)) := ⟨rfl, rfl, rfl, by simp, fun k hk hne => setRow_other _ _ _ _ (fun e => hne (by rw [e]))⟩
              have G4 := Lib.hid (Tree.grown_trans G1.out g4 (fun b hb => by cases hb; omega))
              clear g4
              generalize w3.setRow (w.heap.size + 4) metaZ = wz at *
              obtain rfl : E = 2 := by rw [← HE.out]; simp [hsh, hne', hon, hpl, hci2, hsb]
              go_wp2
              refine bodyPost_ret (results_cell_row_tmp rfl _ _ (w.heap.size + 4) _ metaZ _ _ rfl hr4 Tryd.underlying56 rfl (by kernel_rfl)) rfl ?_
              exact ⟨mZ, pZ, rfl, .zero (by decide), G4.out⟩
            have hl3 : ((m.segs.length : Nat) : Int) = 1 := by omega
            with_reducible refine Step.p_unguard ?_ ?_
            · kernel_rfl
            refine Step.p_val rfl (.bool false) (by unfold execOp; go_simp; try simp [hl3]) ?_
            simp only [Act.put, List.setIfInBounds_toArray, List.set_cons_zero, List.set_cons_succ]
            refine Step.p_pick rfl _ _ _ rfl _ rfl (.bool false) rfl ?_
            simp only [Act.put, List.setIfInBounds_toArray, List.set_cons_zero, List.set_cons_succ]
            refine wpList_nil ?_
            go_upto_region 7 with fail
            refine wp_region_lit ?_
            refine Step.p_assign rfl _ rfl (.int .i64 0) rfl ?_
            simp only [Act.put, List.setIfInBounds_toArray, List.set_cons_zero, List.set_cons_succ]
            refine wpList_nil ?_
            go_wp2
            go_loopw [10] (fun i wr => ∃ (k : Nat), k ≤ m.epochs.length ∧ i = .int .i64 k ∧ (∀ j (hj : j < m.epochs.length), j < k → (m.epochs[j]'hj).num < d.num) ∧ BB w.heap.size cs ce ca ct wr ∧ w.grownBy wr none ∧ w.heap.size + 5 ≤ wr.heap.size) (fun i _ => m.epochs.length - (intOf i).toNat)
            case atStart => exact ⟨0, by omega, rfl, fun j hj h => by omega, B1.out, G1.out, S1.out⟩
            case round =>
              obtain ⟨k, hk, rfl, hall, hbb, hgr, hsz⟩ := hrel
              have HALL := Lib.hid hall
              replace B1 := Lib.hid hbb
              replace G1 := Lib.hid hgr
              replace S1 := Lib.hid hsz
              clear hall hbb hgr hsz
              by_cases hlt : k < m.epochs.length
              rotate_left
              · obtain rfl : k = m.epochs.length := by omega
                have hls : lessB m.epochs d.num = true := lessB_iff.2 fun k hk => HALL.out k hk hk
                obtain ⟨sx, hsx⟩ : ∃ s, m.segs = [s] := List.length_eq_one_iff.1 hl1
                obtain ⟨gg, og, rfl, E0⟩ := lv_cells (sz := 3) (fun _ => rfl) (by decide) (LG.out.grown G1.out) 0 (by omega)
                have e0 : m.segs[0]'(by omega) = sx := by simp [hsx]
                rw [e0] at E0
                obtain ⟨s0, s1, s2⟩ := sx
                have E1 := E0 1 _ rfl
                have E2 := E0 2 _ rfl
                replace E0 := E0 0 _ rfl
                simp only [Nat.zero_mul, Nat.add_zero] at E0 E1 E2
                clear e0
                have hfr : frO m = s2 := by simp [frO, hsx]
                have hseg : segB m = (decide (s0 = 0) && decide (s1 = nOf m)) := by simp [segB, hsx]
                have x12 := (cell_of_row _ _ 12 _ _ _ B1.out.m).trans c12
                go_upto_region 12 with fail
                refine wp_region_lit ?_
                refine Tree.p_field rfl _ _ _ rfl (w.heap.size) (0) rfl Tryd.underlying56 rfl (sz := 1) (by kernel_rfl) (by decide) (13) rfl ?_
                simp only [Act.put, List.setIfInBounds_toArray, List.set_cons_zero, List.set_cons_succ]
                refine Tree.p_load1 rfl _ _ rfl (w.heap.size) (13) rfl (.slice (some ⟨gg, og, none⟩) m.segs.length p.kg) ((cell_of_row _ _ 13 _ _ _ B1.out.m).trans c13) Tryd.underlying49 rfl ?_
                simp only [Act.put, List.setIfInBounds_toArray, List.set_cons_zero, List.set_cons_succ]
                refine Step.p_index rfl _ 92 _ _ rfl gg og m.segs.length p.kg rfl 0 rfl (by omega) 3 Tryd.underlying49 (by kernel_rfl) ?_
                simp only [Act.put, List.setIfInBounds_toArray, List.set_cons_zero, List.set_cons_succ, Nat.zero_mul, Nat.add_zero]
                have hrg : wr.rangeAt gg og [.int .u64 s0, .int .u64 s1, .int .u64 s2] := fun j v hj => by
                  match j, hj with
                  | 0, h => simpa using E0.trans h
                  | 1, h => simpa using E1.trans h
                  | 2, h => simpa using E2.trans h
                refine Tree.p_loadmid rfl _ _ rfl (gg) (og) rfl [.int .u64 s0, .int .u64 s1, .int .u64 s2] (hrg) Tryd.underlying92 rfl (by kernel_rfl) ?_
                simp only [Act.put, List.setIfInBounds_toArray, List.set_cons_zero, List.set_cons_succ]
                refine Tree.p_new rfl 92 rfl (z := .agg #[.int .u64 0, .int .u64 0, .int .u64 0]) (by kernel_rfl) ?_
                simp only [Act.put, List.setIfInBounds_toArray, List.set_cons_zero, List.set_cons_succ]
                refine wpList_store_row rfl _ _ _ rfl wr.heap.size #[.int .u64 s0, .int .u64 s1, .int .u64 s2] rfl rfl 92 #[.int .u64 0, .int .u64 0, .int .u64 0] (heap_alloc_new wr _) (by kernel_rfl) rfl (by rw [← Array.all_toList]; rfl) ?_
                rw [show Value.cells (.agg #[.int .u64 0, .int .u64 0, .int .u64 0]) = #[.int .u64 0, .int .u64 0, .int .u64 0] from rfl, World.setRow_alloc_new]
                simp only [Act.put]
                refine wpList_nil ?_
                have ga : wr.grownBy (wr.alloc (.cells #[.int .u64 s0, .int .u64 s1, .int .u64 s2] 92)) none := World.grownBy_alloc wr _ none
                have SO := Lib.hid (heap_alloc_new wr (.cells #[.int .u64 s0, .int .u64 s1, .int .u64 s2] 92))
                generalize wr.alloc (.cells #[.int .u64 s0, .int .u64 s1, .int .u64 s2] 92) = w3b at *
                have hbs : w.heap.size + 5 ≤ wr.heap.size := S1.out
                replace S1 := Lib.hid (Nat.le_trans S1.out ga.size)
                replace B1 := Lib.hid (B1.out.step ga (by simp))
                replace G1 := Lib.hid (Tree.grown_trans G1.out ga (by simp))
                clear ga E0 E1 E2 hrg
                go_upto_region 13 with fail
                refine wp_region_lit ?_
                refine Tree.p_field rfl _ _ _ rfl (w.heap.size) (0) rfl Tryd.underlying56 rfl (sz := 4) (by kernel_rfl) (by decide) (4) rfl ?_
                simp only [Act.put, List.setIfInBounds_toArray, List.set_cons_zero, List.set_cons_succ]
                refine Tree.p_loadmid rfl _ _ rfl (w.heap.size) (4) rfl [.int .i64 m.unit, .int .u64 m.count, .int .i64 m.head, .int .i64 m.keys] (row_range B1.out.m RS.out) Tryd.underlying31 rfl (by kernel_rfl) ?_
                simp only [Act.put, List.setIfInBounds_toArray, List.set_cons_zero, List.set_cons_succ]
                refine Step.p_wp rfl (Step.w_callx 69 [.tmp 74] _ rfl Tryd.func69 (by kernel_rfl) rfl [.agg #[.int .i64 m.unit, .int .u64 m.count, .int .i64 m.head, .int .i64 m.keys]] rfl (refSize_any m.unit m.count m.head m.keys w3b hsh) ?_)
                rintro e w4 ⟨rfl, hb⟩
                refine ⟨_, rfl, ?_⟩
                simp only [Act.put, List.setIfInBounds_toArray, List.set_cons_zero, List.set_cons_succ]
                replace SO := Lib.hid ((hb.block _ (Array.getElem?_eq_some_iff.1 SO.out).1).trans SO.out)
                replace B1 := Lib.hid (B1.out.step (gb_of_below hb) (by simp))
                replace S1 := Lib.hid (Nat.le_trans S1.out hb.size)
                replace G1 := Lib.hid (Tree.grown_trans G1.out (gb_of_below hb) (by simp))
                clear hb
                have hn : szN m.unit m.count m.head m.keys = nOf m := rfl
                rw [hn]
                refine Step.p_assign rfl _ rfl (.int .u64 (nOf m)) rfl ?_
                simp only [Act.put, List.setIfInBounds_toArray, List.set_cons_zero, List.set_cons_succ]
                refine wpList_nil ?_
                go_upto_region 14 with fail
                refine wp_region_lit ?_
                refine Tree.p_field rfl _ _ _ rfl (wr.heap.size) (0) rfl Tryd.underlying92 rfl (sz := 1) (by kernel_rfl) (by decide) (0) rfl ?_
                simp only [Act.put, List.setIfInBounds_toArray, List.set_cons_zero, List.set_cons_succ]
                refine Tree.p_load1 rfl _ _ rfl (wr.heap.size) (0) rfl (.int .u64 s0) (cell_of_row _ _ 0 _ _ _ SO.out) Tryd.underlying22 rfl ?_
                simp only [Act.put, List.setIfInBounds_toArray, List.set_cons_zero, List.set_cons_succ]
                by_cases h0 : s0 = 0
                rotate_left
                · refine Step.p_val rfl (.bool true) (by unfold execOp; go_simp; try simp [h0]) ?_
                  simp only [Act.put, List.setIfInBounds_toArray, List.set_cons_zero, List.set_cons_succ]
                  refine Step.p_move rfl _ rfl (.bool true) rfl ?_
                  simp only [Act.put, List.setIfInBounds_toArray, List.set_cons_zero, List.set_cons_succ]
                  with_reducible refine Step.p_skip ?_ ?_
                  · kernel_rfl
                  simp only [Act.put, List.setIfInBounds_toArray, List.set_cons_zero, List.set_cons_succ]
                  with_reducible refine Step.p_skip ?_ ?_
                  · kernel_rfl
                  simp only [Act.put, List.setIfInBounds_toArray, List.set_cons_zero, List.set_cons_succ]
                  with_reducible refine Step.p_skip ?_ ?_
                  · kernel_rfl
                  simp only [Act.put, List.setIfInBounds_toArray, List.set_cons_zero, List.set_cons_succ]
                  with_reducible refine Step.p_skip ?_ ?_
                  · kernel_rfl
                  simp only [Act.put, List.setIfInBounds_toArray, List.set_cons_zero, List.set_cons_succ]
                  refine Step.p_pick rfl _ _ _ rfl _ rfl (.bool true) rfl ?_
                  simp only [Act.put, List.setIfInBounds_toArray, List.set_cons_zero, List.set_cons_succ]
                  refine Step.p_move rfl _ rfl (.bool true) rfl ?_
                  simp only [Act.put, List.setIfInBounds_toArray, List.set_cons_zero, List.set_cons_succ]
                  with_reducible refine Step.p_skip ?_ ?_
                  · kernel_rfl
                  simp only [Act.put, List.setIfInBounds_toArray, List.set_cons_zero, List.set_cons_succ]
                  with_reducible refine Step.p_skip ?_ ?_
                  · kernel_rfl
                  simp only [Act.put, List.setIfInBounds_toArray, List.set_cons_zero, List.set_cons_succ]
                  with_reducible refine Step.p_skip ?_ ?_
                  · kernel_rfl
                  simp only [Act.put, List.setIfInBounds_toArray, List.set_cons_zero, List.set_cons_succ]
                  with_reducible refine Step.p_skip ?_ ?_
                  · kernel_rfl
                  simp only [Act.put, List.setIfInBounds_toArray, List.set_cons_zero, List.set_cons_succ]
                  with_reducible refine Step.p_skip ?_ ?_
                  · kernel_rfl
                  simp only [Act.put, List.setIfInBounds_toArray, List.set_cons_zero, List.set_cons_succ]
                  refine Step.p_pick rfl _ _ _ rfl _ rfl (.bool true) rfl ?_
                  simp only [Act.put, List.setIfInBounds_toArray, List.set_cons_zero, List.set_cons_succ]
                  refine wpList_nil ?_
                  go_upto_region 15 with fail
                  refine wp_region_lit ?_
                  refine Step.p_val rfl (.agg metaZ) (by unfold execOp; go_simp; rfl) ?_
                  simp only [Act.put, List.setIfInBounds_toArray, List.set_cons_zero, List.set_cons_succ]
                  refine wpList_store_row rfl _ _ _ rfl (w.heap.size + 4) metaZ rfl rfl 56 metaZ B1.out.r (by kernel_rfl) rfl (by rw [← Array.all_toList]; rfl) ?_
                  simp only [Act.put]
                  refine Step.p_assign rfl _ rfl (.int .i64 2) rfl ?_
                  simp only [Act.put, List.setIfInBounds_toArray, List.set_cons_zero, List.set_cons_succ]
                  refine wpList_nil ?_
                  have hr4 := setRow_heap w4 (w.heap.size + 4) metaZ metaZ _ _ B1.out.r
                  have g4 : w4.grownBy (w4.setRow (w.heap.size + 4) metaZ) (some (w.heap.size + 4)) := ⟨rfl, rfl, rfl, by simp, fun k hk hne => setRow_other _ _ _ _ (fun e => hne (by rw [e]))⟩
                  have G4 := Lib.hid (Tree.grown_trans G1.out g4 (fun b hb => by cases hb; omega))
                  clear g4
                  generalize w4.setRow (w.heap.size + 4) metaZ = wz at *
                  obtain rfl : E = 2 := by rw [← HE.out]; simp [hsh, hne', hon, hpl, hci2, hls, hseg, h0]
                  go_wp2
                  refine bodyPost_ret (results_cell_row_tmp rfl _ _ (w.heap.size + 4) _ metaZ _ _ rfl hr4 Tryd.underlying56 rfl (by kernel_rfl)) rfl ?_
                  exact ⟨mZ, pZ, rfl, .zero (by decide), G4.out⟩
                refine Step.p_val rfl (.bool false) (by unfold execOp; go_simp; try simp [h0]) ?_
                simp only [Act.put, List.setIfInBounds_toArray, List.set_cons_zero, List.set_cons_succ]
                refine Step.p_move rfl _ rfl (.bool false) rfl ?_
                simp only [Act.put, List.setIfInBounds_toArray, List.set_cons_zero, List.set_cons_succ]
                with_reducible refine Step.p_unguard ?_ ?_
                · kernel_rfl
                refine Tree.p_field rfl _ _ _ rfl (wr.heap.size) (0) rfl Tryd.underlying92 rfl (sz := 1) (by kernel_rfl) (by decide) (1) rfl ?_
                simp only [Act.put, List.setIfInBounds_toArray, List.set_cons_zero, List.set_cons_succ]
                with_reducible refine Step.p_unguard ?_ ?_
                · kernel_rfl
                refine Tree.p_load1 rfl _ _ rfl (wr.heap.size) (1) rfl (.int .u64 s1) (cell_of_row _ _ 1 _ _ _ SO.out) Tryd.underlying22 rfl ?_
                simp only [Act.put, List.setIfInBounds_toArray, List.set_cons_zero, List.set_cons_succ]
                with_reducible refine Step.p_unguard ?_ ?_
                · kernel_rfl
                refine Step.p_move rfl _ rfl (.int .u64 (nOf m)) rfl ?_
                simp only [Act.put, List.setIfInBounds_toArray, List.set_cons_zero, List.set_cons_succ]
                by_cases h1 : s1 = nOf m
                rotate_left
                · with_reducible refine Step.p_unguard ?_ ?_
                  · kernel_rfl
                  refine Step.p_val rfl (.bool true) (by unfold execOp; go_simp; try simp [h1]) ?_
                  simp only [Act.put, List.setIfInBounds_toArray, List.set_cons_zero, List.set_cons_succ]
                  refine Step.p_pick rfl _ _ _ rfl _ rfl (.bool true) rfl ?_
                  simp only [Act.put, List.setIfInBounds_toArray, List.set_cons_zero, List.set_cons_succ]
                  refine Step.p_move rfl _ rfl (.bool true) rfl ?_
                  simp only [Act.put, List.setIfInBounds_toArray, List.set_cons_zero, List.set_cons_succ]
                  with_reducible refine Step.p_skip ?_ ?_
                  · kernel_rfl
                  simp only [Act.put, List.setIfInBounds_toArray, List.set_cons_zero, List.set_cons_succ]
                  with_reducible refine Step.p_skip ?_ ?_
                  · kernel_rfl
                  simp only [Act.put, List.setIfInBounds_toArray, List.set_cons_zero, List.set_cons_succ]
                  with_reducible refine Step.p_skip ?_ ?_
                  · kernel_rfl
                  simp only [Act.put, List.setIfInBounds_toArray, List.set_cons_zero, List.set_cons_succ]
                  with_reducible refine Step.p_skip ?_ ?_
                  · kernel_rfl
                  simp only [Act.put, List.setIfInBounds_toArray, List.set_cons_zero, List.set_cons_succ]
                  with_reducible refine Step.p_skip ?_ ?_
                  · kernel_rfl
                  simp only [Act.put, List.setIfInBounds_toArray, List.set_cons_zero, List.set_cons_succ]
                  refine Step.p_pick rfl _ _ _ rfl _ rfl (.bool true) rfl ?_
                  simp only [Act.put, List.setIfInBounds_toArray, List.set_cons_zero, List.set_cons_succ]
                  refine wpList_nil ?_
                  go_upto_region 15 with fail
                  refine wp_region_lit ?_
                  refine Step.p_val rfl (.agg metaZ) (by unfold execOp; go_simp; rfl) ?_
                  simp only [Act.put, List.setIfInBounds_toArray, List.set_cons_zero, List.set_cons_succ]
                  refine wpList_store_row rfl _ _ _ rfl (w.heap.size + 4) metaZ rfl rfl 56 metaZ B1.out.r (by kernel_rfl) rfl (by rw [← Array.all_toList]; rfl) ?_
                  simp only [Act.put]
                  refine Step.p_assign rfl _ rfl (.int .i64 2) rfl ?_
                  simp only [Act.put, List.setIfInBounds_toArray, List.set_cons_zero, List.set_cons_succ]
                  refine wpList_nil ?_
                  have hr4 := setRow_heap w4 (w.heap.size + 4) metaZ metaZ _ _ B1.out.r
                  have g4 : w4.grownBy (w4.setRow (w.heap.size + 4) metaZ) (some (w.heap.size + 4)) := ⟨rfl, rfl, rfl, by simp, fun k hk hne => setRow_other _ _ _ _ (fun e => hne (by rw [e]))⟩
                  have G4 := Lib.hid (Tree.grown_trans G1.out g4 (fun b hb => by cases hb; omega))
                  clear g4
                  generalize w4.setRow (w.heap.size + 4) metaZ = wz at *
                  obtain rfl : E = 2 := by rw [← HE.out]; simp [hsh, hne', hon, hpl, hci2, hls, hseg, h0, h1]
                  go_wp2
                  refine bodyPost_ret (results_cell_row_tmp rfl _ _ (w.heap.size + 4) _ metaZ _ _ rfl hr4 Tryd.underlying56 rfl (by kernel_rfl)) rfl ?_
                  exact ⟨mZ, pZ, rfl, .zero (by decide), G4.out⟩
                with_reducible refine Step.p_unguard ?_ ?_
                · kernel_rfl
                refine Step.p_val rfl (.bool false) (by unfold execOp; go_simp; try simp [h1]) ?_
                simp only [Act.put, List.setIfInBounds_toArray, List.set_cons_zero, List.set_cons_succ]
                refine Step.p_pick rfl _ _ _ rfl _ rfl (.bool false) rfl ?_
                simp only [Act.put, List.setIfInBounds_toArray, List.set_cons_zero, List.set_cons_succ]
                refine Step.p_move rfl _ rfl (.bool false) rfl ?_
                simp only [Act.put, List.setIfInBounds_toArray, List.set_cons_zero, List.set_cons_succ]
                with_reducible refine Step.p_unguard ?_ ?_
                · kernel_rfl
                refine Tree.p_loadrow rfl _ _ rfl (w.heap.size) rfl (B1.out.m) Tryd.underlying56 rfl (by rw [MCS.out.size]; exact hi27) ?_
                simp only [Act.put, List.setIfInBounds_toArray, List.set_cons_zero, List.set_cons_succ]
                with_reducible refine Step.p_unguard ?_ ?_
                · kernel_rfl
                refine Tree.p_field rfl _ _ _ rfl (wr.heap.size) (0) rfl Tryd.underlying92 rfl (sz := 1) (by kernel_rfl) (by decide) (2) rfl ?_
                simp only [Act.put, List.setIfInBounds_toArray, List.set_cons_zero, List.set_cons_succ]
                with_reducible refine Step.p_unguard ?_ ?_
                · kernel_rfl
                refine Tree.p_load1 rfl _ _ rfl (wr.heap.size) (2) rfl (.int .u64 s2) (cell_of_row _ _ 2 _ _ _ SO.out) Tryd.underlying22 rfl ?_
                simp only [Act.put, List.setIfInBounds_toArray, List.set_cons_zero, List.set_cons_succ]
                with_reducible refine Step.p_unguard ?_ ?_
                · kernel_rfl
                refine Step.p_wp rfl (Step.w_callx 70 [.tmp 86, .tmp 88] _ rfl Tryd.func70 (by kernel_rfl) rfl [.agg cs, .int .u64 s2] rfl (by rw [← MCS.out.eq]; exact epochs_any m p s2 w4 (HM.out.e.lv.grown G1.out) hlen) ?_)
                rintro e w5 ⟨rfl, hb⟩
                refine ⟨_, rfl, ?_⟩
                simp only [Act.put, List.setIfInBounds_toArray, List.set_cons_zero, List.set_cons_succ]
                replace SO := Lib.hid ((hb.block _ (Array.getElem?_eq_some_iff.1 SO.out).1).trans SO.out)
                replace B1 := Lib.hid (B1.out.step (gb_of_below hb) (by simp))
                replace S1 := Lib.hid (Nat.le_trans S1.out hb.size)
                replace G1 := Lib.hid (Tree.grown_trans G1.out (gb_of_below hb) (by simp))
                clear hb
                obtain ⟨cnt, hcnt⟩ : ∃ c, cntE m.epochs s2 = c := ⟨_, rfl⟩
                rw [hcnt]
                have HCNT := Lib.hid hcnt
                clear hcnt
                by_cases hcn : cnt = 1
                rotate_left
                · have hcn2 : cntE m.epochs s2 ≠ 1 := by rw [HCNT.out]; exact hcn
                  have hcn3 : ¬ ((cnt : Nat) : Int) = 1 := fun h => hcn (Int.ofNat_inj.1 h)
                  with_reducible refine Step.p_unguard ?_ ?_
                  · kernel_rfl
                  refine Step.p_val rfl (.bool true) (by unfold execOp; go_simp; try (simp [hcn3])) ?_
                  simp only [Act.put, List.setIfInBounds_toArray, List.set_cons_zero, List.set_cons_succ]
                  refine Step.p_pick rfl _ _ _ rfl _ rfl (.bool true) rfl ?_
                  simp only [Act.put, List.setIfInBounds_toArray, List.set_cons_zero, List.set_cons_succ]
                  refine wpList_nil ?_
                  go_upto_region 15 with fail
                  refine wp_region_lit ?_
                  refine Step.p_val rfl (.agg metaZ) (by unfold execOp; go_simp; rfl) ?_
                  simp only [Act.put, List.setIfInBounds_toArray, List.set_cons_zero, List.set_cons_succ]
                  refine wpList_store_row rfl _ _ _ rfl (w.heap.size + 4) metaZ rfl rfl 56 metaZ B1.out.r (by kernel_rfl) rfl (by rw [← Array.all_toList]; rfl) ?_
                  simp only [Act.put]
                  refine Step.p_assign rfl _ rfl (.int .i64 2) rfl ?_
                  simp only [Act.put, List.setIfInBounds_toArray, List.set_cons_zero, List.set_cons_succ]
                  refine wpList_nil ?_
                  have hr4 := setRow_heap w5 (w.heap.size + 4) metaZ metaZ _ _ B1.out.r
                  have g4 : w5.grownBy (w5.setRow (w.heap.size + 4) metaZ) (some (w.heap.size + 4)) := ⟨rfl, rfl, rfl, by simp, fun k hk hne => setRow_other _ _ _ _ (fun e => hne (by rw [e]))⟩
                  have G4 := Lib.hid (Tree.grown_trans G1.out g4 (fun b hb => by cases hb; omega))
                  clear g4
                  generalize w5.setRow (w.heap.size + 4) metaZ = wz at *
                  obtain rfl : E = 2 := by rw [← HE.out]; simp [hsh, hne', hon, hpl, hci2, hls, hseg, h0, h1, hfr, hcn2]
                  go_wp2
                  refine bodyPost_ret (results_cell_row_tmp rfl _ _ (w.heap.size + 4) _ metaZ _ _ rfl hr4 Tryd.underlying56 rfl (by kernel_rfl)) rfl ?_
                  exact ⟨mZ, pZ, rfl, .zero (by decide), G4.out⟩
                have hcn2 : cntE m.epochs s2 = 1 := by rw [HCNT.out]; exact hcn
                have hcn3 : ((cnt : Nat) : Int) = 1 := by rw [hcn]; rfl
                with_reducible refine Step.p_unguard ?_ ?_
                · kernel_rfl
                refine Step.p_val rfl (.bool false) (by unfold execOp; go_simp; try (simp [hcn3])) ?_
                simp only [Act.put, List.setIfInBounds_toArray, List.set_cons_zero, List.set_cons_succ]
                refine Step.p_pick rfl _ _ _ rfl _ rfl (.bool false) rfl ?_
                simp only [Act.put, List.setIfInBounds_toArray, List.set_cons_zero, List.set_cons_succ]
                refine wpList_nil ?_
                obtain ⟨i_e, a1_e, a2_e, a3_e, a4_e⟩ := info_of (t := 64) (z := .agg #[.int .u64 0, .string ⟨#[]⟩, .string ⟨#[]⟩, .string ⟨#[]⟩, .string ⟨#[]⟩]) (s := 5) (b := 72) (by kernel_rfl)
                have hi5 : (Tryd.prog.info? 64).map (·.size) = some 5 := by kernel_rfl
                have hnb := nOf_bd hsh
                have hnb1 := nOf_pos hsh
                go_upto_region 16 with fail
                refine wp_region_lit ?_
                refine Tree.p_loadrow rfl _ _ rfl (w.heap.size) rfl (B1.out.m) Tryd.underlying56 rfl (by rw [MCS.out.size]; exact hi27) ?_
                simp only [Act.put, List.setIfInBounds_toArray, List.set_cons_zero, List.set_cons_succ]
                refine Step.p_wp rfl (Step.w_callx 59 [.tmp 93] _ rfl Tryd.func59 (by kernel_rfl) rfl [.agg cs] rfl (by rw [← MCS.out.eq]; exact copy_any m p w5 (MIn.gb HM.out G1.out)) ?_)
                rintro e w7 ⟨T, qs, ks, qe2, ke2, qg2, kg2, qt, kt, rfl, hcw⟩
                refine ⟨_, rfl, ?_⟩
                simp only [Act.put, List.setIfInBounds_toArray, List.set_cons_zero, List.set_cons_succ]
                rw [metaV_eq]
                have hs2 : (metaA { m with toks := T } ⟨qs, ks, qe2, ke2, qg2, kg2, qt, kt⟩).size = 27 := rfl
                have h2c : (metaA { m with toks := T } ⟨qs, ks, qe2, ke2, qg2, kg2, qt, kt⟩).all (·.oneCell') = true := by rw [← Array.all_toList]; rfl
                have y12 : (metaA { m with toks := T } ⟨qs, ks, qe2, ke2, qg2, kg2, qt, kt⟩)[12]? = some (.slice qe2 m.epochs.length ke2) := rfl
                generalize hcn : metaA { m with toks := T } ⟨qs, ks, qe2, ke2, qg2, kg2, qt, kt⟩ = cn at *
                have HCN := Lib.hid hcn
                have Y12 := Lib.hid y12
                have HS2 := Lib.hid hs2
                clear hcn y12
                refine Tree.p_new rfl 56 rfl (z := .agg metaZ) (by kernel_rfl) ?_
                simp only [Act.put, List.setIfInBounds_toArray, List.set_cons_zero, List.set_cons_succ]
                refine wpList_store_row rfl _ _ _ rfl w7.heap.size cn rfl rfl 56 metaZ (heap_alloc_new w7 _) (by rw [hs2]; exact hi27) (by rw [hs2]; rfl) h2c ?_
                rw [show Value.cells (.agg metaZ) = metaZ from rfl, World.setRow_alloc_new]
                simp only [Act.put]
                refine wpList_nil ?_
                have HSS := Lib.hid (Array.getElem?_eq_some_iff.1 SO.out).1
                have BR8 : Hid (BR w.heap.size w7.heap.size w5.heap.size w cs ce ca ct cn m m.epochs m.segs (.slice qs m.slots.length ks) (.slice qe2 m.epochs.length ke2) (.slice qg2 m.segs.length kg2) (.slice qt m.toks.length kt) T (w7.alloc (.cells cn 56))) := Lib.hid ⟨(B1.out.step hcw.gr (by simp)).step (World.grownBy_alloc w7 _ none) (by simp), heap_alloc_new w7 _, hcw.s.alloc _, hcw.e.alloc _, hcw.g.alloc _, hcw.len, hcw.t.alloc _, fun i a c => (hcw.tok i a c).off (World.grownBy_alloc w7 _ none) .none, Tree.grown_trans (Tree.grown_trans G1.out hcw.gr (by simp)) (World.grownBy_alloc w7 _ none) (by simp), S1.out, hcw.sz, Nat.le_refl _⟩
                have N8 := Lib.hid (Nat.le_trans hcw.sz (World.grownBy_alloc w7 (.cells cn 56) none).size)
                replace SO := Lib.hid ((Tree.grown_trans hcw.gr (World.grownBy_alloc w7 (.cells cn 56) none) (by simp)).block _ (Array.getElem?_eq_some_iff.1 SO.out).1 (by simp) |>.trans SO.out)
                have hsn0 : wr.heap.size < w7.heap.size := Nat.lt_of_lt_of_le HSS.out hcw.sz
                generalize w7.alloc (.cells cn 56) = w8 at *
                clear hcw
                generalize w7.heap.size = n0 at *
                clear h2c hs2
                go_upto_region 17 with fail
                refine wp_region_lit ?_
                refine Tree.p_field rfl _ _ _ rfl (n0) (0) rfl Tryd.underlying56 rfl (sz := 1) (by kernel_rfl) (by decide) (12) rfl ?_
                simp only [Act.put, List.setIfInBounds_toArray, List.set_cons_zero, List.set_cons_succ]
                refine Tree.p_load1 rfl _ _ rfl (n0) (12) rfl (.slice qe2 m.epochs.length ke2) ((cell_of_row _ _ 12 _ _ _ BR8.out.n).trans Y12.out) Tryd.underlying48 rfl ?_
                simp only [Act.put, List.setIfInBounds_toArray, List.set_cons_zero, List.set_cons_succ]
                refine Tree.p_loadrow rfl _ _ rfl (w.heap.size + 1) rfl (BR8.out.bb.d) Tryd.underlying64 rfl (by rw [CE.out.es]; exact hi5) ?_
                simp only [Act.put, List.setIfInBounds_toArray, List.set_cons_zero, List.set_cons_succ]
                refine Tree.p_one rfl 48 64 (.tmp 97) rfl ce (n := 5) CE.out.es rfl Tryd.underlying48 (by kernel_rfl) (by kernel_rfl) (by decide) (by decide) ?_
                simp only [Act.put, List.setIfInBounds_toArray, List.set_cons_zero, List.set_cons_succ]
                refine App.wpList_append_src _ rfl _ _ 48 rfl w5.heap.size 64 i_e (.agg #[.int .u64 0, .string ⟨#[]⟩, .string ⟨#[]⟩, .string ⟨#[]⟩, .string ⟨#[]⟩]) 5 72 Tryd.underlying48 a1_e a2_e a3_e a4_e rfl (by decide) (.slice qe2 m.epochs.length ke2) m.epochs.length (m.epochs.flatMap epochC) rfl (BR8.out.e.alloc _) (some ⟨w8.heap.size, 0, none⟩) 1 1 (epochC d) rfl rfl (fun h => by cases h) (fun j u hj => ⟨_, 0, rfl, (cell_of_row _ _ (0 + j) _ _ _ (heap_alloc_new w8 _)).trans (by rw [Nat.zero_add, ← Array.getElem?_toList, CE.out.el]; exact hj)⟩) (fun u hu => ep_one' [d] u (by simpa using hu)) (by have := (reach_le HM.out.e.reach (by decide) (by decide)).1; omega) (reach_le HM.out.e.reach (by decide) (by decide)).2.1 (by have := N8.out; have e := (World.grownBy_alloc w8 (.cells ce 64) none).size; omega) ?_
                intro v9 w9 hown hgr _
                simp only [Act.put, List.setIfInBounds_toArray, List.set_cons_zero, List.set_cons_succ]
                have BR9 := Lib.hid ((BR8.out.step (World.grownBy_alloc w8 _ none)).app hgr hown)
                obtain ⟨g9, c9, rfl⟩ : ∃ g c, v9 = .slice (some ⟨g, 0, none⟩) (m.epochs.length + 1) c := by
                  rcases hown.2 with ⟨_, h⟩ | ⟨g, cap, cur, rfl, _⟩
                  · omega
                  · exact ⟨g, cap, rfl⟩
                replace SO := Lib.hid (((World.grownBy_alloc w8 (.cells ce 64) none).block _ (Array.getElem?_eq_some_iff.1 SO.out).1 (by simp)).trans SO.out)
                replace SO := Lib.hid ((hgr.block _ (Array.getElem?_eq_some_iff.1 SO.out).1 (fun e => by have := (Step.own_lt (BR8.out.e) e.symm).1; have := HSS.out; omega)).trans SO.out)
                clear hown hgr BR8
                refine Tree.p_field rfl _ _ _ rfl (n0) (0) rfl Tryd.underlying56 rfl (sz := 1) (by kernel_rfl) (by decide) (12) rfl ?_
                simp only [Act.put, List.setIfInBounds_toArray, List.set_cons_zero, List.set_cons_succ]
                refine Tree.p_store1 rfl 48 _ _ rfl n0 12 rfl (some ⟨g9, 0, none⟩) (m.epochs.length + 1) c9 rfl (by kernel_rfl) BR9.out.n (by rw [HS2.out]; decide) ?_
                simp only [Act.put]
                refine wpList_nil ?_
                have BR10 := Lib.hid (BR9.out.put (Tree.grown_setCell (Tree.grown_refl w9) ⟨n0, 12, none⟩ (.slice (some ⟨g9, 0, none⟩) (m.epochs.length + 1) c9)) (heap_setCell_same w9 n0 12 _ _ _ BR9.out.n))
                replace SO := Lib.hid ((heap_setCell_other w9 ⟨n0, 12, none⟩ _ (.slice (some ⟨g9, 0, none⟩) (m.epochs.length + 1) c9) (by show wr.heap.size ≠ n0; omega)).trans SO.out)
                generalize w9.setCell ⟨n0, 12, none⟩ (.slice (some ⟨g9, 0, none⟩) (m.epochs.length + 1) c9) = w10 at *
                clear BR9
                have hRot : rotC (bgRot m d off size t) = #[.bool true, .int .u64 s2, .int .u64 d.num, .bool t.back, .int .i64 t.mode, .int .u64 t.hot, .int .u64 0, .int .i64 off, .int .i64 size, .bool false, .int .u64 0, .string ⟨#[]⟩] := by rw [rotC, bgRot, hfr]
                have HROT := Lib.hid hRot
                clear hRot
                obtain ⟨R, hR⟩ : ∃ R, bgRot m d off size t = R := ⟨_, rfl⟩
                have hRd : R.done = 0 := by rw [← hR]; rfl
                rw [hR] at HROT
                have HR1 := Lib.hid hR
                clear hR
                go_upto_region 18 with fail
                refine wp_region_lit ?_
                refine Tree.p_field rfl _ _ _ rfl (wr.heap.size) (0) rfl Tryd.underlying92 rfl (sz := 1) (by kernel_rfl) (by decide) (2) rfl ?_
                simp only [Act.put, List.setIfInBounds_toArray, List.set_cons_zero, List.set_cons_succ]
                refine Tree.p_load1 rfl _ _ rfl (wr.heap.size) (2) rfl (.int .u64 s2) (cell_of_row _ _ 2 _ _ _ SO.out) Tryd.underlying22 rfl ?_
                simp only [Act.put, List.setIfInBounds_toArray, List.set_cons_zero, List.set_cons_succ]
                refine Tree.p_field rfl _ _ _ rfl (w.heap.size + 1) (0) rfl Tryd.underlying64 rfl (sz := 1) (by kernel_rfl) (by decide) (0) rfl ?_
                simp only [Act.put, List.setIfInBounds_toArray, List.set_cons_zero, List.set_cons_succ]
                refine Tree.p_load1 rfl _ _ rfl (w.heap.size + 1) (0) rfl (.int .u64 d.num) ((cell_of_row _ _ 0 _ _ _ BR10.out.bb.d).trans CE.out.e0) Tryd.underlying22 rfl ?_
                simp only [Act.put, List.setIfInBounds_toArray, List.set_cons_zero, List.set_cons_succ]
                refine Tree.p_field rfl _ _ _ rfl (w.heap.size + 3) (0) rfl Tryd.underlying66 rfl (sz := 1) (by kernel_rfl) (by decide) (2) rfl ?_
                simp only [Act.put, List.setIfInBounds_toArray, List.set_cons_zero, List.set_cons_succ]
                refine Tree.p_load1 rfl _ _ rfl (w.heap.size + 3) (2) rfl (.bool t.back) ((cell_of_row _ _ 2 _ _ _ BR10.out.bb.t).trans CE.out.t2) Tryd.underlying4 rfl ?_
                simp only [Act.put, List.setIfInBounds_toArray, List.set_cons_zero, List.set_cons_succ]
                refine Tree.p_field rfl _ _ _ rfl (w.heap.size + 3) (0) rfl Tryd.underlying66 rfl (sz := 1) (by kernel_rfl) (by decide) (1) rfl ?_
                simp only [Act.put, List.setIfInBounds_toArray, List.set_cons_zero, List.set_cons_succ]
                refine Tree.p_load1 rfl _ _ rfl (w.heap.size + 3) (1) rfl (.int .i64 t.mode) ((cell_of_row _ _ 1 _ _ _ BR10.out.bb.t).trans CE.out.t1) Tryd.underlying3 rfl ?_
                simp only [Act.put, List.setIfInBounds_toArray, List.set_cons_zero, List.set_cons_succ]
                refine Tree.p_field rfl _ _ _ rfl (w.heap.size + 3) (0) rfl Tryd.underlying66 rfl (sz := 1) (by kernel_rfl) (by decide) (3) rfl ?_
                simp only [Act.put, List.setIfInBounds_toArray, List.set_cons_zero, List.set_cons_succ]
                refine Tree.p_load1 rfl _ _ rfl (w.heap.size + 3) (3) rfl (.int .u64 t.hot) ((cell_of_row _ _ 3 _ _ _ BR10.out.bb.t).trans CE.out.t3) Tryd.underlying22 rfl ?_
                simp only [Act.put, List.setIfInBounds_toArray, List.set_cons_zero, List.set_cons_succ]
                refine Tree.p_loadmid rfl _ _ rfl (w.heap.size + 2) (0) rfl [.int .i64 off, .int .i64 size] (row_range BR10.out.bb.a CE.out.a) Tryd.underlying51 rfl (by kernel_rfl) ?_
                simp only [Act.put, List.setIfInBounds_toArray, List.set_cons_zero, List.set_cons_succ]
                refine Step.p_val rfl (.agg #[.bool true, .int .u64 s2, .int .u64 d.num, .bool t.back, .int .i64 t.mode, .int .u64 t.hot, .int .u64 0, .int .i64 off, .int .i64 size, .bool false, .int .u64 0, .string ⟨#[]⟩]) (by unfold execOp; go_simp) ?_
                simp only [Act.put, List.setIfInBounds_toArray, List.set_cons_zero, List.set_cons_succ]
                refine Tree.p_field rfl _ _ _ rfl (n0) (0) rfl Tryd.underlying56 rfl (sz := 12) (by kernel_rfl) (by decide) (14) rfl ?_
                simp only [Act.put, List.setIfInBounds_toArray, List.set_cons_zero, List.set_cons_succ]
                rw [← HROT.out]
                have hl12 : (rotC R).toList.length = 12 := rfl
                have hz12 : 14 + (rotC R).toList.length ≤ (cn.setIfInBounds 12 (.slice (some ⟨g9, 0, none⟩) (m.epochs.length + 1) c9)).size := by rw [hl12, Array.size_setIfInBounds, HS2.out]; decide
                refine Tree.p_storemid rfl 53 _ _ rfl n0 14 rfl (rotC R) rfl (by kernel_rfl) (fun u hu => by simp [rotC] at hu; rcases hu with rfl | rfl | rfl | rfl | rfl | rfl | rfl | rfl | rfl | rfl | rfl | rfl <;> rfl) BR10.out.n (by simpa using hz12) ?_
                simp only [Act.put]
                refine wpList_nil ?_
                have BR11 := Lib.hid (BR10.out.put (X' := w10.setRow n0 (Tree.patch (cn.setIfInBounds 12 (.slice (some ⟨g9, 0, none⟩) (m.epochs.length + 1) c9)) 14 (rotC R).toList)) ⟨rfl, rfl, rfl, by simp, fun k hk hne => setRow_other _ _ _ _ (fun e => hne (by rw [e]))⟩ (setRow_heap w10 n0 _ _ _ _ BR10.out.n))
                generalize w10.setRow n0 (Tree.patch (cn.setIfInBounds 12 (.slice (some ⟨g9, 0, none⟩) (m.epochs.length + 1) c9)) 14 (rotC R).toList) = w11 at *
                clear BR10
                have hr14 : ∀ j v, (rotC R).toList[j]? = some v → (Tree.patch (cn.setIfInBounds 12 (.slice (some ⟨g9, 0, none⟩) (m.epochs.length + 1) c9)) 14 (rotC R).toList)[14 + j]? = some v := fun j v hj => patch_get _ _ _ hz12 j v hj
                have hcF := fun (qg : Option Addr) (kg : Nat) => bg_cells (d := d) (r := R) HCN.out (qe := some ⟨g9, 0, none⟩) (ke := c9) (qg := qg) (kg := kg)
                have hsF : (Tree.patch (cn.setIfInBounds 12 (.slice (some ⟨g9, 0, none⟩) (m.epochs.length + 1) c9)) 14 (rotC R).toList).size = 27 := by rw [Tree.patch_size _ _ _ hz12, Array.size_setIfInBounds, HS2.out]
                generalize Tree.patch (cn.setIfInBounds 12 (.slice (some ⟨g9, 0, none⟩) (m.epochs.length + 1) c9)) 14 (rotC R).toList = cm at *
                have HR14 := Lib.hid hr14
                have HCF := Lib.hid hcF
                have HSF := Lib.hid hsF
                have HL12 := Lib.hid hl12
                clear hr14 hcF hsF hl12 hz12
                go_upto_region 19 with fail
                refine wp_region_lit ?_
                refine Step.p_move rfl _ rfl (.int .u64 (nOf m)) rfl ?_
                simp only [Act.put, List.setIfInBounds_toArray, List.set_cons_zero, List.set_cons_succ]
                refine Tree.p_field rfl _ _ _ rfl (n0) (0) rfl Tryd.underlying56 rfl (sz := 12) (by kernel_rfl) (by decide) (14) rfl ?_
                simp only [Act.put, List.setIfInBounds_toArray, List.set_cons_zero, List.set_cons_succ]
                refine Tree.p_loadmid rfl _ _ rfl n0 14 rfl (rotC R).toList (row_range BR11.out.n HR14.out) Tryd.underlying53 rfl (by rw [HL12.out]; kernel_rfl) ?_
                simp only [Act.put, List.setIfInBounds_toArray, List.set_cons_zero, List.set_cons_succ]
                refine Step.p_wp rfl (Step.w_callx 71 [.tmp 115, .tmp 117] _ rfl Tryd.func71 (by kernel_rfl) rfl [.int .u64 (nOf m), .agg (rotC R)] rfl (refSegments_any (nOf m) R w11 hnb.1 (by have := hnb.2; omega) (by rw [hRd]; exact Int.le_refl 0) (by rw [hRd]; decide)) ?_)
                rintro e w13 ⟨v13, rfl, hown, hb⟩
                refine ⟨_, rfl, ?_⟩
                simp only [Act.put, List.setIfInBounds_toArray, List.set_cons_zero, List.set_cons_succ]
                have N12 : Hid (w5.heap.size ≤ w11.heap.size) := Lib.hid (Nat.le_trans BR11.out.lon (Nat.le_of_lt (Array.getElem?_eq_some_iff.1 BR11.out.n).1))
                have hok : segsOk (nOf m) R = true := by
                  have h2 := hnb.2
                  have hon2 : R.on = true := by rw [← HR1.out]; rfl
                  have h3 := hnb.1
                  simp [segsOk, hnb1, h2, hon2, hRd, h3]
                rw [show segsL (nOf m) R = segsR (nOf m) R from if_pos hok] at hown
                generalize segsE (nOf m) R = se
                have BR13 := Lib.hid ((BR11.out.step (gb_of_below hb)).segs (own_mono hown N12.out))
                obtain ⟨q13, c13, rfl⟩ : ∃ q c, v13 = .slice q (segsR (nOf m) R).length c := by
                  rcases hown.2 with ⟨rfl, h⟩ | ⟨g, cap, cur, rfl, _⟩
                  · exact ⟨none, 0, by rw [h]⟩
                  · exact ⟨_, cap, rfl⟩
                clear hown hb BR11 N12
                refine Step.p_move rfl _ rfl (.tuple #[.slice q13 (segsR (nOf m) R).length c13, .int .i64 se]) rfl ?_
                simp only [Act.put, List.setIfInBounds_toArray, List.set_cons_zero, List.set_cons_succ]
                refine Step.p_val rfl (.slice q13 (segsR (nOf m) R).length c13) (by unfold execOp; go_simp) ?_
                simp only [Act.put, List.setIfInBounds_toArray, List.set_cons_zero, List.set_cons_succ]
                refine Step.p_val rfl (.int .i64 se) (by unfold execOp; go_simp) ?_
                simp only [Act.put, List.setIfInBounds_toArray, List.set_cons_zero, List.set_cons_succ]
                refine Tree.p_field rfl _ _ _ rfl (n0) (0) rfl Tryd.underlying56 rfl (sz := 1) (by kernel_rfl) (by decide) (13) rfl ?_
                simp only [Act.put, List.setIfInBounds_toArray, List.set_cons_zero, List.set_cons_succ]
                refine Tree.p_store1 rfl 49 _ _ rfl n0 13 rfl q13 (segsR (nOf m) R).length c13 rfl (by kernel_rfl) BR13.out.n (by rw [HSF.out]; decide) ?_
                simp only [Act.put]
                refine wpList_nil ?_
                have BR14 := Lib.hid (BR13.out.put (Tree.grown_setCell (Tree.grown_refl w13) ⟨n0, 13, none⟩ (.slice q13 (segsR (nOf m) R).length c13)) (heap_setCell_same w13 n0 13 _ _ _ BR13.out.n))
                generalize w13.setCell ⟨n0, 13, none⟩ (.slice q13 (segsR (nOf m) R).length c13) = w14 at *
                clear BR13
                rw [HCF.out q13 c13] at BR14
                have hsM : (metaA (bgM m d R T) ⟨qs, ks, some ⟨g9, 0, none⟩, c9, q13, c13, qt, kt⟩).size = 27 := rfl
                have h1M : (metaA (bgM m d R T) ⟨qs, ks, some ⟨g9, 0, none⟩, c9, q13, c13, qt, kt⟩).all (·.oneCell') = true := by rw [← Array.all_toList]; rfl
                have HMV := Lib.hid (metaV_eq (bgM m d R T) ⟨qs, ks, some ⟨g9, 0, none⟩, c9, q13, c13, qt, kt⟩)
                generalize metaA (bgM m d R T) ⟨qs, ks, some ⟨g9, 0, none⟩, c9, q13, c13, qt, kt⟩ = cf at *
                go_upto_region 20 with fail
                refine wp_region_lit ?_
                refine Tree.p_loadrow rfl _ _ rfl (n0) rfl (BR14.out.n) Tryd.underlying56 rfl (by rw [hsM]; exact hi27) ?_
                simp only [Act.put, List.setIfInBounds_toArray, List.set_cons_zero, List.set_cons_succ]
                refine wpList_store_row rfl _ _ _ rfl (w.heap.size + 4) cf rfl rfl 56 metaZ BR14.out.bb.r (by rw [hsM]; exact hi27) (by rw [hsM]; rfl) h1M ?_
                simp only [Act.put]
                refine Step.p_assign rfl _ rfl (.int .i64 0) rfl ?_
                simp only [Act.put, List.setIfInBounds_toArray, List.set_cons_zero, List.set_cons_succ]
                refine wpList_nil ?_
                have hr4 := setRow_heap w14 (w.heap.size + 4) metaZ cf _ _ BR14.out.bb.r
                have g4 : w14.grownBy (w14.setRow (w.heap.size + 4) cf) (some (w.heap.size + 4)) := ⟨rfl, rfl, rfl, by simp, fun k hk hne => setRow_other _ _ _ _ (fun e => hne (by rw [e]))⟩
                have MO4 := Lib.hid ((MO.mono BR14.out.mo (by have := BR14.out.lob; omega : w.heap.size + 5 ≤ w5.heap.size)).set g4 (by omega))
                have G4 := Lib.hid (Tree.grown_trans BR14.out.gr g4 (fun b hb => by cases hb; omega))
                have TE := Lib.hid (TokEq.of_cp BR14.out.len BR14.out.tok)
                clear g4
                generalize w14.setRow (w.heap.size + 4) cf = wz at *
                obtain rfl : E = 0 := by rw [← HE.out]; simp [hsh, hne', hon, hpl, hci2, hls, hseg, h0, h1, hfr, hcn2]
                go_wp2
                refine bodyPost_ret (results_cell_row_tmp rfl _ _ (w.heap.size + 4) _ cf _ _ rfl hr4 Tryd.underlying56 rfl (by rw [hsM]; exact hi27)) rfl ?_
                refine ⟨bgM m d R T, ⟨qs, ks, some ⟨g9, 0, none⟩, c9, q13, c13, qt, kt⟩, by rw [HMV.out]; rfl, ⟨MO4.out.mono (by omega), fun _ => ⟨by rw [HR1.out]; rfl, TE.out⟩, fun h => absurd rfl h⟩, G4.out⟩
              · obtain ⟨ge, oe, rfl, E0⟩ := lv_cells (sz := 5) (fun _ => rfl) (by decide) (LE.out.grown G1.out) k hlt
                have KL := Lib.hid (fun hn : (m.epochs[k]'hlt).num < d.num => (show ∀ j (hj : j < m.epochs.length), j < k + 1 → (m.epochs[j]'hj).num < d.num from fun j hj hjk => by
                  by_cases e : j = k
                  · subst e; exact hn
                  · exact HALL.out j hj (by omega)))
                have KN := Lib.hid (fun hn : ¬ (m.epochs[k]'hlt).num < d.num => (show lessB m.epochs d.num = false from by
                  rw [Bool.eq_false_iff]
                  exact fun h => hn (lessB_iff.1 h k hlt)))
                generalize m.epochs[k]'hlt = y at E0 KL KN
                obtain ⟨y0, y1, y2, y3, y4⟩ := y
                have z0 := E0 0 _ rfl
                rw [Nat.add_zero] at z0
                clear E0
                have t0 := (cell_of_row _ _ 0 _ _ _ B1.out.d).trans CE.out.e0
                have x12 := (cell_of_row _ _ 12 _ _ _ B1.out.m).trans c12
                go_upto_region 10 with fail
                go_quiet (fail)
                rename_i nq
                rename_i nq
                have gd : wr.grownBy (wr.drewN nq) none := ⟨rfl, rfl, rfl, Nat.le_refl _, fun _ _ _ => rfl⟩
                generalize wr.drewN nq = w2x at *
                clear z0 t0 x12
                have S1 := Lib.hid (Nat.le_trans S1.out gd.size)
                have B1 := Lib.hid (B1.out.step gd (by simp))
                have G1 := Lib.hid (Tree.grown_trans G1.out gd (by simp))
                clear gd
                by_cases hy : y0 < d.num
                rotate_left
                · have hle : d.num ≤ y0 := by omega
                  have hls := KN.out hy
                  go_upto_region 11 with fail
                  refine wp_region_lit ?_
                  refine Step.p_val rfl (.agg metaZ) (by unfold execOp; go_simp; rfl) ?_
                  simp only [Act.put, List.setIfInBounds_toArray, List.set_cons_zero, List.set_cons_succ]
                  refine wpList_store_row rfl _ _ _ rfl (w.heap.size + 4) metaZ rfl rfl 56 metaZ B1.out.r (by kernel_rfl) rfl (by rw [← Array.all_toList]; rfl) ?_
                  simp only [Act.put]
                  refine Step.p_assign rfl _ rfl (.int .i64 2) rfl ?_
                  simp only [Act.put, List.setIfInBounds_toArray, List.set_cons_zero, List.set_cons_succ]
                  refine wpList_nil ?_
                  have hr4 := setRow_heap w2x (w.heap.size + 4) metaZ metaZ _ _ B1.out.r
                  have g4 : w2x.grownBy (w2x.setRow (w.heap.size + 4) metaZ) (some (w.heap.size + 4)) := ⟨rfl, rfl, rfl, by simp, fun k hk hne => setRow_other _ _ _ _ (fun e => hne (by rw [e]))⟩
                  have G4 := Lib.hid (Tree.grown_trans G1.out g4 (fun b hb => by cases hb; omega))
                  clear g4
                  generalize w2x.setRow (w.heap.size + 4) metaZ = wz at *
                  obtain rfl : E = 2 := by rw [← HE.out]; simp [hsh, hne', hon, hpl, hci2, hls]
                  go_wp2
                  refine bodyPost_ret (results_cell_row_tmp rfl _ _ (w.heap.size + 4) _ metaZ _ _ rfl hr4 Tryd.underlying56 rfl (by kernel_rfl)) rfl ?_
                  exact ⟨mZ, pZ, rfl, .zero (by decide), G4.out⟩
                · have hyb : ¬ d.num ≤ y0 := by omega
                  go_wp2
                  go_roundw
                  case rel => exact ⟨k + 1, by omega, rfl, KL.out hy, B1.out, G1.out, S1.out⟩
                  case measure => simp [intOf]; omega
end Go.Proofs.YtfchbodbkdkcfaaDoor.Rk
