/- Parts of the proof of TweakFlips. Rf4: cofferref01.Sum: 32 bytes. -/
import Derived.Test.YtmifebcaifbmoaaGreatDoorK37
/- Rf4 -/
section
namespace Go.Proofs.YtmifebcaifbmoaaGreatDoor.Rf1
open Go.RowKit Go.Lib Go.Proofs.YtmifebcaifbmoaaGreatDoor.Blk Go.Proofs.YtmifebcaifbmoaaGreatDoor.Dig Go.Proofs.YtmifebcaifbmoaaGreatDoor.Push Go.Proofs.YtmifebcaifbmoaaGreatDoor.Tw

theorem OwnU.below {B n : Nat} {v : Value} {w w' : World} (h : OwnU B n v w) (hb : Below w.heap.size w w') : OwnU B n v w' := by
  obtain ⟨F, hF, ho⟩ := h
  exact ⟨F, hF, Step.own_of ho (fun g hg => hb.block g (ho.lt g hg).2)⟩
set_option maxRecDepth 100000 in
set_option maxHeartbeats 8000000 in
theorem sum_any (g off n cap : Nat) (f : Nat → Nat) (hf : ∀ i, f i < 256) (hn : 0 < n) (hn2 : n ≤ 1000) (w : World) (h : KeyB w g off n f) (hsq : WordsAt 3 16 w) (hcu : WordsAt 4 80 w) :
    Calls Tryz.prog 47 #[.int .i64 256, .slice (some ⟨g, off, none⟩) n cap] w fun e w' => (∃ v, e = .returned v ∧ OwnU w.heap.size 32 v w') ∧ Below w.heap.size w w' := by
  have z8b : (Tryz.prog.info? 125).bind (·.zero) = some (.agg (arr .u64 8 fun _ => 0)) := by kernel_rfl
  have h8b : (Tryz.prog.info? 125).map (·.size) = some 8 := by kernel_rfl
  have BK := Lib.hid (fun w' => block_any w')
  have SZ := Lib.hid (fun w' => size_any w')
  have FI := Lib.hid (first_any w hsq)
  have LD := Lib.hid (fun w' (b : Below w.heap.size w w') => laid_any g off n cap f hf hn hn2 w' (fun j hj => cell_bel b (h j hj)))
  have CU := Lib.hid (fun w' (b : Below w.heap.size w w') => hcu.below b)
  have ZN := zerosN_at n
  have ZB := zerosN_bd n
  clear h hsq hcu
  go_enter Tryz.func47, Tryz.ntmps47
  go_upto_region 4 with (go_at_call 86; refine (BK.out _).mono ?_; rintro e w' ⟨rfl, rfl⟩)
  refine wp_region_lit ?_
  refine Step.p_move rfl _ rfl (.int .i64 256) rfl ?_
  simp only [Act.put, List.setIfInBounds_toArray, List.set_cons_zero, List.set_cons_succ]
  refine Step.p_wp rfl (Step.w_callx 87 _ _ rfl Tryz.func87 (by kernel_rfl) rfl [.int .i64 256] rfl FI.out ?_)
  rintro e w2 ⟨⟨cs, rfl, hws⟩, hb⟩
  refine ⟨_, rfl, ?_⟩
  simp only [Act.put, List.setIfInBounds_toArray, List.set_cons_zero, List.set_cons_succ]
  have hwd : Wd .u64 8 cs := .of hws.1 hws.2
  have hsz : (Tryz.prog.info? 125).map (·.size) = some cs.size := by rw [hws.1]; exact h8b
  have hcs8 := hws.1
  have B2 := Lib.hid hb
  clear hb FI hws
  refine New.p_newarr rfl 125 rfl .u64 8 z8b ?_
  intro w3 a3 g3 s3
  simp only [Act.put, List.setIfInBounds_toArray, List.set_cons_zero, List.set_cons_succ]
  refine Cell.p_storerow rfl 125 _ _ rfl w2.heap.size rfl cs rfl hsz hwd.2.2 a3 (by rw [arr_size, hcs8]) ?_
  intro w4 hr4 hg4 hs4
  simp only [Act.put]
  refine wpList_nil ?_
  obtain ⟨tb, htb⟩ : ∃ tb, w2.heap.size = tb := ⟨_, rfl⟩
  rw [htb] at hr4 hg4 ⊢
  have htw : w.heap.size ≤ tb := by have := B2.out.size; omega
  have B4 := Lib.hid ((B2.out.grown g3 B2.out.size (by simp)).grown hg4 (by have := B2.out.size; have := g3.size; omega) (fun j hj => by cases hj; exact htw))
  have T4 := Lib.hid (hwd.row hr4)
  clear hr4 hg4 g3 a3 B2 hwd
  go_upto_region 5 with fail
  refine wp_region_lit ?_
  refine Step.p_move rfl _ rfl (.slice (some ⟨g, off, none⟩) n cap) rfl ?_
  simp only [Act.put, List.setIfInBounds_toArray, List.set_cons_zero, List.set_cons_succ]
  refine Step.p_move rfl _ rfl (.int .i64 64) rfl ?_
  simp only [Act.put, List.setIfInBounds_toArray, List.set_cons_zero, List.set_cons_succ]
  refine Step.p_wp rfl (Step.w_callx 88 _ _ rfl Tryz.func88 (by kernel_rfl) rfl [.slice (some ⟨g, off, none⟩) n cap, .int .i64 64] rfl (LD.out w4 B4.out) ?_)
  rintro e w5 ⟨⟨v, rfl, hu⟩, hb⟩
  refine ⟨_, rfl, ?_⟩
  simp only [Act.put, List.setIfInBounds_toArray, List.set_cons_zero, List.set_cons_succ]
  obtain ⟨q, c, rfl, hc1, hc2⟩ := OwnU.sl hu
  have U5 := Lib.hid hu
  have B5 := Lib.hid (B4.out.trans (hb.mono B4.out.size))
  have T5 := Lib.hid (T4.out.below hb T4.out.lt)
  clear hu hb B4 T4 LD
  obtain ⟨M, hM⟩ : ∃ M, n + 1 + zerosN n + 8 = M := ⟨_, rfl⟩
  rw [hM] at U5 hc1 ⊢
  have hM0 : 0 < M ∧ M ≤ 1100 ∧ M % 64 = 0 := by omega
  refine Step.p_assign rfl _ rfl (.slice q M c) rfl ?_
  simp only [Act.put, List.setIfInBounds_toArray, List.set_cons_zero, List.set_cons_succ]
  refine wpList_nil ?_
  clear ZN ZB hM
  go_upto_region 8 with fail
  refine wp_region_lit ?_
  obtain ⟨cs5, hcs5, hw5⟩ := Wd.ofRow T5.out
  have hsz5 : (Tryz.prog.info? 125).map (·.size) = some cs5.size := by rw [hw5.1]; exact h8b
  obtain ⟨g5, c5, hq5, _, h25, _, h45⟩ : ∃ g5 c5, (Value.slice q M c) = .slice (some ⟨g5, 0, none⟩) M c5 ∧ True ∧ M ≤ c5 ∧ c5 ≤ 9223372036854775807 ∧ BU w5 (some ⟨g5, 0, none⟩) M w5.heap.size := by
    obtain ⟨F, hF, ho⟩ := U5.out
    obtain ⟨g5, c5, e, x1, x2, x3, x4⟩ := ownB_of ho hM0.1
    exact ⟨g5, c5, e, trivial, x2, x3, fun i hi => ⟨g5, 0, rfl, Frame.block_lt (x4 i hi), _, by rw [Nat.zero_add]; exact x4 i hi⟩⟩
  cases hq5
  have NA := Lib.hid (narrow_any cs5 hw5 (M / 64) c (by omega) (by omega) (by omega) hc1 hc2 h45 (CU.out w5 B5.out))
  clear h45 CU
  refine Tree.p_loadrow rfl _ _ rfl tb rfl hcs5 Tryz.underlying125 rfl hsz5 ?_
  simp only [Act.put, List.setIfInBounds_toArray, List.set_cons_zero, List.set_cons_succ]
  refine Step.p_move rfl _ rfl (.slice (some ⟨g5, 0, none⟩) M c) rfl ?_
  simp only [Act.put, List.setIfInBounds_toArray, List.set_cons_zero, List.set_cons_succ]
  refine Step.p_wp rfl (Step.w_callx 89 _ _ rfl Tryz.func89 (by kernel_rfl) rfl [.agg cs5, .slice (some ⟨g5, 0, none⟩) M c] rfl NA.out ?_)
  rintro e w6 ⟨⟨cs6, rfl, hw6⟩, hb⟩
  refine ⟨_, rfl, ?_⟩
  simp only [Act.put, List.setIfInBounds_toArray, List.set_cons_zero, List.set_cons_succ]
  have hsz6 : (Tryz.prog.info? 125).map (·.size) = some cs6.size := by rw [hw6.1]; exact h8b
  refine Cell.p_storerow rfl 125 _ _ rfl tb rfl cs6 rfl hsz6 hw6.2.2 ((hb.block tb (Array.getElem?_eq_some_iff.1 hcs5).1).trans hcs5) (by rw [hw6.1, hw5.1]) ?_
  intro w7 hr7 hg7 _
  simp only [Act.put]
  refine wpList_nil ?_
  have T7 := Lib.hid (hw6.row hr7)
  have B6 := B5.out.trans (hb.mono B5.out.size)
  have B7 := Lib.hid (B6.grown hg7 B6.size (fun j hj => by cases hj; exact htw))
  clear hr7 hg7 hb hw6 hw5 hcs5 T5 B5 B6 U5 NA
  obtain ⟨B, hB⟩ : ∃ B, w7.heap.size = B := ⟨_, rfl⟩
  have hBw : w.heap.size ≤ B := by have := B7.out.size; omega
  have htB : tb < B := by have := T7.out.lt; omega
  have T8 : Hid (∀ w', Below B w7 w' → RowP w' tb 125 8 (isInt .u64)) := Lib.hid fun w' hb => T7.out.below hb htB
  have U7 : Hid (OwnU B 0 (.slice none 0 0) w7) := Lib.hid ⟨fun _ => 0, fun _ => Nat.zero_lt_succ _, rfl, .inl ⟨rfl, rfl⟩⟩
  go_wp2
  go_loopw [11, 10, 12] (fun i v _ wr => ∃ j : Nat, j ≤ 8 ∧ i = .int .i64 j ∧ OwnU B (4 * j) v wr ∧ Below B w7 wr) (fun i _ _ _ => 8 - (Lib.intOf i).toNat)
  case atStart => exact ⟨0, by omega, rfl, U7.out, Below.refl _ _⟩
  case round =>
    obtain ⟨j, hj, rfl, hu, hb⟩ := hrel
    obtain ⟨q8, c8, rfl, _, _⟩ := OwnU.sl hu
    have U8 : Hid (OwnU B (4 * j) (.slice q8 (4 * j) c8) wr) := Lib.hid hu
    have B8 := Lib.hid hb
    clear hu hb U7
    go_upto_region 15 with fail
    refine wp_region_lit ?_
    refine Step.p_move rfl _ rfl (.slice q8 (4 * j) c8) rfl ?_
    simp only [Act.put, List.setIfInBounds_toArray, List.set_cons_zero, List.set_cons_succ]
    refine Step.p_len rfl _ _ 5 rfl q8 (4 * j) c8 rfl Tryz.underlying22 ?_
    simp only [Act.put, List.setIfInBounds_toArray, List.set_cons_zero, List.set_cons_succ]
    refine Step.p_move rfl _ rfl (.int .i64 256) rfl ?_
    simp only [Act.put, List.setIfInBounds_toArray, List.set_cons_zero, List.set_cons_succ]
    refine Step.p_wp rfl (Step.w_callx 91 _ _ rfl Tryz.func91 (by kernel_rfl) rfl [.int .i64 256] rfl (SZ.out _) ?_)
    rintro e wz ⟨rfl, hw⟩
    subst hw
    refine ⟨_, rfl, ?_⟩
    simp only [Act.put, List.setIfInBounds_toArray, List.set_cons_zero, List.set_cons_succ]
    refine Step.p_val rfl (.bool (decide (j < 8))) (by unfold execOp; go_simp; try (first | rfl | omega | (by_cases h : j < 8 <;> simp [h] <;> omega))) ?_
    simp only [Act.put, List.setIfInBounds_toArray, List.set_cons_zero, List.set_cons_succ]
    refine wpList_nil ?_
    by_cases hlt : j < 8
    · skip
      obtain ⟨x, hx⟩ := (T8.out wr B8.out).num (j := j) hlt
      have XB := Lib.hid (fun w' (hb : Below B w7 w') => (T8.out w' hb))
      clear hx
      go_wp2
      go_loopw [12, 10] (fun i v wr => ∃ d : Nat, d ≤ 4 ∧ i = .int .i64 (3 - (d : Int)) ∧ OwnU B (4 * j + d) v wr ∧ Below B w7 wr) (fun i _ _ => (Lib.intOf i + 1).toNat)
      case atStart => exact ⟨0, by omega, rfl, U8.out, B8.out⟩
      case round =>
        obtain ⟨d, hd, rfl, hu, hb⟩ := hrel
        obtain ⟨q9, c9, rfl, _, _⟩ := OwnU.sl hu
        have U9 : Hid (OwnU B (4 * j + d) (.slice q9 (4 * j + d) c9) wr) := Lib.hid hu
        have B9 := Lib.hid hb
        have hB9 : B ≤ wr.heap.size := by have := hb.size; omega
        clear hu hb U8
        by_cases hd4 : d < 4
        · skip
          obtain ⟨e, he⟩ : ∃ e : Nat, (3 - (d : Int)) = (e : Nat) := ⟨3 - d, by omega⟩
          have hed : e + d = 3 := by omega
          rw [he]
          go_upto_region 18 with fail
          refine wp_region_lit ?_
          refine Step.p_move rfl _ rfl (.int .i64 e) rfl ?_
          simp only [Act.put, List.setIfInBounds_toArray, List.set_cons_zero, List.set_cons_succ]
          refine Step.p_val rfl (.bool true) (by unfold execOp; go_simp; try rfl) ?_
          simp only [Act.put, List.setIfInBounds_toArray, List.set_cons_zero, List.set_cons_succ]
          refine Step.p_move rfl _ rfl (.bool true) rfl ?_
          simp only [Act.put, List.setIfInBounds_toArray, List.set_cons_zero, List.set_cons_succ]
          with_reducible refine Step.p_unguard ?_ ?_
          · kernel_rfl
          refine Step.p_move rfl _ rfl (.slice q9 (4 * j + d) c9) rfl ?_
          simp only [Act.put, List.setIfInBounds_toArray, List.set_cons_zero, List.set_cons_succ]
          with_reducible refine Step.p_unguard ?_ ?_
          · kernel_rfl
          refine Step.p_len rfl _ _ 5 rfl q9 (4 * j + d) c9 rfl Tryz.underlying22 ?_
          simp only [Act.put, List.setIfInBounds_toArray, List.set_cons_zero, List.set_cons_succ]
          with_reducible refine Step.p_unguard ?_ ?_
          · kernel_rfl
          refine Step.p_move rfl _ rfl (.int .i64 256) rfl ?_
          simp only [Act.put, List.setIfInBounds_toArray, List.set_cons_zero, List.set_cons_succ]
          with_reducible refine Step.p_unguard ?_ ?_
          · kernel_rfl
          refine Step.p_wp rfl (Step.w_callx 91 _ _ rfl Tryz.func91 (by kernel_rfl) rfl [.int .i64 256] rfl (SZ.out _) ?_)
          rintro e wz ⟨rfl, hw⟩
          subst hw
          refine ⟨_, rfl, ?_⟩
          simp only [Act.put, List.setIfInBounds_toArray, List.set_cons_zero, List.set_cons_succ]
          with_reducible refine Step.p_unguard ?_ ?_
          · kernel_rfl
          refine Step.p_val rfl (.bool true) (by unfold execOp; go_simp; try (first | rfl | omega)) ?_
          simp only [Act.put, List.setIfInBounds_toArray, List.set_cons_zero, List.set_cons_succ]
          refine Step.p_pick rfl _ _ _ rfl true rfl (.bool true) rfl ?_
          simp only [Act.put, List.setIfInBounds_toArray, List.set_cons_zero, List.set_cons_succ]
          refine wpList_nil ?_
          obtain ⟨x, hx⟩ := (T8.out wr B9.out).num (j := j) hlt
          have HX := Lib.hid hx
          obtain ⟨F, hF, ho⟩ := U9.out
          have HO := Lib.hid ho
          have HFF := Lib.hid hF
          clear hx ho hF
          go_upto_region 20 with fail
          refine wp_region_lit ?_
          refine Step.p_move rfl _ rfl (.slice q9 (4 * j + d) c9) rfl ?_
          simp only [Act.put, List.setIfInBounds_toArray, List.set_cons_zero, List.set_cons_succ]
          refine Step.p_move rfl _ rfl (.int .i64 j) rfl ?_
          simp only [Act.put, List.setIfInBounds_toArray, List.set_cons_zero, List.set_cons_succ]
          refine Still.p_idxA rfl _ 25 _ _ rfl tb 0 rfl .i64 j rfl (n := 8) hlt Tryz.underlying125 (size := 1) (by kernel_rfl) j (by omega) ?_
          simp only [Act.put, List.setIfInBounds_toArray, List.set_cons_zero, List.set_cons_succ]
          refine Tree.p_load1 rfl _ _ rfl tb j rfl (.int .u64 x) HX.out Tryz.underlying25 rfl ?_
          simp only [Act.put, List.setIfInBounds_toArray, List.set_cons_zero, List.set_cons_succ]
          refine Step.p_move rfl _ rfl (.int .i64 e) rfl ?_
          simp only [Act.put, List.setIfInBounds_toArray, List.set_cons_zero, List.set_cons_succ]
          refine Step.p_val rfl (.int .i64 (8 * e : Nat)) (by unfold execOp; go_simp; try (first | rfl | omega | exact (IntWalk.i64_in _ (by omega)).trans (by omega) | exact IntWalk.i64_in _ (by omega))) ?_
          simp only [Act.put, List.setIfInBounds_toArray, List.set_cons_zero, List.set_cons_succ]
          refine Step.p_val rfl (.int .u64 (8 * e : Nat)) (by unfold execOp; go_simp; try (first | rfl | omega | exact (IntWalk.u64_in _ (by omega)).trans (by omega) | exact IntWalk.u64_in _ (by omega))) ?_
          simp only [Act.put, List.setIfInBounds_toArray, List.set_cons_zero, List.set_cons_succ]
          refine p_int rfl .u64 (ex_shr _ _ _ _ rfl _ _ _ (8 * e) rfl rfl) ?_
          intro z1
          simp only [Act.put, List.setIfInBounds_toArray, List.set_cons_zero, List.set_cons_succ]
          refine p_conv8 rfl _ _ _ rfl .u64 z1 rfl Tryz.underlying25 Tryz.underlying5 ?_
          intro z hz
          simp only [Act.put, List.setIfInBounds_toArray, List.set_cons_zero, List.set_cons_succ]
          refine p_push rfl _ rfl (z : Nat) rfl _ _ rfl rfl rfl _ rfl B (4 * j + d) _ HO.out (by omega) hB9 ?_
          intro v2 w2 hp
          simp only [Act.put, List.setIfInBounds_toArray, List.set_cons_zero, List.set_cons_succ]
          refine Step.p_assign rfl _ rfl (v2) rfl ?_
          simp only [Act.put, List.setIfInBounds_toArray, List.set_cons_zero, List.set_cons_succ]
          refine wpList_nil ?_
          have HP : Hid (OwnU B (4 * j + (d + 1)) v2 w2 ∧ Below B w7 w2) := Lib.hid (by
            obtain ⟨G, hG, e3⟩ := push_some (_B := B) (n := 4 * j + d) HFF.out hz
            exact ⟨⟨G, hG, by have := hp.own; rw [e3] at this; exact this⟩, B9.out.trans hp.bel⟩)
          clear hp
          go_wp2
          exact ⟨⟨d + 1, by omega, by go_num, HP.out⟩, by simp [Lib.intOf]; try omega⟩
        · obtain rfl : d = 4 := by omega
          have HU : Hid (OwnU B (4 * (j + 1)) (.slice q9 (4 * j + 4) c9) wr) := Lib.hid (by rw [Nat.mul_add]; exact U9.out)
          go_upto_region 18 with fail
          refine wp_region_lit ?_
          refine Step.p_move rfl _ rfl (.int .i64 (3 - ((4 : Nat) : Int))) rfl ?_
          simp only [Act.put, List.setIfInBounds_toArray, List.set_cons_zero, List.set_cons_succ]
          refine Step.p_val rfl (.bool false) (by unfold execOp; go_simp; try rfl) ?_
          simp only [Act.put, List.setIfInBounds_toArray, List.set_cons_zero, List.set_cons_succ]
          refine Step.p_move rfl _ rfl (.bool false) rfl ?_
          simp only [Act.put, List.setIfInBounds_toArray, List.set_cons_zero, List.set_cons_succ]
          with_reducible refine Step.p_skip ?_ ?_
          · kernel_rfl
          simp only [Act.put, List.setIfInBounds_toArray, List.set_cons_zero, List.set_cons_succ]
          with_reducible refine Step.p_skip ?_ ?_
          · kernel_rfl
          simp only [Act.put, List.setIfInBounds_toArray, List.set_cons_zero, List.set_cons_succ]
          with_reducible refine Step.p_skip ?_ ?_
          · kernel_rfl
          simp only [Act.put, List.setIfInBounds_toArray, List.set_cons_zero, List.set_cons_succ]
          with_reducible refine Step.p_skip ?_ ?_
          · kernel_rfl
          simp only [Act.put, List.setIfInBounds_toArray, List.set_cons_zero, List.set_cons_succ]
          with_reducible refine Step.p_skip ?_ ?_
          · kernel_rfl
          simp only [Act.put, List.setIfInBounds_toArray, List.set_cons_zero, List.set_cons_succ]
          refine Step.p_pick rfl _ _ _ rfl false rfl (.bool false) rfl ?_
          simp only [Act.put, List.setIfInBounds_toArray, List.set_cons_zero, List.set_cons_succ]
          refine wpList_nil ?_
          go_wp2
          exact ⟨⟨j + 1, by omega, by go_num, HU.out, B9.out⟩, by simp [Lib.intOf]; try omega⟩
    · obtain rfl : j = 8 := by omega
      have HE : Hid (OwnU w.heap.size 32 (.slice q8 (4 * 8) c8) wr ∧ Below w.heap.size w wr) := Lib.hid (by
        obtain ⟨F, hF, hl, hr⟩ := U8.out
        refine ⟨⟨F, hF, hl, ?_⟩, B7.out.trans (B8.out.mono (by omega))⟩
        rcases hr with hr | ⟨g, c, cu, e1, e2, e3⟩
        · exact .inl hr
        · exact .inr ⟨g, c, cu, e1, by omega, e3⟩)
      go_wp2
      go_ret
      exact ⟨⟨_, rfl, HE.out.1⟩, HE.out.2⟩
end Go.Proofs.YtmifebcaifbmoaaGreatDoor.Rf1
end
