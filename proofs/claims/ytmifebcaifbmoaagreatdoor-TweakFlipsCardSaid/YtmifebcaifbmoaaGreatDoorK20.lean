/- Parts of the proof of TweakFlips. Starts: tweak: what a sector begins with. Parts1: tweak: onePart, twoParts: keys laid into a core. Builds: tweak: asECB, asCBC, asXTS: what they lay into a cipher. -/
import Derived.Test.YtmifebcaifbmoaaGreatDoorK19
import Derived.Test.YtmifebcaifbmoaaGreatDoorK13
/- Starts -/
section
namespace Go.Proofs.YtmifebcaifbmoaaGreatDoor.G
open Go.RowKit Go.Lib Go.Proofs.YtmifebcaifbmoaaGreatDoor.Blk Go.Proofs.YtmifebcaifbmoaaGreatDoor.Poly Go.Proofs.YtmifebcaifbmoaaGreatDoor.Field Go.Proofs.YtmifebcaifbmoaaGreatDoor.Tab Go.Proofs.YtmifebcaifbmoaaGreatDoor.Tw Go.Proofs.YtmifebcaifbmoaaGreatDoor.RS
theorem little0 (x : Nat) (hx : x < 2 ^ 64) (w : World) : Calls Tryz.prog 100 #[.int .u64 0, .int .u64 x] w fun e w' => e = .returned (B16 x) ∧ Below w.heap.size w w' := by
  have h := little_any 0 x hx w
  rwa [Nat.zero_mul, Nat.zero_add] at h
theorem big0 (x : Nat) (hx : x < 2 ^ 64) (w : World) : Calls Tryz.prog 113 #[.int .u64 0, .int .u64 x] w fun e w' => e = .returned (B16 (revN x)) ∧ Below w.heap.size w w' := by
  have h := big_any 0 x hx w
  rwa [Nat.zero_mul, Nat.zero_add] at h
theorem and32 (s : Nat) (hs : s < 2 ^ 64) : bits .and .u64 (s : Int) 4294967295 = ((s % 4294967296 : Nat) : Int) := by
  have h := and_u64 s 4294967295 hs (by decide)
  rw [show ((4294967295 : Int)) = ((4294967295 : Nat) : Int) from rfl, h]
  exact congrArg _ (Nat.and_two_pow_sub_one_eq_mod s 32)
set_option maxRecDepth 100000 in
set_option maxHeartbeats 4000000 in
theorem fromNull_any (xb s n : Nat) (_hs : s < 2 ^ 64) (w : World) : Calls Tryz.prog 65 #[.pointer (some ⟨xb, 0, none⟩), .int .u64 s, .int .i64 n] w fun e w' => e = .returned (B16 (0)) ∧ Below w.heap.size w w' := by
  have Z0 := Lib.hid (RB.start w)
  go_enter Tryz.func65, Tryz.ntmps65
  go_upto_region 0 with fail
  refine wp_region_lit ?_
  refine New.p_newarr rfl 27 rfl .u8 16 RS.z16 ?_
  intro w1 ha hg2 _
  obtain ⟨q, hq⟩ : ∃ q, w.heap.size = q := ⟨_, rfl⟩
  rw [hq] at ha ⊢
  have Z2 := Lib.hid (Z0.out.new hq ha hg2)
  clear ha hg2 hq Z0
  simp only [Act.put, List.setIfInBounds_toArray, List.set_cons_zero, List.set_cons_succ]
  refine wpList_nil ?_
  go_upto_region 1 with fail
  refine wp_region_lit ?_
  refine Step.p_val rfl (B16 0) (by unfold execOp; first | (simp only [Sem.run_bind, Array.map_empty, RS.build0, Result.andThen_ok, Sem.run_pure]; done) | (simp [Sem.run_bind, RS.build0]; done) | kernel_rfl) ?_
  simp only [Act.put, List.setIfInBounds_toArray, List.set_cons_zero, List.set_cons_succ]
  refine Step.p_store 27 _ _ rfl (q) rfl rfl (Z2.out.own (q, 0) (.head _)).1 Field.info16 rfl ?_
  intro w3 ha hg2 _
  have Z4 := Lib.hid (Z2.out.store0 (y := 0) ha hg2)
  clear ha hg2 Z2
  simp only [Act.put]
  refine wpList_nil ?_
  go_wp2
  exact ret_arr rfl rfl (Z4.out.own (q, 0) (.head _)).1 Tryz.underlying27 rfl Field.info16 rfl ⟨rfl, Z4.out.bel⟩
set_option maxRecDepth 100000 in
set_option maxHeartbeats 4000000 in
theorem fromPlain_any (xb s n : Nat) (hs : s < 2 ^ 64) (w : World) : Calls Tryz.prog 67 #[.pointer (some ⟨xb, 0, none⟩), .int .u64 s, .int .i64 n] w fun e w' => e = .returned (B16 (s % 4294967296)) ∧ Below w.heap.size w w' := by
  have LT := Lib.hid (fun w' => little0 (s % 4294967296) (by omega) w')
  have AN := Lib.hid (and32 s hs)
  have Z0 := Lib.hid (RB.start w)
  go_enter Tryz.func67, Tryz.ntmps67
  go_upto_region 0 with fail
  refine wp_region_lit ?_
  refine New.p_newarr rfl 27 rfl .u8 16 RS.z16 ?_
  intro w1 ha hg2 _
  obtain ⟨q, hq⟩ : ∃ q, w.heap.size = q := ⟨_, rfl⟩
  rw [hq] at ha ⊢
  have Z2 := Lib.hid (Z0.out.new hq ha hg2)
  clear ha hg2 hq Z0
  simp only [Act.put, List.setIfInBounds_toArray, List.set_cons_zero, List.set_cons_succ]
  refine wpList_nil ?_
  go_upto_region 1 with fail
  refine wp_region_lit ?_
  refine Step.p_move rfl _ rfl (.int .u64 s) rfl ?_
  simp only [Act.put, List.setIfInBounds_toArray, List.set_cons_zero, List.set_cons_succ]
  refine Step.p_val rfl (.int .u64 (s % 4294967296 : Nat)) (by unfold execOp; have := AN.out; go_simp; try (first | exact AN.out | rw [AN.out])) ?_
  simp only [Act.put, List.setIfInBounds_toArray, List.set_cons_zero, List.set_cons_succ]
  refine Step.p_wp rfl (Step.w_callx 100 _ _ rfl Tryz.func100 (by kernel_rfl) rfl [.int .u64 0, .int .u64 (s % 4294967296 : Nat)] rfl (LT.out _) ?_)
  rintro e w3 ⟨rfl, hb⟩
  have Z4 := Lib.hid (Z2.out.bel_ hb)
  clear hb Z2
  refine ⟨_, rfl, ?_⟩
  simp only [Act.put, List.setIfInBounds_toArray, List.set_cons_zero, List.set_cons_succ]
  refine Step.p_store 27 _ _ rfl (q) rfl rfl (Z4.out.own (q, 0) (.head _)).1 Field.info16 rfl ?_
  intro w5 ha hg2 _
  have Z6 := Lib.hid (Z4.out.store0 (y := s % 4294967296) ha hg2)
  clear ha hg2 Z4
  simp only [Act.put]
  refine wpList_nil ?_
  go_wp2
  exact ret_arr rfl rfl (Z6.out.own (q, s % 4294967296) (.head _)).1 Tryz.underlying27 rfl Field.info16 rfl ⟨rfl, Z6.out.bel⟩
set_option maxRecDepth 100000 in
set_option maxHeartbeats 4000000 in
theorem fromPlain64_any (xb s n : Nat) (hs : s < 2 ^ 64) (w : World) : Calls Tryz.prog 68 #[.pointer (some ⟨xb, 0, none⟩), .int .u64 s, .int .i64 n] w fun e w' => e = .returned (B16 (s)) ∧ Below w.heap.size w w' := by
  have LT := Lib.hid (fun w' => little0 s hs w')
  have Z0 := Lib.hid (RB.start w)
  go_enter Tryz.func68, Tryz.ntmps68
  go_upto_region 0 with fail
  refine wp_region_lit ?_
  refine New.p_newarr rfl 27 rfl .u8 16 RS.z16 ?_
  intro w1 ha hg2 _
  obtain ⟨q, hq⟩ : ∃ q, w.heap.size = q := ⟨_, rfl⟩
  rw [hq] at ha ⊢
  have Z2 := Lib.hid (Z0.out.new hq ha hg2)
  clear ha hg2 hq Z0
  simp only [Act.put, List.setIfInBounds_toArray, List.set_cons_zero, List.set_cons_succ]
  refine wpList_nil ?_
  go_upto_region 1 with fail
  refine wp_region_lit ?_
  refine Step.p_move rfl _ rfl (.int .u64 s) rfl ?_
  simp only [Act.put, List.setIfInBounds_toArray, List.set_cons_zero, List.set_cons_succ]
  refine Step.p_wp rfl (Step.w_callx 100 _ _ rfl Tryz.func100 (by kernel_rfl) rfl [.int .u64 0, .int .u64 (s : Nat)] rfl (LT.out _) ?_)
  rintro e w3 ⟨rfl, hb⟩
  have Z4 := Lib.hid (Z2.out.bel_ hb)
  clear hb Z2
  refine ⟨_, rfl, ?_⟩
  simp only [Act.put, List.setIfInBounds_toArray, List.set_cons_zero, List.set_cons_succ]
  refine Step.p_store 27 _ _ rfl (q) rfl rfl (Z4.out.own (q, 0) (.head _)).1 Field.info16 rfl ?_
  intro w5 ha hg2 _
  have Z6 := Lib.hid (Z4.out.store0 (y := s) ha hg2)
  clear ha hg2 Z4
  simp only [Act.put]
  refine wpList_nil ?_
  go_wp2
  exact ret_arr rfl rfl (Z6.out.own (q, s) (.head _)).1 Tryz.underlying27 rfl Field.info16 rfl ⟨rfl, Z6.out.bel⟩
set_option maxRecDepth 100000 in
set_option maxHeartbeats 4000000 in
theorem fromPlain64be_any (xb s n : Nat) (hs : s < 2 ^ 64) (w : World) : Calls Tryz.prog 69 #[.pointer (some ⟨xb, 0, none⟩), .int .u64 s, .int .i64 n] w fun e w' => e = .returned (B16 (revN s)) ∧ Below w.heap.size w w' := by
  have LT := Lib.hid (fun w' => big0 s hs w')
  have Z0 := Lib.hid (RB.start w)
  go_enter Tryz.func69, Tryz.ntmps69
  go_upto_region 0 with fail
  refine wp_region_lit ?_
  refine New.p_newarr rfl 27 rfl .u8 16 RS.z16 ?_
  intro w1 ha hg2 _
  obtain ⟨q, hq⟩ : ∃ q, w.heap.size = q := ⟨_, rfl⟩
  rw [hq] at ha ⊢
  have Z2 := Lib.hid (Z0.out.new hq ha hg2)
  clear ha hg2 hq Z0
  simp only [Act.put, List.setIfInBounds_toArray, List.set_cons_zero, List.set_cons_succ]
  refine wpList_nil ?_
  go_upto_region 1 with fail
  refine wp_region_lit ?_
  refine Step.p_move rfl _ rfl (.int .u64 s) rfl ?_
  simp only [Act.put, List.setIfInBounds_toArray, List.set_cons_zero, List.set_cons_succ]
  refine Step.p_wp rfl (Step.w_callx 113 _ _ rfl Tryz.func113 (by kernel_rfl) rfl [.int .u64 0, .int .u64 (s : Nat)] rfl (LT.out _) ?_)
  rintro e w3 ⟨rfl, hb⟩
  have Z4 := Lib.hid (Z2.out.bel_ hb)
  clear hb Z2
  refine ⟨_, rfl, ?_⟩
  simp only [Act.put, List.setIfInBounds_toArray, List.set_cons_zero, List.set_cons_succ]
  refine Step.p_store 27 _ _ rfl (q) rfl rfl (Z4.out.own (q, 0) (.head _)).1 Field.info16 rfl ?_
  intro w5 ha hg2 _
  have Z6 := Lib.hid (Z4.out.store0 (y := revN s) ha hg2)
  clear ha hg2 Z4
  simp only [Act.put]
  refine wpList_nil ?_
  go_wp2
  exact ret_arr rfl rfl (Z6.out.own (q, revN s) (.head _)).1 Tryz.underlying27 rfl Field.info16 rfl ⟨rfl, Z6.out.bel⟩
set_option maxRecDepth 100000 in
set_option maxHeartbeats 4000000 in
theorem fromAside_any (xb s n : Nat) (hs : s < 2 ^ 64) (v : Value) (A : Nat → Nat) (w : World) (hc : w.cell? ⟨xb, 3, none⟩ = some v) (hD : DoK 106 v A w) : Calls Tryz.prog 71 #[.pointer (some ⟨xb, 0, none⟩), .int .u64 s, .int .i64 n] w fun e w' => e = .returned (B16 (A s)) ∧ Below w.heap.size w w' := by
  have LT := Lib.hid (fun w' => little0 s hs w')
  have CX := Lib.hid (fun w' (h : Below w.heap.size w w') => cell_bel h hc)
  have DO := Lib.hid (fun w' (h : Below w.heap.size w w') => hD s (by omega) w' (Kq.of_below h))
  clear hc hD
  have Z0 := Lib.hid (RB.start w)
  go_enter Tryz.func71, Tryz.ntmps71
  go_upto_region 0 with fail
  refine wp_region_lit ?_
  refine New.p_newarr rfl 27 rfl .u8 16 RS.z16 ?_
  intro w1 ha hg2 _
  obtain ⟨q, hq⟩ : ∃ q, w.heap.size = q := ⟨_, rfl⟩
  rw [hq] at ha ⊢
  have Z2 := Lib.hid (Z0.out.new hq ha hg2)
  clear ha hg2 hq Z0
  simp only [Act.put, List.setIfInBounds_toArray, List.set_cons_zero, List.set_cons_succ]
  refine wpList_nil ?_
  go_upto_region 1 with fail
  refine Reg.wp_region_tail (C := fun w' => RB [(q, 0)] w w') (by kernel_rfl) (by kernel_rfl) Z2.out.drew ?_
  simp only [Reg.idleLast, Reg.lastOf, Reg.idle]
  refine Step.q_move rfl _ rfl (.pointer (some ⟨xb, 0, none⟩)) rfl ?_
  simp only [Act.put, List.setIfInBounds_toArray, List.set_cons_zero, List.set_cons_succ]
  refine Step.q_pure rfl (.pointer (some ⟨xb, 0, none⟩)) (fun w' => by rfl) ?_
  simp only [Act.put, List.setIfInBounds_toArray, List.set_cons_zero, List.set_cons_succ]
  refine Step.q_field rfl _ _ _ rfl (xb) (0) rfl Tryz.underlying96 rfl (sz := 1) (by kernel_rfl) (by decide) (3) rfl ?_
  simp only [Act.put, List.setIfInBounds_toArray, List.set_cons_zero, List.set_cons_succ]
  refine Step.q_load1 rfl _ _ rfl (xb) (3) rfl (v) (fun w' h => CX.out w' h.bel) Tryz.underlying94 rfl ?_
  simp only [Act.put, List.setIfInBounds_toArray, List.set_cons_zero, List.set_cons_succ]
  refine Step.q_move rfl _ rfl (.int .u64 s) rfl ?_
  simp only [Act.put, List.setIfInBounds_toArray, List.set_cons_zero, List.set_cons_succ]
  refine Step.q_call rfl 100 _ _ rfl Tryz.func100 (by kernel_rfl) rfl (B16 (s)) [.int .u64 0, .int .u64 (s : Nat)] rfl (fun w' hw' => (LT.out _).mono fun e w2 h => ⟨h.1, hw'.bel_ h.2⟩) ?_
  simp only [Act.put, List.setIfInBounds_toArray, List.set_cons_zero, List.set_cons_succ]
  refine Step.q_call rfl 106 _ _ rfl Tryz.func106 (by kernel_rfl) rfl (B16 (A s)) [v, B16 s] rfl (fun w' hw' => (DO.out _ hw'.bel).mono fun e w2 h => ⟨h.1, hw'.bel_ h.2⟩) ?_
  simp only [Act.put, List.setIfInBounds_toArray, List.set_cons_zero, List.set_cons_succ]
  refine Reg.wpQuiet_idle rfl rfl rfl ?_
  intro w3 hsq
  have Z4 := Lib.hid hsq
  clear hsq Z2
  refine Step.p_store 27 _ _ rfl (q) rfl rfl (Z4.out.own (q, 0) (.head _)).1 Field.info16 rfl ?_
  intro w5 ha hg2 _
  have Z6 := Lib.hid (Z4.out.store0 (y := A s) ha hg2)
  clear ha hg2 Z4
  simp only [Act.put]
  refine wpList_nil ?_
  go_wp2
  exact ret_arr rfl rfl (Z6.out.own (q, A s) (.head _)).1 Tryz.underlying27 rfl Field.info16 rfl ⟨rfl, Z6.out.bel⟩
set_option maxRecDepth 100000 in
set_option maxHeartbeats 4000000 in
theorem place_any (s n : Nat) (hs : s < 2 ^ 64) (hn : n ≤ 4096) (w : World) : Calls Tryz.prog 118 #[.int .u64 s, .int .i64 n] w fun e w' => e = .returned (B16 (s * n)) ∧ Below w.heap.size w w' := by
  have MU := Lib.hid (fun w => (mul64_any s n (by omega) (by omega) w).mono fun e w2 h => (⟨h.1, by rw [h.2]; exact Below.refl _ _⟩ : _ ∧ Below w.heap.size w w2))
  have hP : s * n ≤ 18446744073709551615 * 4096 := Nat.mul_le_mul (by omega) hn
  generalize s * n = p at *
  have LT : Hid (∀ w', Calls Tryz.prog 100 #[.int .u64 (p / 18446744073709551616 : Nat), .int .u64 (p % 18446744073709551616 : Nat)] w' fun e w2 => e = .returned (B16 p) ∧ Below w'.heap.size w' w2) := Lib.hid fun w' => by
    have h := little_any (p / 18446744073709551616) (p % 18446744073709551616) (by omega) w'
    rwa [show p / 18446744073709551616 * 2 ^ 64 + p % 18446744073709551616 = p by omega] at h
  have Z0 := Lib.hid (RB.start w)
  go_enter Tryz.func118, Tryz.ntmps118
  go_upto_region 0 with fail
  refine wp_region_lit ?_
  refine New.p_newarr rfl 27 rfl .u8 16 RS.z16 ?_
  intro w1 ha hg2 _
  obtain ⟨q, hq⟩ : ∃ q, w.heap.size = q := ⟨_, rfl⟩
  rw [hq] at ha ⊢
  have Z2 := Lib.hid (Z0.out.new hq ha hg2)
  clear ha hg2 hq Z0
  simp only [Act.put, List.setIfInBounds_toArray, List.set_cons_zero, List.set_cons_succ]
  refine wpList_nil ?_
  go_upto_region 1 with fail
  refine wp_region_lit ?_
  refine Step.p_move rfl _ rfl (.int .u64 s) rfl ?_
  simp only [Act.put, List.setIfInBounds_toArray, List.set_cons_zero, List.set_cons_succ]
  refine Step.p_move rfl _ rfl (.int .i64 n) rfl ?_
  simp only [Act.put, List.setIfInBounds_toArray, List.set_cons_zero, List.set_cons_succ]
  refine Step.p_val rfl (.int .u64 n) (by unfold execOp; go_simp; try (first | rfl | omega | exact (IntWalk.u64_in _ (by omega)).trans (by omega))) ?_
  simp only [Act.put, List.setIfInBounds_toArray, List.set_cons_zero, List.set_cons_succ]
  refine Step.p_wp rfl (Step.w_callx 114 _ _ rfl Tryz.func114 (by kernel_rfl) rfl [.int .u64 s, .int .u64 n] rfl (MU.out _) ?_)
  rintro e w3 ⟨rfl, hb⟩
  have Z4 := Lib.hid (Z2.out.bel_ hb)
  clear hb Z2
  refine ⟨_, rfl, ?_⟩
  simp only [Act.put, List.setIfInBounds_toArray, List.set_cons_zero, List.set_cons_succ]
  refine Step.p_val rfl (.int .u64 (p / 18446744073709551616 : Nat)) (by unfold execOp; go_simp; try rfl) ?_
  simp only [Act.put, List.setIfInBounds_toArray, List.set_cons_zero, List.set_cons_succ]
  refine Step.p_val rfl (.int .u64 (p % 18446744073709551616 : Nat)) (by unfold execOp; go_simp; try rfl) ?_
  simp only [Act.put, List.setIfInBounds_toArray, List.set_cons_zero, List.set_cons_succ]
  refine Step.p_wp rfl (Step.w_callx 100 _ _ rfl Tryz.func100 (by kernel_rfl) rfl [.int .u64 (p / 18446744073709551616 : Nat), .int .u64 (p % 18446744073709551616 : Nat)] rfl (LT.out _) ?_)
  rintro e w5 ⟨rfl, hb⟩
  have Z6 := Lib.hid (Z4.out.bel_ hb)
  clear hb Z4
  refine ⟨_, rfl, ?_⟩
  simp only [Act.put, List.setIfInBounds_toArray, List.set_cons_zero, List.set_cons_succ]
  refine Step.p_store 27 _ _ rfl (q) rfl rfl (Z6.out.own (q, 0) (.head _)).1 Field.info16 rfl ?_
  intro w7 ha hg2 _
  have Z8 := Lib.hid (Z6.out.store0 (y := p) ha hg2)
  clear ha hg2 Z6
  simp only [Act.put]
  refine wpList_nil ?_
  go_wp2
  exact ret_arr rfl rfl (Z8.out.own (q, p) (.head _)).1 Tryz.underlying27 rfl Field.info16 rfl ⟨rfl, Z8.out.bel⟩
set_option maxRecDepth 100000 in
set_option maxHeartbeats 4000000 in
theorem fromPlace_any (xb s n : Nat) (hs : s < 2 ^ 64) (hn : n ≤ 4096) (v : Value) (A : Nat → Nat) (w : World) (hc : w.cell? ⟨xb, 2, none⟩ = some v) (hD : DoK 106 v A w) : Calls Tryz.prog 73 #[.pointer (some ⟨xb, 0, none⟩), .int .u64 s, .int .i64 n] w fun e w' => e = .returned (B16 (A (s * n))) ∧ Below w.heap.size w w' := by
  have PL := Lib.hid (fun w' => place_any s n hs hn w')
  have hsn : s * n ≤ 18446744073709551615 * 4096 := Nat.mul_le_mul (by omega) hn
  have CX := Lib.hid (fun w' (h : Below w.heap.size w w') => cell_bel h hc)
  have DO := Lib.hid (fun w' (h : Below w.heap.size w w') => hD (s * n) (by omega) w' (Kq.of_below h))
  clear hc hD hsn
  have Z0 := Lib.hid (RB.start w)
  go_enter Tryz.func73, Tryz.ntmps73
  go_upto_region 0 with fail
  refine wp_region_lit ?_
  refine New.p_newarr rfl 27 rfl .u8 16 RS.z16 ?_
  intro w1 ha hg2 _
  obtain ⟨q, hq⟩ : ∃ q, w.heap.size = q := ⟨_, rfl⟩
  rw [hq] at ha ⊢
  have Z2 := Lib.hid (Z0.out.new hq ha hg2)
  clear ha hg2 hq Z0
  simp only [Act.put, List.setIfInBounds_toArray, List.set_cons_zero, List.set_cons_succ]
  refine wpList_nil ?_
  go_upto_region 1 with fail
  refine Reg.wp_region_tail (C := fun w' => RB [(q, 0)] w w') (by kernel_rfl) (by kernel_rfl) Z2.out.drew ?_
  simp only [Reg.idleLast, Reg.lastOf, Reg.idle]
  refine Step.q_move rfl _ rfl (.pointer (some ⟨xb, 0, none⟩)) rfl ?_
  simp only [Act.put, List.setIfInBounds_toArray, List.set_cons_zero, List.set_cons_succ]
  refine Step.q_pure rfl (.pointer (some ⟨xb, 0, none⟩)) (fun w' => by rfl) ?_
  simp only [Act.put, List.setIfInBounds_toArray, List.set_cons_zero, List.set_cons_succ]
  refine Step.q_field rfl _ _ _ rfl (xb) (0) rfl Tryz.underlying96 rfl (sz := 1) (by kernel_rfl) (by decide) (2) rfl ?_
  simp only [Act.put, List.setIfInBounds_toArray, List.set_cons_zero, List.set_cons_succ]
  refine Step.q_load1 rfl _ _ rfl (xb) (2) rfl (v) (fun w' h => CX.out w' h.bel) Tryz.underlying94 rfl ?_
  simp only [Act.put, List.setIfInBounds_toArray, List.set_cons_zero, List.set_cons_succ]
  refine Step.q_move rfl _ rfl (.int .u64 s) rfl ?_
  simp only [Act.put, List.setIfInBounds_toArray, List.set_cons_zero, List.set_cons_succ]
  refine Step.q_move rfl _ rfl (.int .i64 n) rfl ?_
  simp only [Act.put, List.setIfInBounds_toArray, List.set_cons_zero, List.set_cons_succ]
  refine Step.q_call rfl 118 _ _ rfl Tryz.func118 (by kernel_rfl) rfl (B16 (s * n)) [.int .u64 s, .int .i64 n] rfl (fun w' hw' => (PL.out _).mono fun e w2 h => ⟨h.1, hw'.bel_ h.2⟩) ?_
  simp only [Act.put, List.setIfInBounds_toArray, List.set_cons_zero, List.set_cons_succ]
  refine Step.q_call rfl 106 _ _ rfl Tryz.func106 (by kernel_rfl) rfl (B16 (A (s * n))) [v, B16 (s * n)] rfl (fun w' hw' => (DO.out _ hw'.bel).mono fun e w2 h => ⟨h.1, hw'.bel_ h.2⟩) ?_
  simp only [Act.put, List.setIfInBounds_toArray, List.set_cons_zero, List.set_cons_succ]
  refine Reg.wpQuiet_idle rfl rfl rfl ?_
  intro w3 hsq
  have Z4 := Lib.hid hsq
  clear hsq Z2
  refine Step.p_store 27 _ _ rfl (q) rfl rfl (Z4.out.own (q, 0) (.head _)).1 Field.info16 rfl ?_
  intro w5 ha hg2 _
  have Z6 := Lib.hid (Z4.out.store0 (y := A (s * n)) ha hg2)
  clear ha hg2 Z4
  simp only [Act.put]
  refine wpList_nil ?_
  go_wp2
  exact ret_arr rfl rfl (Z6.out.own (q, A (s * n)) (.head _)).1 Tryz.underlying27 rfl Field.info16 rfl ⟨rfl, Z6.out.bel⟩
end Go.Proofs.YtmifebcaifbmoaaGreatDoor.G
end

/- Parts1 -/
section
namespace Go.Proofs.YtmifebcaifbmoaaGreatDoor.G
open Go.RowKit Go.Lib Go.Proofs.YtmifebcaifbmoaaGreatDoor.Blk Go.Proofs.YtmifebcaifbmoaaGreatDoor.Aes Go.Proofs.YtmifebcaifbmoaaGreatDoor.Rj Go.Proofs.YtmifebcaifbmoaaGreatDoor.Poly Go.Proofs.YtmifebcaifbmoaaGreatDoor.Field Go.Proofs.YtmifebcaifbmoaaGreatDoor.Tab Go.Proofs.YtmifebcaifbmoaaGreatDoor.Tw Go.Proofs.YtmifebcaifbmoaaGreatDoor.RS

/-- a core under way -/
structure CZ (xb : Nat) (cs : Array Value) (w w' : World) : Prop where
  hc : w'.heap[xb]? = some (.cells cs 96 (0, 0))
  gb : w.grownBy w' (some xb)
theorem CZ.start {xb : Nat} {cs : Array Value} {w : World} (h : w.heap[xb]? = some (.cells cs 96 (0, 0))) : CZ xb cs w w := ⟨h, gb_refl w _⟩
theorem CZ.bel {xb : Nat} {cs : Array Value} {w w1 w2 : World} (h : CZ xb cs w w1) (hb : Below w1.heap.size w1 w2) : CZ xb cs w w2 := ⟨(hb.block xb (Array.getElem?_eq_some_iff.1 h.hc).1).trans h.hc, gb_bel h.gb hb⟩
theorem CZ.drew {xb : Nat} {cs : Array Value} {w w1 : World} (h : CZ xb cs w w1) : CZ xb cs w w1.drew := h.bel (Below.refl _ _).drew
theorem CZ.put {xb : Nat} {cs cs2 : Array Value} {w w1 w2 : World} (h : CZ xb cs w w1) (hr : w2.heap[xb]? = some (.cells cs2 96 (0, 0))) (hg : w1.grownBy w2 (some xb)) : CZ xb cs2 w w2 := ⟨hr, gb_trans h.gb hg⟩
/-- keys stay where a core changes -/
theorem CZ.kq {xb : Nat} {cs : Array Value} {w w1 w2 : World} (h : CZ xb cs w w1) (h0 : ∃ s, cs[0]? = some (.string s)) (hg : w1.grownBy w2 (some xb)) : Kq w1 w2 := by
  obtain ⟨s, hs⟩ := h0
  exact Kq.of_gb h.hc (by decide) (by decide) (fun z e => by rw [hs] at e; cases e) hg

theorem Sched.ne {key : Nat → Nat} {nk : Nat} {v : Value} {w : World} (h : Hid (Sched key nk v w)) : ∀ cs, v ≠ .agg cs := by
  obtain ⟨_, _, _, _, _, _, rfl, _⟩ := h.out
  intro cs e
  cases e
theorem Sched.one {key : Nat → Nat} {nk : Nat} {v : Value} {w : World} (h : Hid (Sched key nk v w)) : v.oneCell' = true := by
  obtain ⟨_, _, _, _, _, _, rfl, _⟩ := h.out
  rfl
set_option maxRecDepth 100000 in
set_option maxHeartbeats 4000000 in
theorem onePart_any (key : Nat → Nat) (nk : Nat) (hnk : nk = 4 ∨ nk = 6 ∨ nk = 8) (hkey : Byt key (4 * nk)) (xb g off cap : Nat) (cs : Array Value) (w : World) (hcb : w.heap[xb]? = some (.cells cs 96 (0, 0))) (hsz : cs.size = 37) (h0 : ∃ s, cs[0]? = some (.string s))
    (hc : KeyB w g off (4 * nk) key) (hcap : 4 * nk ≤ cap) (hcm : cap ≤ 9223372036854775807) (hR : RconAt w) :
    Calls Tryz.prog 64 #[.pointer (some ⟨xb, 0, none⟩), .slice (some ⟨g, off, none⟩) (4 * nk) cap] w fun e w' => e = .returned (.tuple #[]) ∧ (∃ v, w'.heap[xb]? = some (.cells (cs.setIfInBounds 2 v) 96 (0, 0)) ∧ Sched key nk v w') ∧ w.grownBy w' (some xb) := by
  have SC := Lib.hid (scheduled_any key nk hnk hkey g off cap w hc hcap hcm hR)
  have Z0 := Lib.hid (CZ.start hcb)
  clear hc hcb hR hkey hnk
  go_enter Tryz.func64, Tryz.ntmps64
  go_upto_region 0 with fail
  refine wp_region_lit ?_
  refine Step.p_move rfl _ rfl (.pointer (some ⟨xb, 0, none⟩)) rfl ?_
  simp only [Act.put, List.setIfInBounds_toArray, List.set_cons_zero, List.set_cons_succ]
  refine Step.p_move rfl _ rfl (.slice (some ⟨g, off, none⟩) (4 * nk) cap) rfl ?_
  simp only [Act.put, List.setIfInBounds_toArray, List.set_cons_zero, List.set_cons_succ]
  refine Step.p_wp rfl (Step.w_callx 110 _ _ rfl Tryz.func110 (by kernel_rfl) rfl [.slice (some ⟨g, off, none⟩) (4 * nk) cap] rfl (SC.out) ?_)
  rintro e w1 ⟨v, rfl, hsd, hb⟩
  have K1 := Lib.hid hsd
  have Z2 := Lib.hid (Z0.out.bel hb)
  clear hb hsd Z0
  refine ⟨_, rfl, ?_⟩
  simp only [Act.put, List.setIfInBounds_toArray, List.set_cons_zero, List.set_cons_succ]
  refine Step.p_val rfl (.pointer (some ⟨xb, 0, none⟩)) (by unfold execOp; go_simp; try rfl) ?_
  simp only [Act.put, List.setIfInBounds_toArray, List.set_cons_zero, List.set_cons_succ]
  refine Tree.p_field rfl _ _ _ rfl (xb) (0) rfl Tryz.underlying96 rfl (sz := 1) (by kernel_rfl) (by decide) (2) rfl ?_
  simp only [Act.put, List.setIfInBounds_toArray, List.set_cons_zero, List.set_cons_succ]
  refine Step.p_storeV rfl 94 _ _ rfl xb 2 rfl v rfl (Sched.ne K1) (Sched.one K1) (by kernel_rfl) Z2.out.hc (by first | omega | (simp; omega)) ?_
  intro w3 hr hg2 _
  have Z4 := Lib.hid (Z2.out.put hr hg2)
  have K2 := Lib.hid (K1.out.kq (Z2.out.kq h0 hg2))
  clear K1
  clear hr hg2 Z2
  simp only [Act.put]
  refine wpList_nil ?_
  go_wp2
  go_end0
  exact ⟨rfl, ⟨v, Z4.out.hc, K2.out⟩, Z4.out.gb⟩
end Go.Proofs.YtmifebcaifbmoaaGreatDoor.G
end

/- Builds -/
section
namespace Go.Proofs.YtmifebcaifbmoaaGreatDoor.G
open Go.RowKit Go.Lib Go.Proofs.YtmifebcaifbmoaaGreatDoor.Blk Go.Proofs.YtmifebcaifbmoaaGreatDoor.Aes Go.Proofs.YtmifebcaifbmoaaGreatDoor.Rj Go.Proofs.YtmifebcaifbmoaaGreatDoor.Poly Go.Proofs.YtmifebcaifbmoaaGreatDoor.Field Go.Proofs.YtmifebcaifbmoaaGreatDoor.Tab Go.Proofs.YtmifebcaifbmoaaGreatDoor.Tw Go.Proofs.YtmifebcaifbmoaaGreatDoor.RS
/-- a cipher's block under way, and the box of its pointer -/
structure BZ (cb x : Nat) (C : Array Value) (w w' : World) : Prop where
  hc : w'.heap[cb]? = some (.cells C 80 (0, 0))
  bx : w'.cell? ⟨x, 0, none⟩ = some (.pointer (some ⟨cb, 0, none⟩))
  gb : w.grownBy w' (some cb)
  ne : x ≠ cb
theorem BZ.put {cb x : Nat} {C C2 : Array Value} {w w1 w2 : World} (h : BZ cb x C w w1) (hr : w2.heap[cb]? = some (.cells C2 80 (0, 0))) (hg : w1.grownBy w2 (some cb)) : BZ cb x C2 w w2 := ⟨hr, cell_gb hg h.ne h.bx, gb_trans h.gb hg, h.ne⟩
theorem BZ.start {cb : Nat} {C : Array Value} {w : World} (h : w.heap[cb]? = some (.cells C 80 (0, 0))) : BZ cb w.heap.size C w (w.alloc (.cells #[.pointer (some ⟨cb, 0, none⟩)] 30)) := by
  have hl := (Array.getElem?_eq_some_iff.1 h).1
  exact ⟨(heap_alloc_old _ _ hl).trans h, by rw [cell_of_row _ _ _ _ _ _ (heap_alloc_new w _)]; rfl, World.grownBy_alloc w _ (some cb), by omega⟩
set_option maxRecDepth 100000 in
set_option maxHeartbeats 4000000 in
theorem asCBC_any (cb : Nat) (v0 v1 : Value) (w : World) (hcb : w.heap[cb]? = some (.cells #[v0, v1, .nilFunc, .nilFunc] 80 (0, 0))) :
    Calls Tryz.prog 66 #[.pointer (some ⟨cb, 0, none⟩)] w fun e w' => e = .returned (.tuple #[]) ∧ w'.heap[cb]? = some (.cells #[v0, v1, .func (.func 111) #[.pointer (some ⟨cb, 0, none⟩)] #[], .func (.func 112) #[.pointer (some ⟨cb, 0, none⟩)] #[]] 80 (0, 0)) ∧ w.grownBy w' (some cb) := by
  have hmf : ∀ (fn : Fn) (first cap : Array Value) (w : World), (Instr.makeFunc fn first cap).run Tryz.prog w = .ok (.func fn first cap) w := fun _ _ _ _ => by simp [Instr.makeFunc]
  have HC := Lib.hid hcb
  clear hcb
  go_enter Tryz.func66, Tryz.ntmps66
  go_upto_region 0 with fail
  refine wp_region_lit ?_
  refine Step.p_move rfl _ rfl (.pointer (some ⟨cb, 0, none⟩)) rfl ?_
  simp only [Act.put, List.setIfInBounds_toArray, List.set_cons_zero, List.set_cons_succ]
  refine Step.p_move rfl _ rfl (.pointer (some ⟨cb, 0, none⟩)) rfl ?_
  simp only [Act.put, List.setIfInBounds_toArray, List.set_cons_zero, List.set_cons_succ]
  refine Step.p_move rfl _ rfl (.pointer (some ⟨cb, 0, none⟩)) rfl ?_
  simp only [Act.put, List.setIfInBounds_toArray, List.set_cons_zero, List.set_cons_succ]
  refine Step.p_val rfl (.func (.func 111) #[.pointer (some ⟨cb, 0, none⟩)] #[]) (by unfold execOp; simp only [Sem.run_bind, hmf, Result.andThen_ok, Sem.run_pure, List.map_toArray, List.map_cons, List.map_nil]; rfl) ?_
  simp only [Act.put, List.setIfInBounds_toArray, List.set_cons_zero, List.set_cons_succ]
  refine Step.p_move rfl _ rfl (.pointer (some ⟨cb, 0, none⟩)) rfl ?_
  simp only [Act.put, List.setIfInBounds_toArray, List.set_cons_zero, List.set_cons_succ]
  refine Step.p_val rfl (.func (.func 112) #[.pointer (some ⟨cb, 0, none⟩)] #[]) (by unfold execOp; simp only [Sem.run_bind, hmf, Result.andThen_ok, Sem.run_pure, List.map_toArray, List.map_cons, List.map_nil]; rfl) ?_
  simp only [Act.put, List.setIfInBounds_toArray, List.set_cons_zero, List.set_cons_succ]
  refine Step.p_val rfl (.pointer (some ⟨cb, 0, none⟩)) (by unfold execOp; go_simp; try rfl) ?_
  simp only [Act.put, List.setIfInBounds_toArray, List.set_cons_zero, List.set_cons_succ]
  refine Tree.p_field rfl _ _ _ rfl (cb) (0) rfl Tryz.underlying80 rfl (sz := 1) (by kernel_rfl) (by decide) (2) rfl ?_
  simp only [Act.put, List.setIfInBounds_toArray, List.set_cons_zero, List.set_cons_succ]
  refine Step.p_storeV rfl 78 _ _ rfl cb 2 rfl (.func (.func 111) #[.pointer (some ⟨cb, 0, none⟩)] #[]) rfl (fun _ e => by cases e) rfl (by kernel_rfl) HC.out (by simp) ?_
  intro w1 hr1 hg1 _
  simp only [Act.put]
  refine Step.p_val rfl (.pointer (some ⟨cb, 0, none⟩)) (by unfold execOp; go_simp; try rfl) ?_
  simp only [Act.put, List.setIfInBounds_toArray, List.set_cons_zero, List.set_cons_succ]
  refine Tree.p_field rfl _ _ _ rfl (cb) (0) rfl Tryz.underlying80 rfl (sz := 1) (by kernel_rfl) (by decide) (3) rfl ?_
  simp only [Act.put, List.setIfInBounds_toArray, List.set_cons_zero, List.set_cons_succ]
  refine Step.p_storeV rfl 78 _ _ rfl cb 3 rfl (.func (.func 112) #[.pointer (some ⟨cb, 0, none⟩)] #[]) rfl (fun _ e => by cases e) rfl (by kernel_rfl) hr1 (by simp) ?_
  intro w2 hr2 hg2 _
  simp only [Act.put]
  refine wpList_nil ?_
  have HG := Lib.hid (gb_trans hg1 hg2)
  have HR := Lib.hid hr2
  clear hg1 hg2 hr1 hr2 HC
  go_wp2
  go_end0
  exact ⟨rfl, HR.out, HG.out⟩
/-- starts that a mode names -/
def SfOk (k : Nat) : Prop := ∀ sf, (kindL 0 k)[3]? = some (fv sf) → FnOk sf
/-- what a build's proof has at hand -/
theorem md_of {k cb xb gk d : Nat} {E D A : Nat → Nat} {two : Bool} {fl wh : Nat → Nat} {cs : Array Value} {iv : Nat → Nat → Nat} {w' w2 : World} {v0 v1 s u : Value} (hk : k < 17) (hok : SfOk k) (hv0 : v0 = .pointer (some ⟨xb, 0, none⟩)) (hv1 : v1 = .pointer (some ⟨gk, k * 7, none⟩)) (hcb : w'.heap[cb]? = some (.cells #[v0, v1, .nilFunc, .nilFunc] 80 (0, 0))) (h2 : w2.heap[cb]? = some (.cells #[v0, v1, s, u] 80 (0, 0)))
    (hxb : w'.heap[xb]? = some (.cells cs 96 (0, 0))) (hky : KeyR E D A two fl wh cs w') (hkd : KindsAt gk d w') (hR : RconAt w') (hst : ∀ sf, (kindL 0 k)[3]? = some (fv sf) → ∀ w2, w2.heap[xb]? = some (.cells cs 96 (0, 0)) → KeyR E D A two fl wh cs w2 → RconAt w2 → StAt sf xb iv w2) (h4 : w'.grownBy w2 (some cb)) : Md k cb xb gk E D A two fl wh cs iv w2 := by
  subst hv0 hv1
  have kq : Kq w' w2 := Kq.of_gb hcb (by decide) (by decide) (fun z e => by cases e) h4
  have hx2 := (h4.block xb (Array.getElem?_eq_some_iff.1 hxb).1 (fun e => by cases e; rw [hcb] at hxb; cases hxb)).trans hxb
  have hR2 : RconAt w2 := fun i hi => cell_gb h4 (fun e => by
    have := hR 0 (by decide)
    rw [e, cell_of_row w' _ _ _ _ _ hcb] at this
    cases this) (hR i hi)
  exact ⟨hk, ⟨⟨_, _, h2⟩, hx2, d, KindsAt_gb hkd h4 (fun e => by
      have := hkd.c 0 (by decide) 0 _ rfl
      rw [e, cell_of_row w' _ _ _ _ _ hcb] at this
      cases this) (fun e => by
      have := hkd.d
      rw [e, hcb] at this
      cases this)⟩, hky.kq kq, fun sf e => ⟨hok sf e, hst sf e w2 hx2 (hky.kq kq) hR2⟩⟩
theorem buildCbc (k : Nat) (hk : k < 17) (hok : SfOk k) (sf : FuncId) (hsf : (kindL 0 k)[3]? = some (fv sf)) (E D A : Nat → Nat) (two : Bool) (fl wh : Nat → Nat) (iv : Nat → Nat → Nat) (hiv : ∀ s n, s < 2 ^ 64 → n ≤ 4096 → iv s n < 2 ^ 128) (hE : ∀ x, E x < 2 ^ 128) (hD : ∀ x, D x < 2 ^ 128) :
    BuildAt 66 k false E D A two fl wh iv (fun s n f => cbcS E (iv s n) n f) (fun s n f => cbcO D (iv s n) n f) := fun cb xb gk d cs w' hcb hxb hky hkd hR hst =>
  (asCBC_any cb _ _ w' hcb).mono fun e w2 ⟨h1, h2, h4⟩ => by
    have hM := md_of hk hok rfl rfl hcb h2 hxb hky hkd hR hst h4
    obtain ⟨v, m1, m2, m3⟩ := hM.ky.main
    exact ⟨h1, ⟨_, [.pointer (some ⟨cb, 0, none⟩)], [], _, [.pointer (some ⟨cb, 0, none⟩)], [], h2, ⟨_, Tryz.func111, by kernel_rfl, rfl⟩, ⟨_, Tryz.func112, by kernel_rfl, rfl⟩,
      fun s n g cap F0 w3 e1 e2 e3 e4 e5 e6 e7 q e8 e9 => chain_any hsf E s n g cap e1 e2 e3 (e4.resolve_left (by decide)) e5 e6 F0 e7 w3 (hM.kp q) e8 e9 m1 (m2.kq q.q) hE (hiv s n e1 e3),
      fun s n g cap F0 w3 e1 e2 e3 e4 e5 e6 e7 q e8 e9 => unchain_any hsf D s n g cap e1 e2 e3 (e4.resolve_left (by decide)) e5 e6 F0 e7 w3 (hM.kp q) e8 e9 m1 (m3.kq q.q) hD (hiv s n e1 e3)⟩, h4⟩
end Go.Proofs.YtmifebcaifbmoaaGreatDoor.G
end
