/- Parts of the proof of TweakBlocks. RefN1: cofferref02.New: the document's key, made (its bytes are bytes). -/
import Derived.Test.YtmifebcaifbmoaaGreatDoorL00
import Derived.Test.YtmifebcaifbmoaaGreatDoorL20
/- RefN1 -/
section
namespace Go.Proofs.YtmifebcaifbmoaaGreatDoor.Ref2
open Go.RowKit Go.Lib Go.Proofs.YtmifebcaifbmoaaGreatDoor.Blk Go.Proofs.YtmifebcaifbmoaaGreatDoor.Aes Go.Proofs.YtmifebcaifbmoaaGreatDoor.Byts Go.Proofs.YtmifebcaifbmoaaGreatDoor.Push

structure N2 (kb : Nat) (v0 v1 : Value) (w w' : World) : Prop where
  k : KyW kb v0 v1 w'
  bel : Below kb w w'
theorem N2.gb {kb : Nat} {v0 v1 v2 v3 : Value} {w w1 w2 : World} (h : N2 kb v0 v1 w w1) (hk : KyW kb v2 v3 w2) (hg : w1.grownBy w2 (some kb)) : N2 kb v2 v3 w w2 :=
  ⟨hk, h.bel.grown hg (Nat.le_of_lt h.k.lt) (fun j hj => by cases hj; exact Nat.le_refl _)⟩
theorem N2.next {kb : Nat} {v0 v1 : Value} {w w1 w2 : World} (h : N2 kb v0 v1 w w1) (hb : Below w1.heap.size w1 w2) : N2 kb v0 v1 w w2 := ⟨h.k.below hb, h.bel.trans (hb.mono (Nat.le_of_lt h.k.lt))⟩
theorem N2.drew {kb : Nat} {v0 v1 : Value} {w w1 : World} (h : N2 kb v0 v1 w w1) : N2 kb v0 v1 w w1.drew := ⟨h.k.below (Below.refl _ _).drew, h.bel.drew⟩
theorem x8 {a b : Nat} (ha : a < 256) (hb : b < 256) : a ^^^ b < 256 := Nat.xor_lt_two_pow (n := 8) ha hb
/-- a list of its own lies behind the key's block -/
structure RoW (kb n : Nat) (F : Nat → Nat) (v : Value) (w : World) : Prop where
  own : w.ownsRow (kb + 1) 5 1 v n (bl F n)
  lt : ∀ j, F j < 256

/-- four bytes at hand -/
structure T4 (tb : Nat) (f : Nat → Nat) (w : World) : Prop where
  c : ∀ j, j < 4 → w.cell? ⟨tb, j, none⟩ = some (.int .u8 (f j : Nat))
  lt : ∀ j, f j < 256
  sz : ∃ C, w.heap[tb]? = some (.cells C 5 (0, 0)) ∧ C.size = 4
theorem t4_new (w : World) (f : Nat → Nat) (a b c d : Nat) (ha : f 0 = a) (hb : f 1 = b) (hc : f 2 = c) (hd : f 3 = d) (hl : ∀ j, f j < 256) : T4 w.heap.size f (w.alloc (.cells #[.int .u8 (a : Nat), .int .u8 (b : Nat), .int .u8 (c : Nat), .int .u8 (d : Nat)] 5)) :=
  ⟨fun j hj => by
    rw [cell_of_row _ _ _ _ _ _ (heap_alloc_new w _)]
    match j, hj with
    | 0, _ => rw [ha]; rfl
    | 1, _ => rw [hb]; rfl
    | 2, _ => rw [hc]; rfl
    | 3, _ => rw [hd]; rfl, hl, _, heap_alloc_new w _, rfl⟩
structure NR (kb m q c : Nat) (F : Nat → Nat) (v0 : Value) (w w' : World) : Prop where
  n : N2 kb v0 (.slice (some ⟨q, 0, none⟩) m c) w w'
  r : RoW kb m F (.slice (some ⟨q, 0, none⟩) m c) w'
theorem t4_ne {kb n q c tb : Nat} {F f : Nat → Nat} {w : World} (h : T4 tb f w) (hr : RoW kb n F (.slice (some ⟨q, 0, none⟩) n c) w) (hn : 5 ≤ n) : tb ≠ q := fun e => by
  subst e
  obtain ⟨C, h1, h2⟩ := h.sz
  rcases hr.own.2 with ⟨e, _⟩ | ⟨g', c', cur, e, _, hg, n1, _, hs, _⟩
  · cases e
  · cases e
    rw [h1] at hg
    cases hg
    omega
theorem t4_nk {kb tb : Nat} {v0 v1 : Value} {f : Nat → Nat} {w : World} (h : T4 tb f w) (hk : KyW kb v0 v1 w) : tb ≠ kb := fun e => by
  subst e
  obtain ⟨C, h1, h2⟩ := h.sz
  obtain ⟨D, h3, h4, _⟩ := hk
  rw [h1] at h3
  cases h3
theorem T4.block {tb : Nat} {f : Nat → Nat} {w w' : World} (h : T4 tb f w) (hb : w'.heap[tb]? = w.heap[tb]?) : T4 tb f w' := by
  obtain ⟨C, h1, h2⟩ := h.sz
  exact ⟨fun j hj => by rw [← h.c j hj]; unfold World.cell?; rw [hb], h.lt, C, hb.trans h1, h2⟩
theorem T4.ltb {tb : Nat} {f : Nat → Nat} {w : World} (h : T4 tb f w) : tb < w.heap.size := by
  obtain ⟨C, h1, h2⟩ := h.sz
  exact (Array.getElem?_eq_some_iff.1 h1).1
theorem cell_below' {w : World} {b o : Nat} {v : Value} {ob : Obj} (h : w.cell? ⟨b, o, none⟩ = some v) : (w.alloc ob).cell? ⟨b, o, none⟩ = some v := Tw.cell_bel ((Below.refl _ _).alloc (Nat.le_refl _) _) h
theorem bl_push (F : Nat → Nat) (n v : Nat) : bl F n ++ [.int .u8 (v : Nat)] = bl (updN F n v) (n + 1) := by
  rw [← bl_succ]
  congr 1
  · unfold bl
    refine List.map_congr_left fun j hj => ?_
    rw [List.mem_range] at hj
    unfold updN
    rw [if_neg (by omega)]
  · unfold updN
    rw [if_pos rfl]

set_option maxRecDepth 100000 in
set_option maxHeartbeats 16000000 in
theorem refNew_any (g off nk cap : Nat) (hnk : nk = 4 ∨ nk = 6 ∨ nk = 8) (F0 : Nat → Nat) (hF : ∀ j, F0 j < 256) (w : World) (hB : BL w (some ⟨g, off, none⟩) (4 * nk) F0) (hcap : 4 * nk ≤ cap) (_hcm : cap ≤ 9223372036854775807) :
    Calls Tryz.prog 85 #[.slice (some ⟨g, off, none⟩) (4 * nk) cap] w fun e w' => ∃ kb, e = .returned (.tuple #[.pointer (some ⟨kb, 0, none⟩), .int .i64 0]) ∧ Below w.heap.size w w' := by
  obtain ⟨z, hz, z1, z2, z3, z4⟩ := keyZ_ex
  have BX := Lib.hid (fun w => boxes_any w)
  have TM := Lib.hid (fun a b ha hb w => refTimes_any a b ha hb w)
  have HB := Lib.hid hB
  have HNK := Lib.hid hnk
  have hn8 : nk ≤ 8 ∧ 4 ≤ nk := by omega
  obtain ⟨i0, iu0, iu1, iu2, iu3⟩ := u8_info
  clear hB
  go_enter Tryz.func85, Tryz.ntmps85
  go_upto_region 1 with fail
  go_cut [27] from 15 to 27 (fun c wx => c = .bool false ∧ wx = w)
  case first =>
    rcases hnk with rfl | rfl | rfl
    all_goals
      go_wp2
      go_meet
      case rel => exact ⟨rfl, rfl⟩
  obtain ⟨rfl, hwc⟩ := hcut
  rw [hwc]
  clear hnk hwc
  go_upto_region 3 with fail
  refine wp_region_lit ?_
  refine p_build0 rfl 178 rfl z hz Tryz.underlying178 [(0, 1), (1, 1), (2, 256), (258, 256), (514, 4096), (4610, 1)] (by kernel_rfl) ?_
  simp only [Act.put, sA9, sB9, sC9]
  refine Seg.p_boxA rfl 178 _ rfl z rfl ?_
  simp only [Act.put, sA9, sB9, sC9]
  refine Step.p_assign rfl _ rfl (.pointer (some ⟨w.heap.size, 0, none⟩)) rfl ?_
  simp only [Act.put, sA9, sB9, sC9]
  refine wpList_nil ?_
  have E1 : Hid (N2 w.heap.size (.slice none 0 0) (.slice none 0 0) w (w.alloc (.cells z 178))) := Lib.hid ⟨⟨z, heap_alloc_new w _, z1, z2, z3, z4⟩, (Below.refl _ _).alloc (Nat.le_refl _) _⟩
  generalize w.alloc (.cells z 178) = w1 at *
  obtain ⟨kb, hkb⟩ : ∃ kb, kb = w.heap.size := ⟨_, rfl⟩
  rw [← hkb] at E1 ⊢
  have HKB := Lib.hid hkb
  clear hkb hz z1 z2 z3 z4
  go_upto_region 4 with fail
  refine wp_region_lit ?_
  refine Step.p_move rfl _ rfl (.pointer (some ⟨kb, 0, none⟩)) rfl ?_
  simp only [Act.put, sA9, sB9, sC9]
  refine Step.p_move rfl _ rfl (.pointer (some ⟨kb, 0, none⟩)) rfl ?_
  simp only [Act.put, sA9, sB9, sC9]
  refine Step.p_wp rfl (Step.w_callx 142 [] _ rfl Tryz.func142 (by kernel_rfl) rfl [] rfl (BX.out _) ?_)
  rintro e w2 ⟨f, g1, rfl, hf, hg1, hb⟩
  refine ⟨_, rfl, ?_⟩
  simp only [Act.put, sA9, sB9, sC9]
  have E2 := Lib.hid (E1.out.next hb)
  clear hb E1
  refine Step.p_move rfl _ rfl (.tuple #[.agg (arr .u8 256 fun i => (f i : Nat)), .agg (arr .u8 256 fun i => (g1 i : Nat))]) rfl ?_
  simp only [Act.put, sA9, sB9, sC9]
  refine Step.p_val rfl (.agg (arr .u8 256 fun i => (f i : Nat))) (by unfold execOp; go_simp; try rfl) ?_
  simp only [Act.put, sA9, sB9, sC9]
  refine Step.p_val rfl (.agg (arr .u8 256 fun i => (g1 i : Nat))) (by unfold execOp; go_simp; try rfl) ?_
  simp only [Act.put, sA9, sB9, sC9]
  refine Step.p_val rfl (.pointer (some ⟨kb, 0, none⟩)) (by unfold execOp; go_simp) ?_
  simp only [Act.put, sA9, sB9, sC9]
  refine Tree.p_field rfl _ _ _ rfl (kb) (0) rfl Tryz.underlying178 rfl (sz := 256) (by kernel_rfl) (by decide) (2) rfl ?_
  simp only [Act.put, sA9, sB9, sC9]
  refine p_tab rfl _ _ rfl kb 2 rfl f hf rfl (by decide) (by decide) E2.out.k ?_
  intro w3 hk3 hg3
  simp only [Act.put]
  have E3 := Lib.hid (E2.out.gb hk3 hg3)
  clear hk3 hg3 E2
  refine Step.p_val rfl (.pointer (some ⟨kb, 0, none⟩)) (by unfold execOp; go_simp) ?_
  simp only [Act.put, sA9, sB9, sC9]
  refine Tree.p_field rfl _ _ _ rfl (kb) (0) rfl Tryz.underlying178 rfl (sz := 256) (by kernel_rfl) (by decide) (258) rfl ?_
  simp only [Act.put, sA9, sB9, sC9]
  refine p_tab rfl _ _ rfl kb 258 rfl g1 hg1 rfl (by decide) (by decide) E3.out.k ?_
  intro w4 hk4 hg4
  simp only [Act.put]
  have E4 := Lib.hid (E3.out.gb hk4 hg4)
  clear hk4 hg4 E3 hf hg1 BX
  refine wpList_nil ?_
  go_wp2
  go_loopw [5, 6, 7, 8, 9] (fun i _ _ _ _ wr => ∃ j : Nat, j ≤ 256 ∧ i = .int .i64 j ∧ N2 kb (.slice none 0 0) (.slice none 0 0) w wr) (fun i _ _ _ _ _ => 256 - (RowKit.intOf i).toNat)
  case atStart => exact ⟨0, by omega, rfl, E4.out⟩
  case round =>
    obtain ⟨j, hj, rfl, hr⟩ := hrel
    have E5 := Lib.hid hr
    clear hr E4
    by_cases hlt : j < 256
    · go_upto_region 8 with fail
      refine wp_region_lit ?_
      refine Step.p_move rfl _ rfl (.int .i64 j) rfl ?_
      simp only [Act.put, sA9, sB9, sC9]
      refine Step.p_val rfl (.int .u8 (j : Nat)) (by unfold execOp; go_simp; try (rw [IntKind.wrap_u8]; omega)) ?_
      simp only [Act.put, sA9, sB9, sC9]
      refine Step.p_assign rfl _ rfl (.int .u8 (j : Nat)) rfl ?_
      simp only [Act.put, sA9, sB9, sC9]
      refine wpList_nil ?_
      go_upto_region 9 with fail
      refine wp_region_lit ?_
      refine Step.p_move rfl _ rfl (.int .u8 (j : Nat)) rfl ?_
      simp only [Act.put, sA9, sB9, sC9]
      refine Step.p_wp rfl (Step.w_callx 143 [.tmp 46, .const (.int .u8 2)] _ rfl Tryz.func143 (by kernel_rfl) rfl [.int .u8 j, .int .u8 2] rfl (TM.out j 2 hlt (by decide) _) ?_)
      rintro e wa ⟨rfl, rfl⟩
      refine ⟨_, rfl, ?_⟩
      simp only [Act.put, sA9, sB9, sC9]
      refine Step.p_assign rfl _ rfl (.int .u8 (dT j 2 : Nat)) rfl ?_
      simp only [Act.put, sA9, sB9, sC9]
      refine wpList_nil ?_
      have l2 := dT_lt j 2
      generalize dT j 2 = e2 at *
      go_upto_region 10 with fail
      refine wp_region_lit ?_
      refine Step.p_move rfl _ rfl (.int .u8 e2) rfl ?_
      simp only [Act.put, sA9, sB9, sC9]
      refine Step.p_wp rfl (Step.w_callx 143 [.tmp 48, .const (.int .u8 2)] _ rfl Tryz.func143 (by kernel_rfl) rfl [.int .u8 e2, .int .u8 2] rfl (TM.out e2 2 l2 (by decide) _) ?_)
      rintro e wb ⟨rfl, rfl⟩
      refine ⟨_, rfl, ?_⟩
      simp only [Act.put, sA9, sB9, sC9]
      refine Step.p_assign rfl _ rfl (.int .u8 (dT e2 2 : Nat)) rfl ?_
      simp only [Act.put, sA9, sB9, sC9]
      refine wpList_nil ?_
      have l4 := dT_lt e2 2
      generalize dT e2 2 = e4 at *
      go_upto_region 11 with fail
      refine wp_region_lit ?_
      refine Step.p_move rfl _ rfl (.int .u8 e4) rfl ?_
      simp only [Act.put, sA9, sB9, sC9]
      refine Step.p_wp rfl (Step.w_callx 143 [.tmp 50, .const (.int .u8 2)] _ rfl Tryz.func143 (by kernel_rfl) rfl [.int .u8 e4, .int .u8 2] rfl (TM.out e4 2 l4 (by decide) _) ?_)
      rintro e wc ⟨rfl, rfl⟩
      refine ⟨_, rfl, ?_⟩
      simp only [Act.put, sA9, sB9, sC9]
      refine Step.p_assign rfl _ rfl (.int .u8 (dT e4 2 : Nat)) rfl ?_
      simp only [Act.put, sA9, sB9, sC9]
      refine wpList_nil ?_
      have l8 := dT_lt e4 2
      generalize dT e4 2 = e8 at *
      go_upto_region 12 with fail
      refine wp_region_lit ?_
      refine Step.p_move rfl _ rfl (.pointer (some ⟨kb, 0, none⟩)) rfl ?_
      simp only [Act.put, sA9, sB9, sC9]
      refine Step.p_move rfl _ rfl (.int .i64 j) rfl ?_
      simp only [Act.put, sA9, sB9, sC9]
      refine Step.p_move rfl _ rfl (.int .u8 j) rfl ?_
      simp only [Act.put, sA9, sB9, sC9]
      refine Step.p_val rfl (.pointer (some ⟨kb, 0, none⟩)) (by unfold execOp; go_simp) ?_
      simp only [Act.put, sA9, sB9, sC9]
      refine Tree.p_field rfl _ _ _ rfl (kb) (0) rfl Tryz.underlying178 rfl (sz := 4096) (by kernel_rfl) (by decide) (514) rfl ?_
      simp only [Act.put, sA9, sB9, sC9]
      refine Still.p_idxA rfl _ 175 _ _ rfl kb 514 rfl .i64 1 rfl (by decide) Tryz.underlying176 (size := 256) (by kernel_rfl) (514 + 1 * 256) rfl ?_
      simp only [Act.put, sA9, sB9, sC9]
      refine Still.p_idxA rfl _ 5 _ _ rfl kb (514 + 1 * 256) rfl .i64 j rfl hlt Tryz.underlying175 (size := 1) (by kernel_rfl) (514 + 1 * 256 + j) (by omega) ?_
      simp only [Act.put, sA9, sB9, sC9]
      refine p_by rfl _ _ rfl kb (514 + 1 * 256 + j) rfl (j) rfl (hlt) (by omega) (by omega) E5.out.k ?_
      intro v0 hk hg
      simp only [Act.put]
      refine wpList_nil ?_
      have G0 := Lib.hid (E5.out.gb hk hg)
      clear hk hg E5
      go_upto_region 13 with fail
      refine wp_region_lit ?_
      refine Step.p_move rfl _ rfl (.pointer (some ⟨kb, 0, none⟩)) rfl ?_
      simp only [Act.put, sA9, sB9, sC9]
      refine Step.p_move rfl _ rfl (.int .i64 j) rfl ?_
      simp only [Act.put, sA9, sB9, sC9]
      refine Step.p_move rfl _ rfl (.int .u8 e2) rfl ?_
      simp only [Act.put, sA9, sB9, sC9]
      refine Step.p_val rfl (.pointer (some ⟨kb, 0, none⟩)) (by unfold execOp; go_simp) ?_
      simp only [Act.put, sA9, sB9, sC9]
      refine Tree.p_field rfl _ _ _ rfl (kb) (0) rfl Tryz.underlying178 rfl (sz := 4096) (by kernel_rfl) (by decide) (514) rfl ?_
      simp only [Act.put, sA9, sB9, sC9]
      refine Still.p_idxA rfl _ 175 _ _ rfl kb 514 rfl .i64 2 rfl (by decide) Tryz.underlying176 (size := 256) (by kernel_rfl) (514 + 2 * 256) rfl ?_
      simp only [Act.put, sA9, sB9, sC9]
      refine Still.p_idxA rfl _ 5 _ _ rfl kb (514 + 2 * 256) rfl .i64 j rfl hlt Tryz.underlying175 (size := 1) (by kernel_rfl) (514 + 2 * 256 + j) (by omega) ?_
      simp only [Act.put, sA9, sB9, sC9]
      refine p_by rfl _ _ rfl kb (514 + 2 * 256 + j) rfl (e2) rfl (l2) (by omega) (by omega) G0.out.k ?_
      intro v1 hk hg
      simp only [Act.put]
      refine wpList_nil ?_
      have G1 := Lib.hid (G0.out.gb hk hg)
      clear hk hg G0
      go_upto_region 14 with fail
      refine wp_region_lit ?_
      refine Step.p_move rfl _ rfl (.pointer (some ⟨kb, 0, none⟩)) rfl ?_
      simp only [Act.put, sA9, sB9, sC9]
      refine Step.p_move rfl _ rfl (.int .i64 j) rfl ?_
      simp only [Act.put, sA9, sB9, sC9]
      refine Step.p_move rfl _ rfl (.int .u8 e2) rfl ?_
      simp only [Act.put, sA9, sB9, sC9]
      refine Step.p_move rfl _ rfl (.int .u8 j) rfl ?_
      simp only [Act.put, sA9, sB9, sC9]
      refine Step.p_val rfl (.int .u8 (e2 ^^^ j : Nat)) (by unfold execOp; go_simp; exact xor_u8 _ _ (l2) hlt) ?_
      simp only [Act.put, sA9, sB9, sC9]
      refine Step.p_val rfl (.pointer (some ⟨kb, 0, none⟩)) (by unfold execOp; go_simp) ?_
      simp only [Act.put, sA9, sB9, sC9]
      refine Tree.p_field rfl _ _ _ rfl (kb) (0) rfl Tryz.underlying178 rfl (sz := 4096) (by kernel_rfl) (by decide) (514) rfl ?_
      simp only [Act.put, sA9, sB9, sC9]
      refine Still.p_idxA rfl _ 175 _ _ rfl kb 514 rfl .i64 3 rfl (by decide) Tryz.underlying176 (size := 256) (by kernel_rfl) (514 + 3 * 256) rfl ?_
      simp only [Act.put, sA9, sB9, sC9]
      refine Still.p_idxA rfl _ 5 _ _ rfl kb (514 + 3 * 256) rfl .i64 j rfl hlt Tryz.underlying175 (size := 1) (by kernel_rfl) (514 + 3 * 256 + j) (by omega) ?_
      simp only [Act.put, sA9, sB9, sC9]
      refine p_by rfl _ _ rfl kb (514 + 3 * 256 + j) rfl (e2 ^^^ j) rfl (x8 (l2) hlt) (by omega) (by omega) G1.out.k ?_
      intro v2 hk hg
      simp only [Act.put]
      refine wpList_nil ?_
      have G2 := Lib.hid (G1.out.gb hk hg)
      clear hk hg G1
      go_upto_region 15 with fail
      refine wp_region_lit ?_
      refine Step.p_move rfl _ rfl (.pointer (some ⟨kb, 0, none⟩)) rfl ?_
      simp only [Act.put, sA9, sB9, sC9]
      refine Step.p_move rfl _ rfl (.int .i64 j) rfl ?_
      simp only [Act.put, sA9, sB9, sC9]
      refine Step.p_move rfl _ rfl (.int .u8 e8) rfl ?_
      simp only [Act.put, sA9, sB9, sC9]
      refine Step.p_move rfl _ rfl (.int .u8 j) rfl ?_
      simp only [Act.put, sA9, sB9, sC9]
      refine Step.p_val rfl (.int .u8 (e8 ^^^ j : Nat)) (by unfold execOp; go_simp; exact xor_u8 _ _ (l8) hlt) ?_
      simp only [Act.put, sA9, sB9, sC9]
      refine Step.p_val rfl (.pointer (some ⟨kb, 0, none⟩)) (by unfold execOp; go_simp) ?_
      simp only [Act.put, sA9, sB9, sC9]
      refine Tree.p_field rfl _ _ _ rfl (kb) (0) rfl Tryz.underlying178 rfl (sz := 4096) (by kernel_rfl) (by decide) (514) rfl ?_
      simp only [Act.put, sA9, sB9, sC9]
      refine Still.p_idxA rfl _ 175 _ _ rfl kb 514 rfl .i64 9 rfl (by decide) Tryz.underlying176 (size := 256) (by kernel_rfl) (514 + 9 * 256) rfl ?_
      simp only [Act.put, sA9, sB9, sC9]
      refine Still.p_idxA rfl _ 5 _ _ rfl kb (514 + 9 * 256) rfl .i64 j rfl hlt Tryz.underlying175 (size := 1) (by kernel_rfl) (514 + 9 * 256 + j) (by omega) ?_
      simp only [Act.put, sA9, sB9, sC9]
      refine p_by rfl _ _ rfl kb (514 + 9 * 256 + j) rfl (e8 ^^^ j) rfl (x8 (l8) hlt) (by omega) (by omega) G2.out.k ?_
      intro v3 hk hg
      simp only [Act.put]
      refine wpList_nil ?_
      have G3 := Lib.hid (G2.out.gb hk hg)
      clear hk hg G2
      go_upto_region 16 with fail
      refine wp_region_lit ?_
      refine Step.p_move rfl _ rfl (.pointer (some ⟨kb, 0, none⟩)) rfl ?_
      simp only [Act.put, sA9, sB9, sC9]
      refine Step.p_move rfl _ rfl (.int .i64 j) rfl ?_
      simp only [Act.put, sA9, sB9, sC9]
      refine Step.p_move rfl _ rfl (.int .u8 e8) rfl ?_
      simp only [Act.put, sA9, sB9, sC9]
      refine Step.p_move rfl _ rfl (.int .u8 e2) rfl ?_
      simp only [Act.put, sA9, sB9, sC9]
      refine Step.p_val rfl (.int .u8 (e8 ^^^ e2 : Nat)) (by unfold execOp; go_simp; exact xor_u8 _ _ (l8) l2) ?_
      simp only [Act.put, sA9, sB9, sC9]
      refine Step.p_move rfl _ rfl (.int .u8 j) rfl ?_
      simp only [Act.put, sA9, sB9, sC9]
      refine Step.p_val rfl (.int .u8 (e8 ^^^ e2 ^^^ j : Nat)) (by unfold execOp; go_simp; exact xor_u8 _ _ (x8 (l8) l2) hlt) ?_
      simp only [Act.put, sA9, sB9, sC9]
      refine Step.p_val rfl (.pointer (some ⟨kb, 0, none⟩)) (by unfold execOp; go_simp) ?_
      simp only [Act.put, sA9, sB9, sC9]
      refine Tree.p_field rfl _ _ _ rfl (kb) (0) rfl Tryz.underlying178 rfl (sz := 4096) (by kernel_rfl) (by decide) (514) rfl ?_
      simp only [Act.put, sA9, sB9, sC9]
      refine Still.p_idxA rfl _ 175 _ _ rfl kb 514 rfl .i64 11 rfl (by decide) Tryz.underlying176 (size := 256) (by kernel_rfl) (514 + 11 * 256) rfl ?_
      simp only [Act.put, sA9, sB9, sC9]
      refine Still.p_idxA rfl _ 5 _ _ rfl kb (514 + 11 * 256) rfl .i64 j rfl hlt Tryz.underlying175 (size := 1) (by kernel_rfl) (514 + 11 * 256 + j) (by omega) ?_
      simp only [Act.put, sA9, sB9, sC9]
      refine p_by rfl _ _ rfl kb (514 + 11 * 256 + j) rfl (e8 ^^^ e2 ^^^ j) rfl (x8 (x8 (l8) l2) hlt) (by omega) (by omega) G3.out.k ?_
      intro v4 hk hg
      simp only [Act.put]
      refine wpList_nil ?_
      have G4 := Lib.hid (G3.out.gb hk hg)
      clear hk hg G3
      go_upto_region 17 with fail
      refine wp_region_lit ?_
      refine Step.p_move rfl _ rfl (.pointer (some ⟨kb, 0, none⟩)) rfl ?_
      simp only [Act.put, sA9, sB9, sC9]
      refine Step.p_move rfl _ rfl (.int .i64 j) rfl ?_
      simp only [Act.put, sA9, sB9, sC9]
      refine Step.p_move rfl _ rfl (.int .u8 e8) rfl ?_
      simp only [Act.put, sA9, sB9, sC9]
      refine Step.p_move rfl _ rfl (.int .u8 e4) rfl ?_
      simp only [Act.put, sA9, sB9, sC9]
      refine Step.p_val rfl (.int .u8 (e8 ^^^ e4 : Nat)) (by unfold execOp; go_simp; exact xor_u8 _ _ (l8) l4) ?_
      simp only [Act.put, sA9, sB9, sC9]
      refine Step.p_move rfl _ rfl (.int .u8 j) rfl ?_
      simp only [Act.put, sA9, sB9, sC9]
      refine Step.p_val rfl (.int .u8 (e8 ^^^ e4 ^^^ j : Nat)) (by unfold execOp; go_simp; exact xor_u8 _ _ (x8 (l8) l4) hlt) ?_
      simp only [Act.put, sA9, sB9, sC9]
      refine Step.p_val rfl (.pointer (some ⟨kb, 0, none⟩)) (by unfold execOp; go_simp) ?_
      simp only [Act.put, sA9, sB9, sC9]
      refine Tree.p_field rfl _ _ _ rfl (kb) (0) rfl Tryz.underlying178 rfl (sz := 4096) (by kernel_rfl) (by decide) (514) rfl ?_
      simp only [Act.put, sA9, sB9, sC9]
      refine Still.p_idxA rfl _ 175 _ _ rfl kb 514 rfl .i64 13 rfl (by decide) Tryz.underlying176 (size := 256) (by kernel_rfl) (514 + 13 * 256) rfl ?_
      simp only [Act.put, sA9, sB9, sC9]
      refine Still.p_idxA rfl _ 5 _ _ rfl kb (514 + 13 * 256) rfl .i64 j rfl hlt Tryz.underlying175 (size := 1) (by kernel_rfl) (514 + 13 * 256 + j) (by omega) ?_
      simp only [Act.put, sA9, sB9, sC9]
      refine p_by rfl _ _ rfl kb (514 + 13 * 256 + j) rfl (e8 ^^^ e4 ^^^ j) rfl (x8 (x8 (l8) l4) hlt) (by omega) (by omega) G4.out.k ?_
      intro v5 hk hg
      simp only [Act.put]
      refine wpList_nil ?_
      have G5 := Lib.hid (G4.out.gb hk hg)
      clear hk hg G4
      go_upto_region 18 with fail
      refine wp_region_lit ?_
      refine Step.p_move rfl _ rfl (.pointer (some ⟨kb, 0, none⟩)) rfl ?_
      simp only [Act.put, sA9, sB9, sC9]
      refine Step.p_move rfl _ rfl (.int .i64 j) rfl ?_
      simp only [Act.put, sA9, sB9, sC9]
      refine Step.p_move rfl _ rfl (.int .u8 e8) rfl ?_
      simp only [Act.put, sA9, sB9, sC9]
      refine Step.p_move rfl _ rfl (.int .u8 e4) rfl ?_
      simp only [Act.put, sA9, sB9, sC9]
      refine Step.p_val rfl (.int .u8 (e8 ^^^ e4 : Nat)) (by unfold execOp; go_simp; exact xor_u8 _ _ (l8) l4) ?_
      simp only [Act.put, sA9, sB9, sC9]
      refine Step.p_move rfl _ rfl (.int .u8 e2) rfl ?_
      simp only [Act.put, sA9, sB9, sC9]
      refine Step.p_val rfl (.int .u8 (e8 ^^^ e4 ^^^ e2 : Nat)) (by unfold execOp; go_simp; exact xor_u8 _ _ (x8 (l8) l4) l2) ?_
      simp only [Act.put, sA9, sB9, sC9]
      refine Step.p_val rfl (.pointer (some ⟨kb, 0, none⟩)) (by unfold execOp; go_simp) ?_
      simp only [Act.put, sA9, sB9, sC9]
      refine Tree.p_field rfl _ _ _ rfl (kb) (0) rfl Tryz.underlying178 rfl (sz := 4096) (by kernel_rfl) (by decide) (514) rfl ?_
      simp only [Act.put, sA9, sB9, sC9]
      refine Still.p_idxA rfl _ 175 _ _ rfl kb 514 rfl .i64 14 rfl (by decide) Tryz.underlying176 (size := 256) (by kernel_rfl) (514 + 14 * 256) rfl ?_
      simp only [Act.put, sA9, sB9, sC9]
      refine Still.p_idxA rfl _ 5 _ _ rfl kb (514 + 14 * 256) rfl .i64 j rfl hlt Tryz.underlying175 (size := 1) (by kernel_rfl) (514 + 14 * 256 + j) (by omega) ?_
      simp only [Act.put, sA9, sB9, sC9]
      refine p_by rfl _ _ rfl kb (514 + 14 * 256 + j) rfl (e8 ^^^ e4 ^^^ e2) rfl (x8 (x8 (l8) l4) l2) (by omega) (by omega) G5.out.k ?_
      intro v6 hk hg
      simp only [Act.put]
      refine wpList_nil ?_
      have G6 := Lib.hid (G5.out.gb hk hg)
      clear hk hg G5
      clear l2 l4 l8
      go_wp2
      exact ⟨⟨j + 1, by omega, by go_num, G6.out⟩, by simp [RowKit.intOf]; omega⟩
    · obtain rfl : j = 256 := by omega
      have HN : Hid (∀ w', Below kb w w' → ∀ j u, (bl F0 (4 * nk))[j]? = some u → w'.cell? ((⟨g, off, none⟩ : Addr).add j) = some u) := Lib.hid fun w' hb j u hj => by
        have hl : j < 4 * nk := by have := (List.getElem?_eq_some_iff.1 hj).1; rwa [bl_len] at this
        obtain ⟨g', o', e, hc⟩ := HB.out j hl
        cases e
        rw [bl_get _ _ _ hl] at hj
        rw [Addr.add_mid, ← hj, ← hc]
        exact hb.cell (p := ⟨g, off + j, none⟩) (by rw [HKB.out]; exact Frame.block_lt hc)
      have H1 : Hid (∀ u ∈ bl F0 (4 * nk), u.oneCell' = true) := Lib.hid fun u hu => by
        simp only [bl, List.mem_map] at hu
        obtain ⟨x, _, rfl⟩ := hu
        rfl
      go_upto_region 19 with fail
      refine wp_region_lit ?_
      refine Step.p_move rfl _ rfl (.pointer (some ⟨kb, 0, none⟩)) rfl ?_
      simp only [Act.put, sA9, sB9, sC9]
      refine Step.p_move rfl _ rfl (.pointer (some ⟨kb, 0, none⟩)) rfl ?_
      simp only [Act.put, sA9, sB9, sC9]
      refine Step.p_val rfl (.pointer (some ⟨kb, 0, none⟩)) (by unfold execOp; go_simp) ?_
      simp only [Act.put, sA9, sB9, sC9]
      refine Tree.p_field rfl _ _ _ rfl (kb) (0) rfl Tryz.underlying178 rfl (sz := 1) (by kernel_rfl) (by decide) (0) rfl ?_
      simp only [Act.put, sA9, sB9, sC9]
      refine Tree.p_load1 rfl _ _ rfl (kb) (0) rfl (.slice none 0 0) (E5.out.k.c0) Tryz.underlying22 rfl ?_
      simp only [Act.put, sA9, sB9, sC9]
      refine Step.p_move rfl _ rfl (.slice (some ⟨g, off, none⟩) (4 * nk) cap) rfl ?_
      simp only [Act.put, sA9, sB9, sC9]
      refine Step.p_wp rfl (Step.w_append _ _ 22 rfl (kb + 1) 5 i0 (.int .u8 0) 1 1 Tryz.underlying22 iu0 iu1 iu2 iu3 rfl (by decide) (.slice none 0 0) 0 [] rfl (World.ownsRow_nil _ _ _ _) ⟨g, off, none⟩ (4 * nk) cap (bl F0 (4 * nk)) rfl (by rw [bl_len]; omega) (HN.out _ E5.out.bel) H1.out (by unfold maxLen; omega) (by omega) E5.out.k.lt ?_)
      intro v' w5 ho hg _ _
      simp only [Act.put, sA9, sB9, sC9]
      have D1 := Lib.hid (E5.out.next (Rj.bel_of_gb (_B := 0) hg))
      rw [Nat.zero_add, List.nil_append] at ho
      rcases ho.2 with ⟨_, h'⟩ | ⟨q1, c1, _, rfl, hq1, _⟩
      · omega
      have O1 := Lib.hid ho
      clear ho hg E5
      refine Step.p_val rfl (.pointer (some ⟨kb, 0, none⟩)) (by unfold execOp; go_simp) ?_
      simp only [Act.put, sA9, sB9, sC9]
      refine Tree.p_field rfl _ _ _ rfl (kb) (0) rfl Tryz.underlying178 rfl (sz := 1) (by kernel_rfl) (by decide) (0) rfl ?_
      simp only [Act.put, sA9, sB9, sC9]
      refine p_list0 rfl _ _ rfl kb rfl (some ⟨q1, 0, none⟩) (4 * nk) c1 rfl D1.out.k ?_
      intro u1 hk hg
      simp only [Act.put]
      refine wpList_nil ?_
      have X1 := Lib.hid (D1.out.gb hk hg)
      clear hk hg D1 O1
      go_upto_region 20 with fail
      refine wp_region_lit ?_
      refine Step.p_move rfl _ rfl (.pointer (some ⟨kb, 0, none⟩)) rfl ?_
      simp only [Act.put, sA9, sB9, sC9]
      refine Step.p_move rfl _ rfl (.pointer (some ⟨kb, 0, none⟩)) rfl ?_
      simp only [Act.put, sA9, sB9, sC9]
      refine Step.p_val rfl (.pointer (some ⟨kb, 0, none⟩)) (by unfold execOp; go_simp) ?_
      simp only [Act.put, sA9, sB9, sC9]
      refine Tree.p_field rfl _ _ _ rfl (kb) (0) rfl Tryz.underlying178 rfl (sz := 1) (by kernel_rfl) (by decide) (1) rfl ?_
      simp only [Act.put, sA9, sB9, sC9]
      refine Tree.p_load1 rfl _ _ rfl (kb) (1) rfl (.slice none 0 0) (X1.out.k.c1) Tryz.underlying22 rfl ?_
      simp only [Act.put, sA9, sB9, sC9]
      refine Step.p_move rfl _ rfl (.slice (some ⟨g, off, none⟩) (4 * nk) cap) rfl ?_
      simp only [Act.put, sA9, sB9, sC9]
      refine Step.p_wp rfl (Step.w_append _ _ 22 rfl (kb + 1) 5 i0 (.int .u8 0) 1 1 Tryz.underlying22 iu0 iu1 iu2 iu3 rfl (by decide) (.slice none 0 0) 0 [] rfl (World.ownsRow_nil _ _ _ _) ⟨g, off, none⟩ (4 * nk) cap (bl F0 (4 * nk)) rfl (by rw [bl_len]; omega) (HN.out _ X1.out.bel) H1.out (by unfold maxLen; omega) (by omega) X1.out.k.lt ?_)
      intro v' w6 ho hg _ _
      simp only [Act.put, sA9, sB9, sC9]
      have D2 := Lib.hid (X1.out.next (Rj.bel_of_gb (_B := 0) hg))
      rw [Nat.zero_add, List.nil_append] at ho
      rcases ho.2 with ⟨_, h'⟩ | ⟨q2, c2, _, rfl, hq2, _⟩
      · omega
      have O2 := Lib.hid ho
      clear ho hg X1
      refine Step.p_val rfl (.pointer (some ⟨kb, 0, none⟩)) (by unfold execOp; go_simp) ?_
      simp only [Act.put, sA9, sB9, sC9]
      refine Tree.p_field rfl _ _ _ rfl (kb) (0) rfl Tryz.underlying178 rfl (sz := 1) (by kernel_rfl) (by decide) (1) rfl ?_
      simp only [Act.put, sA9, sB9, sC9]
      refine p_list1 rfl _ _ rfl kb rfl (some ⟨q2, 0, none⟩) (4 * nk) c2 rfl D2.out.k ?_
      intro u2 hk hg
      simp only [Act.put]
      refine wpList_nil ?_
      have X2 := Lib.hid (D2.out.gb hk hg)
      have RO : Hid (RoW kb (4 * nk) F0 (.slice (some ⟨q2, 0, none⟩) (4 * nk) c2) u2) := Lib.hid ⟨O2.out.kept hg (.inr (by simp only [Value.ownBlock]; intro e; cases e; omega)), hF⟩
      clear hk hg D2 O2 HN H1
      go_upto_region 21 with fail
      refine wp_region_lit ?_
      refine Step.p_move rfl _ rfl (.slice (some ⟨g, off, none⟩) (4 * nk) cap) rfl ?_
      simp only [Act.put, sA9, sB9, sC9]
      refine Step.p_len rfl _ _ 5 rfl (_) ((4 * nk)) (cap) rfl Tryz.underlying22 ?_
      simp only [Act.put, sA9, sB9, sC9]
      refine Step.p_val rfl (.int .i64 nk) (by unfold execOp; go_simp; first | exact IntWalk.i64_in _ (by omega) | omega | (rw [IntWalk.i64_in _ (by omega)]; omega)) ?_
      simp only [Act.put, sA9, sB9, sC9]
      refine Step.p_assign rfl _ rfl (.int .i64 nk) rfl ?_
      simp only [Act.put, sA9, sB9, sC9]
      refine wpList_nil ?_
      go_wp2
      go_loopw [12, 11, 13, 14] (fun a b _ _ wr => ∃ (i p q c : Nat) (F : Nat → Nat) (v0 : Value), nk ≤ i ∧ i ≤ 4 * (nk + 7) ∧ a = .int .i64 i ∧ b = .int .u8 p ∧ p < 256 ∧ N2 kb v0 (.slice (some ⟨q, 0, none⟩) (4 * i) c) w wr ∧ RoW kb (4 * i) F (.slice (some ⟨q, 0, none⟩) (4 * i) c) wr) (fun a _ _ _ _ => 4 * (nk + 7) - (RowKit.intOf a).toNat)
      case atStart => exact ⟨nk, 1, q2, c2, F0, _, by omega, by omega, rfl, rfl, by decide, X2.out, RO.out⟩
      case round =>
        obtain ⟨i, p, q, c, F, v0, hi1, hi2, rfl, rfl, hp, hx, hro⟩ := hrel
        have X := Lib.hid hx
        have RO2 := Lib.hid hro
        clear hx hro X2 RO
        by_cases hlt2 : i < 4 * (nk + 7)
        · have FC : Hid (∀ j, j < 4 * i → wr.drew.cell? ⟨q, j, none⟩ = some (.int .u8 (F j : Nat))) := Lib.hid fun j hj => (RO2.out.own.cellAt j (by omega)).trans (bl_get F _ j hj)
          have FL := Lib.hid RO2.out.lt
          go_upto_region 26 with fail
          refine wp_region_still_tail 36 (by kernel_rfl) (by kernel_rfl) ?_
          refine Still.s_move rfl _ rfl (.pointer (some ⟨kb, 0, none⟩)) rfl ?_
          simp only [Act.put, sA9, sB9, sC9]
          refine Still.s_val rfl (.pointer (some ⟨kb, 0, none⟩)) (by unfold execOp; go_simp) ?_
          simp only [Act.put, sA9, sB9, sC9]
          refine Still.s_val rfl (.pointer (some ⟨kb, 1, none⟩)) (by unfold execOp; simp only [Sem.run_bind, Sem.run_pure]; rfl) ?_
          simp only [Act.put, sA9, sB9, sC9]
          refine Still.s_load1 rfl _ _ rfl (kb) (1) rfl (.slice (some ⟨q, 0, none⟩) (4 * i) c) (X.out.drew.k.c1) Tryz.underlying22 rfl ?_
          simp only [Act.put, sA9, sB9, sC9]
          refine Still.s_move rfl _ rfl (.int .i64 i) rfl ?_
          simp only [Act.put, sA9, sB9, sC9]
          refine Still.s_val rfl (.int .i64 (4 * i : Nat)) (by unfold execOp; go_simp; try (first | rfl | omega | exact (IntWalk.i64_in _ (by omega)).trans (by omega))) ?_
          simp only [Act.put, sA9, sB9, sC9]
          refine Still.s_val rfl (.int .i64 (4 * i - 4 : Nat)) (by unfold execOp; go_simp; try (first | rfl | omega | exact (IntWalk.i64_in _ (by omega)).trans (by omega))) ?_
          simp only [Act.put, sA9, sB9, sC9]
          refine Still.s_idxS rfl _ 5 _ _ rfl (q) (0) ((4 * i)) (c) rfl .i64 (4 * i - 4) rfl (by omega) Tryz.underlying22 (size := 1) (by kernel_rfl) (4 * i - 4) (by omega) ?_
          simp only [Act.put, sA9, sB9, sC9]
          refine Still.s_load1 rfl _ _ rfl (q) (4 * i - 4) rfl (.int .u8 (F (4 * i - 4) : Nat)) (FC.out _ (by omega)) Tryz.underlying5 rfl ?_
          simp only [Act.put, sA9, sB9, sC9]
          refine Still.s_move rfl _ rfl (.pointer (some ⟨kb, 0, none⟩)) rfl ?_
          simp only [Act.put, sA9, sB9, sC9]
          refine Still.s_val rfl (.pointer (some ⟨kb, 0, none⟩)) (by unfold execOp; go_simp) ?_
          simp only [Act.put, sA9, sB9, sC9]
          refine Still.s_val rfl (.pointer (some ⟨kb, 1, none⟩)) (by unfold execOp; simp only [Sem.run_bind, Sem.run_pure]; rfl) ?_
          simp only [Act.put, sA9, sB9, sC9]
          refine Still.s_load1 rfl _ _ rfl (kb) (1) rfl (.slice (some ⟨q, 0, none⟩) (4 * i) c) (X.out.drew.k.c1) Tryz.underlying22 rfl ?_
          simp only [Act.put, sA9, sB9, sC9]
          refine Still.s_move rfl _ rfl (.int .i64 i) rfl ?_
          simp only [Act.put, sA9, sB9, sC9]
          refine Still.s_val rfl (.int .i64 (4 * i : Nat)) (by unfold execOp; go_simp; try (first | rfl | omega | exact (IntWalk.i64_in _ (by omega)).trans (by omega))) ?_
          simp only [Act.put, sA9, sB9, sC9]
          refine Still.s_val rfl (.int .i64 (4 * i - 3 : Nat)) (by unfold execOp; go_simp; try (first | rfl | omega | exact (IntWalk.i64_in _ (by omega)).trans (by omega))) ?_
          simp only [Act.put, sA9, sB9, sC9]
          refine Still.s_idxS rfl _ 5 _ _ rfl (q) (0) ((4 * i)) (c) rfl .i64 (4 * i - 3) rfl (by omega) Tryz.underlying22 (size := 1) (by kernel_rfl) (4 * i - 3) (by omega) ?_
          simp only [Act.put, sA9, sB9, sC9]
          refine Still.s_load1 rfl _ _ rfl (q) (4 * i - 3) rfl (.int .u8 (F (4 * i - 3) : Nat)) (FC.out _ (by omega)) Tryz.underlying5 rfl ?_
          simp only [Act.put, sA9, sB9, sC9]
          refine Still.s_move rfl _ rfl (.pointer (some ⟨kb, 0, none⟩)) rfl ?_
          simp only [Act.put, sA9, sB9, sC9]
          refine Still.s_val rfl (.pointer (some ⟨kb, 0, none⟩)) (by unfold execOp; go_simp) ?_
          simp only [Act.put, sA9, sB9, sC9]
          refine Still.s_val rfl (.pointer (some ⟨kb, 1, none⟩)) (by unfold execOp; simp only [Sem.run_bind, Sem.run_pure]; rfl) ?_
          simp only [Act.put, sA9, sB9, sC9]
          refine Still.s_load1 rfl _ _ rfl (kb) (1) rfl (.slice (some ⟨q, 0, none⟩) (4 * i) c) (X.out.drew.k.c1) Tryz.underlying22 rfl ?_
          simp only [Act.put, sA9, sB9, sC9]
          refine Still.s_move rfl _ rfl (.int .i64 i) rfl ?_
          simp only [Act.put, sA9, sB9, sC9]
          refine Still.s_val rfl (.int .i64 (4 * i : Nat)) (by unfold execOp; go_simp; try (first | rfl | omega | exact (IntWalk.i64_in _ (by omega)).trans (by omega))) ?_
          simp only [Act.put, sA9, sB9, sC9]
          refine Still.s_val rfl (.int .i64 (4 * i - 2 : Nat)) (by unfold execOp; go_simp; try (first | rfl | omega | exact (IntWalk.i64_in _ (by omega)).trans (by omega))) ?_
          simp only [Act.put, sA9, sB9, sC9]
          refine Still.s_idxS rfl _ 5 _ _ rfl (q) (0) ((4 * i)) (c) rfl .i64 (4 * i - 2) rfl (by omega) Tryz.underlying22 (size := 1) (by kernel_rfl) (4 * i - 2) (by omega) ?_
          simp only [Act.put, sA9, sB9, sC9]
          refine Still.s_load1 rfl _ _ rfl (q) (4 * i - 2) rfl (.int .u8 (F (4 * i - 2) : Nat)) (FC.out _ (by omega)) Tryz.underlying5 rfl ?_
          simp only [Act.put, sA9, sB9, sC9]
          refine Still.s_move rfl _ rfl (.pointer (some ⟨kb, 0, none⟩)) rfl ?_
          simp only [Act.put, sA9, sB9, sC9]
          refine Still.s_val rfl (.pointer (some ⟨kb, 0, none⟩)) (by unfold execOp; go_simp) ?_
          simp only [Act.put, sA9, sB9, sC9]
          refine Still.s_val rfl (.pointer (some ⟨kb, 1, none⟩)) (by unfold execOp; simp only [Sem.run_bind, Sem.run_pure]; rfl) ?_
          simp only [Act.put, sA9, sB9, sC9]
          refine Still.s_load1 rfl _ _ rfl (kb) (1) rfl (.slice (some ⟨q, 0, none⟩) (4 * i) c) (X.out.drew.k.c1) Tryz.underlying22 rfl ?_
          simp only [Act.put, sA9, sB9, sC9]
          refine Still.s_move rfl _ rfl (.int .i64 i) rfl ?_
          simp only [Act.put, sA9, sB9, sC9]
          refine Still.s_val rfl (.int .i64 (4 * i : Nat)) (by unfold execOp; go_simp; try (first | rfl | omega | exact (IntWalk.i64_in _ (by omega)).trans (by omega))) ?_
          simp only [Act.put, sA9, sB9, sC9]
          refine Still.s_val rfl (.int .i64 (4 * i - 1 : Nat)) (by unfold execOp; go_simp; try (first | rfl | omega | exact (IntWalk.i64_in _ (by omega)).trans (by omega))) ?_
          simp only [Act.put, sA9, sB9, sC9]
          refine Still.s_idxS rfl _ 5 _ _ rfl (q) (0) ((4 * i)) (c) rfl .i64 (4 * i - 1) rfl (by omega) Tryz.underlying22 (size := 1) (by kernel_rfl) (4 * i - 1) (by omega) ?_
          simp only [Act.put, sA9, sB9, sC9]
          refine Still.s_load1 rfl _ _ rfl (q) (4 * i - 1) rfl (.int .u8 (F (4 * i - 1) : Nat)) (FC.out _ (by omega)) Tryz.underlying5 rfl ?_
          simp only [Act.put, sA9, sB9, sC9]
          refine wpStill_nil ?_
          simp only [List.drop]
          change wpList _ _ _ _ _ wr.drew
          refine Seg.p_lit4 rfl _ 5 _ _ _ _ rfl .u8 (F (4 * i - 4) : Nat) (F (4 * i - 3) : Nat) (F (4 * i - 2) : Nat) (F (4 * i - 1) : Nat) rfl rfl rfl rfl Tryz.underlying22 iu0 iu1 iu2 ?_
          simp only [Act.put, sA9, sB9, sC9]
          refine Step.p_assign rfl _ rfl (.slice (some ⟨wr.drew.heap.size, 0, none⟩) 4 4) rfl ?_
          simp only [Act.put, sA9, sB9, sC9]
          refine wpList_nil ?_
          have T0 : Hid (T4 wr.drew.heap.size (fun j => F (4 * i - 4 + j)) (wr.drew.alloc (.cells #[.int .u8 (F (4 * i - 4) : Nat), .int .u8 (F (4 * i - 3) : Nat), .int .u8 (F (4 * i - 2) : Nat), .int .u8 (F (4 * i - 1) : Nat)] 5))) := Lib.hid (t4_new _ _ _ _ _ _ (by rw [Nat.add_zero]) (by rw [show 4 * i - 4 + 1 = 4 * i - 3 by omega]) (by rw [show 4 * i - 4 + 2 = 4 * i - 2 by omega]) (by rw [show 4 * i - 4 + 3 = 4 * i - 1 by omega]) (fun _ => FL.out _))
          have Y0 : Hid (NR kb (4 * i) q c F v0 w (wr.drew.alloc (.cells #[.int .u8 (F (4 * i - 4) : Nat), .int .u8 (F (4 * i - 3) : Nat), .int .u8 (F (4 * i - 2) : Nat), .int .u8 (F (4 * i - 1) : Nat)] 5))) := Lib.hid ⟨X.out.drew.next ((Below.refl _ _).alloc (Nat.le_refl _) _), ⟨RO2.out.own.drew.alloc _, RO2.out.lt⟩⟩
          generalize (wr.drew.alloc (.cells #[.int .u8 (F (4 * i - 4) : Nat), .int .u8 (F (4 * i - 3) : Nat), .int .u8 (F (4 * i - 2) : Nat), .int .u8 (F (4 * i - 1) : Nat)] 5)) = w7 at *
          generalize wr.drew.heap.size = tb at *
          generalize (fun j => F (4 * i - 4 + j)) = tF at *
          clear FC FL X RO2
          go_upto_region 27 with fail
          have hrm : (i : Int).tmod nk = (i % nk : Nat) := rfl
          obtain ⟨r, hr⟩ : ∃ r, i % nk = r := ⟨_, rfl⟩
          rw [hr] at hrm
          have hnz : ¬ ((nk : Int) = 0) := by omega
          have HRM := Lib.hid hrm
          clear hrm hr
          refine wp_region_lit ?_
          refine Step.p_move rfl _ rfl (.int .i64 i) rfl ?_
          simp only [Act.put, sA9, sB9, sC9]
          refine Step.p_move rfl _ rfl (.int .i64 nk) rfl ?_
          simp only [Act.put, sA9, sB9, sC9]
          refine Step.p_val rfl (.int .i64 r) (by unfold execOp; have := HRM.out; go_simp; try omega) ?_
          simp only [Act.put, sA9, sB9, sC9]
          refine Step.p_val rfl (.bool (decide (r = 0))) (by unfold execOp; go_simp; try (first | rfl | omega | (by_cases h : r = 0 <;> simp [h] <;> omega))) ?_
          simp only [Act.put, sA9, sB9, sC9]
          refine wpList_nil ?_
          clear HRM
          go_upto_if 186 with fail
          go_cut [13, 11] from 187 to 263 (fun t pw wx => ∃ (tb2 : Nat) (tF2 : Nat → Nat) (p2 : Nat), t = .slice (some ⟨tb2, 0, none⟩) 4 4 ∧ pw = .int .u8 p2 ∧ p2 < 256 ∧ T4 tb2 tF2 wx ∧ NR kb (4 * i) q c F v0 w wx)
          case first =>
            by_cases h0 : r = 0
            · obtain ⟨x0, hx0, hc0⟩ := Y0.out.n.k.cell (tF 1) (by have := T0.out.lt 1; omega)
              have HX0 : Hid (w7.drew.cell? ⟨kb, 2 + tF 1, none⟩ = some (.int .u8 (x0 : Nat))) := Lib.hid hc0
              have ht0 := T0.out.lt 1
              have HT0 : Hid (w7.drew.cell? ⟨tb, 1, none⟩ = some (.int .u8 (tF 1 : Nat))) := Lib.hid (T0.out.c 1 (by decide))
              clear hc0
              generalize tF 1 = y0 at *
              obtain ⟨x1, hx1, hc1⟩ := Y0.out.n.k.cell (tF 2) (by have := T0.out.lt 2; omega)
              have HX1 : Hid (w7.drew.cell? ⟨kb, 2 + tF 2, none⟩ = some (.int .u8 (x1 : Nat))) := Lib.hid hc1
              have ht1 := T0.out.lt 2
              have HT1 : Hid (w7.drew.cell? ⟨tb, 2, none⟩ = some (.int .u8 (tF 2 : Nat))) := Lib.hid (T0.out.c 2 (by decide))
              clear hc1
              generalize tF 2 = y1 at *
              obtain ⟨x2, hx2, hc2⟩ := Y0.out.n.k.cell (tF 3) (by have := T0.out.lt 3; omega)
              have HX2 : Hid (w7.drew.cell? ⟨kb, 2 + tF 3, none⟩ = some (.int .u8 (x2 : Nat))) := Lib.hid hc2
              have ht2 := T0.out.lt 3
              have HT2 : Hid (w7.drew.cell? ⟨tb, 3, none⟩ = some (.int .u8 (tF 3 : Nat))) := Lib.hid (T0.out.c 3 (by decide))
              clear hc2
              generalize tF 3 = y2 at *
              obtain ⟨x3, hx3, hc3⟩ := Y0.out.n.k.cell (tF 0) (by have := T0.out.lt 0; omega)
              have HX3 : Hid (w7.drew.cell? ⟨kb, 2 + tF 0, none⟩ = some (.int .u8 (x3 : Nat))) := Lib.hid hc3
              have ht3 := T0.out.lt 0
              have HT3 : Hid (w7.drew.cell? ⟨tb, 0, none⟩ = some (.int .u8 (tF 0 : Nat))) := Lib.hid (T0.out.c 0 (by decide))
              clear hc3
              generalize tF 0 = y3 at *
              go_upto_region 28 with fail
              refine wp_region_still_tail 34 (by kernel_rfl) (by kernel_rfl) ?_
              refine Still.s_move rfl _ rfl (.pointer (some ⟨kb, 0, none⟩)) rfl ?_
              simp only [Act.put, sA9, sB9, sC9]
              refine Still.s_move rfl _ rfl (.slice (some ⟨tb, 0, none⟩) 4 4) rfl ?_
              simp only [Act.put, sA9, sB9, sC9]
              refine Still.s_idxS rfl _ 5 _ _ rfl (tb) (0) (4) (4) rfl .i64 (1) rfl (by decide) Tryz.underlying22 (size := 1) (by kernel_rfl) (1) (by omega) ?_
              simp only [Act.put, sA9, sB9, sC9]
              refine Still.s_load1 rfl _ _ rfl (tb) (1) rfl (.int .u8 (y0 : Nat)) (HT0.out) Tryz.underlying5 rfl ?_
              simp only [Act.put, sA9, sB9, sC9]
              refine Still.s_val rfl (.pointer (some ⟨kb, 0, none⟩)) (by unfold execOp; go_simp) ?_
              simp only [Act.put, sA9, sB9, sC9]
              refine Still.s_val rfl (.pointer (some ⟨kb, 2, none⟩)) (by unfold execOp; simp only [Sem.run_bind, Sem.run_pure]; rfl) ?_
              simp only [Act.put, sA9, sB9, sC9]
              refine Still.s_idxA rfl _ 5 _ _ rfl (kb) (2) rfl .u8 (y0) rfl ht0 Tryz.underlying175 (size := 1) (by kernel_rfl) (2 + y0) (by omega) ?_
              simp only [Act.put, sA9, sB9, sC9]
              refine Still.s_load1 rfl _ _ rfl (kb) (2 + y0) rfl (.int .u8 (x0 : Nat)) (HX0.out) Tryz.underlying5 rfl ?_
              simp only [Act.put, sA9, sB9, sC9]
              refine Still.s_move rfl _ rfl (.int .u8 p) rfl ?_
              simp only [Act.put, sA9, sB9, sC9]
              refine Still.s_val rfl (.int .u8 (x0 ^^^ p : Nat)) (by unfold execOp; go_simp; exact xor_u8 _ _ hx0 hp) ?_
              simp only [Act.put, sA9, sB9, sC9]
              refine Still.s_move rfl _ rfl (.pointer (some ⟨kb, 0, none⟩)) rfl ?_
              simp only [Act.put, sA9, sB9, sC9]
              refine Still.s_move rfl _ rfl (.slice (some ⟨tb, 0, none⟩) 4 4) rfl ?_
              simp only [Act.put, sA9, sB9, sC9]
              refine Still.s_idxS rfl _ 5 _ _ rfl (tb) (0) (4) (4) rfl .i64 (2) rfl (by decide) Tryz.underlying22 (size := 1) (by kernel_rfl) (2) (by omega) ?_
              simp only [Act.put, sA9, sB9, sC9]
              refine Still.s_load1 rfl _ _ rfl (tb) (2) rfl (.int .u8 (y1 : Nat)) (HT1.out) Tryz.underlying5 rfl ?_
              simp only [Act.put, sA9, sB9, sC9]
              refine Still.s_val rfl (.pointer (some ⟨kb, 0, none⟩)) (by unfold execOp; go_simp) ?_
              simp only [Act.put, sA9, sB9, sC9]
              refine Still.s_val rfl (.pointer (some ⟨kb, 2, none⟩)) (by unfold execOp; simp only [Sem.run_bind, Sem.run_pure]; rfl) ?_
              simp only [Act.put, sA9, sB9, sC9]
              refine Still.s_idxA rfl _ 5 _ _ rfl (kb) (2) rfl .u8 (y1) rfl ht1 Tryz.underlying175 (size := 1) (by kernel_rfl) (2 + y1) (by omega) ?_
              simp only [Act.put, sA9, sB9, sC9]
              refine Still.s_load1 rfl _ _ rfl (kb) (2 + y1) rfl (.int .u8 (x1 : Nat)) (HX1.out) Tryz.underlying5 rfl ?_
              simp only [Act.put, sA9, sB9, sC9]
              refine Still.s_move rfl _ rfl (.pointer (some ⟨kb, 0, none⟩)) rfl ?_
              simp only [Act.put, sA9, sB9, sC9]
              refine Still.s_move rfl _ rfl (.slice (some ⟨tb, 0, none⟩) 4 4) rfl ?_
              simp only [Act.put, sA9, sB9, sC9]
              refine Still.s_idxS rfl _ 5 _ _ rfl (tb) (0) (4) (4) rfl .i64 (3) rfl (by decide) Tryz.underlying22 (size := 1) (by kernel_rfl) (3) (by omega) ?_
              simp only [Act.put, sA9, sB9, sC9]
              refine Still.s_load1 rfl _ _ rfl (tb) (3) rfl (.int .u8 (y2 : Nat)) (HT2.out) Tryz.underlying5 rfl ?_
              simp only [Act.put, sA9, sB9, sC9]
              refine Still.s_val rfl (.pointer (some ⟨kb, 0, none⟩)) (by unfold execOp; go_simp) ?_
              simp only [Act.put, sA9, sB9, sC9]
              refine Still.s_val rfl (.pointer (some ⟨kb, 2, none⟩)) (by unfold execOp; simp only [Sem.run_bind, Sem.run_pure]; rfl) ?_
              simp only [Act.put, sA9, sB9, sC9]
              refine Still.s_idxA rfl _ 5 _ _ rfl (kb) (2) rfl .u8 (y2) rfl ht2 Tryz.underlying175 (size := 1) (by kernel_rfl) (2 + y2) (by omega) ?_
              simp only [Act.put, sA9, sB9, sC9]
              refine Still.s_load1 rfl _ _ rfl (kb) (2 + y2) rfl (.int .u8 (x2 : Nat)) (HX2.out) Tryz.underlying5 rfl ?_
              simp only [Act.put, sA9, sB9, sC9]
              refine Still.s_move rfl _ rfl (.pointer (some ⟨kb, 0, none⟩)) rfl ?_
              simp only [Act.put, sA9, sB9, sC9]
              refine Still.s_move rfl _ rfl (.slice (some ⟨tb, 0, none⟩) 4 4) rfl ?_
              simp only [Act.put, sA9, sB9, sC9]
              refine Still.s_idxS rfl _ 5 _ _ rfl (tb) (0) (4) (4) rfl .i64 (0) rfl (by decide) Tryz.underlying22 (size := 1) (by kernel_rfl) (0) (by omega) ?_
              simp only [Act.put, sA9, sB9, sC9]
              refine Still.s_load1 rfl _ _ rfl (tb) (0) rfl (.int .u8 (y3 : Nat)) (HT3.out) Tryz.underlying5 rfl ?_
              simp only [Act.put, sA9, sB9, sC9]
              refine Still.s_val rfl (.pointer (some ⟨kb, 0, none⟩)) (by unfold execOp; go_simp) ?_
              simp only [Act.put, sA9, sB9, sC9]
              refine Still.s_val rfl (.pointer (some ⟨kb, 2, none⟩)) (by unfold execOp; simp only [Sem.run_bind, Sem.run_pure]; rfl) ?_
              simp only [Act.put, sA9, sB9, sC9]
              refine Still.s_idxA rfl _ 5 _ _ rfl (kb) (2) rfl .u8 (y3) rfl ht3 Tryz.underlying175 (size := 1) (by kernel_rfl) (2 + y3) (by omega) ?_
              simp only [Act.put, sA9, sB9, sC9]
              refine Still.s_load1 rfl _ _ rfl (kb) (2 + y3) rfl (.int .u8 (x3 : Nat)) (HX3.out) Tryz.underlying5 rfl ?_
              simp only [Act.put, sA9, sB9, sC9]
              refine wpStill_nil ?_
              simp only [List.drop]
              change wpList _ _ _ _ _ w7.drew
              refine Seg.p_lit4 rfl _ 5 _ _ _ _ rfl .u8 (x0 ^^^ p : Nat) (x1 : Nat) (x2 : Nat) (x3 : Nat) rfl rfl rfl rfl Tryz.underlying22 iu0 iu1 iu2 ?_
              simp only [Act.put, sA9, sB9, sC9]
              refine Step.p_assign rfl _ rfl (.slice (some ⟨w7.drew.heap.size, 0, none⟩) 4 4) rfl ?_
              simp only [Act.put, sA9, sB9, sC9]
              refine wpList_nil ?_
              have T1 : Hid (T4 w7.drew.heap.size (fun j => if j = 0 then x0 ^^^ p else if j = 1 then x1 else if j = 2 then x2 else x3) (w7.drew.alloc (.cells #[.int .u8 (x0 ^^^ p : Nat), .int .u8 (x1 : Nat), .int .u8 (x2 : Nat), .int .u8 (x3 : Nat)] 5))) := Lib.hid (t4_new _ _ _ _ _ _ rfl rfl rfl rfl (fun j => by
                split
                · exact x8 hx0 hp
                · split
                  · exact hx1
                  · split
                    · exact hx2
                    · exact hx3))
              have Y1 : Hid (NR kb (4 * i) q c F v0 w (w7.drew.alloc (.cells #[.int .u8 (x0 ^^^ p : Nat), .int .u8 (x1 : Nat), .int .u8 (x2 : Nat), .int .u8 (x3 : Nat)] 5))) := Lib.hid ⟨Y0.out.n.drew.next ((Below.refl _ _).alloc (Nat.le_refl _) _), ⟨Y0.out.r.own.drew.alloc _, Y0.out.r.lt⟩⟩
              generalize (w7.drew.alloc (.cells #[.int .u8 (x0 ^^^ p : Nat), .int .u8 (x1 : Nat), .int .u8 (x2 : Nat), .int .u8 (x3 : Nat)] 5)) = w8 at *
              generalize w7.drew.heap.size = tb1 at *
              clear T0 Y0 HX0 HX1 HX2 HX3 HT0 HT1 HT2 HT3
              go_upto_region 29 with fail
              refine wp_region_lit ?_
              refine Step.p_move rfl _ rfl (.int .u8 p) rfl ?_
              simp only [Act.put, sA9, sB9, sC9]
              refine Step.p_wp rfl (Step.w_callx 143 [.tmp 222, .const (.int .u8 2)] _ rfl Tryz.func143 (by kernel_rfl) rfl [.int .u8 p, .int .u8 2] rfl (TM.out p 2 hp (by decide) _) ?_)
              rintro e wa ⟨rfl, rfl⟩
              refine ⟨_, rfl, ?_⟩
              simp only [Act.put, sA9, sB9, sC9]
              refine Step.p_assign rfl _ rfl (.int .u8 (dT p 2 : Nat)) rfl ?_
              simp only [Act.put, sA9, sB9, sC9]
              refine wpList_nil ?_
              go_wp2
              go_meet
              case rel => exact ⟨tb1, _, _, rfl, rfl, dT_lt _ _, T1.out, Y1.out⟩
            · go_upto_region 30 with fail
              refine wp_region_lit ?_
              refine Step.p_move rfl _ rfl (.int .i64 nk) rfl ?_
              simp only [Act.put, sA9, sB9, sC9]
              clear h0
              by_cases h8 : nk = 8
              · have HN8 := Lib.hid h8
                clear h8
                refine Step.p_val rfl (.bool true) (by unfold execOp; have := HN8.out; go_simp; try omega) ?_
                simp only [Act.put, sA9, sB9, sC9]
                refine Step.p_move rfl _ rfl (.bool true) rfl ?_
                simp only [Act.put, sA9, sB9, sC9]
                refine Step.p_move rfl _ rfl (.int .i64 i) rfl ?_
                simp only [Act.put, sA9, sB9, sC9]
                refine Step.p_val rfl (.int .i64 (i % 8 : Nat)) (by unfold execOp; go_simp; try (first | rfl | omega)) ?_
                simp only [Act.put, sA9, sB9, sC9]
                by_cases h4 : i % 8 = 4
                · have H4 := Lib.hid h4
                  clear h4
                  refine Step.p_val rfl (.bool true) (by unfold execOp; have := H4.out; go_simp; try omega) ?_
                  simp only [Act.put, sA9, sB9, sC9]
                  refine Step.p_pick rfl _ _ _ rfl true rfl (.bool true) rfl ?_
                  simp only [Act.put, sA9, sB9, sC9]
                  refine wpList_nil ?_
                  obtain ⟨x0, hx0, hc0⟩ := Y0.out.n.k.cell (tF 0) (by have := T0.out.lt 0; omega)
                  have HX0 : Hid (w7.drew.cell? ⟨kb, 2 + tF 0, none⟩ = some (.int .u8 (x0 : Nat))) := Lib.hid hc0
                  have ht0 := T0.out.lt 0
                  have HT0 : Hid (w7.drew.cell? ⟨tb, 0, none⟩ = some (.int .u8 (tF 0 : Nat))) := Lib.hid (T0.out.c 0 (by decide))
                  clear hc0
                  generalize tF 0 = y0 at *
                  obtain ⟨x1, hx1, hc1⟩ := Y0.out.n.k.cell (tF 1) (by have := T0.out.lt 1; omega)
                  have HX1 : Hid (w7.drew.cell? ⟨kb, 2 + tF 1, none⟩ = some (.int .u8 (x1 : Nat))) := Lib.hid hc1
                  have ht1 := T0.out.lt 1
                  have HT1 : Hid (w7.drew.cell? ⟨tb, 1, none⟩ = some (.int .u8 (tF 1 : Nat))) := Lib.hid (T0.out.c 1 (by decide))
                  clear hc1
                  generalize tF 1 = y1 at *
                  obtain ⟨x2, hx2, hc2⟩ := Y0.out.n.k.cell (tF 2) (by have := T0.out.lt 2; omega)
                  have HX2 : Hid (w7.drew.cell? ⟨kb, 2 + tF 2, none⟩ = some (.int .u8 (x2 : Nat))) := Lib.hid hc2
                  have ht2 := T0.out.lt 2
                  have HT2 : Hid (w7.drew.cell? ⟨tb, 2, none⟩ = some (.int .u8 (tF 2 : Nat))) := Lib.hid (T0.out.c 2 (by decide))
                  clear hc2
                  generalize tF 2 = y2 at *
                  obtain ⟨x3, hx3, hc3⟩ := Y0.out.n.k.cell (tF 3) (by have := T0.out.lt 3; omega)
                  have HX3 : Hid (w7.drew.cell? ⟨kb, 2 + tF 3, none⟩ = some (.int .u8 (x3 : Nat))) := Lib.hid hc3
                  have ht3 := T0.out.lt 3
                  have HT3 : Hid (w7.drew.cell? ⟨tb, 3, none⟩ = some (.int .u8 (tF 3 : Nat))) := Lib.hid (T0.out.c 3 (by decide))
                  clear hc3
                  generalize tF 3 = y3 at *
                  go_upto_region 31 with fail
                  refine wp_region_still_tail 32 (by kernel_rfl) (by kernel_rfl) ?_
                  refine Still.s_move rfl _ rfl (.pointer (some ⟨kb, 0, none⟩)) rfl ?_
                  simp only [Act.put, sA9, sB9, sC9]
                  refine Still.s_move rfl _ rfl (.slice (some ⟨tb, 0, none⟩) 4 4) rfl ?_
                  simp only [Act.put, sA9, sB9, sC9]
                  refine Still.s_idxS rfl _ 5 _ _ rfl (tb) (0) (4) (4) rfl .i64 (0) rfl (by decide) Tryz.underlying22 (size := 1) (by kernel_rfl) (0) (by omega) ?_
                  simp only [Act.put, sA9, sB9, sC9]
                  refine Still.s_load1 rfl _ _ rfl (tb) (0) rfl (.int .u8 (y0 : Nat)) (HT0.out) Tryz.underlying5 rfl ?_
                  simp only [Act.put, sA9, sB9, sC9]
                  refine Still.s_val rfl (.pointer (some ⟨kb, 0, none⟩)) (by unfold execOp; go_simp) ?_
                  simp only [Act.put, sA9, sB9, sC9]
                  refine Still.s_val rfl (.pointer (some ⟨kb, 2, none⟩)) (by unfold execOp; simp only [Sem.run_bind, Sem.run_pure]; rfl) ?_
                  simp only [Act.put, sA9, sB9, sC9]
                  refine Still.s_idxA rfl _ 5 _ _ rfl (kb) (2) rfl .u8 (y0) rfl ht0 Tryz.underlying175 (size := 1) (by kernel_rfl) (2 + y0) (by omega) ?_
                  simp only [Act.put, sA9, sB9, sC9]
                  refine Still.s_load1 rfl _ _ rfl (kb) (2 + y0) rfl (.int .u8 (x0 : Nat)) (HX0.out) Tryz.underlying5 rfl ?_
                  simp only [Act.put, sA9, sB9, sC9]
                  refine Still.s_move rfl _ rfl (.pointer (some ⟨kb, 0, none⟩)) rfl ?_
                  simp only [Act.put, sA9, sB9, sC9]
                  refine Still.s_move rfl _ rfl (.slice (some ⟨tb, 0, none⟩) 4 4) rfl ?_
                  simp only [Act.put, sA9, sB9, sC9]
                  refine Still.s_idxS rfl _ 5 _ _ rfl (tb) (0) (4) (4) rfl .i64 (1) rfl (by decide) Tryz.underlying22 (size := 1) (by kernel_rfl) (1) (by omega) ?_
                  simp only [Act.put, sA9, sB9, sC9]
                  refine Still.s_load1 rfl _ _ rfl (tb) (1) rfl (.int .u8 (y1 : Nat)) (HT1.out) Tryz.underlying5 rfl ?_
                  simp only [Act.put, sA9, sB9, sC9]
                  refine Still.s_val rfl (.pointer (some ⟨kb, 0, none⟩)) (by unfold execOp; go_simp) ?_
                  simp only [Act.put, sA9, sB9, sC9]
                  refine Still.s_val rfl (.pointer (some ⟨kb, 2, none⟩)) (by unfold execOp; simp only [Sem.run_bind, Sem.run_pure]; rfl) ?_
                  simp only [Act.put, sA9, sB9, sC9]
                  refine Still.s_idxA rfl _ 5 _ _ rfl (kb) (2) rfl .u8 (y1) rfl ht1 Tryz.underlying175 (size := 1) (by kernel_rfl) (2 + y1) (by omega) ?_
                  simp only [Act.put, sA9, sB9, sC9]
                  refine Still.s_load1 rfl _ _ rfl (kb) (2 + y1) rfl (.int .u8 (x1 : Nat)) (HX1.out) Tryz.underlying5 rfl ?_
                  simp only [Act.put, sA9, sB9, sC9]
                  refine Still.s_move rfl _ rfl (.pointer (some ⟨kb, 0, none⟩)) rfl ?_
                  simp only [Act.put, sA9, sB9, sC9]
                  refine Still.s_move rfl _ rfl (.slice (some ⟨tb, 0, none⟩) 4 4) rfl ?_
                  simp only [Act.put, sA9, sB9, sC9]
                  refine Still.s_idxS rfl _ 5 _ _ rfl (tb) (0) (4) (4) rfl .i64 (2) rfl (by decide) Tryz.underlying22 (size := 1) (by kernel_rfl) (2) (by omega) ?_
                  simp only [Act.put, sA9, sB9, sC9]
                  refine Still.s_load1 rfl _ _ rfl (tb) (2) rfl (.int .u8 (y2 : Nat)) (HT2.out) Tryz.underlying5 rfl ?_
                  simp only [Act.put, sA9, sB9, sC9]
                  refine Still.s_val rfl (.pointer (some ⟨kb, 0, none⟩)) (by unfold execOp; go_simp) ?_
                  simp only [Act.put, sA9, sB9, sC9]
                  refine Still.s_val rfl (.pointer (some ⟨kb, 2, none⟩)) (by unfold execOp; simp only [Sem.run_bind, Sem.run_pure]; rfl) ?_
                  simp only [Act.put, sA9, sB9, sC9]
                  refine Still.s_idxA rfl _ 5 _ _ rfl (kb) (2) rfl .u8 (y2) rfl ht2 Tryz.underlying175 (size := 1) (by kernel_rfl) (2 + y2) (by omega) ?_
                  simp only [Act.put, sA9, sB9, sC9]
                  refine Still.s_load1 rfl _ _ rfl (kb) (2 + y2) rfl (.int .u8 (x2 : Nat)) (HX2.out) Tryz.underlying5 rfl ?_
                  simp only [Act.put, sA9, sB9, sC9]
                  refine Still.s_move rfl _ rfl (.pointer (some ⟨kb, 0, none⟩)) rfl ?_
                  simp only [Act.put, sA9, sB9, sC9]
                  refine Still.s_move rfl _ rfl (.slice (some ⟨tb, 0, none⟩) 4 4) rfl ?_
                  simp only [Act.put, sA9, sB9, sC9]
                  refine Still.s_idxS rfl _ 5 _ _ rfl (tb) (0) (4) (4) rfl .i64 (3) rfl (by decide) Tryz.underlying22 (size := 1) (by kernel_rfl) (3) (by omega) ?_
                  simp only [Act.put, sA9, sB9, sC9]
                  refine Still.s_load1 rfl _ _ rfl (tb) (3) rfl (.int .u8 (y3 : Nat)) (HT3.out) Tryz.underlying5 rfl ?_
                  simp only [Act.put, sA9, sB9, sC9]
                  refine Still.s_val rfl (.pointer (some ⟨kb, 0, none⟩)) (by unfold execOp; go_simp) ?_
                  simp only [Act.put, sA9, sB9, sC9]
                  refine Still.s_val rfl (.pointer (some ⟨kb, 2, none⟩)) (by unfold execOp; simp only [Sem.run_bind, Sem.run_pure]; rfl) ?_
                  simp only [Act.put, sA9, sB9, sC9]
                  refine Still.s_idxA rfl _ 5 _ _ rfl (kb) (2) rfl .u8 (y3) rfl ht3 Tryz.underlying175 (size := 1) (by kernel_rfl) (2 + y3) (by omega) ?_
                  simp only [Act.put, sA9, sB9, sC9]
                  refine Still.s_load1 rfl _ _ rfl (kb) (2 + y3) rfl (.int .u8 (x3 : Nat)) (HX3.out) Tryz.underlying5 rfl ?_
                  simp only [Act.put, sA9, sB9, sC9]
                  refine wpStill_nil ?_
                  simp only [List.drop]
                  change wpList _ _ _ _ _ w7.drew
                  refine Seg.p_lit4 rfl _ 5 _ _ _ _ rfl .u8 (x0 : Nat) (x1 : Nat) (x2 : Nat) (x3 : Nat) rfl rfl rfl rfl Tryz.underlying22 iu0 iu1 iu2 ?_
                  simp only [Act.put, sA9, sB9, sC9]
                  refine Step.p_assign rfl _ rfl (.slice (some ⟨w7.drew.heap.size, 0, none⟩) 4 4) rfl ?_
                  simp only [Act.put, sA9, sB9, sC9]
                  refine wpList_nil ?_
                  have T1 : Hid (T4 w7.drew.heap.size (fun j => if j = 0 then x0 else if j = 1 then x1 else if j = 2 then x2 else x3) (w7.drew.alloc (.cells #[.int .u8 (x0 : Nat), .int .u8 (x1 : Nat), .int .u8 (x2 : Nat), .int .u8 (x3 : Nat)] 5))) := Lib.hid (t4_new _ _ _ _ _ _ rfl rfl rfl rfl (fun j => by
                    split
                    · exact hx0
                    · split
                      · exact hx1
                      · split
                        · exact hx2
                        · exact hx3))
                  have Y1 : Hid (NR kb (4 * i) q c F v0 w (w7.drew.alloc (.cells #[.int .u8 (x0 : Nat), .int .u8 (x1 : Nat), .int .u8 (x2 : Nat), .int .u8 (x3 : Nat)] 5))) := Lib.hid ⟨Y0.out.n.drew.next ((Below.refl _ _).alloc (Nat.le_refl _) _), ⟨Y0.out.r.own.drew.alloc _, Y0.out.r.lt⟩⟩
                  generalize (w7.drew.alloc (.cells #[.int .u8 (x0 : Nat), .int .u8 (x1 : Nat), .int .u8 (x2 : Nat), .int .u8 (x3 : Nat)] 5)) = w8 at *
                  generalize w7.drew.heap.size = tb1 at *
                  clear T0 Y0 HX0 HX1 HX2 HX3 HT0 HT1 HT2 HT3
                  go_wp2
                  go_meet
                  case rel => exact ⟨tb1, _, _, rfl, rfl, hp, T1.out, Y1.out⟩
                · have H4 := Lib.hid h4
                  clear h4
                  refine Step.p_val rfl (.bool false) (by unfold execOp; have := H4.out; go_simp; try omega) ?_
                  simp only [Act.put, sA9, sB9, sC9]
                  refine Step.p_pick rfl _ _ _ rfl true rfl (.bool false) rfl ?_
                  simp only [Act.put, sA9, sB9, sC9]
                  refine wpList_nil ?_
                  go_wp2
                  go_meet
                  case rel => exact ⟨tb, _, _, rfl, rfl, hp, T0.out, Y0.out⟩
              · have HN8 := Lib.hid h8
                clear h8
                refine Step.p_val rfl (.bool false) (by unfold execOp; have := HN8.out; go_simp; try omega) ?_
                simp only [Act.put, sA9, sB9, sC9]
                refine Step.p_move rfl _ rfl (.bool false) rfl ?_
                simp only [Act.put, sA9, sB9, sC9]
                with_reducible refine Step.p_skip ?_ ?_
                · kernel_rfl
                simp only [Act.put, sA9, sB9, sC9]
                with_reducible refine Step.p_skip ?_ ?_
                · kernel_rfl
                simp only [Act.put, sA9, sB9, sC9]
                with_reducible refine Step.p_skip ?_ ?_
                · kernel_rfl
                simp only [Act.put, sA9, sB9, sC9]
                refine Step.p_pick rfl _ _ _ rfl false rfl (.bool false) rfl ?_
                simp only [Act.put, sA9, sB9, sC9]
                refine wpList_nil ?_
                go_wp2
                go_meet
                case rel => exact ⟨tb, _, _, rfl, rfl, hp, T0.out, Y0.out⟩
          obtain ⟨tb2, tF2, p2, rfl, rfl, hp2, ht2, hy2⟩ := hcut
          have T2 := Lib.hid ht2
          have Y2 := Lib.hid hy2
          clear ht2 hy2 T0 Y0
          go_wp2
          go_loopw [14] (fun a wr => ∃ (j q c : Nat) (F : Nat → Nat) (v0 : Value), j ≤ 4 ∧ a = .int .i64 j ∧ T4 tb2 tF2 wr ∧ NR kb (4 * i + j) q c F v0 w wr) (fun a _ => 4 - (RowKit.intOf a).toNat)
          case atStart => exact ⟨0, q, c, F, v0, by omega, rfl, T2.out, Y2.out⟩
          case round =>
            obtain ⟨j, q, c, F, v0, hj, rfl, ht, hy⟩ := hrel
            have T := Lib.hid ht
            have Y := Lib.hid hy
            clear ht hy T2 Y2
            by_cases hlt3 : j < 4
            · have FC : Hid (wr.drew.cell? ⟨q, 4 * (i - nk) + j, none⟩ = some (.int .u8 (F (4 * (i - nk) + j) : Nat))) := Lib.hid ((Y.out.r.own.cellAt (4 * (i - nk) + j) (by omega)).trans (bl_get F _ _ (by omega)))
              have TC : Hid (wr.drew.cell? ⟨tb2, j, none⟩ = some (.int .u8 (tF2 j : Nat))) := Lib.hid (T.out.c j hlt3)
              have l1 := Y.out.r.lt (4 * (i - nk) + j)
              have l2 := T.out.lt j
              generalize hfe : F (4 * (i - nk) + j) = e1 at *
              generalize hte : tF2 j = e2 at *
              have HE2 := Lib.hid hte
              clear hfe hte
              have D := Lib.hid Y.out.n.drew
              have OD : Hid (wr.drew.ownsRow (kb + 1) 5 1 (.slice (some ⟨q, 0, none⟩) (4 * i + j) c) (4 * i + j) (bl F (4 * i + j))) := Lib.hid Y.out.r.own.drew
              go_upto_region 35 with fail
              refine Step.begin_ (S := fun w' => w'.cell? ⟨tb2, j, none⟩ = some (.int .u8 (e2 : Nat))) 27 rfl (by kernel_rfl) TC.out ?_
              intro hS
              have SX := Lib.hid hS
              clear hS TC
              have htq : tb2 ≠ q := t4_ne T.out Y.out.r (by omega)
              have htk : tb2 ≠ kb := t4_nk T.out Y.out.n.k
              have hqk : kb ≠ q := by
                have := (OD.out.lt q rfl).1
                omega
              have HTQ := Lib.hid (And.intro htq (And.intro htk hqk))
              have TD : Hid (T4 tb2 tF2 wr.drew) := Lib.hid (T.out.block rfl)
              have RL := Lib.hid Y.out.r.lt
              clear htq htk hqk T Y
              refine Step.t_move (i := 0) rfl rfl (by kernel_rfl) (by kernel_rfl) (by kernel_rfl) SX.out _ rfl (.pointer (some ⟨kb, 0, none⟩)) rfl ?_
              simp only [Act.put, sA9, sB9, sC9]
              refine Step.t_move (i := 1) rfl rfl (by kernel_rfl) (by kernel_rfl) (by kernel_rfl) SX.out _ rfl (.pointer (some ⟨kb, 0, none⟩)) rfl ?_
              simp only [Act.put, sA9, sB9, sC9]
              refine Step.t_val (i := 2) rfl rfl (by kernel_rfl) (by kernel_rfl) (by kernel_rfl) SX.out (.pointer (some ⟨kb, 0, none⟩)) (fun w' _ => by rfl) ?_
              simp only [Act.put, sA9, sB9, sC9]
              refine Tree.t_field (i := 3) rfl rfl (by kernel_rfl) (by kernel_rfl) (by kernel_rfl) SX.out _ _ _ rfl kb 0 rfl Tryz.underlying178 rfl (sz := 1) (by kernel_rfl) (by decide) 1 rfl ?_
              simp only [Act.put, sA9, sB9, sC9]
              refine Step.t_move (i := 5) rfl rfl (by kernel_rfl) (by kernel_rfl) (by kernel_rfl) SX.out _ rfl (.pointer (some ⟨kb, 0, none⟩)) rfl ?_
              simp only [Act.put, sA9, sB9, sC9]
              refine Step.t_val (i := 6) rfl rfl (by kernel_rfl) (by kernel_rfl) (by kernel_rfl) SX.out (.pointer (some ⟨kb, 0, none⟩)) (fun w' _ => by rfl) ?_
              simp only [Act.put, sA9, sB9, sC9]
              refine Tree.t_field (i := 7) rfl rfl (by kernel_rfl) (by kernel_rfl) (by kernel_rfl) SX.out _ _ _ rfl kb 0 rfl Tryz.underlying178 rfl (sz := 1) (by kernel_rfl) (by decide) 1 rfl ?_
              simp only [Act.put, sA9, sB9, sC9]
              refine Step.t_move (i := 9) rfl rfl (by kernel_rfl) (by kernel_rfl) (by kernel_rfl) SX.out _ rfl (.int .i64 i) rfl ?_
              simp only [Act.put, sA9, sB9, sC9]
              refine Step.t_move (i := 10) rfl rfl (by kernel_rfl) (by kernel_rfl) (by kernel_rfl) SX.out _ rfl (.int .i64 nk) rfl ?_
              simp only [Act.put, sA9, sB9, sC9]
              refine Step.t_val (i := 11) rfl rfl (by kernel_rfl) (by kernel_rfl) (by kernel_rfl) SX.out (.int .i64 (i - nk : Nat)) (fun w' _ => by unfold execOp; go_simp; try (first | rfl | omega | exact (IntWalk.i64_in _ (by omega)).trans (by omega))) ?_
              simp only [Act.put, sA9, sB9, sC9]
              refine Step.t_val (i := 12) rfl rfl (by kernel_rfl) (by kernel_rfl) (by kernel_rfl) SX.out (.int .i64 (4 * (i - nk) : Nat)) (fun w' _ => by unfold execOp; go_simp; try (first | rfl | omega | exact (IntWalk.i64_in _ (by omega)).trans (by omega))) ?_
              simp only [Act.put, sA9, sB9, sC9]
              refine Step.t_move (i := 13) rfl rfl (by kernel_rfl) (by kernel_rfl) (by kernel_rfl) SX.out _ rfl (.int .i64 j) rfl ?_
              simp only [Act.put, sA9, sB9, sC9]
              refine Step.t_val (i := 14) rfl rfl (by kernel_rfl) (by kernel_rfl) (by kernel_rfl) SX.out (.int .i64 (4 * (i - nk) + j : Nat)) (fun w' _ => by unfold execOp; go_simp; try (first | rfl | omega | exact (IntWalk.i64_in _ (by omega)).trans (by omega))) ?_
              simp only [Act.put, sA9, sB9, sC9]
              refine Step.t_move (i := 17) rfl rfl (by kernel_rfl) (by kernel_rfl) (by kernel_rfl) SX.out _ rfl (.slice (some ⟨tb2, 0, none⟩) 4 4) rfl ?_
              simp only [Act.put, sA9, sB9, sC9]
              refine Step.t_move (i := 18) rfl rfl (by kernel_rfl) (by kernel_rfl) (by kernel_rfl) SX.out _ rfl (.int .i64 j) rfl ?_
              simp only [Act.put, sA9, sB9, sC9]
              refine Step.t_index (i := 19) rfl rfl (by kernel_rfl) (by kernel_rfl) (by kernel_rfl) SX.out _ 5 _ _ rfl tb2 0 4 4 rfl j rfl hlt3 1 Tryz.underlying22 (by kernel_rfl) ?_
              simp only [Act.put, sA9, sB9, sC9]
              refine Tree.t_load1 (i := 20) rfl rfl (by kernel_rfl) (by kernel_rfl) (by kernel_rfl) SX.out _ _ rfl tb2 (0 + j * 1) rfl (.int .u8 (e2 : Nat)) (fun w' hw' => by rw [Nat.zero_add, Nat.mul_one]; exact hw') Tryz.underlying5 rfl ?_
              simp only [Act.put, sA9, sB9, sC9]
              refine Step.t_two (i := 4) (j := 8) rfl rfl rfl rfl (by kernel_rfl) ?_ ?_
              · as_aux_lemma =>
                  refine w_load1 _ _ rfl kb 1 rfl (.slice (some ⟨q, 0, none⟩) (4 * i + j) c) D.out.k.c1 Tryz.underlying22 rfl ?_
                  refine ⟨SX.out, ?_⟩
                  simp only [Act.put, sA9, sB9, sC9]
                  refine Step.t_one (i := 8) rfl rfl (by kernel_rfl) ?_
                  refine w_load1 _ _ rfl kb 1 rfl (.slice (some ⟨q, 0, none⟩) (4 * i + j) c) D.out.k.c1 Tryz.underlying22 rfl ?_
                  refine ⟨SX.out, ?_⟩
                  simp only [Act.put, sA9, sB9, sC9]
                  refine Step.t_index (i := 15) rfl rfl (by kernel_rfl) (by kernel_rfl) (by kernel_rfl) SX.out _ 5 _ _ rfl q 0 (4 * i + j) c rfl (4 * (i - nk) + j) rfl (by omega) 1 Tryz.underlying22 (by kernel_rfl) ?_
                  simp only [Act.put, sA9, sB9, sC9]
                  refine Step.t_one (i := 16) rfl rfl (by kernel_rfl) ?_
                  refine w_load1 _ _ rfl q (0 + (4 * (i - nk) + j) * 1) rfl (.int .u8 (e1 : Nat)) (by rw [Nat.zero_add, Nat.mul_one]; exact FC.out) Tryz.underlying5 rfl ?_
                  refine ⟨SX.out, ?_⟩
                  simp only [Act.put, sA9, sB9, sC9]
                  refine Step.t_val (i := 21) rfl rfl (by kernel_rfl) (by kernel_rfl) (by kernel_rfl) SX.out (.int .u8 (e1 ^^^ e2 : Nat)) (fun w' _ => by unfold execOp; go_simp; exact xor_u8 _ _ l1 l2) ?_
                  simp only [Act.put, sA9, sB9, sC9]
                  refine Step.t_one (i := 22) rfl rfl (by kernel_rfl) ?_
                  refine w_lit1 _ _ _ rfl .u8 (e1 ^^^ e2 : Nat) rfl Tryz.underlying22 (by kernel_rfl) (by kernel_rfl) ?_
                  refine ⟨cell_below' SX.out, ?_⟩
                  simp only [Act.put, sA9, sB9, sC9]
                  refine Step.t_one (i := 23) rfl rfl (by kernel_rfl) ?_
                  have hkl : kb < wr.heap.size := D.out.k.lt
                  have htl : tb2 < wr.heap.size := TD.out.ltb
                  refine Step.w_append _ _ 22 rfl (kb + 1) 5 i0 (.int .u8 0) 1 1 Tryz.underlying22 iu0 iu1 iu2 iu3 rfl (by decide) (.slice (some ⟨q, 0, none⟩) (4 * i + j) c) (4 * i + j) _ rfl (OD.out.alloc _) ⟨wr.drew.heap.size, 0, none⟩ 1 1 [.int .u8 (e1 ^^^ e2 : Nat)] rfl rfl (cell_one_new _ _ _) (by intro u hu; simp at hu; subst hu; rfl) (by unfold maxLen; omega) (by omega) (Nat.le_trans (Nat.succ_le_of_lt hkl) (by rw [World.size_alloc]; exact Nat.le_succ wr.heap.size)) ?_
                  intro v' w5 own5 hg5 _ _
                  have hsz1 : (wr.drew.alloc (.cells #[.int .u8 (e1 ^^^ e2 : Nat)] 5)).heap.size = wr.heap.size + 1 := World.size_alloc _ _
                  have keep : ∀ b, b < wr.heap.size → b ≠ q → w5.heap[b]? = wr.drew.heap[b]? := fun b hb hne => (hg5.block b (by rw [hsz1]; omega) (fun e => hne (Option.some.inj e))).trans (heap_alloc_old wr.drew _ hb)
                  have T5 := Lib.hid (TD.out.block (w' := w5) (keep tb2 htl HTQ.out.1))
                  have K5 := D.out.k.block (keep kb hkl HTQ.out.2.2)
                  have B5 : Below kb w w5 := (D.out.bel.alloc (Nat.le_of_lt hkl) _).grown hg5 (by rw [hsz1]; omega) (fun j hj => by have h1 := (OD.out.lt j hj).1; omega)
                  rw [bl_push] at own5
                  rcases own5.2 with ⟨_, h'⟩ | ⟨q5, c5, _, rfl, hq5, _⟩
                  · omega
                  have N5 : Hid (N2 kb v0 (.slice (some ⟨q, 0, none⟩) (4 * i + j) c) w w5) := Lib.hid ⟨K5, B5⟩
                  have O5 := Lib.hid own5
                  have S5 := T5.out.c j hlt3
                  rw [HE2.out] at S5
                  refine ⟨S5, ?_⟩
                  simp only [Act.put, sA9, sB9, sC9]
                  clear own5 hg5 keep K5 B5
                  refine Step.t_val (i := 24) rfl rfl (by kernel_rfl) (by kernel_rfl) (by kernel_rfl) S5 (.pointer (some ⟨kb, 0, none⟩)) (fun w' _ => by rfl) ?_
                  simp only [Act.put, sA9, sB9, sC9]
                  refine Tree.t_field (i := 25) rfl rfl (by kernel_rfl) (by kernel_rfl) (by kernel_rfl) S5 _ _ _ rfl kb 0 rfl Tryz.underlying178 rfl (sz := 1) (by kernel_rfl) (by decide) 1 rfl ?_
                  simp only [Act.put, sA9, sB9, sC9]
                  clear S5
                  refine Step.t_one (i := 26) rfl rfl (by kernel_rfl) ?_
                  refine w_list1 _ _ rfl kb rfl (some ⟨q5, 0, none⟩) (4 * i + j + 1) c5 rfl N5.out.k ?_
                  intro w6 hk hg
                  have Z6 : Hid (T4 tb2 tF2 w6 ∧ NR kb (4 * i + (j + 1)) q5 c5 (updN F (4 * i + j) (e1 ^^^ e2)) v0 w w6) := Lib.hid ⟨T5.out.block (hg.block tb2 T5.out.ltb (fun e => HTQ.out.2.1 (Option.some.inj e))), N5.out.gb hk hg, O5.out.kept hg (.inr (by simp only [Value.ownBlock]; intro e; cases e; omega)), updN_lt RL.out (x8 l1 l2) _⟩
                  have S6 := Z6.out.1.c j hlt3
                  rw [HE2.out] at S6
                  refine ⟨S6, ?_⟩
                  simp only [Act.put]
                  refine Step.t_end (by kernel_rfl) ?_
                  clear hk hg S6 N5 T5 O5 hq5
                  go_wp2
                  exact ⟨⟨j + 1, _, _, _, _, by omega, by go_num, Z6.out⟩, by simp [RowKit.intOf]; omega⟩
              · refine w_load1 _ _ rfl kb 1 rfl (.slice (some ⟨q, 0, none⟩) (4 * i + j) c) D.out.k.c1 Tryz.underlying22 rfl ?_
                refine ⟨SX.out, ?_⟩
                simp only [Act.put, sA9, sB9, sC9]
                refine Step.t_index (i := 15) rfl rfl (by kernel_rfl) (by kernel_rfl) (by kernel_rfl) SX.out _ 5 _ _ rfl q 0 (4 * i + j) c rfl (4 * (i - nk) + j) rfl (by omega) 1 Tryz.underlying22 (by kernel_rfl) ?_
                simp only [Act.put, sA9, sB9, sC9]
                refine Step.t_two (i := 4) (j := 16) rfl rfl rfl rfl (by kernel_rfl) ?_ ?_
                · as_aux_lemma =>
                    refine w_load1 _ _ rfl kb 1 rfl (.slice (some ⟨q, 0, none⟩) (4 * i + j) c) D.out.k.c1 Tryz.underlying22 rfl ?_
                    refine ⟨SX.out, ?_⟩
                    simp only [Act.put, sA9, sB9, sC9]
                    refine Step.t_one (i := 16) rfl rfl (by kernel_rfl) ?_
                    refine w_load1 _ _ rfl q (0 + (4 * (i - nk) + j) * 1) rfl (.int .u8 (e1 : Nat)) (by rw [Nat.zero_add, Nat.mul_one]; exact FC.out) Tryz.underlying5 rfl ?_
                    refine ⟨SX.out, ?_⟩
                    simp only [Act.put, sA9, sB9, sC9]
                    refine Step.t_val (i := 21) rfl rfl (by kernel_rfl) (by kernel_rfl) (by kernel_rfl) SX.out (.int .u8 (e1 ^^^ e2 : Nat)) (fun w' _ => by unfold execOp; go_simp; exact xor_u8 _ _ l1 l2) ?_
                    simp only [Act.put, sA9, sB9, sC9]
                    refine Step.t_one (i := 22) rfl rfl (by kernel_rfl) ?_
                    refine w_lit1 _ _ _ rfl .u8 (e1 ^^^ e2 : Nat) rfl Tryz.underlying22 (by kernel_rfl) (by kernel_rfl) ?_
                    refine ⟨cell_below' SX.out, ?_⟩
                    simp only [Act.put, sA9, sB9, sC9]
                    refine Step.t_one (i := 23) rfl rfl (by kernel_rfl) ?_
                    have hkl : kb < wr.heap.size := D.out.k.lt
                    have htl : tb2 < wr.heap.size := TD.out.ltb
                    refine Step.w_append _ _ 22 rfl (kb + 1) 5 i0 (.int .u8 0) 1 1 Tryz.underlying22 iu0 iu1 iu2 iu3 rfl (by decide) (.slice (some ⟨q, 0, none⟩) (4 * i + j) c) (4 * i + j) _ rfl (OD.out.alloc _) ⟨wr.drew.heap.size, 0, none⟩ 1 1 [.int .u8 (e1 ^^^ e2 : Nat)] rfl rfl (cell_one_new _ _ _) (by intro u hu; simp at hu; subst hu; rfl) (by unfold maxLen; omega) (by omega) (Nat.le_trans (Nat.succ_le_of_lt hkl) (by rw [World.size_alloc]; exact Nat.le_succ wr.heap.size)) ?_
                    intro v' w5 own5 hg5 _ _
                    have hsz1 : (wr.drew.alloc (.cells #[.int .u8 (e1 ^^^ e2 : Nat)] 5)).heap.size = wr.heap.size + 1 := World.size_alloc _ _
                    have keep : ∀ b, b < wr.heap.size → b ≠ q → w5.heap[b]? = wr.drew.heap[b]? := fun b hb hne => (hg5.block b (by rw [hsz1]; omega) (fun e => hne (Option.some.inj e))).trans (heap_alloc_old wr.drew _ hb)
                    have T5 := Lib.hid (TD.out.block (w' := w5) (keep tb2 htl HTQ.out.1))
                    have K5 := D.out.k.block (keep kb hkl HTQ.out.2.2)
                    have B5 : Below kb w w5 := (D.out.bel.alloc (Nat.le_of_lt hkl) _).grown hg5 (by rw [hsz1]; omega) (fun j hj => by have h1 := (OD.out.lt j hj).1; omega)
                    rw [bl_push] at own5
                    rcases own5.2 with ⟨_, h'⟩ | ⟨q5, c5, _, rfl, hq5, _⟩
                    · omega
                    have N5 : Hid (N2 kb v0 (.slice (some ⟨q, 0, none⟩) (4 * i + j) c) w w5) := Lib.hid ⟨K5, B5⟩
                    have O5 := Lib.hid own5
                    have S5 := T5.out.c j hlt3
                    rw [HE2.out] at S5
                    refine ⟨S5, ?_⟩
                    simp only [Act.put, sA9, sB9, sC9]
                    clear own5 hg5 keep K5 B5
                    refine Step.t_val (i := 24) rfl rfl (by kernel_rfl) (by kernel_rfl) (by kernel_rfl) S5 (.pointer (some ⟨kb, 0, none⟩)) (fun w' _ => by rfl) ?_
                    simp only [Act.put, sA9, sB9, sC9]
                    refine Tree.t_field (i := 25) rfl rfl (by kernel_rfl) (by kernel_rfl) (by kernel_rfl) S5 _ _ _ rfl kb 0 rfl Tryz.underlying178 rfl (sz := 1) (by kernel_rfl) (by decide) 1 rfl ?_
                    simp only [Act.put, sA9, sB9, sC9]
                    clear S5
                    refine Step.t_one (i := 26) rfl rfl (by kernel_rfl) ?_
                    refine w_list1 _ _ rfl kb rfl (some ⟨q5, 0, none⟩) (4 * i + j + 1) c5 rfl N5.out.k ?_
                    intro w6 hk hg
                    have Z6 : Hid (T4 tb2 tF2 w6 ∧ NR kb (4 * i + (j + 1)) q5 c5 (updN F (4 * i + j) (e1 ^^^ e2)) v0 w w6) := Lib.hid ⟨T5.out.block (hg.block tb2 T5.out.ltb (fun e => HTQ.out.2.1 (Option.some.inj e))), N5.out.gb hk hg, O5.out.kept hg (.inr (by simp only [Value.ownBlock]; intro e; cases e; omega)), updN_lt RL.out (x8 l1 l2) _⟩
                    have S6 := Z6.out.1.c j hlt3
                    rw [HE2.out] at S6
                    refine ⟨S6, ?_⟩
                    simp only [Act.put]
                    refine Step.t_end (by kernel_rfl) ?_
                    clear hk hg S6 N5 T5 O5 hq5
                    go_wp2
                    exact ⟨⟨j + 1, _, _, _, _, by omega, by go_num, Z6.out⟩, by simp [RowKit.intOf]; omega⟩
                · refine w_load1 _ _ rfl q (0 + (4 * (i - nk) + j) * 1) rfl (.int .u8 (e1 : Nat)) (by rw [Nat.zero_add, Nat.mul_one]; exact FC.out) Tryz.underlying5 rfl ?_
                  refine ⟨SX.out, ?_⟩
                  simp only [Act.put, sA9, sB9, sC9]
                  refine Step.t_val (i := 21) rfl rfl (by kernel_rfl) (by kernel_rfl) (by kernel_rfl) SX.out (.int .u8 (e1 ^^^ e2 : Nat)) (fun w' _ => by unfold execOp; go_simp; exact xor_u8 _ _ l1 l2) ?_
                  simp only [Act.put, sA9, sB9, sC9]
                  refine Step.t_two (i := 4) (j := 22) rfl rfl rfl rfl (by kernel_rfl) ?_ ?_
                  · as_aux_lemma =>
                      refine w_load1 _ _ rfl kb 1 rfl (.slice (some ⟨q, 0, none⟩) (4 * i + j) c) D.out.k.c1 Tryz.underlying22 rfl ?_
                      refine ⟨SX.out, ?_⟩
                      simp only [Act.put, sA9, sB9, sC9]
                      refine Step.t_one (i := 22) rfl rfl (by kernel_rfl) ?_
                      refine w_lit1 _ _ _ rfl .u8 (e1 ^^^ e2 : Nat) rfl Tryz.underlying22 (by kernel_rfl) (by kernel_rfl) ?_
                      refine ⟨cell_below' SX.out, ?_⟩
                      simp only [Act.put, sA9, sB9, sC9]
                      refine Step.t_one (i := 23) rfl rfl (by kernel_rfl) ?_
                      have hkl : kb < wr.heap.size := D.out.k.lt
                      have htl : tb2 < wr.heap.size := TD.out.ltb
                      refine Step.w_append _ _ 22 rfl (kb + 1) 5 i0 (.int .u8 0) 1 1 Tryz.underlying22 iu0 iu1 iu2 iu3 rfl (by decide) (.slice (some ⟨q, 0, none⟩) (4 * i + j) c) (4 * i + j) _ rfl (OD.out.alloc _) ⟨wr.drew.heap.size, 0, none⟩ 1 1 [.int .u8 (e1 ^^^ e2 : Nat)] rfl rfl (cell_one_new _ _ _) (by intro u hu; simp at hu; subst hu; rfl) (by unfold maxLen; omega) (by omega) (Nat.le_trans (Nat.succ_le_of_lt hkl) (by rw [World.size_alloc]; exact Nat.le_succ wr.heap.size)) ?_
                      intro v' w5 own5 hg5 _ _
                      have hsz1 : (wr.drew.alloc (.cells #[.int .u8 (e1 ^^^ e2 : Nat)] 5)).heap.size = wr.heap.size + 1 := World.size_alloc _ _
                      have keep : ∀ b, b < wr.heap.size → b ≠ q → w5.heap[b]? = wr.drew.heap[b]? := fun b hb hne => (hg5.block b (by rw [hsz1]; omega) (fun e => hne (Option.some.inj e))).trans (heap_alloc_old wr.drew _ hb)
                      have T5 := Lib.hid (TD.out.block (w' := w5) (keep tb2 htl HTQ.out.1))
                      have K5 := D.out.k.block (keep kb hkl HTQ.out.2.2)
                      have B5 : Below kb w w5 := (D.out.bel.alloc (Nat.le_of_lt hkl) _).grown hg5 (by rw [hsz1]; omega) (fun j hj => by have h1 := (OD.out.lt j hj).1; omega)
                      rw [bl_push] at own5
                      rcases own5.2 with ⟨_, h'⟩ | ⟨q5, c5, _, rfl, hq5, _⟩
                      · omega
                      have N5 : Hid (N2 kb v0 (.slice (some ⟨q, 0, none⟩) (4 * i + j) c) w w5) := Lib.hid ⟨K5, B5⟩
                      have O5 := Lib.hid own5
                      have S5 := T5.out.c j hlt3
                      rw [HE2.out] at S5
                      refine ⟨S5, ?_⟩
                      simp only [Act.put, sA9, sB9, sC9]
                      clear own5 hg5 keep K5 B5
                      refine Step.t_val (i := 24) rfl rfl (by kernel_rfl) (by kernel_rfl) (by kernel_rfl) S5 (.pointer (some ⟨kb, 0, none⟩)) (fun w' _ => by rfl) ?_
                      simp only [Act.put, sA9, sB9, sC9]
                      refine Tree.t_field (i := 25) rfl rfl (by kernel_rfl) (by kernel_rfl) (by kernel_rfl) S5 _ _ _ rfl kb 0 rfl Tryz.underlying178 rfl (sz := 1) (by kernel_rfl) (by decide) 1 rfl ?_
                      simp only [Act.put, sA9, sB9, sC9]
                      clear S5
                      refine Step.t_one (i := 26) rfl rfl (by kernel_rfl) ?_
                      refine w_list1 _ _ rfl kb rfl (some ⟨q5, 0, none⟩) (4 * i + j + 1) c5 rfl N5.out.k ?_
                      intro w6 hk hg
                      have Z6 : Hid (T4 tb2 tF2 w6 ∧ NR kb (4 * i + (j + 1)) q5 c5 (updN F (4 * i + j) (e1 ^^^ e2)) v0 w w6) := Lib.hid ⟨T5.out.block (hg.block tb2 T5.out.ltb (fun e => HTQ.out.2.1 (Option.some.inj e))), N5.out.gb hk hg, O5.out.kept hg (.inr (by simp only [Value.ownBlock]; intro e; cases e; omega)), updN_lt RL.out (x8 l1 l2) _⟩
                      have S6 := Z6.out.1.c j hlt3
                      rw [HE2.out] at S6
                      refine ⟨S6, ?_⟩
                      simp only [Act.put]
                      refine Step.t_end (by kernel_rfl) ?_
                      clear hk hg S6 N5 T5 O5 hq5
                      go_wp2
                      exact ⟨⟨j + 1, _, _, _, _, by omega, by go_num, Z6.out⟩, by simp [RowKit.intOf]; omega⟩
                  · as_aux_lemma =>
                      refine w_lit1 _ _ _ rfl .u8 (e1 ^^^ e2 : Nat) rfl Tryz.underlying22 (by kernel_rfl) (by kernel_rfl) ?_
                      refine ⟨cell_below' SX.out, ?_⟩
                      simp only [Act.put, sA9, sB9, sC9]
                      refine Step.t_one (i := 4) rfl rfl (by kernel_rfl) ?_
                      refine w_load1 _ _ rfl kb 1 rfl (.slice (some ⟨q, 0, none⟩) (4 * i + j) c) (cell_below' D.out.k.c1) Tryz.underlying22 rfl ?_
                      refine ⟨cell_below' SX.out, ?_⟩
                      simp only [Act.put, sA9, sB9, sC9]
                      refine Step.t_one (i := 23) rfl rfl (by kernel_rfl) ?_
                      have hkl : kb < wr.heap.size := D.out.k.lt
                      have htl : tb2 < wr.heap.size := TD.out.ltb
                      refine Step.w_append _ _ 22 rfl (kb + 1) 5 i0 (.int .u8 0) 1 1 Tryz.underlying22 iu0 iu1 iu2 iu3 rfl (by decide) (.slice (some ⟨q, 0, none⟩) (4 * i + j) c) (4 * i + j) _ rfl (OD.out.alloc _) ⟨wr.drew.heap.size, 0, none⟩ 1 1 [.int .u8 (e1 ^^^ e2 : Nat)] rfl rfl (cell_one_new _ _ _) (by intro u hu; simp at hu; subst hu; rfl) (by unfold maxLen; omega) (by omega) (Nat.le_trans (Nat.succ_le_of_lt hkl) (by rw [World.size_alloc]; exact Nat.le_succ wr.heap.size)) ?_
                      intro v' w5 own5 hg5 _ _
                      have hsz1 : (wr.drew.alloc (.cells #[.int .u8 (e1 ^^^ e2 : Nat)] 5)).heap.size = wr.heap.size + 1 := World.size_alloc _ _
                      have keep : ∀ b, b < wr.heap.size → b ≠ q → w5.heap[b]? = wr.drew.heap[b]? := fun b hb hne => (hg5.block b (by rw [hsz1]; omega) (fun e => hne (Option.some.inj e))).trans (heap_alloc_old wr.drew _ hb)
                      have T5 := Lib.hid (TD.out.block (w' := w5) (keep tb2 htl HTQ.out.1))
                      have K5 := D.out.k.block (keep kb hkl HTQ.out.2.2)
                      have B5 : Below kb w w5 := (D.out.bel.alloc (Nat.le_of_lt hkl) _).grown hg5 (by rw [hsz1]; omega) (fun j hj => by have h1 := (OD.out.lt j hj).1; omega)
                      rw [bl_push] at own5
                      rcases own5.2 with ⟨_, h'⟩ | ⟨q5, c5, _, rfl, hq5, _⟩
                      · omega
                      have N5 : Hid (N2 kb v0 (.slice (some ⟨q, 0, none⟩) (4 * i + j) c) w w5) := Lib.hid ⟨K5, B5⟩
                      have O5 := Lib.hid own5
                      have S5 := T5.out.c j hlt3
                      rw [HE2.out] at S5
                      refine ⟨S5, ?_⟩
                      simp only [Act.put, sA9, sB9, sC9]
                      clear own5 hg5 keep K5 B5
                      refine Step.t_val (i := 24) rfl rfl (by kernel_rfl) (by kernel_rfl) (by kernel_rfl) S5 (.pointer (some ⟨kb, 0, none⟩)) (fun w' _ => by rfl) ?_
                      simp only [Act.put, sA9, sB9, sC9]
                      refine Tree.t_field (i := 25) rfl rfl (by kernel_rfl) (by kernel_rfl) (by kernel_rfl) S5 _ _ _ rfl kb 0 rfl Tryz.underlying178 rfl (sz := 1) (by kernel_rfl) (by decide) 1 rfl ?_
                      simp only [Act.put, sA9, sB9, sC9]
                      clear S5
                      refine Step.t_one (i := 26) rfl rfl (by kernel_rfl) ?_
                      refine w_list1 _ _ rfl kb rfl (some ⟨q5, 0, none⟩) (4 * i + j + 1) c5 rfl N5.out.k ?_
                      intro w6 hk hg
                      have Z6 : Hid (T4 tb2 tF2 w6 ∧ NR kb (4 * i + (j + 1)) q5 c5 (updN F (4 * i + j) (e1 ^^^ e2)) v0 w w6) := Lib.hid ⟨T5.out.block (hg.block tb2 T5.out.ltb (fun e => HTQ.out.2.1 (Option.some.inj e))), N5.out.gb hk hg, O5.out.kept hg (.inr (by simp only [Value.ownBlock]; intro e; cases e; omega)), updN_lt RL.out (x8 l1 l2) _⟩
                      have S6 := Z6.out.1.c j hlt3
                      rw [HE2.out] at S6
                      refine ⟨S6, ?_⟩
                      simp only [Act.put]
                      refine Step.t_end (by kernel_rfl) ?_
                      clear hk hg S6 N5 T5 O5 hq5
                      go_wp2
                      exact ⟨⟨j + 1, _, _, _, _, by omega, by go_num, Z6.out⟩, by simp [RowKit.intOf]; omega⟩
            · obtain rfl : j = 4 := by omega
              go_wp2
              go_roundw
              case rel => exact ⟨i + 1, p2, q, c, F, v0, by omega, by omega, by go_num, rfl, hp2, Y.out.n, Y.out.r⟩
              case measure => simp [RowKit.intOf]; omega
        · go_wp2
          go_ret2
          exact ⟨kb, rfl, by rw [← HKB.out]; exact X.out.bel⟩
end Go.Proofs.YtmifebcaifbmoaaGreatDoor.Ref2
end
