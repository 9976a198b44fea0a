/- Parts of the proof of TweakFlips. RefF: cofferref03: Find, Block, schedule. RefL: cofferref03.New: the document's cipher of LRW, made. Made: cofferlaw03: Pick.made of a row of LRW. Parts2: tweak: digestPart's function, digestTwo: keys and digests of keys laid into a core. -/
import Derived.Test.YtmifebcaifbmoaaGreatDoorK31
import Derived.Test.YtmifebcaifbmoaaGreatDoorK29
import Derived.Test.YtmifebcaifbmoaaGreatDoorK30
import Derived.Test.YtmifebcaifbmoaaGreatDoorK14
import Derived.Test.YtmifebcaifbmoaaGreatDoorK20
import Derived.Test.YtmifebcaifbmoaaGreatDoorK28
/- RefF -/
section
namespace Go.Proofs.YtmifebcaifbmoaaGreatDoor.Ref3
open Go.RowKit Go.Lib Go.Proofs.YtmifebcaifbmoaaGreatDoor.Blk Go.Proofs.YtmifebcaifbmoaaGreatDoor.Tab Go.Proofs.YtmifebcaifbmoaaGreatDoor.Byts Go.Proofs.YtmifebcaifbmoaaGreatDoor.Push

theorem name_inj : ∀ i, i < 52 → ∀ k, k < 52 → (name i).data.toList = (name k).data.toList → i = k := by decide +kernel

set_option maxRecDepth 100000 in
set_option maxHeartbeats 4000000 in
theorem find_any (t0 : Nat) (ht : t0 < 52) (w : World) (hM : Modes w) : Calls Tryz.prog 18 #[.string (name t0)] w fun e w' => e = .returned (.tuple #[.agg (rowL t0).toArray, .bool true]) ∧ Below w.heap.size w w' := by
  have NE := Lib.hid (fun i hi he => name_inj i hi t0 ht he)
  obtain ⟨s2, s3, z1, z2, hL⟩ : ∃ s2 s3 z1 z2, rowL t0 = [.string (name t0), .string s2, .string s3, .int .i64 z1, .int .i64 z2] := by
    unfold rowL
    split
    · rename_i h; subst h; exact ⟨_, _, _, _, rfl⟩
    · exact ⟨_, _, _, _, rfl⟩
  have N0 : Hid (∀ k, (rowL k)[0]? = some (.string (name k))) := Lib.hid fun k => by
    unfold rowL
    split
    · rename_i h; subst h; rfl
    · rfl
  have HL := Lib.hid hL
  have HR := Lib.hid (fun w (h : Modes w) => rows_any w h)
  have HM := Lib.hid hM
  have B1 := Lib.hid ((Below.refl w.heap.size w).alloc (Nat.le_refl _) (.cells #[.string ⟨#[]⟩, .string ⟨#[]⟩, .string ⟨#[]⟩, .int .i64 0, .int .i64 0] 45))
  have R1 := Lib.hid (heap_alloc_new w (.cells #[.string ⟨#[]⟩, .string ⟨#[]⟩, .string ⟨#[]⟩, .int .i64 0, .int .i64 0] 45))
  clear hM hL
  generalize hsp : name t0 = spec at *
  have HSP := Lib.hid hsp
  clear hsp
  go_enter Tryz.func18, Tryz.ntmps18
  go_upto_region 1 with fail
  generalize w.alloc (.cells #[.string ⟨#[]⟩, .string ⟨#[]⟩, .string ⟨#[]⟩, .int .i64 0, .int .i64 0] 45) = w1 at *
  go_upto_region 2 with (go_at_call 42; refine (HR.out _ (HM.out.below B1.out)).mono ?_; rintro e w2 ⟨v, xs, rfl, hown, hrows, hb⟩)
  obtain ⟨g, c, rfl, hg1, hc1, hc2, hcell⟩ := own_row hown (by decide)
  have R2 := Lib.hid ((hb.block _ (Array.getElem?_eq_some_iff.1 R1.out).1).trans R1.out)
  have B2 := Lib.hid (B1.out.trans (hb.mono B1.out.size))
  have HC : Hid (∀ k, k < 52 → w2.rangeAt g (0 + k * 5) (rowL k)) := Lib.hid fun k hk j u hj => by
    have hj5 : j < 5 := by have := (List.getElem?_eq_some_iff.1 hj).1; rwa [rowL_len] at this
    rw [hcell _ (by omega), show 0 + k * 5 + j = 5 * k + j by omega, hrows k hk j hj5, hj]
  clear hcell hown hrows hb HR HM R1 B1
  go_wp2
  go_loopw [5] (fun i wr => ∃ k : Nat, k ≤ t0 ∧ i = .int .i64 k ∧ wr = w2) (fun i _ => 52 - (Lib.intOf i).toNat)
  case atStart => exact ⟨0, by omega, rfl, rfl⟩
  case round =>
    obtain ⟨k, hk, rfl, hw⟩ := hrel
    subst hw
    have HK := Lib.hid (HC.out k (by omega))
    have HN0 : Hid (wr.cell? ⟨g, k * 5, none⟩ = some (.string (name k))) := Lib.hid (by
      have := HK.out 0 _ (N0.out k)
      rwa [Nat.zero_add, Nat.add_zero] at this)
    go_upto_region 5 with fail
    refine wp_region_lit ?_
    have hk52 : k < 52 := by omega
    refine Step.p_move rfl _ rfl (.slice (some ⟨g, 0, none⟩) 52 c) rfl ?_
    simp only [Act.put, List.setIfInBounds_toArray, List.set_cons_zero, List.set_cons_succ]
    refine Step.p_move rfl _ rfl (.int .i64 k) rfl ?_
    simp only [Act.put, List.setIfInBounds_toArray, List.set_cons_zero, List.set_cons_succ]
    refine Step.p_index rfl _ 45 _ _ rfl g 0 52 c rfl k rfl hk52 5 Tryz.underlying81 (by kernel_rfl) ?_
    simp only [Act.put, List.setIfInBounds_toArray, List.set_cons_zero, List.set_cons_succ]
    refine Tree.p_field rfl _ _ _ rfl g (0 + k * 5) rfl Tryz.underlying45 rfl (sz := 1) (by kernel_rfl) (by decide) (k * 5) (by rw [Nat.zero_add]; rfl) ?_
    simp only [Act.put, List.setIfInBounds_toArray, List.set_cons_zero, List.set_cons_succ]
    refine Tree.p_load1 rfl _ _ rfl (g) (k * 5) rfl (.string (name k)) (HN0.out) Tryz.underlying9 rfl ?_
    simp only [Act.put, List.setIfInBounds_toArray, List.set_cons_zero, List.set_cons_succ]
    refine Step.p_move rfl _ rfl (.string spec) rfl ?_
    simp only [Act.put, List.setIfInBounds_toArray, List.set_cons_zero, List.set_cons_succ]
    by_cases he : k = t0
    · have HE : name k = spec := by rw [he]; exact HSP.out
      subst he
      refine Step.p_val rfl (.bool true) (by unfold execOp; go_simp; try (first | exact congrArg ByteArray.toList HE | (rw [HE]) | simp [HE])) ?_
      simp only [Act.put, List.setIfInBounds_toArray, List.set_cons_zero, List.set_cons_succ]
      refine wpList_nil ?_
      go_upto_region 6 with fail
      refine wp_region_lit ?_
      refine Step.p_move rfl _ rfl (.slice (some ⟨g, 0, none⟩) 52 c) rfl ?_
      simp only [Act.put, List.setIfInBounds_toArray, List.set_cons_zero, List.set_cons_succ]
      refine Step.p_move rfl _ rfl (.int .i64 k) rfl ?_
      simp only [Act.put, List.setIfInBounds_toArray, List.set_cons_zero, List.set_cons_succ]
      refine Step.p_index rfl _ 45 _ _ rfl g 0 52 c rfl k rfl hk52 5 Tryz.underlying81 (by kernel_rfl) ?_
      simp only [Act.put, List.setIfInBounds_toArray, List.set_cons_zero, List.set_cons_succ]
      refine Tree.p_loadmid rfl _ _ rfl (g) (0 + k * 5) rfl [.string spec, .string s2, .string s3, .int .i64 z1, .int .i64 z2] ((HL.out ▸ HK.out)) Tryz.underlying45 rfl (by kernel_rfl) ?_
      simp only [Act.put, List.setIfInBounds_toArray, List.set_cons_zero, List.set_cons_succ]
      refine Cell.p_storerow rfl 45 _ _ rfl w.heap.size rfl _ rfl (by kernel_rfl) (by simp [Value.oneCell']) R2.out rfl ?_
      intro w3 hr3 hg3 _
      simp only [Act.put]
      refine Step.p_assign rfl _ rfl (.bool true) rfl ?_
      simp only [Act.put, List.setIfInBounds_toArray, List.set_cons_zero, List.set_cons_succ]
      refine wpList_nil ?_
      have B3 := Lib.hid (B2.out.grown hg3 B2.out.size (fun j hj => by cases hj; exact Nat.le_refl _))
      clear hg3
      go_wp2
      exact Cell.ret_row_tmp rfl rfl hr3 Tryz.underlying45 rfl (by kernel_rfl) rfl (v := .bool true) rfl ⟨by rw [HL.out], B3.out⟩
    · have HE : ¬ (name k).toList = spec.toList := fun e => he (NE.out k hk52 (by rw [← ByteArray.toList_eq, ← ByteArray.toList_eq]; exact e))
      refine Step.p_val rfl (.bool false) (by unfold execOp; go_simp; try exact HE) ?_
      simp only [Act.put, List.setIfInBounds_toArray, List.set_cons_zero, List.set_cons_succ]
      refine wpList_nil ?_
      go_wp2
      exact ⟨⟨k + 1, by omega, by go_num, by first | rfl | trivial⟩, by simp [Lib.intOf]; omega⟩

/-- 16 bytes of a list -/
structure BkW (g off : Nat) (F : Nat → Nat) (at_ B : Nat) (w w' : World) (k : Nat) : Prop where
  z : Arr w' B .u8 16 27 (fun _ => 0)
  x : Arr w' (B + 1) .u8 16 27 (fun i => if i < k then (F (at_ + i) : Nat) else 0)
  bel : Below B w w'
set_option maxRecDepth 100000 in
set_option maxHeartbeats 4000000 in
theorem block_any (g off n cap at_ : Nat) (F : Nat → Nat) (hat : at_ + 16 ≤ n) (hnc : n ≤ cap) (hcm : cap ≤ 9223372036854775807) (w : World) (hB : BL w (some ⟨g, off, none⟩) n F) : Calls Tryz.prog 46 #[.slice (some ⟨g, off, none⟩) n cap, .int .i64 at_] w fun e w' => e = .returned (.agg (arr .u8 16 fun i => (F (at_ + i) : Nat))) ∧ Below w.heap.size w w' := by
  have z16 : (Tryz.prog.info? 27).bind (·.zero) = some (.agg (arr .u8 16 fun _ => 0)) := by kernel_rfl
  have HB := Lib.hid hB
  clear hB
  go_enter Tryz.func46, Tryz.ntmps46
  go_upto_region 0 with fail
  refine wp_region_lit ?_
  refine New.p_newarr rfl 27 rfl .u8 16 z16 ?_
  intro w1 a1 g1 s1
  simp only [Act.put, List.setIfInBounds_toArray, List.set_cons_zero, List.set_cons_succ]
  refine wpList_nil ?_
  go_upto_region 1 with fail
  refine wp_region_lit ?_
  refine New.p_newarr rfl 27 rfl .u8 16 z16 ?_
  intro w2 a2 g2 s2
  simp only [Act.put, List.setIfInBounds_toArray, List.set_cons_zero, List.set_cons_succ]
  refine wpList_nil ?_
  rw [s1] at a2 ⊢
  have E2 : Hid (BkW g off F at_ w.heap.size w w2 0) := Lib.hid ⟨Rj.bel_arr (_B := 0) a1 (Rj.bel_of_gb (_B := 0) g2), a2.congr fun i _ => by rw [if_neg (by omega)], ((Below.refl w.heap.size w).grown g1 (Nat.le_refl _) (by simp)).grown g2 (by omega) (by simp)⟩
  clear a1 g1 s1 a2 g2 s2
  go_wp2
  go_loopw [6] (fun i wr => ∃ k : Nat, k ≤ 16 ∧ i = .int .i64 k ∧ BkW g off F at_ w.heap.size w wr k) (fun i _ => 16 - (Lib.intOf i).toNat)
  case atStart => exact ⟨0, by omega, rfl, E2.out⟩
  case round =>
    obtain ⟨k, hk, rfl, hr⟩ := hrel
    have H := Lib.hid hr
    clear hr E2
    by_cases hlt : k < 16
    · obtain ⟨g', o', e, hc⟩ := HB.out (at_ + k) (by omega)
      cases e
      have HC := Lib.hid ((H.out.bel.cell (p := ⟨g, off + (at_ + k), none⟩) (Frame.block_lt hc)).trans hc)
      clear hc
      go_upto_region 5 with fail
      refine wp_region_lit ?_
      refine Step.p_move rfl _ rfl (.int .i64 k) rfl ?_
      simp only [Act.put, List.setIfInBounds_toArray, List.set_cons_zero, List.set_cons_succ]
      refine Step.p_move rfl _ rfl (.slice (some ⟨g, off, none⟩) n cap) rfl ?_
      simp only [Act.put, List.setIfInBounds_toArray, List.set_cons_zero, List.set_cons_succ]
      refine Step.p_move rfl _ rfl (.int .i64 at_) rfl ?_
      simp only [Act.put, List.setIfInBounds_toArray, List.set_cons_zero, List.set_cons_succ]
      refine Step.p_move rfl _ rfl (.int .i64 k) rfl ?_
      simp only [Act.put, List.setIfInBounds_toArray, List.set_cons_zero, List.set_cons_succ]
      refine Step.p_val rfl (.int .i64 (at_ + k : Nat)) (by unfold execOp; go_simp; try (first | rfl | exact (IntWalk.i64_in _ (by omega)).trans (by omega))) ?_
      simp only [Act.put, List.setIfInBounds_toArray, List.set_cons_zero, List.set_cons_succ]
      refine Step.p_index rfl _ 5 _ _ rfl g off n cap rfl (at_ + k) rfl (by omega) 1 Tryz.underlying22 (by kernel_rfl) ?_
      simp only [Act.put, List.setIfInBounds_toArray, List.set_cons_zero, List.set_cons_succ]
      refine Tree.p_load1 rfl _ _ rfl (g) (off + (at_ + k) * 1) rfl (.int .u8 (F (at_ + k) : Nat)) (by rw [Nat.mul_one]; exact HC.out) Tryz.underlying5 rfl ?_
      simp only [Act.put, List.setIfInBounds_toArray, List.set_cons_zero, List.set_cons_succ]
      refine Still.p_idxA rfl _ 5 _ _ rfl (w.heap.size + 1) 0 rfl .i64 k rfl hlt Tryz.underlying27 (size := 1) (by kernel_rfl) k (by omega) ?_
      simp only [Act.put, List.setIfInBounds_toArray, List.set_cons_zero, List.set_cons_succ]
      refine Still.p_storeA rfl 5 _ _ rfl (w.heap.size + 1) k rfl .u8 (F (at_ + k) : Nat) rfl H.out.x hlt (by kernel_rfl) ?_
      simp only [Act.put]
      refine wpList_nil ?_
      have H2 : Hid (BkW g off F at_ w.heap.size w (wr.setCell ⟨w.heap.size + 1, k, none⟩ (.int .u8 (F (at_ + k) : Nat))) (k + 1)) := Lib.hid ⟨H.out.z.other (by show w.heap.size ≠ w.heap.size + 1; omega) _, (H.out.x.store k _).congr fun i hi => by
        unfold upd
        by_cases e : i = k
        · rw [if_pos e, if_pos (by omega), e]
        · rw [if_neg e]
          dsimp only
          by_cases e2 : i < k
          · rw [if_pos e2, if_pos (by omega)]
          · rw [if_neg e2, if_neg (by omega)], H.out.bel.setCell (by show w.heap.size ≤ w.heap.size + 1; omega) _⟩
      clear H
      go_wp2
      exact ⟨⟨k + 1, by omega, by go_num, H2.out⟩, by simp [Lib.intOf]; omega⟩
    · obtain rfl : k = 16 := by omega
      go_wp2_with (first | (refine wpList_load_arr rfl 27 _ rfl _ rfl H.out.x Tryz.underlying27 rfl Field.info16 ?_) | (refine wpList_store_arr rfl 27 _ _ rfl _ rfl rfl H.out.z Field.info16 ?_; intro w7 a7 g7 s7))
      have B7 := Lib.hid (H.out.bel.grown g7 H.out.bel.size (fun j hj => by cases hj; exact Nat.le_refl _))
      clear g7
      refine ret_arr rfl rfl a7 Tryz.underlying27 rfl Field.info16 rfl ⟨?_, B7.out⟩
      exact congrArg (fun x => Ending.returned (.agg x)) (arr_congr fun i hi => by rw [if_pos hi])

set_option maxRecDepth 100000 in
set_option maxHeartbeats 2000000 in
theorem schedule_any (g off nk cap : Nat) (hnk : nk = 4 ∨ nk = 6 ∨ nk = 8) (F : Nat → Nat) (hF : ∀ j, F j < 256) (_hcap : 4 * nk ≤ cap) (_hcm : cap ≤ 9223372036854775807) (w : World) (hB : BL w (some ⟨g, off, none⟩) (4 * nk) F) : Calls Tryz.prog 45 #[.slice (some ⟨g, off, none⟩) (4 * nk) cap] w fun e w' => ∃ kb, e = .returned (.pointer (some ⟨kb, 0, none⟩)) ∧ Below w.heap.size w w' := by
  have CP := Lib.hid (copied_any g off (4 * nk) cap F w (by omega) (by omega) hB)
  have NW := Lib.hid (fun g' c w' h1 h2 h3 => Ref2.refNew_any g' 0 nk c hnk F hF w' h1 h2 h3)
  clear hB hnk
  go_enter Tryz.func45, Tryz.ntmps45
  go_upto_region 1 with fail
  refine wp_region_lit ?_
  refine Step.p_move rfl _ rfl (.slice (some ⟨g, off, none⟩) (4 * nk) cap) rfl ?_
  simp only [Act.put, List.setIfInBounds_toArray, List.set_cons_zero, List.set_cons_succ]
  refine Step.p_wp rfl (Step.w_callx 48 [.tmp 6] _ rfl Tryz.func48 (by kernel_rfl) rfl [.slice (some ⟨g, off, none⟩) (4 * nk) cap] rfl (CP.out) ?_)
  rintro e w1 ⟨v, rfl, ho, hb⟩
  refine ⟨_, rfl, ?_⟩
  simp only [Act.put, List.setIfInBounds_toArray, List.set_cons_zero, List.set_cons_succ]
  obtain ⟨g1, c1, rfl, e1, e2, e3, e4⟩ := ho
  have NX := Lib.hid (NW.out g1 c1 w1 (fun i hi => ⟨g1, 0, rfl, by rw [Nat.zero_add]; exact e4 i hi⟩) e2 e3)
  have B1 := Lib.hid hb
  clear hb e4 NW CP
  refine Step.p_wp rfl (Step.w_callx 85 [.tmp 7] _ rfl Tryz.func85 (by kernel_rfl) rfl [.slice (some ⟨g1, 0, none⟩) (4 * nk) c1] rfl (NX.out) ?_)
  rintro e w2 ⟨kb, rfl, hb⟩
  refine ⟨_, rfl, ?_⟩
  simp only [Act.put, List.setIfInBounds_toArray, List.set_cons_zero, List.set_cons_succ]
  have B2 := Lib.hid (B1.out.trans (hb.mono B1.out.size))
  clear hb NX B1
  refine Step.p_move rfl _ rfl (.tuple #[.pointer (some ⟨kb, 0, none⟩), .int .i64 0]) rfl ?_
  simp only [Act.put, List.setIfInBounds_toArray, List.set_cons_zero, List.set_cons_succ]
  refine Step.p_val rfl (.pointer (some ⟨kb, 0, none⟩)) (by unfold execOp; go_simp; try rfl) ?_
  simp only [Act.put, List.setIfInBounds_toArray, List.set_cons_zero, List.set_cons_succ]
  refine Step.p_val rfl (.int .i64 0) (by unfold execOp; go_simp; try rfl) ?_
  simp only [Act.put, List.setIfInBounds_toArray, List.set_cons_zero, List.set_cons_succ]
  refine Step.p_assign rfl _ rfl (.pointer (some ⟨kb, 0, none⟩)) rfl ?_
  simp only [Act.put, List.setIfInBounds_toArray, List.set_cons_zero, List.set_cons_succ]
  refine Step.p_assign rfl _ rfl (.int .i64 0) rfl ?_
  simp only [Act.put, List.setIfInBounds_toArray, List.set_cons_zero, List.set_cons_succ]
  refine wpList_nil ?_
  go_wp2
  go_ret
  exact ⟨kb, rfl, B2.out⟩
end Go.Proofs.YtmifebcaifbmoaaGreatDoor.Ref3
end

/- RefL -/
section
namespace Go.Proofs.YtmifebcaifbmoaaGreatDoor.Ref3
open Go.RowKit Go.Lib Go.Proofs.YtmifebcaifbmoaaGreatDoor.Blk Go.Proofs.YtmifebcaifbmoaaGreatDoor.Tab Go.Proofs.YtmifebcaifbmoaaGreatDoor.Byts Go.Proofs.YtmifebcaifbmoaaGreatDoor.Push

/-- the cipher's two blocks under way -/
structure LW (rb : Nat) (row : Array Value) (w w' : World) : Prop where
  row : w'.heap[rb]? = some (.cells row 45 (0, 0))
  ci : ∃ C, w'.heap[rb + 1]? = some (.cells C 99 (0, 0)) ∧ C.size = 42
  bel : Below w.heap.size w w'
  sz : w.heap.size ≤ rb
theorem LW.next {rb : Nat} {row : Array Value} {w w1 w2 : World} (h : LW rb row w w1) (hb : Below w1.heap.size w1 w2) : LW rb row w w2 := by
  obtain ⟨C, h1, h2⟩ := h.ci
  exact ⟨(hb.block rb (Array.getElem?_eq_some_iff.1 h.row).1).trans h.row, ⟨C, (hb.block _ (Array.getElem?_eq_some_iff.1 h1).1).trans h1, h2⟩, h.bel.trans (hb.mono h.bel.size), h.sz⟩
theorem LW.put {rb : Nat} {row : Array Value} {w w1 w2 : World} (h : LW rb row w w1) (C : Array Value) (hc : w2.heap[rb + 1]? = some (.cells C 99 (0, 0))) (hs : C.size = 42) (hg : w1.grownBy w2 (some (rb + 1))) : LW rb row w w2 :=
  ⟨(hg.block rb (Array.getElem?_eq_some_iff.1 h.row).1 (fun e => by cases e)).trans h.row, ⟨C, hc, hs⟩, h.bel.grown hg h.bel.size (fun j hj => by cases hj; exact Nat.le_succ_of_le h.sz), h.sz⟩

end Go.Proofs.YtmifebcaifbmoaaGreatDoor.Ref3
end

/- Made -/
section
namespace Go.Proofs.YtmifebcaifbmoaaGreatDoor.Tw
open Go.RowKit Go.Lib Go.Proofs.YtmifebcaifbmoaaGreatDoor.Blk Go.Proofs.YtmifebcaifbmoaaGreatDoor.Aes Go.Proofs.YtmifebcaifbmoaaGreatDoor.Tab Go.Proofs.YtmifebcaifbmoaaGreatDoor.Byts Go.Proofs.YtmifebcaifbmoaaGreatDoor.Push

theorem keyF_lt {n : Nat} {f : Nat → Nat} (hf : ∀ j, f j < 256) (j : Nat) : keyF n f j < 256 := by
  unfold keyF
  split
  · exact Nat.mod_lt _ (by decide)
  · exact hf _
/-- a cipher of LRW stays where bytes of no block of its own change -/
theorem CiphLrw.over {key : Nat → Nat} {nk cb g : Nat} {w w' : World} {cur : Array Value} {z : Nat} (h : CiphLrw key nk cb w) (hg : w.heap[g]? = some (.cells cur 5 (0, 0))) (h0 : cur[0]? = some (.int .u8 (z : Nat))) (hb : w.grownBy w' (some g)) : CiphLrw key nk cb w' := by
  obtain ⟨xb, gk, d, s, u, cs, v, h1, h2, h3, h4, h5, h6, h7⟩ := h
  have c0 : w.cell? ⟨g, 0, none⟩ = some (.int .u8 (z : Nat)) := by rw [cell_of_row w g 0 _ _ _ hg]; exact h0
  have blk : ∀ {b : Nat} {C : Array Value} {T : TypeId}, w.heap[b]? = some (.cells C T (0, 0)) → T ≠ 5 → w'.heap[b]? = some (.cells C T (0, 0)) := fun {b C T} hc hT => (hb.block b (Array.getElem?_eq_some_iff.1 hc).1 (fun e => by
    cases e
    rw [hg] at hc
    cases hc
    exact hT rfl)).trans hc
  have ne0 : ∀ {b : Nat} {x : Value}, w.cell? ⟨b, 0, none⟩ = some x → (∀ z, x ≠ .int .u8 z) → b ≠ g := fun hx hz => ne_u8 hx c0 hz
  have lrw : ∀ {f : FuncId} {s : Value}, LrwAt f cb s w → LrwAt f cb s w' := fun {f s} hl => by
    obtain ⟨x, d, u, rfl, l1, l2, p, rfl, l3⟩ := hl
    exact ⟨x, d, _, rfl, cell_gb hb (ne0 l1 (fun _ e => by cases e)) l1, cell_gb hb (ne0 l2 (fun _ e => by cases e)) l2, p, rfl, cell_gb hb (ne0 l3 (fun _ e => by cases e)) l3⟩
  have hk0 := h5.c 0 (by decide) 0 _ rfl
  exact ⟨xb, gk, d, s, u, cs, v, blk h1 (by decide), blk h2 (by decide), h3, h4.grown hg (by decide) (by decide) h0 (fun _ e => by cases e) hb, KindsAt_gb h5 hb (ne0 hk0 (fun _ e => by cases e)) (fun e => by
    have h5d := h5.d
    rw [e, hg] at h5d
    cases h5d), lrw h6, lrw h7⟩

/-- bytes that are the key's no more, and the cipher beside them -/
structure MS (key : Nat → Nat) (nk cb g n : Nat) (w w' : World) : Prop where
  cur : ∃ cur, w'.heap[g]? = some (.cells cur 5 (0, 0)) ∧ ∀ j, j < n → ∃ z : Nat, z < 256 ∧ cur[j]? = some (.int .u8 (z : Nat))
  ci : CiphLrw key nk cb w'
  bel : Below w.heap.size w w'
theorem MS.put {key : Nat → Nat} {nk cb g n : Nat} {w w1 w2 : World} {cur : Array Value} {j z : Nat} (h : MS key nk cb g n w w1) (hn : 0 < n) (hc : w1.heap[g]? = some (.cells cur 5 (0, 0))) (hz : z < 256) (hp : w2.heap[g]? = some (.cells (cur.setIfInBounds j (.int .u8 (z : Nat))) 5 (0, 0))) (hg : w1.grownBy w2 (some g)) (hgw : w.heap.size ≤ g) : MS key nk cb g n w w2 := by
  obtain ⟨cur', e1, e2⟩ := h.cur
  rw [hc] at e1
  cases e1
  obtain ⟨z0, _, hz0⟩ := e2 0 hn
  refine ⟨⟨_, hp, fun i hi => ?_⟩, h.ci.over hc hz0 hg, h.bel.grown hg h.bel.size (fun j hj => by cases hj; exact hgw)⟩
  by_cases hij : j = i
  · subst hij
    obtain ⟨z1, _, hz1⟩ := e2 j hi
    exact ⟨z, hz, by rw [Array.getElem?_setIfInBounds_self_of_lt (Array.getElem?_eq_some_iff.1 hz1).1]⟩
  · obtain ⟨z1, l1, hz1⟩ := e2 i hi
    exact ⟨z1, l1, by rw [Array.getElem?_setIfInBounds_ne hij]; exact hz1⟩
theorem MS.drew {key : Nat → Nat} {nk cb g n : Nat} {w w1 : World} (h : MS key nk cb g n w w1) : MS key nk cb g n w w1.drew := ⟨h.cur, h.ci.below (Below.refl _ _).drew, h.bel.drew⟩

section
variable {P : Program} {Q : Exit → Act → World → Prop} {S : World → Prop} {a : Act} {w : World} {fuel : Nat} {listed : Array Bool} {i : Nat} {o : Oper} {tl l : List Oper}
theorem t_loadrow (hi : l.drop i = o :: tl) (hg : Region.wanted o (yielded l.toArray a.tmps) = true) (hs : Region.noSelect l.toArray = true) (hf : Region.free .any l.toArray listed i = true) (hr : (Region.ready .any l.toArray listed).contains i = true) (hS : S w) (ty : TypeId) (x : Operand) (ho : o.op = .load ty x) (b : Nat) (hx : a.eval x = .pointer (some ⟨b, 0, none⟩))
    {t : TypeId} {cs : Array Value} {d : TypeDesc} (hA : ∀ w, S w → w.heap[b]? = some (.cells cs t (0, 0))) (hu : P.underlying ty = some d) (hd : (match d with | .struct _ | .array _ _ => true | _ => false) = true)
    (hi' : (P.info? ty).map (·.size) = some cs.size) (h : wpAnyH P .any l.toArray (NoPanic Q) S fuel (listed.setIfInBounds i true) (a.put o.dst (.agg cs)) w) : wpAnyH P .any l.toArray (NoPanic Q) S (fuel + 1) listed a w :=
  Step.t_val hi hg hs hf hr hS _ (fun w hw => by
    unfold execOp
    simp only [ho, hx, Instr.loadAt, Instr.sureAddr, Sem.run_bind, Sem.run_pure, Result.andThen_ok, run_loadVar_row w b t ty _ _ d (hA w hw) hu hd hi']) h
end
end Go.Proofs.YtmifebcaifbmoaaGreatDoor.Tw
end

/- Parts2 -/
section
namespace Go.Proofs.YtmifebcaifbmoaaGreatDoor.G
open Go.RowKit Go.Lib Go.Proofs.YtmifebcaifbmoaaGreatDoor.Blk Go.Proofs.YtmifebcaifbmoaaGreatDoor.Aes Go.Proofs.YtmifebcaifbmoaaGreatDoor.Rj Go.Proofs.YtmifebcaifbmoaaGreatDoor.Poly Go.Proofs.YtmifebcaifbmoaaGreatDoor.Field Go.Proofs.YtmifebcaifbmoaaGreatDoor.Tab Go.Proofs.YtmifebcaifbmoaaGreatDoor.Tw Go.Proofs.YtmifebcaifbmoaaGreatDoor.RS Go.Proofs.YtmifebcaifbmoaaGreatDoor.Dig
section
variable {P : Program} {a : Act} {w : World} {o : Oper} {K : Act → World → Prop} {Q : Exit → Act → World → Prop}
/-- a list of one slice is made -/
theorem w_litS (t e : TypeId) (x : Operand) (ho : o.op = .buildSlice t 1 #[(0, x)]) (q : Option Addr) (n c : Nat) (hx : a.eval x = .slice q n c) (hu : P.underlying t = some (.slice e)) (hi : (P.info? e).map (·.size) = some 1) (hz : ((P.info? e).bind (·.zero)).isSome = true)
    (h : K (a.put o.dst (.slice (some ⟨w.heap.size, 0, none⟩) 1 1)) (w.alloc (.cells #[.slice q n c] e))) : o.wp P a w K Q := by
  cases hie : P.info? e with
  | none => simp [hie] at hi
  | some ie =>
    simp only [hie, Option.map_some, Option.some.injEq, Option.bind_some] at hi hz
    obtain ⟨z, hzz⟩ := Option.isSome_iff_exists.1 hz
    refine wp_buildSlice t e 1 _ ho _ ie z hu hie hzz (by rw [hi]; omega) (by rw [hi]; omega) ?_ h
    simp only [List.map_toArray, List.map_cons, List.map_nil, hx, hi]
    have := Great.fill_whole (s := 1) (by omega) [.slice q n c] ((Array.range (1 * 1)).map (z.cells[· % z.cells.size]!)) (fun v hv => by simp only [List.mem_singleton] at hv; subst hv; simp [Value.cells]) (by simp)
    simpa [Value.cells] using this
end
/-- what the digest of a key asks -/
structure DgW (w : World) : Prop where
  cu : WordsAt 7 80 w
  sq : WordsAt 6 16 w
theorem DgW.below {w w' : World} (h : DgW w) (b : Below w.heap.size w w') : DgW w' := ⟨h.cu.below b, h.sq.below b⟩
theorem DgW.gb {w w' : World} {c : Nat} (h : DgW w) (hg : w.grownBy w' (some c)) (h1 : 7 ≠ c) (h2 : 6 ≠ c) : DgW w' := ⟨h.cu.keep hg h1, h.sq.keep hg h2⟩
/-- the digest of a key's bytes -/
theorem keySum {w : World} {pb g off n cap : Nat} {key : Nat → Nat} (hn : n ≤ 1000) (hn0 : 0 < n) (hnc : n ≤ cap) (hcm : cap ≤ 9223372036854775807) (hc : KeyB w g off n key) (h : w.cell? ⟨pb, 0, none⟩ = some (.slice (some ⟨g, off, none⟩) n cap)) (hd : DgW w) :
    Calls Tryz.prog 117 #[.int .i64 256, .slice (some ⟨pb, 0, none⟩) 1 1] w fun e w' => (∃ v, e = .returned (.tuple #[v, .int .i64 0]) ∧ Out32 w.heap.size v w') ∧ Below w.heap.size w w' :=
  sum_any pb g off n cap (by omega) hnc hcm w (Frame.block_lt (hc 0 hn0)) h (fun i hi => ⟨g, off, rfl, Frame.block_lt (hc 0 hn0), _, hc i hi⟩) hd.cu hd.sq
set_option maxRecDepth 100000 in
set_option maxHeartbeats 4000000 in
theorem digestPart1_any (key : Nat → Nat) (nk : Nat) (hnk : nk = 4 ∨ nk = 6 ∨ nk = 8) (hkey : Byt key (4 * nk)) (xb g off cap n : Nat) (cs : Array Value) (w : World) (hcb : w.heap[xb]? = some (.cells cs 96 (0, 0))) (hsz : cs.size = 37) (h0 : ∃ s, cs[0]? = some (.string s))
    (hc : KeyB w g off n key) (hgx : g ≠ xb) (hcap : n ≤ cap) (hcm : cap ≤ 9223372036854775807) (hR : RconAt w) (hrx : 2 ≠ xb) (hD : DgW w) (hx1 : 7 ≠ xb) (hx2 : 6 ≠ xb) (hn : n = 4 * nk) (d : Nat) (hd : w.cell? ⟨d, 0, none⟩ = some (fv 64)) :
    Calls Tryz.prog 116 #[.pointer (some ⟨xb, 0, none⟩), .slice (some ⟨g, off, none⟩) n cap, .pointer (some ⟨d, 0, none⟩)] w fun e w' => e = .returned (.tuple #[]) ∧ (∃ v z F, (∀ i, F i < 256) ∧ w'.heap[xb]? = some (.cells ((cs.setIfInBounds 2 v).setIfInBounds 3 z) 96 (0, 0)) ∧ Sched key nk v w' ∧ Sched F 8 z w') ∧ w.grownBy w' (some xb) := by
  have hn1 : 16 ≤ n ∧ n ≤ 32 := by omega
  have OP := Lib.hid (onePart_any key nk hnk hkey xb g off cap cs w hcb hsz h0 (fun j hj => hc j (by omega)) (by omega) hcm hR)
  rw [← hn] at OP
  have HD := Lib.hid hd
  have KB := Lib.hid (fun w' (h : w.grownBy w' (some xb)) j hj => cell_gb h hgx (hc j hj))
  have RC := Lib.hid (fun w' (h : w.grownBy w' (some xb)) => fun i hi => cell_gb h hrx (hR i hi))
  have DG := Lib.hid (fun w' (h : w.grownBy w' (some xb)) => hD.gb h hx1 hx2)
  clear hd hc hR hD hkey hnk hcb
  go_enter Tryz.func116, Tryz.ntmps116
  go_upto_region 0 with fail
  refine wp_region_lit ?_
  refine Tree.p_load1 rfl _ _ rfl d 0 rfl (fv 64) HD.out Tryz.underlying91 rfl ?_
  simp only [Act.put, List.setIfInBounds_toArray, List.set_cons_zero, List.set_cons_succ]
  refine Step.p_move rfl _ rfl (.pointer (some ⟨xb, 0, none⟩)) rfl ?_
  simp only [Act.put, List.setIfInBounds_toArray, List.set_cons_zero, List.set_cons_succ]
  refine Step.p_move rfl _ rfl (.slice (some ⟨g, off, none⟩) n cap) rfl ?_
  simp only [Act.put, List.setIfInBounds_toArray, List.set_cons_zero, List.set_cons_succ]
  refine Step.p_wp rfl (Step.w_callv _ _ _ rfl 64 [] rfl Tryz.func64 (by kernel_rfl) rfl [.pointer (some ⟨xb, 0, none⟩), .slice (some ⟨g, off, none⟩) n cap] rfl OP.out ?_)
  rintro e w2 ⟨rfl, ⟨v, hx, hs⟩, hg2⟩
  refine ⟨_, rfl, ?_⟩
  simp only [Act.put, List.setIfInBounds_toArray, List.set_cons_zero, List.set_cons_succ]
  refine wpList_nil ?_
  have Z2 : Hid (CZ xb (cs.setIfInBounds 2 v) w w2) := Lib.hid ⟨hx, hg2⟩
  have K2 := Lib.hid hs
  clear hx hs hg2 OP
  go_upto_region 1 with fail
  refine wp_region_lit ?_
  refine Step.p_move rfl _ rfl (.slice (some ⟨g, off, none⟩) n cap) rfl ?_
  simp only [Act.put, List.setIfInBounds_toArray, List.set_cons_zero, List.set_cons_succ]
  refine Step.p_wp rfl (w_litS _ _ _ rfl (some ⟨g, off, none⟩) n cap rfl Tryz.underlying205 (by kernel_rfl) (by kernel_rfl) ?_)
  simp only [Act.put, List.setIfInBounds_toArray, List.set_cons_zero, List.set_cons_succ]
  have L3 : Hid ((w2.alloc (.cells #[.slice (some ⟨g, off, none⟩) n cap] 22)).cell? ⟨w2.heap.size, 0, none⟩ = some (.slice (some ⟨g, off, none⟩) n cap)) := Lib.hid (by rw [cell_of_row _ _ _ _ _ _ (heap_alloc_new w2 _)]; rfl)
  have b3 : Below w2.heap.size w2 (w2.alloc (.cells #[.slice (some ⟨g, off, none⟩) n cap] 22)) := (Below.refl _ _).alloc (Nat.le_refl _) _
  have Z3 := Lib.hid (Z2.out.bel b3)
  have K3 := Lib.hid (K2.out.kq (Kq.of_below b3))
  clear K2
  clear b3 Z2
  generalize w2.alloc (.cells #[.slice (some ⟨g, off, none⟩) n cap] 22) = w3 at *
  refine Step.p_wp rfl (Step.w_callx 117 _ _ rfl Tryz.func117 (by kernel_rfl) rfl [.int .i64 256, .slice (some ⟨w2.heap.size, 0, none⟩) 1 1] rfl (keySum (by omega) (by omega) hcap hcm (KB.out w3 Z3.out.gb) L3.out (DG.out w3 Z3.out.gb)) ?_)
  rintro e w4 ⟨⟨u, rfl, gs, F, rfl, hF, hk, hgs⟩, hb⟩
  refine ⟨_, rfl, ?_⟩
  simp only [Act.put, List.setIfInBounds_toArray, List.set_cons_zero, List.set_cons_succ]
  have Z4 := Lib.hid (Z3.out.bel hb)
  have K4 := Lib.hid (K3.out.kq (Kq.of_below hb))
  clear K3
  have HF := Lib.hid hF
  have HK := Lib.hid hk
  have hgx4 : gs ≠ xb := by have := Frame.block_lt (w := w3) (by rw [cell_of_row w3 xb 0 _ _ _ Z3.out.hc]; exact Array.getElem?_eq_getElem (by simp; omega)); omega
  clear hF hk hb L3 Z3
  refine Step.p_move rfl _ rfl (.tuple #[.slice (some ⟨gs, 0, none⟩) 32 32, .int .i64 0]) rfl ?_
  simp only [Act.put, List.setIfInBounds_toArray, List.set_cons_zero, List.set_cons_succ]
  refine Step.p_val rfl (.slice (some ⟨gs, 0, none⟩) 32 32) (by unfold execOp; go_simp; try rfl) ?_
  simp only [Act.put, List.setIfInBounds_toArray, List.set_cons_zero, List.set_cons_succ]
  refine Step.p_val rfl (.int .i64 0) (by unfold execOp; go_simp; try rfl) ?_
  simp only [Act.put, List.setIfInBounds_toArray, List.set_cons_zero, List.set_cons_succ]
  refine Step.p_assign rfl _ rfl (.slice (some ⟨gs, 0, none⟩) 32 32) rfl ?_
  simp only [Act.put, List.setIfInBounds_toArray, List.set_cons_zero, List.set_cons_succ]
  refine Step.p_assign rfl _ rfl (.int .i64 0) rfl ?_
  simp only [Act.put, List.setIfInBounds_toArray, List.set_cons_zero, List.set_cons_succ]
  refine wpList_nil ?_
  have SC := Lib.hid (scheduled_any F 8 (by decide) (fun i _ => HF.out i) gs 0 32 w4 (fun j hj => HK.out j (by omega)) (by decide) (by decide) (RC.out w4 Z4.out.gb))
  go_upto_region 2 with fail
  refine wp_region_lit ?_
  refine Step.p_move rfl _ rfl (.pointer (some ⟨xb, 0, none⟩)) rfl ?_
  simp only [Act.put, List.setIfInBounds_toArray, List.set_cons_zero, List.set_cons_succ]
  refine Step.p_move rfl _ rfl (.slice (some ⟨gs, 0, none⟩) 32 32) rfl ?_
  simp only [Act.put, List.setIfInBounds_toArray, List.set_cons_zero, List.set_cons_succ]
  refine Step.p_wp rfl (Step.w_callx 110 _ _ rfl Tryz.func110 (by kernel_rfl) rfl [.slice (some ⟨gs, 0, none⟩) 32 32] rfl (SC.out) ?_)
  rintro e w21 ⟨z, rfl, hsd, hb⟩
  have L5 := Lib.hid hsd
  have Z22 := Lib.hid (Z4.out.bel hb)
  have K5 := Lib.hid (K4.out.kq (Kq.of_below hb))
  clear K4
  clear hb hsd Z4
  refine ⟨_, rfl, ?_⟩
  simp only [Act.put, List.setIfInBounds_toArray, List.set_cons_zero, List.set_cons_succ]
  refine Step.p_val rfl (.pointer (some ⟨xb, 0, none⟩)) (by unfold execOp; go_simp; try rfl) ?_
  simp only [Act.put, List.setIfInBounds_toArray, List.set_cons_zero, List.set_cons_succ]
  refine Tree.p_field rfl _ _ _ rfl (xb) (0) rfl Tryz.underlying96 rfl (sz := 1) (by kernel_rfl) (by decide) (3) rfl ?_
  simp only [Act.put, List.setIfInBounds_toArray, List.set_cons_zero, List.set_cons_succ]
  refine Step.p_storeV rfl 94 _ _ rfl xb 3 rfl z rfl (Sched.ne L5) (Sched.one L5) (by kernel_rfl) Z22.out.hc (by first | omega | (simp; omega)) ?_
  intro w23 hr hg2 _
  have Z24 := Lib.hid (Z22.out.put hr hg2)
  have K6 := Lib.hid (K5.out.kq (Z22.out.kq (by simpa using h0) hg2))
  clear K5
  have L6 := Lib.hid (L5.out.kq (Z22.out.kq (by simpa using h0) hg2))
  clear L5
  clear hr hg2 Z22
  simp only [Act.put]
  refine wpList_nil ?_
  go_wp2
  go_end0
  exact ⟨rfl, ⟨v, z, F, HF.out, Z24.out.hc, K6.out, L6.out⟩, Z24.out.gb⟩
/-- bytes laid into a core -/
theorem CZ.copy {xb : Nat} {cs : Array Value} {w w1 : World} (h : CZ xb cs w w1) (k : Nat) (F : Nat → Nat) (_hk : k + 16 ≤ cs.size) : CZ xb (Tree.patch cs k (Push.bl F 16)) w (w1.setRow xb (Tree.patch cs k (Push.bl F 16))) ∧ w1.grownBy (w1.setRow xb (Tree.patch cs k (Push.bl F 16))) (some xb) :=
  have hg : w1.grownBy (w1.setRow xb (Tree.patch cs k (Push.bl F 16))) (some xb) := ⟨rfl, rfl, rfl, by simp, fun b hb hne => setRow_other w1 xb b _ (fun e => hne (by rw [e]))⟩
  ⟨⟨setRow_heap _ _ _ _ _ _ h.hc, gb_trans h.gb hg⟩, hg⟩
section
variable {P : Program} {a : Act} {w : World} {o : Oper} {K : Act → World → Prop} {Q : Exit → Act → World → Prop}
end
end Go.Proofs.YtmifebcaifbmoaaGreatDoor.G
end
