/- Parts of the proof of TweakBlocks. Fit: cofferlaw03: the bytes that are sealed. RefF: cofferref03: Find, Block, schedule. RefL: cofferref03.New: the document's cipher of LRW, made. -/
import Derived.Test.YtmifebcaifbmoaaGreatDoorL00
import Derived.Test.YtmifebcaifbmoaaGreatDoorL15
import Derived.Test.YtmifebcaifbmoaaGreatDoorL21
/- Fit -/
section
namespace Go.Proofs.YtmifebcaifbmoaaGreatDoor.Tab
open Go.RowKit Go.Lib Go.Proofs.YtmifebcaifbmoaaGreatDoor.Byts Go.Proofs.YtmifebcaifbmoaaGreatDoor.Push

/-- how many bytes are sealed -/
def fitN (z : Int) (whole : Bool) : Nat := if whole then (16 + (z % 18446744073709551616).toNat % 497) / 16 * 16 else 16 + (z % 18446744073709551616).toNat % 497
theorem fitN_bd (z : Int) (whole : Bool) : 16 ≤ fitN z whole ∧ fitN z whole ≤ 512 := by
  unfold fitN
  split <;> omega

set_option maxRecDepth 100000 in
set_option maxHeartbeats 4000000 in
theorem fit_any (q : Option Addr) (n cap : Nat) (f : Nat → Nat) (z : Int) (_hz : IntKind.i64.has z) (whole : Bool) (w : World) (hf : BL w q n f) (_hnc : n ≤ cap) (_hcm : cap ≤ 9223372036854775807) :
    Calls Tryz.prog 12 #[.slice q n cap, .int .i64 z, .bool whole] w fun e w' => ∃ v, e = .returned v ∧ OwnB w' w.heap.size v (fitN z whole) (fitF n f) ∧ Below w.heap.size w w' := by
  have HF := Lib.hid hf
  clear hf
  obtain ⟨LE1, LE2⟩ := fitN_bd z whole
  go_enter Tryz.func12, Tryz.ntmps12
  go_upto_region 1 with fail
  refine wp_region_lit ?_
  refine Step.p_move rfl _ rfl (.int .i64 z) rfl ?_
  simp only [Act.put, sA9, sB9, sC9]
  refine Step.p_val rfl (.int .u64 (z % 18446744073709551616)) (by unfold execOp; go_simp; exact IntKind.wrap_u64 z) ?_
  simp only [Act.put, sA9, sB9, sC9]
  refine Step.p_val rfl (.int .u64 ((z % 18446744073709551616).toNat % 497 : Nat)) (by unfold execOp; go_simp; rw [Int.tmod_eq_emod_of_nonneg (by omega)]; omega) ?_
  simp only [Act.put, sA9, sB9, sC9]
  refine Step.p_val rfl (.int .i64 ((z % 18446744073709551616).toNat % 497 : Nat)) (by unfold execOp; go_simp; try exact IntWalk.i64_in _ (by omega)) ?_
  simp only [Act.put, sA9, sB9, sC9]
  refine Step.p_val rfl (.int .i64 (16 + (z % 18446744073709551616).toNat % 497 : Nat)) (by unfold execOp; go_simp; exact (IntWalk.i64_in _ (by omega)).trans (by omega)) ?_
  simp only [Act.put, sA9, sB9, sC9]
  refine Step.p_assign rfl _ rfl (.int .i64 (16 + (z % 18446744073709551616).toNat % 497 : Nat)) rfl ?_
  simp only [Act.put, sA9, sB9, sC9]
  refine wpList_nil ?_
  cases whole
  case' true =>
    have e : fitN z true = (16 + (z % 18446744073709551616).toNat % 497) / 16 * 16 := rfl
    have hm0 : 16 + (z % 18446744073709551616).toNat % 497 ≤ 512 := by omega
    generalize 16 + (z % 18446744073709551616).toNat % 497 = m at *
    go_upto_region 3 with fail
    refine wp_region_lit ?_
    refine Step.p_move rfl _ rfl (.int .i64 (m : Nat)) rfl ?_
    simp only [Act.put, sA9, sB9, sC9]
    refine Step.p_val rfl (.int .i64 (m / 16 : Nat)) (by unfold execOp; go_simp; exact IntWalk.i64_in _ (by omega)) ?_
    simp only [Act.put, sA9, sB9, sC9]
    refine Step.p_val rfl (.int .i64 (fitN z true : Nat)) (by unfold execOp; go_simp; exact IntWalk.i64_in _ (by omega)) ?_
    simp only [Act.put, sA9, sB9, sC9]
    refine Step.p_assign rfl _ rfl (.int .i64 (fitN z true : Nat)) rfl ?_
    simp only [Act.put, sA9, sB9, sC9]
    refine wpList_nil ?_
    generalize hS : fitN z true = sz at *
    clear e
    go_wp2
  case' false =>
    rw [show 16 + (z % 18446744073709551616).toNat % 497 = fitN z false from rfl]
    generalize hS : fitN z false = sz at *
    go_wp2
  all_goals
    go_loopw [9, 8] (fun i s wr => ∃ k : Nat, k ≤ sz ∧ i = .int .i64 k ∧ wr.ownsRow w.heap.size 5 1 s k (bl (fitF n f) k) ∧ Below w.heap.size w wr) (fun i _ _ => sz - (RowKit.intOf i).toNat)
    case atStart => exact ⟨0, by omega, rfl, World.ownsRow_nil _ _ _ _, Below.refl _ _⟩
    case round =>
      obtain ⟨k, hk, rfl, hown, hp⟩ := hrel
      have HO := Lib.hid hown
      have HB := Lib.hid hp
      clear hown hp
      by_cases hlt : k < sz
      · have hwl := HB.out.size
        by_cases hn : n = 0
        · have KF : Hid (fitF n f k = k * k % 256) := Lib.hid (by unfold fitF; rw [if_pos hn])
          have hkk : k * k ≤ 512 * 512 := Nat.mul_le_mul (by omega) (by omega)
          have HKK : Hid ((k : Int) * (k : Int) = (k * k : Nat)) := Lib.hid (by simp)
          generalize hke : k * k = kk at *
          have HKE := Lib.hid hke
          clear hke
          go_upto_region 9 with fail
          clear hn
          refine wp_region_lit ?_
          refine Step.p_move rfl _ rfl (u8) rfl ?_
          simp only [Act.put, sA9, sB9, sC9]
          refine Step.p_move rfl _ rfl (.int .i64 k) rfl ?_
          simp only [Act.put, sA9, sB9, sC9]
          refine Step.p_move rfl _ rfl (.int .i64 k) rfl ?_
          simp only [Act.put, sA9, sB9, sC9]
          refine Step.p_val rfl (.int .i64 (kk : Nat)) (by unfold execOp; go_simp; rw [HKK.out]; exact IntWalk.i64_in _ (by omega)) ?_
          simp only [Act.put, sA9, sB9, sC9]
          refine Step.p_val rfl (.int .u8 (fitF n f k : Nat)) (by unfold execOp; go_simp; rw [KF.out, IntKind.wrap_u8]; omega) ?_
          simp only [Act.put, sA9, sB9, sC9]
          refine p_push rfl _ rfl (fitF n f k : Nat) rfl _ _ rfl rfl rfl u8 rfl w.heap.size k _ HO.out (by omega) hwl ?_
          intro v' w' hp
          simp only [Act.put, sA9, sB9, sC9]
          have HQ := Lib.hid hp
          clear hp
          refine Step.p_assign rfl _ rfl (v') rfl ?_
          simp only [Act.put, sA9, sB9, sC9]
          refine wpList_nil ?_
          go_wp2
          go_roundw
          case rel => exact ⟨k + 1, by omega, rfl, by rw [← bl_succ]; exact HQ.out.own, HB.out.trans HQ.out.bel⟩
          case measure => simp [RowKit.intOf]; omega
        · have hni : ¬ ((n : Int) = 0) := by omega
          have hm : k % n < n := Nat.mod_lt _ (by omega)
          obtain ⟨gq, oq, rfl, hc⟩ := HF.out (k % n) hm
          have KF : Hid (fitF n f k = f (k % n)) := Lib.hid (by unfold fitF; rw [if_neg hn])
          have HMD : Hid ((k : Int).tmod n = (k % n : Nat)) := Lib.hid rfl
          generalize k % n = m at *
          have HD : Hid (wr.cell? ⟨gq, oq + m * 1, none⟩ = some (.int .u8 (fitF n f k : Nat))) := Lib.hid (by
            rw [KF.out, Nat.mul_one]
            exact (HB.out.cell (p := ⟨gq, oq + m, none⟩) (Frame.block_lt hc)).trans hc)
          clear hc
          go_upto_region 10 with fail
          refine wp_region_lit ?_
          refine Step.p_move rfl _ rfl (u8) rfl ?_
          simp only [Act.put, sA9, sB9, sC9]
          refine Step.p_move rfl _ rfl (.slice (some ⟨gq, oq, none⟩) n cap) rfl ?_
          simp only [Act.put, sA9, sB9, sC9]
          refine Step.p_move rfl _ rfl (.int .i64 k) rfl ?_
          simp only [Act.put, sA9, sB9, sC9]
          refine Step.p_move rfl _ rfl (.slice (some ⟨gq, oq, none⟩) n cap) rfl ?_
          simp only [Act.put, sA9, sB9, sC9]
          refine Step.p_len rfl _ _ 5 rfl (_) (n) (cap) rfl Tryz.underlying22 ?_
          simp only [Act.put, sA9, sB9, sC9]
          refine Step.p_val rfl (.int .i64 (m : Nat)) (by unfold execOp; have := HMD.out; go_simp; try (first | omega | (rw [if_neg (by omega)]))) ?_
          simp only [Act.put, sA9, sB9, sC9]
          refine Step.p_index rfl _ 5 _ _ rfl gq oq n cap rfl m rfl hm 1 Tryz.underlying22 (by kernel_rfl) ?_
          simp only [Act.put, sA9, sB9, sC9]
          refine Tree.p_load1 rfl _ _ rfl (gq) (oq + m * 1) rfl (.int .u8 (fitF n f k : Nat)) (HD.out) Tryz.underlying5 rfl ?_
          simp only [Act.put, sA9, sB9, sC9]
          refine p_push rfl _ rfl (fitF n f k : Nat) rfl _ _ rfl rfl rfl u8 rfl w.heap.size k _ HO.out (by omega) hwl ?_
          intro v' w' hp
          simp only [Act.put, sA9, sB9, sC9]
          have HQ := Lib.hid hp
          clear hp
          refine Step.p_assign rfl _ rfl (v') rfl ?_
          simp only [Act.put, sA9, sB9, sC9]
          refine wpList_nil ?_
          go_wp2
          go_roundw
          case rel => exact ⟨k + 1, by omega, rfl, by rw [← bl_succ]; exact HQ.out.own, HB.out.trans HQ.out.bel⟩
          case measure => simp [RowKit.intOf]; omega
      · obtain rfl : k = sz := by omega
        go_wp2
        go_ret
        exact ⟨_, rfl, by rw [hS]; exact ownB_of HO.out (by omega), HB.out⟩
end Go.Proofs.YtmifebcaifbmoaaGreatDoor.Tab
end

/- RefF -/
section
namespace Go.Proofs.YtmifebcaifbmoaaGreatDoor.Ref3
open Go.RowKit Go.Lib Go.Proofs.YtmifebcaifbmoaaGreatDoor.Blk Go.Proofs.YtmifebcaifbmoaaGreatDoor.Tab Go.Proofs.YtmifebcaifbmoaaGreatDoor.Byts Go.Proofs.YtmifebcaifbmoaaGreatDoor.Push

theorem name_inj : ∀ i, i < 52 → ∀ k, k < 52 → (name i).data.toList = (name k).data.toList → i = k := by decide +kernel

set_option maxRecDepth 100000 in
set_option maxHeartbeats 4000000 in
theorem find_any (t0 : Nat) (ht : t0 < 52) (w : World) (hM : Modes w) : Calls Tryz.prog 18 #[.string (name t0)] w fun e w' => e = .returned (.tuple #[.agg (rowL t0).toArray, .bool true]) ∧ Below w.heap.size w w' := by
  have NE := Lib.hid (fun i hi he => name_inj i hi t0 ht he)
  obtain ⟨s2, s3, z1, z2, hL⟩ : ∃ s2 s3 z1 z2, rowL t0 = [.string (name t0), .string s2, .string s3, .int .i64 z1, .int .i64 z2] := by
    unfold rowL
    split
    · rename_i h; subst h; exact ⟨_, _, _, _, rfl⟩
    · exact ⟨_, _, _, _, rfl⟩
  have N0 : Hid (∀ k, (rowL k)[0]? = some (.string (name k))) := Lib.hid fun k => by
    unfold rowL
    split
    · rename_i h; subst h; rfl
    · rfl
  have HL := Lib.hid hL
  have HR := Lib.hid (fun w (h : Modes w) => rows_any w h)
  have HM := Lib.hid hM
  have B1 := Lib.hid ((Below.refl w.heap.size w).alloc (Nat.le_refl _) (.cells #[.string ⟨#[]⟩, .string ⟨#[]⟩, .string ⟨#[]⟩, .int .i64 0, .int .i64 0] 45))
  have R1 := Lib.hid (heap_alloc_new w (.cells #[.string ⟨#[]⟩, .string ⟨#[]⟩, .string ⟨#[]⟩, .int .i64 0, .int .i64 0] 45))
  clear hM hL
  generalize hsp : name t0 = spec at *
  have HSP := Lib.hid hsp
  clear hsp
  go_enter Tryz.func18, Tryz.ntmps18
  go_upto_region 1 with fail
  generalize w.alloc (.cells #[.string ⟨#[]⟩, .string ⟨#[]⟩, .string ⟨#[]⟩, .int .i64 0, .int .i64 0] 45) = w1 at *
  go_upto_region 2 with (go_at_call 42; refine (HR.out _ (HM.out.below B1.out)).mono ?_; rintro e w2 ⟨v, xs, rfl, hown, hrows, hb⟩)
  obtain ⟨g, c, rfl, hg1, hc1, hc2, hcell⟩ := own_row hown (by decide)
  have R2 := Lib.hid ((hb.block _ (Array.getElem?_eq_some_iff.1 R1.out).1).trans R1.out)
  have B2 := Lib.hid (B1.out.trans (hb.mono B1.out.size))
  have HC : Hid (∀ k, k < 52 → w2.rangeAt g (0 + k * 5) (rowL k)) := Lib.hid fun k hk j u hj => by
    have hj5 : j < 5 := by have := (List.getElem?_eq_some_iff.1 hj).1; rwa [rowL_len] at this
    rw [hcell _ (by omega), show 0 + k * 5 + j = 5 * k + j by omega, hrows k hk j hj5, hj]
  clear hcell hown hrows hb HR HM R1 B1
  go_wp2
  go_loopw [5] (fun i wr => ∃ k : Nat, k ≤ t0 ∧ i = .int .i64 k ∧ wr = w2) (fun i _ => 52 - (RowKit.intOf i).toNat)
  case atStart => exact ⟨0, by omega, rfl, rfl⟩
  case round =>
    obtain ⟨k, hk, rfl, hw⟩ := hrel
    subst hw
    have HK := Lib.hid (HC.out k (by omega))
    have HN0 : Hid (wr.cell? ⟨g, k * 5, none⟩ = some (.string (name k))) := Lib.hid (by
      have := HK.out 0 _ (N0.out k)
      rwa [Nat.zero_add, Nat.add_zero] at this)
    go_upto_region 5 with fail
    refine wp_region_lit ?_
    have hk52 : k < 52 := by omega
    refine Step.p_move rfl _ rfl (.slice (some ⟨g, 0, none⟩) 52 c) rfl ?_
    simp only [Act.put, sA9, sB9, sC9]
    refine Step.p_move rfl _ rfl (.int .i64 k) rfl ?_
    simp only [Act.put, sA9, sB9, sC9]
    refine Step.p_index rfl _ 45 _ _ rfl g 0 52 c rfl k rfl hk52 5 Tryz.underlying81 (by kernel_rfl) ?_
    simp only [Act.put, sA9, sB9, sC9]
    refine Tree.p_field rfl _ _ _ rfl g (0 + k * 5) rfl Tryz.underlying45 rfl (sz := 1) (by kernel_rfl) (by decide) (k * 5) (by rw [Nat.zero_add]; rfl) ?_
    simp only [Act.put, sA9, sB9, sC9]
    refine Tree.p_load1 rfl _ _ rfl (g) (k * 5) rfl (.string (name k)) (HN0.out) Tryz.underlying9 rfl ?_
    simp only [Act.put, sA9, sB9, sC9]
    refine Step.p_move rfl _ rfl (.string spec) rfl ?_
    simp only [Act.put, sA9, sB9, sC9]
    by_cases he : k = t0
    · have HE : name k = spec := by rw [he]; exact HSP.out
      subst he
      refine Step.p_val rfl (.bool true) (by unfold execOp; go_simp; try (first | exact congrArg ByteArray.toList HE | (rw [HE]) | simp [HE])) ?_
      simp only [Act.put, sA9, sB9, sC9]
      refine wpList_nil ?_
      go_upto_region 6 with fail
      refine wp_region_lit ?_
      refine Step.p_move rfl _ rfl (.slice (some ⟨g, 0, none⟩) 52 c) rfl ?_
      simp only [Act.put, sA9, sB9, sC9]
      refine Step.p_move rfl _ rfl (.int .i64 k) rfl ?_
      simp only [Act.put, sA9, sB9, sC9]
      refine Step.p_index rfl _ 45 _ _ rfl g 0 52 c rfl k rfl hk52 5 Tryz.underlying81 (by kernel_rfl) ?_
      simp only [Act.put, sA9, sB9, sC9]
      refine Tree.p_loadmid rfl _ _ rfl (g) (0 + k * 5) rfl [.string spec, .string s2, .string s3, .int .i64 z1, .int .i64 z2] ((HL.out ▸ HK.out)) Tryz.underlying45 rfl (by kernel_rfl) ?_
      simp only [Act.put, sA9, sB9, sC9]
      refine Cell.p_storerow rfl 45 _ _ rfl w.heap.size rfl _ rfl (by kernel_rfl) (by simp [Value.oneCell']) R2.out rfl ?_
      intro w3 hr3 hg3 _
      simp only [Act.put]
      refine Step.p_assign rfl _ rfl (.bool true) rfl ?_
      simp only [Act.put, sA9, sB9, sC9]
      refine wpList_nil ?_
      have B3 := Lib.hid (B2.out.grown hg3 B2.out.size (fun j hj => by cases hj; exact Nat.le_refl _))
      clear hg3
      go_wp2
      exact Cell.ret_row_tmp rfl rfl hr3 Tryz.underlying45 rfl (by kernel_rfl) rfl (v := .bool true) rfl ⟨by rw [HL.out], B3.out⟩
    · have HE : ¬ (name k).toList = spec.toList := fun e => he (NE.out k hk52 (by rw [← ByteArray.toList_eq, ← ByteArray.toList_eq]; exact e))
      refine Step.p_val rfl (.bool false) (by unfold execOp; go_simp; try exact HE) ?_
      simp only [Act.put, sA9, sB9, sC9]
      refine wpList_nil ?_
      go_wp2
      exact ⟨⟨k + 1, by omega, by go_num, by first | rfl | trivial⟩, by simp [RowKit.intOf]; omega⟩

/-- 16 bytes of a list -/
structure BkW (g off : Nat) (F : Nat → Nat) (at_ B : Nat) (w w' : World) (k : Nat) : Prop where
  z : Arr w' B .u8 16 27 (fun _ => 0)
  x : Arr w' (B + 1) .u8 16 27 (fun i => if i < k then (F (at_ + i) : Nat) else 0)
  bel : Below B w w'
set_option maxRecDepth 100000 in
set_option maxHeartbeats 4000000 in
theorem block_any (g off n cap at_ : Nat) (F : Nat → Nat) (hat : at_ + 16 ≤ n) (hnc : n ≤ cap) (hcm : cap ≤ 9223372036854775807) (w : World) (hB : BL w (some ⟨g, off, none⟩) n F) : Calls Tryz.prog 46 #[.slice (some ⟨g, off, none⟩) n cap, .int .i64 at_] w fun e w' => e = .returned (.agg (arr .u8 16 fun i => (F (at_ + i) : Nat))) ∧ Below w.heap.size w w' := by
  have z16 : (Tryz.prog.info? 27).bind (·.zero) = some (.agg (arr .u8 16 fun _ => 0)) := by kernel_rfl
  have HB := Lib.hid hB
  clear hB
  go_enter Tryz.func46, Tryz.ntmps46
  go_upto_region 0 with fail
  refine wp_region_lit ?_
  refine New.p_newarr rfl 27 rfl .u8 16 z16 ?_
  intro w1 a1 g1 s1
  simp only [Act.put, sA9, sB9, sC9]
  refine wpList_nil ?_
  go_upto_region 1 with fail
  refine wp_region_lit ?_
  refine New.p_newarr rfl 27 rfl .u8 16 z16 ?_
  intro w2 a2 g2 s2
  simp only [Act.put, sA9, sB9, sC9]
  refine wpList_nil ?_
  rw [s1] at a2 ⊢
  have E2 : Hid (BkW g off F at_ w.heap.size w w2 0) := Lib.hid ⟨Rj.bel_arr (_B := 0) a1 (Rj.bel_of_gb (_B := 0) g2), a2.congr fun i _ => by rw [if_neg (by omega)], ((Below.refl w.heap.size w).grown g1 (Nat.le_refl _) (by simp)).grown g2 (by omega) (by simp)⟩
  clear a1 g1 s1 a2 g2 s2
  go_wp2
  go_loopw [6] (fun i wr => ∃ k : Nat, k ≤ 16 ∧ i = .int .i64 k ∧ BkW g off F at_ w.heap.size w wr k) (fun i _ => 16 - (RowKit.intOf i).toNat)
  case atStart => exact ⟨0, by omega, rfl, E2.out⟩
  case round =>
    obtain ⟨k, hk, rfl, hr⟩ := hrel
    have H := Lib.hid hr
    clear hr E2
    by_cases hlt : k < 16
    · obtain ⟨g', o', e, hc⟩ := HB.out (at_ + k) (by omega)
      cases e
      have HC := Lib.hid ((H.out.bel.cell (p := ⟨g, off + (at_ + k), none⟩) (Frame.block_lt hc)).trans hc)
      clear hc
      go_upto_region 5 with fail
      refine wp_region_lit ?_
      refine Step.p_move rfl _ rfl (.int .i64 k) rfl ?_
      simp only [Act.put, sA9, sB9, sC9]
      refine Step.p_move rfl _ rfl (.slice (some ⟨g, off, none⟩) n cap) rfl ?_
      simp only [Act.put, sA9, sB9, sC9]
      refine Step.p_move rfl _ rfl (.int .i64 at_) rfl ?_
      simp only [Act.put, sA9, sB9, sC9]
      refine Step.p_move rfl _ rfl (.int .i64 k) rfl ?_
      simp only [Act.put, sA9, sB9, sC9]
      refine Step.p_val rfl (.int .i64 (at_ + k : Nat)) (by unfold execOp; go_simp; try (first | rfl | exact (IntWalk.i64_in _ (by omega)).trans (by omega))) ?_
      simp only [Act.put, sA9, sB9, sC9]
      refine Step.p_index rfl _ 5 _ _ rfl g off n cap rfl (at_ + k) rfl (by omega) 1 Tryz.underlying22 (by kernel_rfl) ?_
      simp only [Act.put, sA9, sB9, sC9]
      refine Tree.p_load1 rfl _ _ rfl (g) (off + (at_ + k) * 1) rfl (.int .u8 (F (at_ + k) : Nat)) (by rw [Nat.mul_one]; exact HC.out) Tryz.underlying5 rfl ?_
      simp only [Act.put, sA9, sB9, sC9]
      refine Still.p_idxA rfl _ 5 _ _ rfl (w.heap.size + 1) 0 rfl .i64 k rfl hlt Tryz.underlying27 (size := 1) (by kernel_rfl) k (by omega) ?_
      simp only [Act.put, sA9, sB9, sC9]
      refine Still.p_storeA rfl 5 _ _ rfl (w.heap.size + 1) k rfl .u8 (F (at_ + k) : Nat) rfl H.out.x hlt (by kernel_rfl) ?_
      simp only [Act.put]
      refine wpList_nil ?_
      have H2 : Hid (BkW g off F at_ w.heap.size w (wr.setCell ⟨w.heap.size + 1, k, none⟩ (.int .u8 (F (at_ + k) : Nat))) (k + 1)) := Lib.hid ⟨H.out.z.other (by show w.heap.size ≠ w.heap.size + 1; omega) _, (H.out.x.store k _).congr fun i hi => by
        unfold upd
        by_cases e : i = k
        · rw [if_pos e, if_pos (by omega), e]
        · rw [if_neg e]
          dsimp only
          by_cases e2 : i < k
          · rw [if_pos e2, if_pos (by omega)]
          · rw [if_neg e2, if_neg (by omega)], H.out.bel.setCell (by show w.heap.size ≤ w.heap.size + 1; omega) _⟩
      clear H
      go_wp2
      exact ⟨⟨k + 1, by omega, by go_num, H2.out⟩, by simp [RowKit.intOf]; omega⟩
    · obtain rfl : k = 16 := by omega
      go_wp2_with (first | (refine wpList_load_arr rfl 27 _ rfl _ rfl H.out.x Tryz.underlying27 rfl Field.info16 ?_) | (refine wpList_store_arr rfl 27 _ _ rfl _ rfl rfl H.out.z Field.info16 ?_; intro w7 a7 g7 s7))
      have B7 := Lib.hid (H.out.bel.grown g7 H.out.bel.size (fun j hj => by cases hj; exact Nat.le_refl _))
      clear g7
      refine ret_arr rfl rfl a7 Tryz.underlying27 rfl Field.info16 rfl ⟨?_, B7.out⟩
      exact congrArg (fun x => Ending.returned (.agg x)) (arr_congr fun i hi => by rw [if_pos hi])

set_option maxRecDepth 100000 in
set_option maxHeartbeats 2000000 in
theorem schedule_any (g off nk cap : Nat) (hnk : nk = 4 ∨ nk = 6 ∨ nk = 8) (F : Nat → Nat) (hF : ∀ j, F j < 256) (_hcap : 4 * nk ≤ cap) (_hcm : cap ≤ 9223372036854775807) (w : World) (hB : BL w (some ⟨g, off, none⟩) (4 * nk) F) : Calls Tryz.prog 45 #[.slice (some ⟨g, off, none⟩) (4 * nk) cap] w fun e w' => ∃ kb, e = .returned (.pointer (some ⟨kb, 0, none⟩)) ∧ Below w.heap.size w w' := by
  have CP := Lib.hid (copied_any g off (4 * nk) cap F w (by omega) (by omega) hB)
  have NW := Lib.hid (fun g' c w' h1 h2 h3 => Ref2.refNew_any g' 0 nk c hnk F hF w' h1 h2 h3)
  clear hB hnk
  go_enter Tryz.func45, Tryz.ntmps45
  go_upto_region 1 with fail
  refine wp_region_lit ?_
  refine Step.p_move rfl _ rfl (.slice (some ⟨g, off, none⟩) (4 * nk) cap) rfl ?_
  simp only [Act.put, sA9, sB9, sC9]
  refine Step.p_wp rfl (Step.w_callx 48 [.tmp 6] _ rfl Tryz.func48 (by kernel_rfl) rfl [.slice (some ⟨g, off, none⟩) (4 * nk) cap] rfl (CP.out) ?_)
  rintro e w1 ⟨v, rfl, ho, hb⟩
  refine ⟨_, rfl, ?_⟩
  simp only [Act.put, sA9, sB9, sC9]
  obtain ⟨g1, c1, rfl, e1, e2, e3, e4⟩ := ho
  have NX := Lib.hid (NW.out g1 c1 w1 (fun i hi => ⟨g1, 0, rfl, by rw [Nat.zero_add]; exact e4 i hi⟩) e2 e3)
  have B1 := Lib.hid hb
  clear hb e4 NW CP
  refine Step.p_wp rfl (Step.w_callx 85 [.tmp 7] _ rfl Tryz.func85 (by kernel_rfl) rfl [.slice (some ⟨g1, 0, none⟩) (4 * nk) c1] rfl (NX.out) ?_)
  rintro e w2 ⟨kb, rfl, hb⟩
  refine ⟨_, rfl, ?_⟩
  simp only [Act.put, sA9, sB9, sC9]
  have B2 := Lib.hid (B1.out.trans (hb.mono B1.out.size))
  clear hb NX B1
  refine Step.p_move rfl _ rfl (.tuple #[.pointer (some ⟨kb, 0, none⟩), .int .i64 0]) rfl ?_
  simp only [Act.put, sA9, sB9, sC9]
  refine Step.p_val rfl (.pointer (some ⟨kb, 0, none⟩)) (by unfold execOp; go_simp; try rfl) ?_
  simp only [Act.put, sA9, sB9, sC9]
  refine Step.p_val rfl (.int .i64 0) (by unfold execOp; go_simp; try rfl) ?_
  simp only [Act.put, sA9, sB9, sC9]
  refine Step.p_assign rfl _ rfl (.pointer (some ⟨kb, 0, none⟩)) rfl ?_
  simp only [Act.put, sA9, sB9, sC9]
  refine Step.p_assign rfl _ rfl (.int .i64 0) rfl ?_
  simp only [Act.put, sA9, sB9, sC9]
  refine wpList_nil ?_
  go_wp2
  go_ret
  exact ⟨kb, rfl, B2.out⟩
end Go.Proofs.YtmifebcaifbmoaaGreatDoor.Ref3
end

/- RefL -/
section
namespace Go.Proofs.YtmifebcaifbmoaaGreatDoor.Ref3
open Go.RowKit Go.Lib Go.Proofs.YtmifebcaifbmoaaGreatDoor.Blk Go.Proofs.YtmifebcaifbmoaaGreatDoor.Tab Go.Proofs.YtmifebcaifbmoaaGreatDoor.Byts Go.Proofs.YtmifebcaifbmoaaGreatDoor.Push

/-- the cipher's two blocks under way -/
structure LW (rb : Nat) (row : Array Value) (w w' : World) : Prop where
  row : w'.heap[rb]? = some (.cells row 45 (0, 0))
  ci : ∃ C, w'.heap[rb + 1]? = some (.cells C 99 (0, 0)) ∧ C.size = 42
  bel : Below w.heap.size w w'
  sz : w.heap.size ≤ rb
theorem LW.next {rb : Nat} {row : Array Value} {w w1 w2 : World} (h : LW rb row w w1) (hb : Below w1.heap.size w1 w2) : LW rb row w w2 := by
  obtain ⟨C, h1, h2⟩ := h.ci
  exact ⟨(hb.block rb (Array.getElem?_eq_some_iff.1 h.row).1).trans h.row, ⟨C, (hb.block _ (Array.getElem?_eq_some_iff.1 h1).1).trans h1, h2⟩, h.bel.trans (hb.mono h.bel.size), h.sz⟩
theorem LW.put {rb : Nat} {row : Array Value} {w w1 w2 : World} (h : LW rb row w w1) (C : Array Value) (hc : w2.heap[rb + 1]? = some (.cells C 99 (0, 0))) (hs : C.size = 42) (hg : w1.grownBy w2 (some (rb + 1))) : LW rb row w w2 :=
  ⟨(hg.block rb (Array.getElem?_eq_some_iff.1 h.row).1 (fun e => by cases e)).trans h.row, ⟨C, hc, hs⟩, h.bel.grown hg h.bel.size (fun j hj => by cases hj; exact Nat.le_succ_of_le h.sz), h.sz⟩

set_option maxRecDepth 100000 in
set_option maxHeartbeats 4000000 in
theorem newLrw_any (i0 : Nat) (hi : i0 < 3) (g off cap : Nat) (F : Nat → Nat) (hF : ∀ j, F j < 256) (w : World) (hB : BL w (some ⟨g, off, none⟩) (4 * (4 + 2 * i0) + 16) F) (hcap : 4 * (4 + 2 * i0) + 16 ≤ cap) (hcm : cap ≤ 9223372036854775807) (hM : Modes w) :
    Calls Tryz.prog 24 #[.string (name (1 + 17 * i0 + 14)), .slice (some ⟨g, off, none⟩) (4 * (4 + 2 * i0) + 16) cap] w fun e w' => ∃ rb, e = .returned (.tuple #[.pointer (some ⟨rb, 0, none⟩), .int .i64 0]) ∧ Below w.heap.size w w' := by
  have FI := Lib.hid (find_any (1 + 17 * i0 + 14) (by omega) w hM)
  have RA : rowL (1 + 17 * i0 + 14) = [.string (pre i0 ++ nm 14), .string ⟨#[108, 114, 119]⟩, .string ⟨#[98, 101, 110, 98, 105]⟩, .int .i64 (16 + 8 * (i0 : Int)), .int .i64 ((4 * (4 + 2 * i0) + 16 : Nat) : Int)] := by
    rw [rowL_at i0 14 (by decide)]
    have e : szT i0 14 = ((4 * (4 + 2 * i0) + 16 : Nat) : Int) := by
      have : szT i0 14 = 16 + 8 * (i0 : Int) + 16 := rfl
      omega
    rw [e]
    rfl
  rw [RA] at FI
  have SC := Lib.hid (fun w' h => schedule_any g off (4 + 2 * i0) cap (by omega) F hF (by omega) hcm w' h)
  have HB := Lib.hid hB
  clear hB RA hM
  have hnk : 4 ≤ 4 + 2 * i0 ∧ 4 + 2 * i0 ≤ 8 := by omega
  have BK := Lib.hid (fun w' h => block_any g off (4 * (4 + 2 * i0) + 16) cap (4 * (4 + 2 * i0)) F (Nat.le_refl _) hcap hcm w' h)
  generalize 4 + 2 * i0 = nk at *
  generalize hn : 4 * nk + 16 = n at *
  have HN := Lib.hid hn
  clear hn
  generalize pre i0 ++ nm 14 = spec at *
  generalize name (1 + 17 * i0 + 14) = spec2 at *
  go_enter Tryz.func24, Tryz.ntmps24
  go_upto_region 21 with (go_at_call 18; refine FI.out.mono ?_; rintro e w1 ⟨rfl, hb⟩)
  have L0 : Hid (LW w1.heap.size #[.string spec, .string ⟨#[108, 114, 119]⟩, .string ⟨#[98, 101, 110, 98, 105]⟩, .int .i64 (16 + 8 * (i0 : Int)), .int .i64 (n : Nat)] w ((w1.alloc (.cells #[.string spec, .string ⟨#[108, 114, 119]⟩, .string ⟨#[98, 101, 110, 98, 105]⟩, .int .i64 (16 + 8 * (i0 : Int)), .int .i64 (n : Nat)] 45)).alloc (.cells #[.string spec, .string ⟨#[108, 114, 119]⟩, .string ⟨#[98, 101, 110, 98, 105]⟩, .int .i64 (16 + 8 * (i0 : Int)), .int .i64 (n : Nat), .int .i64 (n : Nat), .pointer none, .pointer none, .pointer none, .int .u8 0, .int .u8 0, .int .u8 0, .int .u8 0, .int .u8 0, .int .u8 0, .int .u8 0, .int .u8 0, .int .u8 0, .int .u8 0, .int .u8 0, .int .u8 0, .int .u8 0, .int .u8 0, .int .u8 0, .int .u8 0, .int .u8 0, .int .u8 0, .int .u8 0, .int .u8 0, .int .u8 0, .int .u8 0, .int .u8 0, .int .u8 0, .int .u8 0, .int .u8 0, .int .u8 0, .int .u8 0, .int .u8 0, .int .u8 0, .int .u8 0, .int .u8 0, .bool false] 99))) := Lib.hid ⟨(heap_alloc_old _ _ (by rw [World.size_alloc]; exact Nat.lt_succ_self _)).trans (heap_alloc_new w1 _), ⟨#[.string spec, .string ⟨#[108, 114, 119]⟩, .string ⟨#[98, 101, 110, 98, 105]⟩, .int .i64 (16 + 8 * (i0 : Int)), .int .i64 (n : Nat), .int .i64 (n : Nat), .pointer none, .pointer none, .pointer none, .int .u8 0, .int .u8 0, .int .u8 0, .int .u8 0, .int .u8 0, .int .u8 0, .int .u8 0, .int .u8 0, .int .u8 0, .int .u8 0, .int .u8 0, .int .u8 0, .int .u8 0, .int .u8 0, .int .u8 0, .int .u8 0, .int .u8 0, .int .u8 0, .int .u8 0, .int .u8 0, .int .u8 0, .int .u8 0, .int .u8 0, .int .u8 0, .int .u8 0, .int .u8 0, .int .u8 0, .int .u8 0, .int .u8 0, .int .u8 0, .int .u8 0, .int .u8 0, .bool false], (by have h := heap_alloc_new (w1.alloc (.cells #[.string spec, .string ⟨#[108, 114, 119]⟩, .string ⟨#[98, 101, 110, 98, 105]⟩, .int .i64 (16 + 8 * (i0 : Int)), .int .i64 (n : Nat)] 45)) (.cells #[.string spec, .string ⟨#[108, 114, 119]⟩, .string ⟨#[98, 101, 110, 98, 105]⟩, .int .i64 (16 + 8 * (i0 : Int)), .int .i64 (n : Nat), .int .i64 (n : Nat), .pointer none, .pointer none, .pointer none, .int .u8 0, .int .u8 0, .int .u8 0, .int .u8 0, .int .u8 0, .int .u8 0, .int .u8 0, .int .u8 0, .int .u8 0, .int .u8 0, .int .u8 0, .int .u8 0, .int .u8 0, .int .u8 0, .int .u8 0, .int .u8 0, .int .u8 0, .int .u8 0, .int .u8 0, .int .u8 0, .int .u8 0, .int .u8 0, .int .u8 0, .int .u8 0, .int .u8 0, .int .u8 0, .int .u8 0, .int .u8 0, .int .u8 0, .int .u8 0, .int .u8 0, .int .u8 0, .bool false] 99); rw [World.size_alloc] at h; exact h), rfl⟩, (hb.alloc hb.size _).alloc (by rw [World.size_alloc]; exact Nat.le_succ_of_le hb.size) _, hb.size⟩
  clear hb
  generalize ((w1.alloc (.cells #[.string spec, .string ⟨#[108, 114, 119]⟩, .string ⟨#[98, 101, 110, 98, 105]⟩, .int .i64 (16 + 8 * (i0 : Int)), .int .i64 (n : Nat)] 45)).alloc (.cells #[.string spec, .string ⟨#[108, 114, 119]⟩, .string ⟨#[98, 101, 110, 98, 105]⟩, .int .i64 (16 + 8 * (i0 : Int)), .int .i64 (n : Nat), .int .i64 (n : Nat), .pointer none, .pointer none, .pointer none, .int .u8 0, .int .u8 0, .int .u8 0, .int .u8 0, .int .u8 0, .int .u8 0, .int .u8 0, .int .u8 0, .int .u8 0, .int .u8 0, .int .u8 0, .int .u8 0, .int .u8 0, .int .u8 0, .int .u8 0, .int .u8 0, .int .u8 0, .int .u8 0, .int .u8 0, .int .u8 0, .int .u8 0, .int .u8 0, .int .u8 0, .int .u8 0, .int .u8 0, .int .u8 0, .int .u8 0, .int .u8 0, .int .u8 0, .int .u8 0, .int .u8 0, .int .u8 0, .bool false] 99)) = w2 at *
  obtain ⟨rb, hrb⟩ : ∃ rb, rb = w1.heap.size := ⟨_, rfl⟩
  rw [← hrb] at L0 ⊢
  clear hrb
  have hnn : n = 4 * nk + 16 := HN.out.symm
  have HNN := Lib.hid hnn
  have hnl : 16 ≤ n ∧ n ≤ 48 := by omega
  clear hnn
  go_upto_region 21 with fail
  refine wp_region_lit ?_
  refine Step.p_move rfl _ rfl (.pointer (some ⟨rb + 1, 0, none⟩)) rfl ?_
  simp only [Act.put, sA9, sB9, sC9]
  refine Step.p_move rfl _ rfl (.slice (some ⟨g, off, none⟩) n cap) rfl ?_
  simp only [Act.put, sA9, sB9, sC9]
  refine Step.p_move rfl _ rfl (.int .i64 n) rfl ?_
  simp only [Act.put, sA9, sB9, sC9]
  refine Step.p_val rfl (.int .i64 (4 * nk : Nat)) (by unfold execOp; have := HNN.out; go_simp; try (first | omega | exact (IntWalk.i64_in _ (by omega)).trans (by omega))) ?_
  simp only [Act.put, sA9, sB9, sC9]
  refine Step.p_val rfl (.slice (some ⟨g, off, none⟩) (4 * nk) cap) (by unfold execOp; have := HNN.out; go_simp; rw [if_pos ⟨by omega, by omega⟩, show (4 * (nk : Int)).toNat = 4 * nk by omega]) ?_
  simp only [Act.put, sA9, sB9, sC9]
  have SC2 := Lib.hid (SC.out w2 (fun i hi => by obtain ⟨g0, o0, e, hc⟩ := HB.out i (by have := HNN.out; omega); exact ⟨g0, o0, e, (L0.out.bel.cell (Frame.block_lt hc)).trans hc⟩))
  clear SC
  refine Step.p_wp rfl (Step.w_callx 45 [.tmp 86] _ rfl Tryz.func45 (by kernel_rfl) rfl [.slice (some ⟨g, off, none⟩) (4 * nk) cap] rfl (SC2.out) ?_)
  rintro e w3 ⟨kb, rfl, hb⟩
  refine ⟨_, rfl, ?_⟩
  simp only [Act.put, sA9, sB9, sC9]
  have L1 := Lib.hid (L0.out.next hb)
  clear hb SC2 L0
  obtain ⟨C1, hC1, hs1⟩ := L1.out.ci
  have HC1 := Lib.hid hC1
  clear hC1
  refine Step.p_val rfl (.pointer (some ⟨rb + 1, 0, none⟩)) (by unfold execOp; go_simp; try rfl) ?_
  simp only [Act.put, sA9, sB9, sC9]
  refine Tree.p_field rfl _ _ _ rfl (rb + 1) (0) rfl Tryz.underlying99 rfl (sz := 1) (by kernel_rfl) (by decide) (6) rfl ?_
  simp only [Act.put, sA9, sB9, sC9]
  refine Step.p_storeV rfl 97 _ _ rfl (rb + 1) 6 rfl (.pointer (some ⟨kb, 0, none⟩)) rfl (fun _ e => by cases e) rfl (by kernel_rfl) HC1.out (by omega) ?_
  intro w4 hr hg _
  simp only [Act.put]
  refine wpList_nil ?_
  have L2 := Lib.hid (L1.out.put _ hr (by simpa using hs1) hg)
  clear hr hg HC1 hs1 L1
  go_upto_region 22 with fail
  refine wp_region_lit ?_
  refine Step.p_move rfl _ rfl (.pointer (some ⟨rb + 1, 0, none⟩)) rfl ?_
  simp only [Act.put, sA9, sB9, sC9]
  refine Step.p_move rfl _ rfl (.slice (some ⟨g, off, none⟩) n cap) rfl ?_
  simp only [Act.put, sA9, sB9, sC9]
  refine Step.p_move rfl _ rfl (.int .i64 n) rfl ?_
  simp only [Act.put, sA9, sB9, sC9]
  refine Step.p_val rfl (.int .i64 (4 * nk : Nat)) (by unfold execOp; have := HNN.out; go_simp; try (first | omega | exact (IntWalk.i64_in _ (by omega)).trans (by omega))) ?_
  simp only [Act.put, sA9, sB9, sC9]
  have BK2 := Lib.hid (BK.out w4 (fun i hi => by obtain ⟨g0, o0, e, hc⟩ := HB.out i (by have := HNN.out; omega); exact ⟨g0, o0, e, (L2.out.bel.cell (Frame.block_lt hc)).trans hc⟩))
  clear BK
  refine Step.p_wp rfl (Step.w_callx 46 [.tmp 91, .tmp 93] _ rfl Tryz.func46 (by kernel_rfl) rfl [.slice (some ⟨g, off, none⟩) n cap, .int .i64 (4 * nk : Nat)] rfl (BK2.out) ?_)
  rintro e w5 ⟨rfl, hb⟩
  refine ⟨_, rfl, ?_⟩
  simp only [Act.put, sA9, sB9, sC9]
  have L3 := Lib.hid (L2.out.next hb)
  clear hb BK2 L2
  obtain ⟨C2, hC2, hs2⟩ := L3.out.ci
  have HC2 := Lib.hid hC2
  clear hC2
  refine Step.p_val rfl (.pointer (some ⟨rb + 1, 0, none⟩)) (by unfold execOp; go_simp; try rfl) ?_
  simp only [Act.put, sA9, sB9, sC9]
  refine Tree.p_field rfl _ _ _ rfl (rb + 1) (0) rfl Tryz.underlying99 rfl (sz := 16) (by kernel_rfl) (by decide) (9) rfl ?_
  simp only [Act.put, sA9, sB9, sC9]
  refine Tree.p_storemid rfl 27 _ _ rfl (rb + 1) 9 rfl (arr .u8 16 fun i => (F (4 * nk + i) : Nat)) rfl rfl (by intro v hv; simp [arr] at hv; obtain ⟨_, _, rfl⟩ := hv; rfl) HC2.out (by rw [hs2]; simp [arr]) ?_
  simp only [Act.put]
  refine wpList_nil ?_
  have L4 : Hid (LW rb #[.string spec, .string ⟨#[108, 114, 119]⟩, .string ⟨#[98, 101, 110, 98, 105]⟩, .int .i64 (16 + 8 * (i0 : Int)), .int .i64 (n : Nat)] w (w5.setRow (rb + 1) (Tree.patch C2 9 (arr .u8 16 fun i => (F (4 * nk + i) : Nat)).toList))) := Lib.hid (L3.out.put _ (setRow_heap _ _ _ _ _ _ HC2.out) (by rw [Tree.patch_size _ _ _ (by rw [hs2]; simp [arr])]; exact hs2) ⟨rfl, rfl, rfl, by simp, fun x _ hc => setRow_other _ (rb + 1) x _ (fun e => hc (by rw [e]))⟩)
  generalize w5.setRow (rb + 1) (Tree.patch C2 9 (arr .u8 16 fun i => (F (4 * nk + i) : Nat)).toList) = w6 at *
  clear HC2 hs2 L3
  go_upto_region 23 with fail
  refine wp_region_lit ?_
  refine Tree.p_field rfl _ _ _ rfl (rb) (0) rfl Tryz.underlying45 rfl (sz := 1) (by kernel_rfl) (by decide) (2) rfl ?_
  simp only [Act.put, sA9, sB9, sC9]
  refine Tree.p_load1 rfl _ _ rfl (rb) (2) rfl (.string ⟨#[98, 101, 110, 98, 105]⟩) ((cell_of_row _ _ _ _ _ _ L4.out.row).trans rfl) Tryz.underlying9 rfl ?_
  simp only [Act.put, sA9, sB9, sC9]
  refine Step.p_val rfl (.bool false) (by unfold execOp; go_simp; try rfl) ?_
  simp only [Act.put, sA9, sB9, sC9]
  refine wpList_nil ?_
  go_wp2
  go_ret2
  exact ⟨rb + 1, rfl, L4.out.bel⟩
end Go.Proofs.YtmifebcaifbmoaaGreatDoor.Ref3
end
