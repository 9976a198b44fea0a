/- tweak: a block by a scheduled key; a key scheduled. -/
import Derived.Test.YtcgjhjijfhgclaaGreatDoorMRj18
import Derived.Test.YtcgjhjijfhgclaaGreatDoorMFieldT
import Derived.Test.YtcgjhjijfhgclaaGreatDoorMPick
namespace Go.Proofs.YtcgjhjijfhgclaaGreatDoor.Tw
open Go.RowKit Go.Lib Go.Proofs.YtcgjhjijfhgclaaGreatDoor.Blk Go.Proofs.YtcgjhjijfhgclaaGreatDoor.Aes Go.Proofs.YtcgjhjijfhgclaaGreatDoor.Rj Go.Proofs.YtcgjhjijfhgclaaGreatDoor.Field Go.Proofs.YtcgjhjijfhgclaaGreatDoor.Poly

/-- the constants of the schedule, as the package's variable holds them -/
def RconAt (w : World) : Prop := ∀ i, i < 10 → w.cell? ⟨4, i, none⟩ = some (.int .u8 (rc i : Nat))
theorem RconAt.below {w w' : World} (h : RconAt w) (hb : Below w.heap.size w w') : RconAt w' := fun i hi => (hb.cell (p := ⟨4, i, none⟩) (Frame.block_lt (h i hi))).trans (h i hi)
/-- a block encrypted, blocks as numbers -/
def encN (k : Nat → Nat → Nat) (nr n : Nat) : Nat := lowN (encB k nr (byt n)) 16
/-- a key at hand in the heap -/
structure Sched (key : Nat → Nat) (nk : Nat) (v : Value) (w : World) : Prop where
  sz : nk = 4 ∨ nk = 6 ∨ nk = 8
  byt : Byt key (4 * nk)
  at_ : ∃ tb wb bb kb, v = .pointer (some ⟨kb, 0, none⟩) ∧ KeyAt (4 * nk : Nat) (rk nk key) (nk + 6) tb wb bb kb w
theorem Sched.below {key : Nat → Nat} {nk : Nat} {v : Value} {w w' : World} (h : Sched key nk v w) (hb : Below w.heap.size w w') : Sched key nk v w' := by
  obtain ⟨h1, h2, tb, wb, bb, kb, h3, h4⟩ := h
  exact ⟨h1, h2, tb, wb, bb, kb, h3, h4.below hb⟩
/-- the block of a key -/
def keyE (key : Nat → Nat) (nk n : Nat) : Nat := encN (rk nk key) (nk + 6) n
theorem encN_lt (k : Nat → Nat → Nat) (nr n : Nat) (h : Byt (encB k nr (byt n)) 16) : encN k nr n < 2 ^ 128 := by
  unfold encN
  have : lowN (encB k nr (byt n)) 16 = lowN (fun i => encB k nr (byt n) i % 256) 16 := lowN_congr fun i hi => (Nat.mod_eq_of_lt (h i hi)).symm
  rw [this]
  exact lowN_lt _ (fun _ => Nat.mod_lt _ (by decide)) 16
theorem byt_encN (k : Nat → Nat → Nat) (nr n : Nat) (h : Byt (encB k nr (byt n)) 16) : ∀ i, i < 16 → byt (encN k nr n) i = encB k nr (byt n) i := fun i hi => by
  unfold encN
  have : lowN (encB k nr (byt n)) 16 = lowN (fun i => encB k nr (byt n) i % 256) 16 := lowN_congr fun i hi => (Nat.mod_eq_of_lt (h i hi)).symm
  rw [this]
  rw [byt_lowN (fun _ => Nat.mod_lt _ (by decide)) hi]
  exact Nat.mod_eq_of_lt (h i hi)

set_option maxRecDepth 100000 in
set_option maxHeartbeats 4000000 in
theorem code_any (key : Nat → Nat) (nk : Nat) (v : Value) (n : Nat) (w : World) (hK : Sched key nk v w) :
    Calls Tryz.prog 72 #[v, B16 n] w fun e w' => e = .returned (B16 (keyE key nk n)) ∧ Below w.heap.size w w' := by
  obtain ⟨hnk, hkey, tb, wb, bb, kb, rfl, hK⟩ := hK
  have z16 : (Tryz.prog.info? 27).bind (·.zero) = some (.agg (arr .u8 16 fun _ => 0)) := by kernel_rfl
  have hkb := rk_byt hkey (by omega)
  have EN := Lib.hid (fun w h => encryptKey_any (4 * nk : Nat) (rk nk key) (nk + 6) (by omega) (by omega) hkb (byt n) (fun i _ => byt_lt n i) tb wb bb kb w h)
  have HB : Hid (Byt (encB (rk nk key) (nk + 6) (byt n)) 16) := Lib.hid (encB_byt (fun i _ => byt_lt n i) hkb)
  have HK := Lib.hid hK
  clear hK hkb hkey
  go_enter Tryz.func72, Tryz.ntmps72
  go_upto_region 0 with fail
  refine wp_region_lit ?_
  refine New.p_box rfl 27 _ rfl .u8 16 (fun i => ((byt n i : Nat) : Int)) rfl ?_
  intro w1 a1 g1 s1
  simp only [Act.put, List.setIfInBounds_toArray, List.set_cons_zero, List.set_cons_succ]
  refine New.p_newarr rfl 27 rfl .u8 16 z16 ?_
  intro w2 a2 g2 s2
  simp only [Act.put, List.setIfInBounds_toArray, List.set_cons_zero, List.set_cons_succ]
  rw [s1] at a2 s2 ⊢
  refine wpList_nil ?_
  have A1 := Lib.hid (bel_arr (_B := 0) a1 (bel_of_gb (_B := 0) g2))
  have A2 := Lib.hid a2
  have B2 := Lib.hid (((Below.refl w.heap.size w).grown g1 (Nat.le_refl _) (by simp)).grown g2 (by omega) (by simp))
  clear a1 g1 s1 a2 g2 s2
  go_upto_region 1 with fail
  refine wp_region_lit ?_
  refine Step.p_move rfl _ rfl (.pointer (some ⟨kb, 0, none⟩)) rfl ?_
  simp only [Act.put, List.setIfInBounds_toArray, List.set_cons_zero, List.set_cons_succ]
  refine Step.p_load rfl 27 _ rfl _ rfl A1.out Tryz.underlying27 rfl Field.info16 ?_
  simp only [Act.put, List.setIfInBounds_toArray, List.set_cons_zero, List.set_cons_succ]
  refine Step.p_wp rfl (Step.w_callx 113 [.tmp 8, .tmp 9] _ rfl Tryz.func113 (by kernel_rfl) rfl [.pointer (some ⟨kb, 0, none⟩), .agg (arr .u8 16 fun i => ((byt n i : Nat) : Int))] rfl (EN.out _ (HK.out.below B2.out)) ?_)
  rintro e w3 ⟨rfl, hb⟩
  refine ⟨_, rfl, ?_⟩
  simp only [Act.put, List.setIfInBounds_toArray, List.set_cons_zero, List.set_cons_succ]
  have E : Hid (arr .u8 16 (fun i => ((thrB mE S 1 (rk nk key) (nk + 6) (byt n) i : Nat) : Int)) = arr .u8 16 fun i => ((byt (keyE key nk n) i : Nat) : Int)) := Lib.hid (arr_congr fun i hi => by unfold keyE; rw [byt_encN _ _ _ HB.out i hi]; rfl)
  rw [E.out]
  have A3 := Lib.hid (bel_arr (_B := 0) A2.out hb)
  have B3 := Lib.hid (B2.out.trans (hb.mono B2.out.size))
  clear hb A1 A2 B2 EN HK
  refine Step.p_move rfl _ rfl (.tuple #[B16 (keyE key nk n), .int .i64 0]) rfl ?_
  simp only [Act.put, List.setIfInBounds_toArray, List.set_cons_zero, List.set_cons_succ]
  refine Step.p_val rfl (B16 (keyE key nk n)) (by unfold execOp; go_simp; try rfl) ?_
  simp only [Act.put, List.setIfInBounds_toArray, List.set_cons_zero, List.set_cons_succ]
  refine Step.p_val rfl (.int .i64 0) (by unfold execOp; go_simp; try rfl) ?_
  simp only [Act.put, List.setIfInBounds_toArray, List.set_cons_zero, List.set_cons_succ]
  refine New.p_newarr rfl 27 rfl .u8 16 z16 ?_
  intro w4 a4 g4 s4
  simp only [Act.put, List.setIfInBounds_toArray, List.set_cons_zero, List.set_cons_succ]
  refine Step.p_store 27 _ _ rfl w3.heap.size rfl rfl a4 Field.info16 rfl ?_
  intro w5 a5 g5 s5
  simp only [Act.put]
  refine Step.p_assign rfl _ rfl (.int .i64 0) rfl ?_
  simp only [Act.put, List.setIfInBounds_toArray, List.set_cons_zero, List.set_cons_succ]
  refine wpList_nil ?_
  have A5 := Lib.hid ((bel_arr (_B := 0) A3.out (bel_of_gb (_B := 0) g4)).grown g5 (by have := A3.out.lt; omega))
  have B5 := Lib.hid ((B3.out.grown g4 B3.out.size (by simp)).grown g5 (by have := B3.out.size; omega) (fun j hj => by cases hj; exact B3.out.size))
  have A6 := Lib.hid a5
  clear a4 g4 s4 a5 g5 s5
  go_upto_region 2 with fail
  refine wp_region_lit ?_
  refine Step.p_load rfl 27 _ rfl _ rfl A6.out Tryz.underlying27 rfl Field.info16 ?_
  simp only [Act.put, List.setIfInBounds_toArray, List.set_cons_zero, List.set_cons_succ]
  refine Step.p_store 27 _ _ rfl (w.heap.size + 1) rfl rfl A5.out Field.info16 rfl ?_
  intro w7 a7 g7 s7
  simp only [Act.put]
  refine wpList_nil ?_
  have B7 := Lib.hid (B5.out.grown g7 B5.out.size (fun j hj => by cases hj; exact Nat.le_succ _))
  clear g7
  go_wp2
  exact ret_arr rfl rfl a7 Tryz.underlying27 rfl Field.info16 rfl ⟨rfl, B7.out⟩

set_option maxRecDepth 100000 in
set_option maxHeartbeats 4000000 in
theorem scheduled_any (key : Nat → Nat) (nk : Nat) (hnk : nk = 4 ∨ nk = 6 ∨ nk = 8) (hkey : Byt key (4 * nk)) (g off cap : Nat) (w : World) (hc : ∀ j, j < 4 * nk → w.cell? ⟨g, off + j, none⟩ = some (.int .u8 (key j : Nat))) (hcap : 4 * nk ≤ cap) (hcm : cap ≤ 9223372036854775807) (hR : RconAt w) :
    Calls Tryz.prog 76 #[.slice (some ⟨g, off, none⟩) (4 * nk) cap] w fun e w' => ∃ v, e = .returned v ∧ Sched key nk v w' ∧ Below w.heap.size w w' := by
  have NW := Lib.hid (new_any key nk hnk hkey g off cap w hc hcap hcm hR)
  have HK := Lib.hid hkey
  have HN := Lib.hid hnk
  clear hc hR hkey hnk
  go_enter Tryz.func76, Tryz.ntmps76
  go_wp2_with (go_at_call 115; refine NW.out.mono ?_; rintro e w' ⟨kb, tb, wb, bb, rfl, hk, hb⟩)
  go_ret
  exact ⟨_, rfl, ⟨HN.out, HK.out, tb, wb, bb, kb, rfl, hk⟩, hb⟩
end Go.Proofs.YtcgjhjijfhgclaaGreatDoor.Tw
