import Derived.Test.YtmifebcaifbmoaaGreatDoorJ19
import Derived.Test.YtmifebcaifbmoaaGreatDoorJ00
import Derived.Test.YtmifebcaifbmoaaGreatDoorJ20
import Derived.StillTail
import Derived.Deep.QuietTactic
import Derived.BigQuiet
import Derived.Test.YtmifebcaifbmoaaGreatDoorJ14
import Derived.Ground.NamesProg
import Derived.Ground.Names7Prog
import Derived.Shelf.Bits.Mul64
import Derived.Shelf.Spec.BitsCarry
/- Decode -/
section
namespace Go.Proofs.YtmifebcaifbmoaaGreatDoor.Tw
open Go.RowKit Go.Lib Go.Proofs.YtmifebcaifbmoaaGreatDoor.Blk Go.Proofs.YtmifebcaifbmoaaGreatDoor.Aes Go.Proofs.YtmifebcaifbmoaaGreatDoor.Rj Go.Proofs.YtmifebcaifbmoaaGreatDoor.Field Go.Proofs.YtmifebcaifbmoaaGreatDoor.Poly

/-- a block decrypted, blocks as numbers -/
def decN (k : Nat → Nat → Nat) (nr n : Nat) : Nat := lowN (decB k nr (byt n)) 16
def keyD (key : Nat → Nat) (nk n : Nat) : Nat := decN (rk nk key) (nk + 6) n
theorem byt_decN (k : Nat → Nat → Nat) (nr n : Nat) (h : Byt (decB k nr (byt n)) 16) : ∀ i, i < 16 → byt (decN k nr n) i = decB k nr (byt n) i := fun i hi => by
  unfold decN
  have : lowN (decB k nr (byt n)) 16 = lowN (fun i => decB k nr (byt n) i % 256) 16 := lowN_congr fun i hi => (Nat.mod_eq_of_lt (h i hi)).symm
  rw [this]
  rw [byt_lowN (fun _ => Nat.mod_lt _ (by decide)) hi]
  exact Nat.mod_eq_of_lt (h i hi)
section
variable {key : Nat → Nat} {nk : Nat} (hk : Byt key (4 * nk)) (h1 : 1 ≤ nk)
include hk h1
theorem keyE_lt (n : Nat) : keyE key nk n < 2 ^ 128 := encN_lt _ _ _ (encB_byt (fun i _ => byt_lt n i) (rk_byt hk h1))
end
set_option maxRecDepth 100000 in
set_option maxHeartbeats 4000000 in
theorem decode_any (key : Nat → Nat) (nk : Nat) (v : Value) (n : Nat) (w : World) (hK : Sched key nk v w) :
    Calls Tryz.prog 109 #[v, B16 n] w fun e w' => e = .returned (B16 (keyD key nk n)) ∧ Below w.heap.size w w' := by
  obtain ⟨hnk, hkey, tb, wb, bb, kb, rfl, hK⟩ := hK
  have z16 : (Tryz.prog.info? 27).bind (·.zero) = some (.agg (arr .u8 16 fun _ => 0)) := by kernel_rfl
  have hkb := rk_byt hkey (by omega)
  have EN := Lib.hid (fun w h => decryptKey_any (4 * nk : Nat) (rk nk key) (nk + 6) (by omega) (by omega) hkb (byt n) (fun i _ => byt_lt n i) tb wb bb kb w h)
  have HB : Hid (Byt (decB (rk nk key) (nk + 6) (byt n)) 16) := Lib.hid (decB_byt (fun i _ => byt_lt n i) hkb)
  have HK := Lib.hid hK
  clear hK hkb hkey
  go_enter Tryz.func109, Tryz.ntmps109
  go_upto_region 0 with fail
  refine wp_region_lit ?_
  refine New.p_box rfl 27 _ rfl .u8 16 (fun i => ((byt n i : Nat) : Int)) rfl ?_
  intro w1 a1 g1 s1
  simp only [Act.put, List.setIfInBounds_toArray, List.set_cons_zero, List.set_cons_succ]
  refine New.p_newarr rfl 27 rfl .u8 16 z16 ?_
  intro w2 a2 g2 s2
  simp only [Act.put, List.setIfInBounds_toArray, List.set_cons_zero, List.set_cons_succ]
  rw [s1] at a2 s2 ⊢
  refine wpList_nil ?_
  have A1 := Lib.hid (bel_arr (_B := 0) a1 (bel_of_gb (_B := 0) g2))
  have A2 := Lib.hid a2
  have B2 := Lib.hid (((Below.refl w.heap.size w).grown g1 (Nat.le_refl _) (by simp)).grown g2 (by omega) (by simp))
  clear a1 g1 s1 a2 g2 s2
  go_upto_region 1 with fail
  refine wp_region_lit ?_
  refine Step.p_move rfl _ rfl (.pointer (some ⟨kb, 0, none⟩)) rfl ?_
  simp only [Act.put, List.setIfInBounds_toArray, List.set_cons_zero, List.set_cons_succ]
  refine Step.p_load rfl 27 _ rfl _ rfl A1.out Tryz.underlying27 rfl Field.info16 ?_
  simp only [Act.put, List.setIfInBounds_toArray, List.set_cons_zero, List.set_cons_succ]
  refine Step.p_wp rfl (Step.w_callx 157 [.tmp 8, .tmp 9] _ rfl Tryz.func157 (by kernel_rfl) rfl [.pointer (some ⟨kb, 0, none⟩), .agg (arr .u8 16 fun i => ((byt n i : Nat) : Int))] rfl (EN.out _ (HK.out.below B2.out)) ?_)
  rintro e w3 ⟨rfl, hb⟩
  refine ⟨_, rfl, ?_⟩
  simp only [Act.put, List.setIfInBounds_toArray, List.set_cons_zero, List.set_cons_succ]
  have E : Hid (arr .u8 16 (fun i => ((thrB mD U 3 (backK (rk nk key) (nk + 6)) (nk + 6) (byt n) i : Nat) : Int)) = arr .u8 16 fun i => ((byt (keyD key nk n) i : Nat) : Int)) := Lib.hid (arr_congr fun i hi => by unfold keyD; rw [byt_decN _ _ _ HB.out i hi]; rfl)
  rw [E.out]
  have A3 := Lib.hid (bel_arr (_B := 0) A2.out hb)
  have B3 := Lib.hid (B2.out.trans (hb.mono B2.out.size))
  clear hb A1 A2 B2 EN HK
  refine Step.p_move rfl _ rfl (.tuple #[B16 (keyD key nk n), .int .i64 0]) rfl ?_
  simp only [Act.put, List.setIfInBounds_toArray, List.set_cons_zero, List.set_cons_succ]
  refine Step.p_val rfl (B16 (keyD key nk n)) (by unfold execOp; go_simp; try rfl) ?_
  simp only [Act.put, List.setIfInBounds_toArray, List.set_cons_zero, List.set_cons_succ]
  refine Step.p_val rfl (.int .i64 0) (by unfold execOp; go_simp; try rfl) ?_
  simp only [Act.put, List.setIfInBounds_toArray, List.set_cons_zero, List.set_cons_succ]
  refine New.p_newarr rfl 27 rfl .u8 16 z16 ?_
  intro w4 a4 g4 s4
  simp only [Act.put, List.setIfInBounds_toArray, List.set_cons_zero, List.set_cons_succ]
  refine Step.p_store 27 _ _ rfl w3.heap.size rfl rfl a4 Field.info16 rfl ?_
  intro w5 a5 g5 s5
  simp only [Act.put]
  refine Step.p_assign rfl _ rfl (.int .i64 0) rfl ?_
  simp only [Act.put, List.setIfInBounds_toArray, List.set_cons_zero, List.set_cons_succ]
  refine wpList_nil ?_
  have A5 := Lib.hid ((bel_arr (_B := 0) A3.out (bel_of_gb (_B := 0) g4)).grown g5 (by have := A3.out.lt; omega))
  have B5 := Lib.hid ((B3.out.grown g4 B3.out.size (by simp)).grown g5 (by have := B3.out.size; omega) (fun j hj => by cases hj; exact B3.out.size))
  have A6 := Lib.hid a5
  clear a4 g4 s4 a5 g5 s5
  go_upto_region 2 with fail
  refine wp_region_lit ?_
  refine Step.p_load rfl 27 _ rfl _ rfl A6.out Tryz.underlying27 rfl Field.info16 ?_
  simp only [Act.put, List.setIfInBounds_toArray, List.set_cons_zero, List.set_cons_succ]
  refine Step.p_store 27 _ _ rfl (w.heap.size + 1) rfl rfl A5.out Field.info16 rfl ?_
  intro w7 a7 g7 s7
  simp only [Act.put]
  refine wpList_nil ?_
  have B7 := Lib.hid (B5.out.grown g7 B5.out.size (fun j hj => by cases hj; exact Nat.le_succ _))
  clear g7
  go_wp2
  exact ret_arr rfl rfl a7 Tryz.underlying27 rfl Field.info16 rfl ⟨rfl, B7.out⟩

theorem doK_decode {key : Nat → Nat} {nk : Nat} {v : Value} {w : World} (h : Sched key nk v w) : G.DoK 109 v (keyD key nk) w := fun n _ w' k => decode_any key nk v n w' (h.kq k)
end Go.Proofs.YtmifebcaifbmoaaGreatDoor.Tw
end

/- Starts -/
section
namespace Go.Proofs.YtmifebcaifbmoaaGreatDoor.G
open Go.RowKit Go.Lib Go.Proofs.YtmifebcaifbmoaaGreatDoor.Blk Go.Proofs.YtmifebcaifbmoaaGreatDoor.Poly Go.Proofs.YtmifebcaifbmoaaGreatDoor.Field Go.Proofs.YtmifebcaifbmoaaGreatDoor.Tab Go.Proofs.YtmifebcaifbmoaaGreatDoor.Tw Go.Proofs.YtmifebcaifbmoaaGreatDoor.RS
theorem little0 (x : Nat) (hx : x < 2 ^ 64) (w : World) : Calls Tryz.prog 100 #[.int .u64 0, .int .u64 x] w fun e w' => e = .returned (B16 x) ∧ Below w.heap.size w w' := by
  have h := little_any 0 x hx w
  rwa [Nat.zero_mul, Nat.zero_add] at h
theorem big0 (x : Nat) (hx : x < 2 ^ 64) (w : World) : Calls Tryz.prog 113 #[.int .u64 0, .int .u64 x] w fun e w' => e = .returned (B16 (revN x)) ∧ Below w.heap.size w w' := by
  have h := big_any 0 x hx w
  rwa [Nat.zero_mul, Nat.zero_add] at h
theorem and32 (s : Nat) (hs : s < 2 ^ 64) : bits .and .u64 (s : Int) 4294967295 = ((s % 4294967296 : Nat) : Int) := by
  have h := and_u64 s 4294967295 hs (by decide)
  rw [show ((4294967295 : Int)) = ((4294967295 : Nat) : Int) from rfl, h]
  exact congrArg _ (Nat.and_two_pow_sub_one_eq_mod s 32)
set_option maxRecDepth 100000 in
set_option maxHeartbeats 4000000 in
theorem fromPlain_any (xb s n : Nat) (hs : s < 2 ^ 64) (w : World) : Calls Tryz.prog 67 #[.pointer (some ⟨xb, 0, none⟩), .int .u64 s, .int .i64 n] w fun e w' => e = .returned (B16 (s % 4294967296)) ∧ Below w.heap.size w w' := by
  have LT := Lib.hid (fun w' => little0 (s % 4294967296) (by omega) w')
  have AN := Lib.hid (and32 s hs)
  have Z0 := Lib.hid (RB.start w)
  go_enter Tryz.func67, Tryz.ntmps67
  go_upto_region 0 with fail
  refine wp_region_lit ?_
  refine New.p_newarr rfl 27 rfl .u8 16 RS.z16 ?_
  intro w1 ha hg2 _
  obtain ⟨q, hq⟩ : ∃ q, w.heap.size = q := ⟨_, rfl⟩
  rw [hq] at ha ⊢
  have Z2 := Lib.hid (Z0.out.new hq ha hg2)
  clear ha hg2 hq Z0
  simp only [Act.put, List.setIfInBounds_toArray, List.set_cons_zero, List.set_cons_succ]
  refine wpList_nil ?_
  go_upto_region 1 with fail
  refine wp_region_lit ?_
  refine Step.p_move rfl _ rfl (.int .u64 s) rfl ?_
  simp only [Act.put, List.setIfInBounds_toArray, List.set_cons_zero, List.set_cons_succ]
  refine Step.p_val rfl (.int .u64 (s % 4294967296 : Nat)) (by unfold execOp; have := AN.out; go_simp; try (first | exact AN.out | rw [AN.out])) ?_
  simp only [Act.put, List.setIfInBounds_toArray, List.set_cons_zero, List.set_cons_succ]
  refine Step.p_wp rfl (Step.w_callx 100 _ _ rfl Tryz.func100 (by kernel_rfl) rfl [.int .u64 0, .int .u64 (s % 4294967296 : Nat)] rfl (LT.out _) ?_)
  rintro e w3 ⟨rfl, hb⟩
  have Z4 := Lib.hid (Z2.out.bel_ hb)
  clear hb Z2
  refine ⟨_, rfl, ?_⟩
  simp only [Act.put, List.setIfInBounds_toArray, List.set_cons_zero, List.set_cons_succ]
  refine Step.p_store 27 _ _ rfl (q) rfl rfl (Z4.out.own (q, 0) (.head _)).1 Field.info16 rfl ?_
  intro w5 ha hg2 _
  have Z6 := Lib.hid (Z4.out.store0 (y := s % 4294967296) ha hg2)
  clear ha hg2 Z4
  simp only [Act.put]
  refine wpList_nil ?_
  go_wp2
  exact ret_arr rfl rfl (Z6.out.own (q, s % 4294967296) (.head _)).1 Tryz.underlying27 rfl Field.info16 rfl ⟨rfl, Z6.out.bel⟩
set_option maxRecDepth 100000 in
set_option maxHeartbeats 4000000 in
theorem fromPlain64_any (xb s n : Nat) (hs : s < 2 ^ 64) (w : World) : Calls Tryz.prog 68 #[.pointer (some ⟨xb, 0, none⟩), .int .u64 s, .int .i64 n] w fun e w' => e = .returned (B16 (s)) ∧ Below w.heap.size w w' := by
  have LT := Lib.hid (fun w' => little0 s hs w')
  have Z0 := Lib.hid (RB.start w)
  go_enter Tryz.func68, Tryz.ntmps68
  go_upto_region 0 with fail
  refine wp_region_lit ?_
  refine New.p_newarr rfl 27 rfl .u8 16 RS.z16 ?_
  intro w1 ha hg2 _
  obtain ⟨q, hq⟩ : ∃ q, w.heap.size = q := ⟨_, rfl⟩
  rw [hq] at ha ⊢
  have Z2 := Lib.hid (Z0.out.new hq ha hg2)
  clear ha hg2 hq Z0
  simp only [Act.put, List.setIfInBounds_toArray, List.set_cons_zero, List.set_cons_succ]
  refine wpList_nil ?_
  go_upto_region 1 with fail
  refine wp_region_lit ?_
  refine Step.p_move rfl _ rfl (.int .u64 s) rfl ?_
  simp only [Act.put, List.setIfInBounds_toArray, List.set_cons_zero, List.set_cons_succ]
  refine Step.p_wp rfl (Step.w_callx 100 _ _ rfl Tryz.func100 (by kernel_rfl) rfl [.int .u64 0, .int .u64 (s : Nat)] rfl (LT.out _) ?_)
  rintro e w3 ⟨rfl, hb⟩
  have Z4 := Lib.hid (Z2.out.bel_ hb)
  clear hb Z2
  refine ⟨_, rfl, ?_⟩
  simp only [Act.put, List.setIfInBounds_toArray, List.set_cons_zero, List.set_cons_succ]
  refine Step.p_store 27 _ _ rfl (q) rfl rfl (Z4.out.own (q, 0) (.head _)).1 Field.info16 rfl ?_
  intro w5 ha hg2 _
  have Z6 := Lib.hid (Z4.out.store0 (y := s) ha hg2)
  clear ha hg2 Z4
  simp only [Act.put]
  refine wpList_nil ?_
  go_wp2
  exact ret_arr rfl rfl (Z6.out.own (q, s) (.head _)).1 Tryz.underlying27 rfl Field.info16 rfl ⟨rfl, Z6.out.bel⟩
set_option maxRecDepth 100000 in
set_option maxHeartbeats 4000000 in
theorem fromPlain64be_any (xb s n : Nat) (hs : s < 2 ^ 64) (w : World) : Calls Tryz.prog 69 #[.pointer (some ⟨xb, 0, none⟩), .int .u64 s, .int .i64 n] w fun e w' => e = .returned (B16 (revN s)) ∧ Below w.heap.size w w' := by
  have LT := Lib.hid (fun w' => big0 s hs w')
  have Z0 := Lib.hid (RB.start w)
  go_enter Tryz.func69, Tryz.ntmps69
  go_upto_region 0 with fail
  refine wp_region_lit ?_
  refine New.p_newarr rfl 27 rfl .u8 16 RS.z16 ?_
  intro w1 ha hg2 _
  obtain ⟨q, hq⟩ : ∃ q, w.heap.size = q := ⟨_, rfl⟩
  rw [hq] at ha ⊢
  have Z2 := Lib.hid (Z0.out.new hq ha hg2)
  clear ha hg2 hq Z0
  simp only [Act.put, List.setIfInBounds_toArray, List.set_cons_zero, List.set_cons_succ]
  refine wpList_nil ?_
  go_upto_region 1 with fail
  refine wp_region_lit ?_
  refine Step.p_move rfl _ rfl (.int .u64 s) rfl ?_
  simp only [Act.put, List.setIfInBounds_toArray, List.set_cons_zero, List.set_cons_succ]
  refine Step.p_wp rfl (Step.w_callx 113 _ _ rfl Tryz.func113 (by kernel_rfl) rfl [.int .u64 0, .int .u64 (s : Nat)] rfl (LT.out _) ?_)
  rintro e w3 ⟨rfl, hb⟩
  have Z4 := Lib.hid (Z2.out.bel_ hb)
  clear hb Z2
  refine ⟨_, rfl, ?_⟩
  simp only [Act.put, List.setIfInBounds_toArray, List.set_cons_zero, List.set_cons_succ]
  refine Step.p_store 27 _ _ rfl (q) rfl rfl (Z4.out.own (q, 0) (.head _)).1 Field.info16 rfl ?_
  intro w5 ha hg2 _
  have Z6 := Lib.hid (Z4.out.store0 (y := revN s) ha hg2)
  clear ha hg2 Z4
  simp only [Act.put]
  refine wpList_nil ?_
  go_wp2
  exact ret_arr rfl rfl (Z6.out.own (q, revN s) (.head _)).1 Tryz.underlying27 rfl Field.info16 rfl ⟨rfl, Z6.out.bel⟩
end Go.Proofs.YtmifebcaifbmoaaGreatDoor.G
end

/- Parts1 -/
section
namespace Go.Proofs.YtmifebcaifbmoaaGreatDoor.G
open Go.RowKit Go.Lib Go.Proofs.YtmifebcaifbmoaaGreatDoor.Blk Go.Proofs.YtmifebcaifbmoaaGreatDoor.Aes Go.Proofs.YtmifebcaifbmoaaGreatDoor.Rj Go.Proofs.YtmifebcaifbmoaaGreatDoor.Poly Go.Proofs.YtmifebcaifbmoaaGreatDoor.Field Go.Proofs.YtmifebcaifbmoaaGreatDoor.Tab Go.Proofs.YtmifebcaifbmoaaGreatDoor.Tw Go.Proofs.YtmifebcaifbmoaaGreatDoor.RS

/-- a core under way -/
structure CZ (xb : Nat) (cs : Array Value) (w w' : World) : Prop where
  hc : w'.heap[xb]? = some (.cells cs 96 (0, 0))
  gb : w.grownBy w' (some xb)
theorem CZ.start {xb : Nat} {cs : Array Value} {w : World} (h : w.heap[xb]? = some (.cells cs 96 (0, 0))) : CZ xb cs w w := ⟨h, gb_refl w _⟩
theorem CZ.bel {xb : Nat} {cs : Array Value} {w w1 w2 : World} (h : CZ xb cs w w1) (hb : Below w1.heap.size w1 w2) : CZ xb cs w w2 := ⟨(hb.block xb (Array.getElem?_eq_some_iff.1 h.hc).1).trans h.hc, gb_bel h.gb hb⟩
theorem CZ.drew {xb : Nat} {cs : Array Value} {w w1 : World} (h : CZ xb cs w w1) : CZ xb cs w w1.drew := h.bel (Below.refl _ _).drew
theorem CZ.put {xb : Nat} {cs cs2 : Array Value} {w w1 w2 : World} (h : CZ xb cs w w1) (hr : w2.heap[xb]? = some (.cells cs2 96 (0, 0))) (hg : w1.grownBy w2 (some xb)) : CZ xb cs2 w w2 := ⟨hr, gb_trans h.gb hg⟩
/-- keys stay where a core changes -/
theorem CZ.kq {xb : Nat} {cs : Array Value} {w w1 w2 : World} (h : CZ xb cs w w1) (h0 : ∃ s, cs[0]? = some (.string s)) (hg : w1.grownBy w2 (some xb)) : Kq w1 w2 := by
  obtain ⟨s, hs⟩ := h0
  exact Kq.of_gb h.hc (by decide) (by decide) (fun z e => by rw [hs] at e; cases e) hg

theorem Sched.ne {key : Nat → Nat} {nk : Nat} {v : Value} {w : World} (h : Hid (Sched key nk v w)) : ∀ cs, v ≠ .agg cs := by
  obtain ⟨_, _, _, _, _, _, rfl, _⟩ := h.out
  intro cs e
  cases e
theorem Sched.one {key : Nat → Nat} {nk : Nat} {v : Value} {w : World} (h : Hid (Sched key nk v w)) : v.oneCell' = true := by
  obtain ⟨_, _, _, _, _, _, rfl, _⟩ := h.out
  rfl
set_option maxRecDepth 100000 in
set_option maxHeartbeats 4000000 in
theorem twoParts_any (key : Nat → Nat) (nk : Nat) (hnk : nk = 4 ∨ nk = 6 ∨ nk = 8) (hkey : Byt key (8 * nk)) (xb g off cap : Nat) (cs : Array Value) (w : World) (hcb : w.heap[xb]? = some (.cells cs 96 (0, 0))) (hsz : cs.size = 37) (h0 : ∃ s, cs[0]? = some (.string s))
    (hc : KeyB w g off (8 * nk) key) (hgx : g ≠ xb) (hcap : 8 * nk ≤ cap) (hcm : cap ≤ 9223372036854775807) (hR : RconAt w) (hrx : 2 ≠ xb) :
    Calls Tryz.prog 75 #[.pointer (some ⟨xb, 0, none⟩), .slice (some ⟨g, off, none⟩) (8 * nk) cap] w fun e w' => e = .returned (.tuple #[]) ∧ (∃ v z, w'.heap[xb]? = some (.cells ((cs.setIfInBounds 2 v).setIfInBounds 3 z) 96 (0, 0)) ∧ Sched key nk v w' ∧ Sched (fun i => key (4 * nk + i)) nk z w') ∧ w.grownBy w' (some xb) := by
  have hnk8 : 4 ≤ nk ∧ nk ≤ 8 := by omega
  have HH : Hid ((8 * (nk : Int)).tdiv 2 = 4 * (nk : Int)) := Lib.hid (by rw [Int.tdiv_eq_ediv_of_nonneg (by omega)]; omega)
  have CK : ∀ b o v w', b ≠ xb → w.grownBy w' (some xb) → w.cell? ⟨b, o, none⟩ = some v → w'.cell? ⟨b, o, none⟩ = some v := fun b o v w' hne hg h => cell_gb hg hne h
  have SC := Lib.hid (fun w' (h : w.grownBy w' (some xb)) => scheduled_any key nk hnk (fun i hi => hkey i (by omega)) g off cap w' (fun j hj => CK _ _ _ w' hgx h (hc j (by omega))) (by omega) hcm (fun i hi => CK _ _ _ w' hrx h (hR i hi)))
  have SD := Lib.hid (fun w' (h : w.grownBy w' (some xb)) => scheduled_any (fun i => key (4 * nk + i)) nk hnk (fun i hi => hkey _ (by omega)) g (off + 4 * nk) (cap - 4 * nk) w' (fun j hj => by rw [Nat.add_assoc]; exact CK _ _ _ w' hgx h (hc (4 * nk + j) (by omega))) (by omega) (by omega) (fun i hi => CK _ _ _ w' hrx h (hR i hi)))
  have Z0 := Lib.hid (CZ.start hcb)
  clear hc hcb hR hkey hnk CK
  go_enter Tryz.func75, Tryz.ntmps75
  go_upto_region 0 with fail
  refine wp_region_lit ?_
  refine Step.p_move rfl _ rfl (.slice (some ⟨g, off, none⟩) (8 * nk) cap) rfl ?_
  simp only [Act.put, List.setIfInBounds_toArray, List.set_cons_zero, List.set_cons_succ]
  refine Step.p_len rfl _ _ 5 rfl ((some ⟨g, off, none⟩)) ((8 * nk)) (cap) rfl Tryz.underlying22 ?_
  simp only [Act.put, List.setIfInBounds_toArray, List.set_cons_zero, List.set_cons_succ]
  refine Step.p_val rfl (.int .i64 (4 * nk : Nat)) (by unfold execOp; have := HH.out; go_simp; try (first | rfl | omega | exact (IntWalk.i64_in _ (by omega)).trans (by omega) | (rw [HH.out]; exact (IntWalk.i64_in _ (by omega)).trans (by omega)))) ?_
  simp only [Act.put, List.setIfInBounds_toArray, List.set_cons_zero, List.set_cons_succ]
  refine Step.p_assign rfl _ rfl (.int .i64 (4 * nk : Nat)) rfl ?_
  simp only [Act.put, List.setIfInBounds_toArray, List.set_cons_zero, List.set_cons_succ]
  refine wpList_nil ?_
  go_upto_region 1 with fail
  refine Step.begin_ (S := fun w' => w.grownBy w' (some xb)) 16 rfl (by kernel_rfl) Z0.out.drew.gb ?_
  intro hSS
  clear hSS
  have Z1 := Lib.hid Z0.out.drew
  clear Z0
  refine Step.t_move (i := 0) rfl rfl (by kernel_rfl) (by kernel_rfl) (by kernel_rfl) Z1.out.gb _ rfl (.pointer (some ⟨xb, 0, none⟩)) rfl ?_
  simp only [Act.put, List.setIfInBounds_toArray, List.set_cons_zero, List.set_cons_succ]
  refine Step.t_move (i := 1) rfl rfl (by kernel_rfl) (by kernel_rfl) (by kernel_rfl) Z1.out.gb _ rfl (.pointer (some ⟨xb, 0, none⟩)) rfl ?_
  simp only [Act.put, List.setIfInBounds_toArray, List.set_cons_zero, List.set_cons_succ]
  refine Step.t_move (i := 2) rfl rfl (by kernel_rfl) (by kernel_rfl) (by kernel_rfl) Z1.out.gb _ rfl (.slice (some ⟨g, off, none⟩) (8 * nk) cap) rfl ?_
  simp only [Act.put, List.setIfInBounds_toArray, List.set_cons_zero, List.set_cons_succ]
  refine Step.t_move (i := 3) rfl rfl (by kernel_rfl) (by kernel_rfl) (by kernel_rfl) Z1.out.gb _ rfl (.int .i64 (4 * nk : Nat)) rfl ?_
  simp only [Act.put, List.setIfInBounds_toArray, List.set_cons_zero, List.set_cons_succ]
  refine Step.t_move (i := 6) rfl rfl (by kernel_rfl) (by kernel_rfl) (by kernel_rfl) Z1.out.gb _ rfl (.slice (some ⟨g, off, none⟩) (8 * nk) cap) rfl ?_
  simp only [Act.put, List.setIfInBounds_toArray, List.set_cons_zero, List.set_cons_succ]
  refine Step.t_move (i := 7) rfl rfl (by kernel_rfl) (by kernel_rfl) (by kernel_rfl) Z1.out.gb _ rfl (.int .i64 (4 * nk : Nat)) rfl ?_
  simp only [Act.put, List.setIfInBounds_toArray, List.set_cons_zero, List.set_cons_succ]
  refine Step.t_val (i := 4) rfl rfl (by kernel_rfl) (by kernel_rfl) (by kernel_rfl) Z1.out.gb (.slice (some ⟨g, off, none⟩) (4 * nk) cap) (fun w' _ => by unfold execOp; go_simp; rw [if_pos ⟨by omega, by omega⟩, show (4 * (nk : Int)).toNat = 4 * nk by omega]) ?_
  simp only [Act.put, List.setIfInBounds_toArray, List.set_cons_zero, List.set_cons_succ]
  refine Step.t_val (i := 8) rfl rfl (by kernel_rfl) (by kernel_rfl) (by kernel_rfl) Z1.out.gb (.slice (some ⟨g, off + 4 * nk, none⟩) (4 * nk) (cap - 4 * nk)) (fun w' _ => by unfold execOp; go_simp; rw [if_pos ⟨by omega, by omega⟩, show (4 * (nk : Int)).toNat = 4 * nk by omega, if_neg (by omega), show 8 * nk - 4 * nk = 4 * nk by omega]) ?_
  simp only [Act.put, List.setIfInBounds_toArray, List.set_cons_zero, List.set_cons_succ]
  refine Step.t_one (i := 5) rfl rfl (by kernel_rfl) ?_
  refine Step.w_callx 110 _ _ rfl Tryz.func110 (by kernel_rfl) rfl [.slice (some ⟨g, off, none⟩) (4 * nk) cap] rfl (SC.out _ Z1.out.gb) ?_
  rintro e w2 ⟨v, rfl, hsd, hb⟩
  have K1 := Lib.hid hsd
  have Z3 := Lib.hid (Z1.out.bel hb)
  clear hb hsd Z1
  refine ⟨_, rfl, Z3.out.gb, ?_⟩
  simp only [Act.put, List.setIfInBounds_toArray, List.set_cons_zero, List.set_cons_succ]
  refine Step.t_one (i := 9) rfl rfl (by kernel_rfl) ?_
  refine Step.w_callx 110 _ _ rfl Tryz.func110 (by kernel_rfl) rfl [.slice (some ⟨g, off + 4 * nk, none⟩) (4 * nk) (cap - 4 * nk)] rfl (SD.out _ Z3.out.gb) ?_
  rintro e w4 ⟨z, rfl, hsd, hb⟩
  have L1 := Lib.hid hsd
  have Z5 := Lib.hid (Z3.out.bel hb)
  have K2 := Lib.hid (K1.out.kq (Kq.of_below hb))
  clear K1
  clear hb hsd Z3
  refine ⟨_, rfl, Z5.out.gb, ?_⟩
  simp only [Act.put, List.setIfInBounds_toArray, List.set_cons_zero, List.set_cons_succ]
  refine Step.t_val (i := 10) rfl rfl (by kernel_rfl) (by kernel_rfl) (by kernel_rfl) Z5.out.gb (.pointer (some ⟨xb, 0, none⟩)) (fun w' _ => by rfl) ?_
  simp only [Act.put, List.setIfInBounds_toArray, List.set_cons_zero, List.set_cons_succ]
  refine Tree.t_field (i := 11) rfl rfl (by kernel_rfl) (by kernel_rfl) (by kernel_rfl) Z5.out.gb _ _ _ rfl (xb) (0) rfl Tryz.underlying96 rfl (sz := 1) (by kernel_rfl) (by decide) (2) rfl ?_
  simp only [Act.put, List.setIfInBounds_toArray, List.set_cons_zero, List.set_cons_succ]
  refine Step.t_one (i := 12) rfl rfl (by kernel_rfl) ?_
  refine Step.w_storeV 94 _ _ rfl xb 2 rfl v rfl (Sched.ne K2) (Sched.one K2) (by kernel_rfl) Z5.out.hc (by first | omega | (simp; omega)) ?_
  intro w6 hr hg2 _
  have Z7 := Lib.hid (Z5.out.put hr hg2)
  have K3 := Lib.hid (K2.out.kq (Z5.out.kq (by simpa using h0) hg2))
  clear K2
  have L2 := Lib.hid (L1.out.kq (Z5.out.kq (by simpa using h0) hg2))
  clear L1
  clear hr hg2 Z5
  refine ⟨Z7.out.gb, ?_⟩
  simp only [Act.put]
  refine Step.t_val (i := 13) rfl rfl (by kernel_rfl) (by kernel_rfl) (by kernel_rfl) Z7.out.gb (.pointer (some ⟨xb, 0, none⟩)) (fun w' _ => by rfl) ?_
  simp only [Act.put, List.setIfInBounds_toArray, List.set_cons_zero, List.set_cons_succ]
  refine Tree.t_field (i := 14) rfl rfl (by kernel_rfl) (by kernel_rfl) (by kernel_rfl) Z7.out.gb _ _ _ rfl (xb) (0) rfl Tryz.underlying96 rfl (sz := 1) (by kernel_rfl) (by decide) (3) rfl ?_
  simp only [Act.put, List.setIfInBounds_toArray, List.set_cons_zero, List.set_cons_succ]
  refine Step.t_one (i := 15) rfl rfl (by kernel_rfl) ?_
  refine Step.w_storeV 94 _ _ rfl xb 3 rfl z rfl (Sched.ne L2) (Sched.one L2) (by kernel_rfl) Z7.out.hc (by first | omega | (simp; omega)) ?_
  intro w8 hr hg2 _
  have Z9 := Lib.hid (Z7.out.put hr hg2)
  have K4 := Lib.hid (K3.out.kq (Z7.out.kq (by simpa using h0) hg2))
  clear K3
  have L3 := Lib.hid (L2.out.kq (Z7.out.kq (by simpa using h0) hg2))
  clear L2
  clear hr hg2 Z7
  refine ⟨Z9.out.gb, ?_⟩
  simp only [Act.put]
  refine Step.t_end (by kernel_rfl) ?_
  go_wp2
  go_end0
  exact ⟨rfl, ⟨v, z, Z9.out.hc, K4.out, L3.out⟩, Z9.out.gb⟩
end Go.Proofs.YtmifebcaifbmoaaGreatDoor.G
end
