/- Parts of the proof of TweakBlocks. Cipher2: AES: decrypting undoes encrypting, and the other way round; the document's way back is the program's. No Go here. Decode: tweak: a block decrypted by a scheduled key; what keys do, there and back. Runs: tweak: ECB's functions; CBC: chain, unchain. Starts: tweak: what a sector begins with. -/
import Derived.Test.YtmifebcaifbmoaaGreatDoorL00
import Derived.Test.YtmifebcaifbmoaaGreatDoorL25
import Derived.Test.YtmifebcaifbmoaaGreatDoorL26
import Derived.StillTail
import Derived.Deep.QuietTactic
import Derived.BigQuiet
import Derived.Test.YtmifebcaifbmoaaGreatDoorL13
/- Cipher2 -/
section
namespace Go.Proofs.YtmifebcaifbmoaaGreatDoor.Aes
open Go

theorem coefED : ∀ j, j < 4 → ∀ r, r < 4 → ∀ x, x < 256 → (gm (gm x (mE ((4 - r) % 4))) (mD (j % 4)) ^^^ gm (gm x (mE ((5 - r) % 4))) (mD ((j + 3) % 4)) ^^^ gm (gm x (mE ((6 - r) % 4))) (mD ((j + 2) % 4)) ^^^ gm (gm x (mE ((7 - r) % 4))) (mD ((j + 1) % 4))) = if j = r then x else 0 := by decide +kernel
theorem xor_shuffle (a0 a1 a2 a3 b0 b1 b2 b3 c0 c1 c2 c3 d0 d1 d2 d3 : Nat) :
    (a0 ^^^ a1 ^^^ a2 ^^^ a3) ^^^ (b0 ^^^ b1 ^^^ b2 ^^^ b3) ^^^ (c0 ^^^ c1 ^^^ c2 ^^^ c3) ^^^ (d0 ^^^ d1 ^^^ d2 ^^^ d3) = (a0 ^^^ b0 ^^^ c0 ^^^ d0) ^^^ (a1 ^^^ b1 ^^^ c1 ^^^ d1) ^^^ (a2 ^^^ b2 ^^^ c2 ^^^ d2) ^^^ (a3 ^^^ b3 ^^^ c3 ^^^ d3) := by
  simp only [Nat.xor_comm, xlc]
/-- one matrix undoes the other -/
theorem col_inv {m n : Nat → Nat} (hc : ∀ j, j < 4 → ∀ r, r < 4 → ∀ x, x < 256 → (gm (gm x (m ((4 - r) % 4))) (n (j % 4)) ^^^ gm (gm x (m ((5 - r) % 4))) (n ((j + 3) % 4)) ^^^ gm (gm x (m ((6 - r) % 4))) (n ((j + 2) % 4)) ^^^ gm (gm x (m ((7 - r) % 4))) (n ((j + 1) % 4))) = if j = r then x else 0)
    {x : Nat → Nat} (hx : Byt x 4) (j : Nat) (hj : j < 4) : colB n (colB m x) j = x j := by
  have h0 := hx 0 (by decide)
  have h1 := hx 1 (by decide)
  have h2 := hx 2 (by decide)
  have h3 := hx 3 (by decide)
  have g : ∀ k l, gm (colB m x k) l = gm (gm (x 0) (m (k % 4))) l ^^^ gm (gm (x 1) (m ((k + 3) % 4))) l ^^^ gm (gm (x 2) (m ((k + 2) % 4))) l ^^^ gm (gm (x 3) (m ((k + 1) % 4))) l := fun k l => by
    unfold colB
    rw [gm_xor _ _ _ (xor_lt (xor_lt (gm_lt _ _ h0) (gm_lt _ _ h1)) (gm_lt _ _ h2)) (gm_lt _ _ h3), gm_xor _ _ _ (xor_lt (gm_lt _ _ h0) (gm_lt _ _ h1)) (gm_lt _ _ h2), gm_xor _ _ _ (gm_lt _ _ h0) (gm_lt _ _ h1)]
  have e : colB n (colB m x) j = gm (colB m x 0) (n (j % 4)) ^^^ gm (colB m x 1) (n ((j + 3) % 4)) ^^^ gm (colB m x 2) (n ((j + 2) % 4)) ^^^ gm (colB m x 3) (n ((j + 1) % 4)) := rfl
  rw [e, g, g, g, g, xor_shuffle]
  have c0 := hc j hj 0 (by decide) (x 0) h0
  have c1 := hc j hj 1 (by decide) (x 1) h1
  have c2 := hc j hj 2 (by decide) (x 2) h2
  have c3 := hc j hj 3 (by decide) (x 3) h3
  simp only [Nat.reduceAdd, Nat.reduceSub, Nat.reduceMod] at c0 c1 c2 c3 ⊢
  rw [c0, c1, c2, c3]
  match j, hj with
  | 0, _ => simp
  | 1, _ => simp
  | 2, _ => simp
  | 3, _ => simp
theorem cols_ED {s : Nat → Nat} (hs : Byt s 16) : ∀ i, i < 16 → colsB mD (colsB mE s) i = s i := fun i hi => by
  have h : ∀ r, r < 4 → colsB mE s (4 * (i / 4) + r) = colB mE (fun q => s (4 * (i / 4) + q)) r := fun r hr => by
    unfold colsB
    rw [show (4 * (i / 4) + r) / 4 = i / 4 by omega, show (4 * (i / 4) + r) % 4 = r by omega]
  rw [colsB, colB_congr h, col_inv coefED (fun r hr => hs _ (by omega)) _ (by omega)]
  congr 1
  omega
theorem row_US {s : Nat → Nat} (hs : Byt s 16) : ∀ i, i < 16 → rowB U 3 (rowB S 1 s) i = s i := fun i hi => by
  unfold rowB
  rw [US _ (hs _ (by omega))]
  congr 1
  omega
theorem xor_back (a b : Nat) : a ^^^ b ^^^ b = a := by rw [Nat.xor_assoc, Nat.xor_self, Nat.xor_zero]

section
variable {k : Nat → Nat → Nat} {nr : Nat}
/-- the equivalent inverse cipher's states, on the way back from a block that was encrypted -/
theorem dec_enc_st (h1 : 1 ≤ nr) (hk : ∀ r, r ≤ nr → Byt (k r) 16) {b : Nat → Nat} (hb : Byt b 16) : ∀ t, t < nr → ∀ i, i < 16 → stR mD U 3 (backK k nr) (encB k nr b) t i = rowB S 1 (stR mE S 1 k b (nr - 1 - t)) i
  | 0, _, i, hi => by
    rw [stR]
    dsimp only
    rw [backK, if_neg (by omega), encB, thrB, Nat.sub_zero, Nat.sub_zero]
    exact xor_back _ _
  | t + 1, ht, i, hi => by
    have ih := dec_enc_st h1 hk hb t (by omega)
    have hst : ∀ r, r ≤ nr → Byt (stR mE S 1 k b r) 16 := fun r hr => stR_byt S_byt hb hk r hr
    have e1 : ∀ i, i < 16 → rowB U 3 (stR mD U 3 (backK k nr) (encB k nr b) t) i = stR mE S 1 k b (nr - 1 - t) i := fun i hi => by
      rw [rowB_congr ih i hi, row_US (hst _ (by omega)) i hi]
    obtain ⟨q, hq⟩ : ∃ q, nr - 1 - t = q + 1 := ⟨nr - 2 - t, by omega⟩
    rw [stR]
    dsimp only
    rw [backK, if_pos (by omega), ← colsB_xor (rowB_byt U_byt (stR_byt U_byt (encB_byt hb hk) (backK_byt hk) t (by omega))) (hk _ (by omega)) i hi]
    have e2 : ∀ i, i < 16 → rowB U 3 (stR mD U 3 (backK k nr) (encB k nr b) t) i ^^^ k (nr - (t + 1)) i = colsB mE (rowB S 1 (stR mE S 1 k b q)) i := fun i hi => by
      rw [e1 i hi, hq, stR, show nr - (t + 1) = q + 1 by omega]
      exact xor_back _ _
    rw [colsB_congr e2 i hi, cols_ED (rowB_byt S_byt (hst _ (by omega))) i hi, show nr - 1 - (t + 1) = q by omega]
/-- what is encrypted is decrypted as it was -/
theorem dec_enc (h1 : 1 ≤ nr) (hk : ∀ r, r ≤ nr → Byt (k r) 16) {b : Nat → Nat} (hb : Byt b 16) : ∀ i, i < 16 → decB k nr (encB k nr b) i = b i := fun i hi => by
  have h := dec_enc_st h1 hk hb (nr - 1) (by omega)
  rw [decB, thrB, rowB_congr h i hi, backK, if_neg (by omega), Nat.sub_self, Nat.sub_self, row_US (stR_byt S_byt hb hk 0 (by omega)) i hi, stR]
  dsimp only
  exact xor_back _ _
end
end Go.Proofs.YtmifebcaifbmoaaGreatDoor.Aes
end

/- Decode -/
section
namespace Go.Proofs.YtmifebcaifbmoaaGreatDoor.Tw
open Go.RowKit Go.Lib Go.Proofs.YtmifebcaifbmoaaGreatDoor.Blk Go.Proofs.YtmifebcaifbmoaaGreatDoor.Aes Go.Proofs.YtmifebcaifbmoaaGreatDoor.Rj Go.Proofs.YtmifebcaifbmoaaGreatDoor.Field Go.Proofs.YtmifebcaifbmoaaGreatDoor.Poly

/-- a block decrypted, blocks as numbers -/
def decN (k : Nat → Nat → Nat) (nr n : Nat) : Nat := lowN (decB k nr (byt n)) 16
def keyD (key : Nat → Nat) (nk n : Nat) : Nat := decN (rk nk key) (nk + 6) n
theorem byt_decN (k : Nat → Nat → Nat) (nr n : Nat) (h : Byt (decB k nr (byt n)) 16) : ∀ i, i < 16 → byt (decN k nr n) i = decB k nr (byt n) i := fun i hi => by
  unfold decN
  have : lowN (decB k nr (byt n)) 16 = lowN (fun i => decB k nr (byt n) i % 256) 16 := lowN_congr fun i hi => (Nat.mod_eq_of_lt (h i hi)).symm
  rw [this]
  rw [byt_lowN (fun _ => Nat.mod_lt _ (by decide)) hi]
  exact Nat.mod_eq_of_lt (h i hi)
theorem decN_lt (k : Nat → Nat → Nat) (nr n : Nat) (h : Byt (decB k nr (byt n)) 16) : decN k nr n < 2 ^ 128 := by
  unfold decN
  have : lowN (decB k nr (byt n)) 16 = lowN (fun i => decB k nr (byt n) i % 256) 16 := lowN_congr fun i hi => (Nat.mod_eq_of_lt (h i hi)).symm
  rw [this]
  exact lowN_lt _ (fun _ => Nat.mod_lt _ (by decide)) 16
section
variable {key : Nat → Nat} {nk : Nat} (hk : Byt key (4 * nk)) (h1 : 1 ≤ nk)
include hk h1
theorem keyE_lt (n : Nat) : keyE key nk n < 2 ^ 128 := encN_lt _ _ _ (encB_byt (fun i _ => byt_lt n i) (rk_byt hk h1))
theorem keyD_lt (n : Nat) : keyD key nk n < 2 ^ 128 := decN_lt _ _ _ (decB_byt (fun i _ => byt_lt n i) (rk_byt hk h1))
/-- decrypting undoes encrypting -/
theorem keyD_keyE {n : Nat} (hn : n < 2 ^ 128) : keyD key nk (keyE key nk n) = n := by
  have kb := rk_byt hk h1
  refine num_ext (keyD_lt hk h1 _) hn fun i hi => ?_
  unfold keyD
  rw [byt_decN _ _ _ (decB_byt (fun i _ => byt_lt _ i) kb) i hi]
  have e : ∀ i, i < 16 → byt (keyE key nk n) i = encB (rk nk key) (nk + 6) (byt n) i := byt_encN _ _ _ (encB_byt (fun i _ => byt_lt n i) kb)
  rw [show decB (rk nk key) (nk + 6) (byt (keyE key nk n)) i = decB (rk nk key) (nk + 6) (encB (rk nk key) (nk + 6) (byt n)) i from thrB_congr e (fun _ _ _ _ => rfl) i hi]
  exact dec_enc (by omega) kb (fun i _ => byt_lt n i) i hi
theorem keyE_inj {a b : Nat} (ha : a < 2 ^ 128) (hb : b < 2 ^ 128) (h : keyE key nk a = keyE key nk b) : a = b := by
  rw [← keyD_keyE hk h1 ha, ← keyD_keyE hk h1 hb, h]
end
set_option maxRecDepth 100000 in
set_option maxHeartbeats 4000000 in
theorem decode_any (key : Nat → Nat) (nk : Nat) (v : Value) (n : Nat) (w : World) (hK : Sched key nk v w) :
    Calls Tryz.prog 109 #[v, B16 n] w fun e w' => e = .returned (B16 (keyD key nk n)) ∧ Below w.heap.size w w' := by
  obtain ⟨hnk, hkey, tb, wb, bb, kb, rfl, hK⟩ := hK
  have z16 : (Tryz.prog.info? 27).bind (·.zero) = some (.agg (arr .u8 16 fun _ => 0)) := by kernel_rfl
  have hkb := rk_byt hkey (by omega)
  have EN := Lib.hid (fun w h => decryptKey_any (4 * nk : Nat) (rk nk key) (nk + 6) (by omega) (by omega) hkb (byt n) (fun i _ => byt_lt n i) tb wb bb kb w h)
  have HB : Hid (Byt (decB (rk nk key) (nk + 6) (byt n)) 16) := Lib.hid (decB_byt (fun i _ => byt_lt n i) hkb)
  have HK := Lib.hid hK
  clear hK hkb hkey
  go_enter Tryz.func109, Tryz.ntmps109
  go_upto_region 0 with fail
  refine wp_region_lit ?_
  refine New.p_box rfl 27 _ rfl .u8 16 (fun i => ((byt n i : Nat) : Int)) rfl ?_
  intro w1 a1 g1 s1
  simp only [Act.put, sA9, sB9, sC9]
  refine New.p_newarr rfl 27 rfl .u8 16 z16 ?_
  intro w2 a2 g2 s2
  simp only [Act.put, sA9, sB9, sC9]
  rw [s1] at a2 s2 ⊢
  refine wpList_nil ?_
  have A1 := Lib.hid (bel_arr (_B := 0) a1 (bel_of_gb (_B := 0) g2))
  have A2 := Lib.hid a2
  have B2 := Lib.hid (((Below.refl w.heap.size w).grown g1 (Nat.le_refl _) (by simp)).grown g2 (by omega) (by simp))
  clear a1 g1 s1 a2 g2 s2
  go_upto_region 1 with fail
  refine wp_region_lit ?_
  refine Step.p_move rfl _ rfl (.pointer (some ⟨kb, 0, none⟩)) rfl ?_
  simp only [Act.put, sA9, sB9, sC9]
  refine Step.p_load rfl 27 _ rfl _ rfl A1.out Tryz.underlying27 rfl Field.info16 ?_
  simp only [Act.put, sA9, sB9, sC9]
  refine Step.p_wp rfl (Step.w_callx 157 [.tmp 8, .tmp 9] _ rfl Tryz.func157 (by kernel_rfl) rfl [.pointer (some ⟨kb, 0, none⟩), .agg (arr .u8 16 fun i => ((byt n i : Nat) : Int))] rfl (EN.out _ (HK.out.below B2.out)) ?_)
  rintro e w3 ⟨rfl, hb⟩
  refine ⟨_, rfl, ?_⟩
  simp only [Act.put, sA9, sB9, sC9]
  have E : Hid (arr .u8 16 (fun i => ((thrB mD U 3 (backK (rk nk key) (nk + 6)) (nk + 6) (byt n) i : Nat) : Int)) = arr .u8 16 fun i => ((byt (keyD key nk n) i : Nat) : Int)) := Lib.hid (arr_congr fun i hi => by unfold keyD; rw [byt_decN _ _ _ HB.out i hi]; rfl)
  rw [E.out]
  have A3 := Lib.hid (bel_arr (_B := 0) A2.out hb)
  have B3 := Lib.hid (B2.out.trans (hb.mono B2.out.size))
  clear hb A1 A2 B2 EN HK
  refine Step.p_move rfl _ rfl (.tuple #[B16 (keyD key nk n), .int .i64 0]) rfl ?_
  simp only [Act.put, sA9, sB9, sC9]
  refine Step.p_val rfl (B16 (keyD key nk n)) (by unfold execOp; go_simp; try rfl) ?_
  simp only [Act.put, sA9, sB9, sC9]
  refine Step.p_val rfl (.int .i64 0) (by unfold execOp; go_simp; try rfl) ?_
  simp only [Act.put, sA9, sB9, sC9]
  refine New.p_newarr rfl 27 rfl .u8 16 z16 ?_
  intro w4 a4 g4 s4
  simp only [Act.put, sA9, sB9, sC9]
  refine Step.p_store 27 _ _ rfl w3.heap.size rfl rfl a4 Field.info16 rfl ?_
  intro w5 a5 g5 s5
  simp only [Act.put]
  refine Step.p_assign rfl _ rfl (.int .i64 0) rfl ?_
  simp only [Act.put, sA9, sB9, sC9]
  refine wpList_nil ?_
  have A5 := Lib.hid ((bel_arr (_B := 0) A3.out (bel_of_gb (_B := 0) g4)).grown g5 (by have := A3.out.lt; omega))
  have B5 := Lib.hid ((B3.out.grown g4 B3.out.size (by simp)).grown g5 (by have := B3.out.size; omega) (fun j hj => by cases hj; exact B3.out.size))
  have A6 := Lib.hid a5
  clear a4 g4 s4 a5 g5 s5
  go_upto_region 2 with fail
  refine wp_region_lit ?_
  refine Step.p_load rfl 27 _ rfl _ rfl A6.out Tryz.underlying27 rfl Field.info16 ?_
  simp only [Act.put, sA9, sB9, sC9]
  refine Step.p_store 27 _ _ rfl (w.heap.size + 1) rfl rfl A5.out Field.info16 rfl ?_
  intro w7 a7 g7 s7
  simp only [Act.put]
  refine wpList_nil ?_
  have B7 := Lib.hid (B5.out.grown g7 B5.out.size (fun j hj => by cases hj; exact Nat.le_succ _))
  clear g7
  go_wp2
  exact ret_arr rfl rfl a7 Tryz.underlying27 rfl Field.info16 rfl ⟨rfl, B7.out⟩

theorem doK_decode {key : Nat → Nat} {nk : Nat} {v : Value} {w : World} (h : Sched key nk v w) : G.DoK 109 v (keyD key nk) w := fun n _ w' k => decode_any key nk v n w' (h.kq k)
end Go.Proofs.YtmifebcaifbmoaaGreatDoor.Tw
end

/- Runs -/
section
namespace Go.Proofs.YtmifebcaifbmoaaGreatDoor.G
open Go.RowKit Go.Lib Go.Proofs.YtmifebcaifbmoaaGreatDoor.Blk Go.Proofs.YtmifebcaifbmoaaGreatDoor.Poly Go.Proofs.YtmifebcaifbmoaaGreatDoor.Field Go.Proofs.YtmifebcaifbmoaaGreatDoor.Tab Go.Proofs.YtmifebcaifbmoaaGreatDoor.Tw Go.Proofs.YtmifebcaifbmoaaGreatDoor.RS

set_option maxRecDepth 100000 in
set_option maxHeartbeats 16000000 in
theorem ecb1_any {k cb xb gk : Nat} {E0 D0 A : Nat → Nat} {two : Bool} {fl wh : Nat → Nat} {cs : Array Value} {iv : Nat → Nat → Nat} (x : Nat) (E : Nat → Nat) (s n g cap : Nat) (_hs : s < 2 ^ 64) (h16 : 16 ≤ n) (hn : n ≤ 4096) (hn16 : n % 16 = 0) (hnc : n ≤ cap) (hcm : cap ≤ 9223372036854775807)
    (F0 : Nat → Nat) (hF : ∀ i, F0 i < 256) (w : World) (hM : Md k cb xb gk E0 D0 A two fl wh cs iv w) (hS : Sec w g n F0) (hg : g ≠ 2) {v : Value} (hv : cs[2]? = some v) (hD : DoK 106 v E w) (hx : w.cell? ⟨x, 0, none⟩ = some (.pointer (some ⟨cb, 0, none⟩))) :
    Calls Tryz.prog 104 #[.int .u64 s, .slice (some ⟨g, 0, none⟩) n cap, .pointer (some ⟨x, 0, none⟩)] w fun e w' => e = .returned (.tuple #[]) ∧ Sec w' g n (blkF (fun _ b => E b) F0 (n / 16)) ∧ w.grownBy w' (some g) := by
  have KPF := Lib.hid (fun w' (h : w.grownBy w' (some g)) => Kp.of_gb hS (by omega) hg h)
  have C0 := Lib.hid (fun w' (h : w.grownBy w' (some g)) => (hM.rd.kp (KPF.out w' h)).c0)
  have C2 := Lib.hid (fun w' (h : w.grownBy w' (some g)) => (hM.rd.kp (KPF.out w' h)).cx hv)
  have GT := Lib.hid (fun (F : Nat → Nat) (hF : ∀ i, F i < 256) j (hj : 16 * j + 16 ≤ n) w' hS => get_any g n cap j F hF hj hnc hcm w' hS)
  have PU := Lib.hid (fun (F : Nat → Nat) j x (hj : 16 * j + 16 ≤ n) w' hS => put_any g n cap j x F hj hnc hcm w' hS)
  have Z0 := Lib.hid (RZ.start hS)
  have hgl := hS.lt
  obtain ⟨m, hm⟩ : ∃ m, n / 16 = m := ⟨_, rfl⟩
  have HM : Hid ((n : Int).tdiv 16 = (m : Nat)) := Lib.hid (by rw [← hm]; rfl)
  have hb1 : 1 ≤ m ∧ m ≤ 256 := by omega
  have HMR : Hid (n = 16 * m) := Lib.hid (by omega)
  rw [hm]
  have CX := Lib.hid (fun w' (h : w.grownBy w' (some g)) => (KPF.out w' h).cell0 hx (fun _ e => by cases e))
  have DO := Lib.hid (fun b (hb : b < 2 ^ 128) w' (h : w.grownBy w' (some g)) => hD b hb w' (KPF.out w' h).q)
  clear hM hS hD hx hv hm
  go_enter Tryz.func104, Tryz.ntmps104
  go_upto_region 0 with fail
  refine wp_region_lit ?_
  refine Step.p_move rfl _ rfl (.slice (some ⟨g, 0, none⟩) n cap) rfl ?_
  simp only [Act.put, sA9, sB9, sC9]
  refine Step.p_len rfl _ _ 5 rfl ((some ⟨g, 0, none⟩)) (n) (cap) rfl Tryz.underlying22 ?_
  simp only [Act.put, sA9, sB9, sC9]
  refine Step.p_val rfl (.int .i64 (m : Nat)) (by unfold execOp; have := HM.out; go_simp; first | exact IntWalk.i64_in _ (by omega) | omega | (rw [HM.out]; exact IntWalk.i64_in _ (by omega))) ?_
  simp only [Act.put, sA9, sB9, sC9]
  refine Step.p_move rfl _ rfl (.int .i64 0) rfl ?_
  simp only [Act.put, sA9, sB9, sC9]
  refine wpList_nil ?_
  go_wp2
  go_loopw [9, 5] (fun i _ wr => ∃ k2 : Nat, k2 ≤ m ∧ i = .int .i64 k2 ∧ RZ g n (blkF (fun _ b => E b) F0 k2) [] w wr) (fun i _ _ => m - (RowKit.intOf i).toNat)
  case atStart => exact ⟨0, by omega, rfl, Z0.out.congr fun i _ => (blkF_zero _ _ i).symm⟩
  case round =>
    obtain ⟨k2, hk, rfl, hz⟩ := hrel
    have Z3 := Lib.hid hz
    clear hz Z0
    by_cases hlt : k2 < m
    · skip
      have hk16 : 16 * k2 + 16 ≤ n := by have := HMR.out; omega
      have GTk := Lib.hid (fun w' hS => GT.out (blkF (fun _ b => E b) F0 k2) (blkF_lt hF k2) k2 hk16 w' hS)
      rw [blkF_blk] at GTk
      go_upto_region 2 with fail
      refine wp_region_lit ?_
      refine Step.p_move rfl _ rfl (.int .i64 k2) rfl ?_
      simp only [Act.put, sA9, sB9, sC9]
      refine Step.p_assign rfl _ rfl (.int .i64 k2) rfl ?_
      simp only [Act.put, sA9, sB9, sC9]
      refine wpList_nil ?_
      go_upto_region 3 with fail
      refine Step.begin_ (S := fun w' => RS g [] w w') 14 rfl (by kernel_rfl) Z3.out.drew.rs ?_
      intro hSS
      clear hSS
      have Z31 := Lib.hid Z3.out.drew
      clear Z3
      refine Step.t_move (i := 0) rfl rfl (by kernel_rfl) (by kernel_rfl) (by kernel_rfl) Z31.out.rs _ rfl (.slice (some ⟨g, 0, none⟩) n cap) rfl ?_
      simp only [Act.put, sA9, sB9, sC9]
      refine Step.t_move (i := 1) rfl rfl (by kernel_rfl) (by kernel_rfl) (by kernel_rfl) Z31.out.rs _ rfl (.int .i64 k2) rfl ?_
      simp only [Act.put, sA9, sB9, sC9]
      refine Tree.t_load1 (i := 2) rfl rfl (by kernel_rfl) (by kernel_rfl) (by kernel_rfl) Z31.out.rs _ _ rfl (x) (0) rfl (.pointer (some ⟨cb, 0, none⟩)) (fun w' h => CX.out w' h.gb) Tryz.underlying30 rfl ?_
      simp only [Act.put, sA9, sB9, sC9]
      refine Step.t_move (i := 9) rfl rfl (by kernel_rfl) (by kernel_rfl) (by kernel_rfl) Z31.out.rs _ rfl (.slice (some ⟨g, 0, none⟩) n cap) rfl ?_
      simp only [Act.put, sA9, sB9, sC9]
      refine Step.t_move (i := 10) rfl rfl (by kernel_rfl) (by kernel_rfl) (by kernel_rfl) Z31.out.rs _ rfl (.int .i64 k2) rfl ?_
      simp only [Act.put, sA9, sB9, sC9]
      refine Step.t_val (i := 3) rfl rfl (by kernel_rfl) (by kernel_rfl) (by kernel_rfl) Z31.out.rs (.pointer (some ⟨cb, 0, none⟩)) (fun w' _ => by rfl) ?_
      simp only [Act.put, sA9, sB9, sC9]
      refine Tree.t_field (i := 4) rfl rfl (by kernel_rfl) (by kernel_rfl) (by kernel_rfl) Z31.out.rs _ _ _ rfl (cb) (0) rfl Tryz.underlying80 rfl (sz := 1) (by kernel_rfl) (by decide) (0) rfl ?_
      simp only [Act.put, sA9, sB9, sC9]
      refine Tree.t_load1 (i := 5) rfl rfl (by kernel_rfl) (by kernel_rfl) (by kernel_rfl) Z31.out.rs _ _ rfl (cb) (0) rfl (.pointer (some ⟨xb, 0, none⟩)) (fun w' h => C0.out w' h.gb) Tryz.underlying76 rfl ?_
      simp only [Act.put, sA9, sB9, sC9]
      refine Step.t_val (i := 6) rfl rfl (by kernel_rfl) (by kernel_rfl) (by kernel_rfl) Z31.out.rs (.pointer (some ⟨xb, 0, none⟩)) (fun w' _ => by rfl) ?_
      simp only [Act.put, sA9, sB9, sC9]
      refine Tree.t_field (i := 7) rfl rfl (by kernel_rfl) (by kernel_rfl) (by kernel_rfl) Z31.out.rs _ _ _ rfl (xb) (0) rfl Tryz.underlying96 rfl (sz := 1) (by kernel_rfl) (by decide) (2) rfl ?_
      simp only [Act.put, sA9, sB9, sC9]
      refine Tree.t_load1 (i := 8) rfl rfl (by kernel_rfl) (by kernel_rfl) (by kernel_rfl) Z31.out.rs _ _ rfl (xb) (2) rfl (v) (fun w' h => C2.out w' h.gb) Tryz.underlying94 rfl ?_
      simp only [Act.put, sA9, sB9, sC9]
      refine Step.t_one (i := 11) rfl rfl (by kernel_rfl) ?_
      refine Step.w_callx 107 _ _ rfl Tryz.func107 (by kernel_rfl) rfl [.slice (some ⟨g, 0, none⟩) n cap, .int .i64 k2] rfl (GTk.out _ Z31.out.sec) ?_
      rintro e w32 ⟨rfl, hb⟩
      have Z33 := Lib.hid (Z31.out.bel hb)
      clear hb Z31
      refine ⟨_, rfl, Z33.out.rs, ?_⟩
      simp only [Act.put, sA9, sB9, sC9]
      refine Step.t_one (i := 12) rfl rfl (by kernel_rfl) ?_
      refine Step.w_callx 106 _ _ rfl Tryz.func106 (by kernel_rfl) rfl [v, B16 (blkN F0 k2)] rfl (DO.out _ (blkN_lt hF k2) _ Z33.out.rs.gb) ?_
      rintro e w34 ⟨rfl, hb⟩
      have Z35 := Lib.hid (Z33.out.bel hb)
      clear hb Z33
      refine ⟨_, rfl, Z35.out.rs, ?_⟩
      simp only [Act.put, sA9, sB9, sC9]
      refine Step.t_one (i := 13) rfl rfl (by kernel_rfl) ?_
      refine Step.w_callx 105 _ _ rfl Tryz.func105 (by kernel_rfl) rfl [.slice (some ⟨g, 0, none⟩) n cap, .int .i64 k2, B16 (E (blkN F0 k2))] rfl (PU.out (blkF (fun _ b => E b) F0 k2) k2 _ hk16 _ Z35.out.sec) ?_
      rintro e w36 ⟨rfl, hsec, hgr⟩
      have Z37 := Lib.hid (Z35.out.put hgr (hsec.congr fun i _ => blkF_put (fun _ b => E b) F0 k2 i))
      clear hsec hgr Z35
      refine ⟨_, rfl, Z37.out.rs, ?_⟩
      simp only [Act.put, sA9, sB9, sC9]
      refine Step.t_end (by kernel_rfl) ?_
      go_wp2
      go_roundw
      case rel => exact ⟨k2 + 1, by omega, by go_num, Z37.out⟩
      case measure => simp [RowKit.intOf]; omega
    · obtain rfl : k2 = m := by omega
      go_wp2
      go_end0
      exact ⟨rfl, Z3.out.sec, Z3.out.rs.gb⟩

set_option maxRecDepth 100000 in
set_option maxHeartbeats 16000000 in
theorem ecb2_any {k cb xb gk : Nat} {E0 D0 A : Nat → Nat} {two : Bool} {fl wh : Nat → Nat} {cs : Array Value} {iv : Nat → Nat → Nat} (x : Nat) (E : Nat → Nat) (s n g cap : Nat) (_hs : s < 2 ^ 64) (h16 : 16 ≤ n) (hn : n ≤ 4096) (hn16 : n % 16 = 0) (hnc : n ≤ cap) (hcm : cap ≤ 9223372036854775807)
    (F0 : Nat → Nat) (hF : ∀ i, F0 i < 256) (w : World) (hM : Md k cb xb gk E0 D0 A two fl wh cs iv w) (hS : Sec w g n F0) (hg : g ≠ 2) {v : Value} (hv : cs[2]? = some v) (hD : DoK 109 v E w) (hx : w.cell? ⟨x, 0, none⟩ = some (.pointer (some ⟨cb, 0, none⟩))) :
    Calls Tryz.prog 108 #[.int .u64 s, .slice (some ⟨g, 0, none⟩) n cap, .pointer (some ⟨x, 0, none⟩)] w fun e w' => e = .returned (.tuple #[]) ∧ Sec w' g n (blkF (fun _ b => E b) F0 (n / 16)) ∧ w.grownBy w' (some g) := by
  have KPF := Lib.hid (fun w' (h : w.grownBy w' (some g)) => Kp.of_gb hS (by omega) hg h)
  have C0 := Lib.hid (fun w' (h : w.grownBy w' (some g)) => (hM.rd.kp (KPF.out w' h)).c0)
  have C2 := Lib.hid (fun w' (h : w.grownBy w' (some g)) => (hM.rd.kp (KPF.out w' h)).cx hv)
  have GT := Lib.hid (fun (F : Nat → Nat) (hF : ∀ i, F i < 256) j (hj : 16 * j + 16 ≤ n) w' hS => get_any g n cap j F hF hj hnc hcm w' hS)
  have PU := Lib.hid (fun (F : Nat → Nat) j x (hj : 16 * j + 16 ≤ n) w' hS => put_any g n cap j x F hj hnc hcm w' hS)
  have Z0 := Lib.hid (RZ.start hS)
  have hgl := hS.lt
  obtain ⟨m, hm⟩ : ∃ m, n / 16 = m := ⟨_, rfl⟩
  have HM : Hid ((n : Int).tdiv 16 = (m : Nat)) := Lib.hid (by rw [← hm]; rfl)
  have hb1 : 1 ≤ m ∧ m ≤ 256 := by omega
  have HMR : Hid (n = 16 * m) := Lib.hid (by omega)
  rw [hm]
  have CX := Lib.hid (fun w' (h : w.grownBy w' (some g)) => (KPF.out w' h).cell0 hx (fun _ e => by cases e))
  have DO := Lib.hid (fun b (hb : b < 2 ^ 128) w' (h : w.grownBy w' (some g)) => hD b hb w' (KPF.out w' h).q)
  clear hM hS hD hx hv hm
  go_enter Tryz.func108, Tryz.ntmps108
  go_upto_region 0 with fail
  refine wp_region_lit ?_
  refine Step.p_move rfl _ rfl (.slice (some ⟨g, 0, none⟩) n cap) rfl ?_
  simp only [Act.put, sA9, sB9, sC9]
  refine Step.p_len rfl _ _ 5 rfl ((some ⟨g, 0, none⟩)) (n) (cap) rfl Tryz.underlying22 ?_
  simp only [Act.put, sA9, sB9, sC9]
  refine Step.p_val rfl (.int .i64 (m : Nat)) (by unfold execOp; have := HM.out; go_simp; first | exact IntWalk.i64_in _ (by omega) | omega | (rw [HM.out]; exact IntWalk.i64_in _ (by omega))) ?_
  simp only [Act.put, sA9, sB9, sC9]
  refine Step.p_move rfl _ rfl (.int .i64 0) rfl ?_
  simp only [Act.put, sA9, sB9, sC9]
  refine wpList_nil ?_
  go_wp2
  go_loopw [9, 5] (fun i _ wr => ∃ k2 : Nat, k2 ≤ m ∧ i = .int .i64 k2 ∧ RZ g n (blkF (fun _ b => E b) F0 k2) [] w wr) (fun i _ _ => m - (RowKit.intOf i).toNat)
  case atStart => exact ⟨0, by omega, rfl, Z0.out.congr fun i _ => (blkF_zero _ _ i).symm⟩
  case round =>
    obtain ⟨k2, hk, rfl, hz⟩ := hrel
    have Z3 := Lib.hid hz
    clear hz Z0
    by_cases hlt : k2 < m
    · skip
      have hk16 : 16 * k2 + 16 ≤ n := by have := HMR.out; omega
      have GTk := Lib.hid (fun w' hS => GT.out (blkF (fun _ b => E b) F0 k2) (blkF_lt hF k2) k2 hk16 w' hS)
      rw [blkF_blk] at GTk
      go_upto_region 2 with fail
      refine wp_region_lit ?_
      refine Step.p_move rfl _ rfl (.int .i64 k2) rfl ?_
      simp only [Act.put, sA9, sB9, sC9]
      refine Step.p_assign rfl _ rfl (.int .i64 k2) rfl ?_
      simp only [Act.put, sA9, sB9, sC9]
      refine wpList_nil ?_
      go_upto_region 3 with fail
      refine Step.begin_ (S := fun w' => RS g [] w w') 14 rfl (by kernel_rfl) Z3.out.drew.rs ?_
      intro hSS
      clear hSS
      have Z31 := Lib.hid Z3.out.drew
      clear Z3
      refine Step.t_move (i := 0) rfl rfl (by kernel_rfl) (by kernel_rfl) (by kernel_rfl) Z31.out.rs _ rfl (.slice (some ⟨g, 0, none⟩) n cap) rfl ?_
      simp only [Act.put, sA9, sB9, sC9]
      refine Step.t_move (i := 1) rfl rfl (by kernel_rfl) (by kernel_rfl) (by kernel_rfl) Z31.out.rs _ rfl (.int .i64 k2) rfl ?_
      simp only [Act.put, sA9, sB9, sC9]
      refine Tree.t_load1 (i := 2) rfl rfl (by kernel_rfl) (by kernel_rfl) (by kernel_rfl) Z31.out.rs _ _ rfl (x) (0) rfl (.pointer (some ⟨cb, 0, none⟩)) (fun w' h => CX.out w' h.gb) Tryz.underlying30 rfl ?_
      simp only [Act.put, sA9, sB9, sC9]
      refine Step.t_move (i := 9) rfl rfl (by kernel_rfl) (by kernel_rfl) (by kernel_rfl) Z31.out.rs _ rfl (.slice (some ⟨g, 0, none⟩) n cap) rfl ?_
      simp only [Act.put, sA9, sB9, sC9]
      refine Step.t_move (i := 10) rfl rfl (by kernel_rfl) (by kernel_rfl) (by kernel_rfl) Z31.out.rs _ rfl (.int .i64 k2) rfl ?_
      simp only [Act.put, sA9, sB9, sC9]
      refine Step.t_val (i := 3) rfl rfl (by kernel_rfl) (by kernel_rfl) (by kernel_rfl) Z31.out.rs (.pointer (some ⟨cb, 0, none⟩)) (fun w' _ => by rfl) ?_
      simp only [Act.put, sA9, sB9, sC9]
      refine Tree.t_field (i := 4) rfl rfl (by kernel_rfl) (by kernel_rfl) (by kernel_rfl) Z31.out.rs _ _ _ rfl (cb) (0) rfl Tryz.underlying80 rfl (sz := 1) (by kernel_rfl) (by decide) (0) rfl ?_
      simp only [Act.put, sA9, sB9, sC9]
      refine Tree.t_load1 (i := 5) rfl rfl (by kernel_rfl) (by kernel_rfl) (by kernel_rfl) Z31.out.rs _ _ rfl (cb) (0) rfl (.pointer (some ⟨xb, 0, none⟩)) (fun w' h => C0.out w' h.gb) Tryz.underlying76 rfl ?_
      simp only [Act.put, sA9, sB9, sC9]
      refine Step.t_val (i := 6) rfl rfl (by kernel_rfl) (by kernel_rfl) (by kernel_rfl) Z31.out.rs (.pointer (some ⟨xb, 0, none⟩)) (fun w' _ => by rfl) ?_
      simp only [Act.put, sA9, sB9, sC9]
      refine Tree.t_field (i := 7) rfl rfl (by kernel_rfl) (by kernel_rfl) (by kernel_rfl) Z31.out.rs _ _ _ rfl (xb) (0) rfl Tryz.underlying96 rfl (sz := 1) (by kernel_rfl) (by decide) (2) rfl ?_
      simp only [Act.put, sA9, sB9, sC9]
      refine Tree.t_load1 (i := 8) rfl rfl (by kernel_rfl) (by kernel_rfl) (by kernel_rfl) Z31.out.rs _ _ rfl (xb) (2) rfl (v) (fun w' h => C2.out w' h.gb) Tryz.underlying94 rfl ?_
      simp only [Act.put, sA9, sB9, sC9]
      refine Step.t_one (i := 11) rfl rfl (by kernel_rfl) ?_
      refine Step.w_callx 107 _ _ rfl Tryz.func107 (by kernel_rfl) rfl [.slice (some ⟨g, 0, none⟩) n cap, .int .i64 k2] rfl (GTk.out _ Z31.out.sec) ?_
      rintro e w32 ⟨rfl, hb⟩
      have Z33 := Lib.hid (Z31.out.bel hb)
      clear hb Z31
      refine ⟨_, rfl, Z33.out.rs, ?_⟩
      simp only [Act.put, sA9, sB9, sC9]
      refine Step.t_one (i := 12) rfl rfl (by kernel_rfl) ?_
      refine Step.w_callx 109 _ _ rfl Tryz.func109 (by kernel_rfl) rfl [v, B16 (blkN F0 k2)] rfl (DO.out _ (blkN_lt hF k2) _ Z33.out.rs.gb) ?_
      rintro e w34 ⟨rfl, hb⟩
      have Z35 := Lib.hid (Z33.out.bel hb)
      clear hb Z33
      refine ⟨_, rfl, Z35.out.rs, ?_⟩
      simp only [Act.put, sA9, sB9, sC9]
      refine Step.t_one (i := 13) rfl rfl (by kernel_rfl) ?_
      refine Step.w_callx 105 _ _ rfl Tryz.func105 (by kernel_rfl) rfl [.slice (some ⟨g, 0, none⟩) n cap, .int .i64 k2, B16 (E (blkN F0 k2))] rfl (PU.out (blkF (fun _ b => E b) F0 k2) k2 _ hk16 _ Z35.out.sec) ?_
      rintro e w36 ⟨rfl, hsec, hgr⟩
      have Z37 := Lib.hid (Z35.out.put hgr (hsec.congr fun i _ => blkF_put (fun _ b => E b) F0 k2 i))
      clear hsec hgr Z35
      refine ⟨_, rfl, Z37.out.rs, ?_⟩
      simp only [Act.put, sA9, sB9, sC9]
      refine Step.t_end (by kernel_rfl) ?_
      go_wp2
      go_roundw
      case rel => exact ⟨k2 + 1, by omega, by go_num, Z37.out⟩
      case measure => simp [RowKit.intOf]; omega
    · obtain rfl : k2 = m := by omega
      go_wp2
      go_end0
      exact ⟨rfl, Z3.out.sec, Z3.out.rs.gb⟩

end Go.Proofs.YtmifebcaifbmoaaGreatDoor.G
end

/- Starts -/
section
namespace Go.Proofs.YtmifebcaifbmoaaGreatDoor.G
open Go.RowKit Go.Lib Go.Proofs.YtmifebcaifbmoaaGreatDoor.Blk Go.Proofs.YtmifebcaifbmoaaGreatDoor.Poly Go.Proofs.YtmifebcaifbmoaaGreatDoor.Field Go.Proofs.YtmifebcaifbmoaaGreatDoor.Tab Go.Proofs.YtmifebcaifbmoaaGreatDoor.Tw Go.Proofs.YtmifebcaifbmoaaGreatDoor.RS
theorem little0 (x : Nat) (hx : x < 2 ^ 64) (w : World) : Calls Tryz.prog 100 #[.int .u64 0, .int .u64 x] w fun e w' => e = .returned (B16 x) ∧ Below w.heap.size w w' := by
  have h := little_any 0 x hx w
  rwa [Nat.zero_mul, Nat.zero_add] at h
theorem big0 (x : Nat) (hx : x < 2 ^ 64) (w : World) : Calls Tryz.prog 113 #[.int .u64 0, .int .u64 x] w fun e w' => e = .returned (B16 (revN x)) ∧ Below w.heap.size w w' := by
  have h := big_any 0 x hx w
  rwa [Nat.zero_mul, Nat.zero_add] at h
theorem and32 (s : Nat) (hs : s < 2 ^ 64) : bits .and .u64 (s : Int) 4294967295 = ((s % 4294967296 : Nat) : Int) := by
  have h := and_u64 s 4294967295 hs (by decide)
  rw [show ((4294967295 : Int)) = ((4294967295 : Nat) : Int) from rfl, h]
  exact congrArg _ (Nat.and_two_pow_sub_one_eq_mod s 32)
set_option maxRecDepth 100000 in
set_option maxHeartbeats 4000000 in
theorem fromPlain_any (xb s n : Nat) (hs : s < 2 ^ 64) (w : World) : Calls Tryz.prog 67 #[.pointer (some ⟨xb, 0, none⟩), .int .u64 s, .int .i64 n] w fun e w' => e = .returned (B16 (s % 4294967296)) ∧ Below w.heap.size w w' := by
  have LT := Lib.hid (fun w' => little0 (s % 4294967296) (by omega) w')
  have AN := Lib.hid (and32 s hs)
  have Z0 := Lib.hid (RB.start w)
  go_enter Tryz.func67, Tryz.ntmps67
  go_upto_region 0 with fail
  refine wp_region_lit ?_
  refine New.p_newarr rfl 27 rfl .u8 16 RS.z16 ?_
  intro w1 ha hg2 _
  obtain ⟨q, hq⟩ : ∃ q, w.heap.size = q := ⟨_, rfl⟩
  rw [hq] at ha ⊢
  have Z2 := Lib.hid (Z0.out.new hq ha hg2)
  clear ha hg2 hq Z0
  simp only [Act.put, sA9, sB9, sC9]
  refine wpList_nil ?_
  go_upto_region 1 with fail
  refine wp_region_lit ?_
  refine Step.p_move rfl _ rfl (.int .u64 s) rfl ?_
  simp only [Act.put, sA9, sB9, sC9]
  refine Step.p_val rfl (.int .u64 (s % 4294967296 : Nat)) (by unfold execOp; have := AN.out; go_simp; try (first | exact AN.out | rw [AN.out])) ?_
  simp only [Act.put, sA9, sB9, sC9]
  refine Step.p_wp rfl (Step.w_callx 100 _ _ rfl Tryz.func100 (by kernel_rfl) rfl [.int .u64 0, .int .u64 (s % 4294967296 : Nat)] rfl (LT.out _) ?_)
  rintro e w3 ⟨rfl, hb⟩
  have Z4 := Lib.hid (Z2.out.bel_ hb)
  clear hb Z2
  refine ⟨_, rfl, ?_⟩
  simp only [Act.put, sA9, sB9, sC9]
  refine Step.p_store 27 _ _ rfl (q) rfl rfl (Z4.out.own (q, 0) (.head _)).1 Field.info16 rfl ?_
  intro w5 ha hg2 _
  have Z6 := Lib.hid (Z4.out.store0 (y := s % 4294967296) ha hg2)
  clear ha hg2 Z4
  simp only [Act.put]
  refine wpList_nil ?_
  go_wp2
  exact ret_arr rfl rfl (Z6.out.own (q, s % 4294967296) (.head _)).1 Tryz.underlying27 rfl Field.info16 rfl ⟨rfl, Z6.out.bel⟩
set_option maxRecDepth 100000 in
set_option maxHeartbeats 4000000 in
theorem fromPlain64_any (xb s n : Nat) (hs : s < 2 ^ 64) (w : World) : Calls Tryz.prog 68 #[.pointer (some ⟨xb, 0, none⟩), .int .u64 s, .int .i64 n] w fun e w' => e = .returned (B16 (s)) ∧ Below w.heap.size w w' := by
  have LT := Lib.hid (fun w' => little0 s hs w')
  have Z0 := Lib.hid (RB.start w)
  go_enter Tryz.func68, Tryz.ntmps68
  go_upto_region 0 with fail
  refine wp_region_lit ?_
  refine New.p_newarr rfl 27 rfl .u8 16 RS.z16 ?_
  intro w1 ha hg2 _
  obtain ⟨q, hq⟩ : ∃ q, w.heap.size = q := ⟨_, rfl⟩
  rw [hq] at ha ⊢
  have Z2 := Lib.hid (Z0.out.new hq ha hg2)
  clear ha hg2 hq Z0
  simp only [Act.put, sA9, sB9, sC9]
  refine wpList_nil ?_
  go_upto_region 1 with fail
  refine wp_region_lit ?_
  refine Step.p_move rfl _ rfl (.int .u64 s) rfl ?_
  simp only [Act.put, sA9, sB9, sC9]
  refine Step.p_wp rfl (Step.w_callx 100 _ _ rfl Tryz.func100 (by kernel_rfl) rfl [.int .u64 0, .int .u64 (s : Nat)] rfl (LT.out _) ?_)
  rintro e w3 ⟨rfl, hb⟩
  have Z4 := Lib.hid (Z2.out.bel_ hb)
  clear hb Z2
  refine ⟨_, rfl, ?_⟩
  simp only [Act.put, sA9, sB9, sC9]
  refine Step.p_store 27 _ _ rfl (q) rfl rfl (Z4.out.own (q, 0) (.head _)).1 Field.info16 rfl ?_
  intro w5 ha hg2 _
  have Z6 := Lib.hid (Z4.out.store0 (y := s) ha hg2)
  clear ha hg2 Z4
  simp only [Act.put]
  refine wpList_nil ?_
  go_wp2
  exact ret_arr rfl rfl (Z6.out.own (q, s) (.head _)).1 Tryz.underlying27 rfl Field.info16 rfl ⟨rfl, Z6.out.bel⟩
set_option maxRecDepth 100000 in
set_option maxHeartbeats 4000000 in
theorem fromPlain64be_any (xb s n : Nat) (hs : s < 2 ^ 64) (w : World) : Calls Tryz.prog 69 #[.pointer (some ⟨xb, 0, none⟩), .int .u64 s, .int .i64 n] w fun e w' => e = .returned (B16 (revN s)) ∧ Below w.heap.size w w' := by
  have LT := Lib.hid (fun w' => big0 s hs w')
  have Z0 := Lib.hid (RB.start w)
  go_enter Tryz.func69, Tryz.ntmps69
  go_upto_region 0 with fail
  refine wp_region_lit ?_
  refine New.p_newarr rfl 27 rfl .u8 16 RS.z16 ?_
  intro w1 ha hg2 _
  obtain ⟨q, hq⟩ : ∃ q, w.heap.size = q := ⟨_, rfl⟩
  rw [hq] at ha ⊢
  have Z2 := Lib.hid (Z0.out.new hq ha hg2)
  clear ha hg2 hq Z0
  simp only [Act.put, sA9, sB9, sC9]
  refine wpList_nil ?_
  go_upto_region 1 with fail
  refine wp_region_lit ?_
  refine Step.p_move rfl _ rfl (.int .u64 s) rfl ?_
  simp only [Act.put, sA9, sB9, sC9]
  refine Step.p_wp rfl (Step.w_callx 113 _ _ rfl Tryz.func113 (by kernel_rfl) rfl [.int .u64 0, .int .u64 (s : Nat)] rfl (LT.out _) ?_)
  rintro e w3 ⟨rfl, hb⟩
  have Z4 := Lib.hid (Z2.out.bel_ hb)
  clear hb Z2
  refine ⟨_, rfl, ?_⟩
  simp only [Act.put, sA9, sB9, sC9]
  refine Step.p_store 27 _ _ rfl (q) rfl rfl (Z4.out.own (q, 0) (.head _)).1 Field.info16 rfl ?_
  intro w5 ha hg2 _
  have Z6 := Lib.hid (Z4.out.store0 (y := revN s) ha hg2)
  clear ha hg2 Z4
  simp only [Act.put]
  refine wpList_nil ?_
  go_wp2
  exact ret_arr rfl rfl (Z6.out.own (q, revN s) (.head _)).1 Tryz.underlying27 rfl Field.info16 rfl ⟨rfl, Z6.out.bel⟩
end Go.Proofs.YtmifebcaifbmoaaGreatDoor.G
end
