/- Parts of the proof of TweakBlocks. MadeG: cofferlaw03: Pick.made of any row, by what both New answer. -/
import Derived.Test.YtmifebcaifbmoaaGreatDoorL00
import Derived.Test.YtmifebcaifbmoaaGreatDoorL23
import Derived.Test.YtmifebcaifbmoaaGreatDoorL36
/- MadeG -/
section
namespace Go.Proofs.YtmifebcaifbmoaaGreatDoor.G
open Go.RowKit Go.Lib Go.Proofs.YtmifebcaifbmoaaGreatDoor.Blk Go.Proofs.YtmifebcaifbmoaaGreatDoor.Aes Go.Proofs.YtmifebcaifbmoaaGreatDoor.Tab Go.Proofs.YtmifebcaifbmoaaGreatDoor.Byts Go.Proofs.YtmifebcaifbmoaaGreatDoor.Push Go.Proofs.YtmifebcaifbmoaaGreatDoor.Tw

theorem Kp.of_u8 {w w' : World} {g : Nat} {cur : Array Value} {z : Nat} (hg : w.heap[g]? = some (.cells cur 5 (0, 0))) (h0 : cur[0]? = some (.int .u8 (z : Nat))) (hne : g ≠ 2) (h : w.grownBy w' (some g)) : Kp w w' := ⟨h.size, fun b cs T fz e t => (h.block b (Array.getElem?_eq_some_iff.1 e).1 (fun e2 => by
  cases e2
  rw [hg] at e
  cases e
  rcases t with t | ⟨x, hx, t⟩ | t
  · exact t rfl
  · rw [h0] at hx
    cases hx
    exact t _ rfl
  · exact hne t)).trans e⟩
/-- bytes that are the key's no more, and the cipher beside them -/
structure MG (Pr : World → Prop) (g n : Nat) (w w' : World) : Prop where
  cur : ∃ cur, w'.heap[g]? = some (.cells cur 5 (0, 0)) ∧ ∀ j, j < n → ∃ z : Nat, z < 256 ∧ cur[j]? = some (.int .u8 (z : Nat))
  ci : Pr w'
  bel : Below w.heap.size w w'
theorem MG.put {Pr : World → Prop} (hP : ∀ w1 w2, Pr w1 → Kp w1 w2 → Pr w2) {g n : Nat} {w w1 w2 : World} {cur : Array Value} {j z : Nat} (h : MG Pr g n w w1) (hn : 0 < n) (hne : g ≠ 2) (hc : w1.heap[g]? = some (.cells cur 5 (0, 0))) (hz : z < 256) (hp : w2.heap[g]? = some (.cells (cur.setIfInBounds j (.int .u8 (z : Nat))) 5 (0, 0))) (hg : w1.grownBy w2 (some g)) (hgw : w.heap.size ≤ g) : MG Pr g n w w2 := by
  obtain ⟨cur', e1, e2⟩ := h.cur
  rw [hc] at e1
  cases e1
  obtain ⟨z0, _, hz0⟩ := e2 0 hn
  refine ⟨⟨_, hp, fun i hi => ?_⟩, hP _ _ h.ci (Kp.of_u8 hc hz0 hne hg), h.bel.grown hg h.bel.size (fun j hj => by cases hj; exact hgw)⟩
  by_cases hij : j = i
  · subst hij
    obtain ⟨z1, _, hz1⟩ := e2 j hi
    exact ⟨z, hz, by rw [Array.getElem?_setIfInBounds_self_of_lt (Array.getElem?_eq_some_iff.1 hz1).1]⟩
  · obtain ⟨z1, l1, hz1⟩ := e2 i hi
    exact ⟨z1, l1, by rw [Array.getElem?_setIfInBounds_ne hij]; exact hz1⟩
theorem pk_row (i0 k : Nat) (hi : i0 < 3) (hk : k < 17) : pk ((1 + 17 * i0 + k : Nat) : Int) = 1 + 17 * i0 + k := by
  exact (by decide : ∀ a, a < 52 → pk ((a : Nat) : Int) = a) _ (by omega)
theorem szN_row (i0 k : Nat) (hk : k < 17) {m : Nat} (hm : szT i0 k = (m : Nat)) : szN (1 + 17 * i0 + k) = m := by
  unfold szN
  rw [if_neg (by omega), show (1 + 17 * i0 + k - 1) / 17 = i0 by omega, show (1 + 17 * i0 + k - 1) % 17 = k by omega, hm]
  exact Int.toNat_natCast m

set_option maxRecDepth 100000 in
set_option maxHeartbeats 4000000 in
theorem made_any (i0 k0 : Nat) (hi : i0 < 3) (hk0 : k0 < 17) (m : Nat) (hsz : szT i0 k0 = (m : Nat)) (hm : 1 ≤ m ∧ m ≤ 100) (Pr : Nat → World → Prop) (hPr : ∀ cb w1 w2, Pr cb w1 → Kp w1 w2 → Pr cb w2) (q : Option Addr) (n cap : Nat) (f : Nat → Nat) (hf : ∀ j, f j < 256) (w : World) (hM : Modes w) (hR : RconAt w) (hB : BL w q n f) (hnc : n ≤ cap) (hcm : cap ≤ 9223372036854775807)
    (NW0 : ∀ g cap w', KeyB w' g 0 m (keyF n f) → m ≤ cap → cap ≤ 9223372036854775807 → Below w.heap.size w w' → Calls Tryz.prog 23 #[.string (pre i0 ++ nm k0), .slice (some ⟨g, 0, none⟩) m cap] w' fun e w2 => ∃ cb, e = .returned (.tuple #[.pointer (some ⟨cb, 0, none⟩), .int .i64 0]) ∧ Pr cb w2 ∧ Below w'.heap.size w' w2)
    (RN0 : ∀ g cap w', BL w' (some ⟨g, 0, none⟩) m (keyF n f) → m ≤ cap → cap ≤ 9223372036854775807 → Below w.heap.size w w' → Calls Tryz.prog 24 #[.string (name (1 + 17 * i0 + k0)), .slice (some ⟨g, 0, none⟩) m cap] w' fun e w2 => ∃ rb, e = .returned (.tuple #[.pointer (some ⟨rb, 0, none⟩), .int .i64 0]) ∧ Below w'.heap.size w' w2) :
    Calls Tryz.prog 11 #[pickV ((1 + 17 * i0 + k0 : Nat) : Int) q n cap] w fun e w' => ∃ cb rb, e = .returned (.tuple #[.pointer (some ⟨cb, 0, none⟩), .pointer (some ⟨rb, 0, none⟩), .bool true]) ∧ Pr cb w' ∧ Below w.heap.size w w' := by
  have hz : IntKind.i64.has ((1 + 17 * i0 + k0 : Nat) : Int) := by
    have h2 : 1 + 17 * i0 + k0 ≤ 51 := by omega
    constructor <;> simp [IntKind.min, IntKind.max, IntKind.signed, IntKind.bits] <;> omega
  have hrl : 2 < w.heap.size := Frame.block_lt (hR 0 (by decide))
  have KL := Lib.hid (keyF_lt (n := n) hf)
  have EP := pk_row i0 k0 hi hk0
  have KY := Lib.hid (fun w' (b : Below w.heap.size w w') => key_any _ hz q n cap f w' (hM.below b) (hB.below b) hnc hcm (by rw [EP, szN_row i0 k0 hk0 hsz]; omega))
  have RW := Lib.hid (fun w' (b : Below w.heap.size w w') => row_any _ hz q n cap w' (hM.below b))
  have NW := Lib.hid NW0
  have RN := Lib.hid RN0
  rw [EP, szN_row i0 k0 hk0 hsz] at KY
  have RA : rowL (1 + 17 * i0 + k0) = [.string (pre i0 ++ nm k0), .string (mdT k0), .string (stT k0), .int .i64 (16 + 8 * (i0 : Int)), .int .i64 (szT i0 k0)] := rowL_at i0 k0 hk0
  rw [EP, RA] at RW
  have EN : name (1 + 17 * i0 + k0) = pre i0 ++ nm k0 := name_at i0 k0 hk0
  rw [EN] at RN
  have P0 := Lib.hid (pkv_new ((1 + 17 * i0 + k0 : Nat) : Int) q n cap w)
  have HPR := Lib.hid hPr
  clear hM hR hB EP RA EN hf hz hi hsz hPr NW0 RN0
  unfold pickV at *
  generalize pre i0 ++ nm k0 = spec at *
  generalize szT i0 k0 = zz at *
  generalize mdT k0 = md at *
  generalize stT k0 = stx at *
  generalize ((1 + 17 * i0 + k0 : Nat) : Int) = z at *
  generalize keyF n f = F at *
  go_enter Tryz.func11, Tryz.ntmps11
  go_upto_region 1 with fail
  generalize (w.alloc (.cells #[.int .i64 z, .slice q n cap] 24)) = w1 at *
  refine wp_region_lit ?_
  refine Tree.p_loadrow rfl _ _ rfl (w.heap.size) rfl (P0.out.p) Tryz.underlying24 rfl (by kernel_rfl) ?_
  simp only [Act.put, sA9, sB9, sC9]
  refine Step.p_wp rfl (Step.w_callx 31 [.tmp 11] _ rfl Tryz.func31 (by kernel_rfl) rfl [.agg #[.int .i64 z, .slice q n cap]] rfl (KY.out w1 P0.out.bel) ?_)
  rintro e w2 ⟨v, rfl, ho, hb⟩
  refine ⟨_, rfl, ?_⟩
  simp only [Act.put, sA9, sB9, sC9]
  obtain ⟨k1, c1, rfl, e1, e2, e3, e4⟩ := ho
  have P1 := Lib.hid (P0.out.next hb)
  clear hb P0
  have BY := Lib.hid (bytes_any (some ⟨k1, 0, none⟩) m c1 F w2 (by omega) e2 (fun e => by cases e) (fun i hi => ⟨k1, 0, rfl, by rw [Nat.zero_add]; exact e4 i hi⟩))
  clear e4
  refine Step.p_wp rfl (Step.w_callx 13 [.tmp 12] _ rfl Tryz.func13 (by kernel_rfl) rfl [.slice (some ⟨k1, 0, none⟩) m c1] rfl (BY.out) ?_)
  rintro e w3 ⟨g, c, rfl, hg, hgc, hcm2, hrow, hb, cur, hcur⟩
  refine ⟨_, rfl, ?_⟩
  simp only [Act.put, sA9, sB9, sC9]
  have P2 := Lib.hid (P1.out.next hb)
  have HG : w.heap.size ≤ g := Nat.le_trans P1.out.bel.size hg
  have hgr : g ≠ 2 := by omega
  have ROW3 := Lib.hid hrow
  have CUR3 : Hid (∃ cur, w3.heap[g]? = some (.cells cur 5 (0, 0))) := Lib.hid ⟨cur, hcur⟩
  clear hb hrow hcur P1 BY
  have hcm3 : c ≤ 9223372036854775807 := hcm2
  refine Step.p_assign rfl _ rfl (.slice (some ⟨g, 0, none⟩) m c) rfl ?_
  simp only [Act.put, sA9, sB9, sC9]
  refine wpList_nil ?_
  go_upto_region 2 with fail
  refine wp_region_lit ?_
  refine Tree.p_loadrow rfl _ _ rfl (w.heap.size) rfl (P2.out.p) Tryz.underlying24 rfl (by kernel_rfl) ?_
  simp only [Act.put, sA9, sB9, sC9]
  refine Step.p_wp rfl (Step.w_callx 39 [.tmp 15] _ rfl Tryz.func39 (by kernel_rfl) rfl [.agg #[.int .i64 z, .slice q n cap]] rfl (RW.out w3 P2.out.bel) ?_)
  rintro e w4 ⟨rfl, hb⟩
  refine ⟨_, rfl, ?_⟩
  simp only [Act.put, sA9, sB9, sC9]
  have P3 := Lib.hid (P2.out.next hb)
  have B34 := Lib.hid hb
  clear hb P2
  refine Step.p_val rfl (.string spec) (by unfold execOp; go_simp; try rfl) ?_
  simp only [Act.put, sA9, sB9, sC9]
  refine Step.p_move rfl _ rfl (.slice (some ⟨g, 0, none⟩) m c) rfl ?_
  simp only [Act.put, sA9, sB9, sC9]
  have K4 : Hid (KeyB w4 g 0 m F) := Lib.hid (fun j hj => by rw [Nat.zero_add, (B34.out.cell (Frame.block_lt ((ROW3.out j (by omega)).trans (row_get _ _ _ _ hj)))), ROW3.out j (by omega)]; exact row_get _ _ _ _ hj)
  refine Step.p_wp rfl (Step.w_callx 23 [.tmp 17, .tmp 18] _ rfl Tryz.func23 (by kernel_rfl) rfl [.string spec, .slice (some ⟨g, 0, none⟩) m c] rfl (NW.out g c w4 K4.out (by omega) hcm3 P3.out.bel) ?_)
  rintro e w5 ⟨cb, rfl, hci, hb⟩
  refine ⟨_, rfl, ?_⟩
  simp only [Act.put, sA9, sB9, sC9]
  have P4 := Lib.hid (P3.out.next hb)
  have CI := Lib.hid hci
  have B35 := Lib.hid (B34.out.trans (hb.mono B34.out.size))
  clear hb hci K4 P3 B34
  refine Step.p_move rfl _ rfl (.tuple #[.pointer (some ⟨cb, 0, none⟩), .int .i64 0]) rfl ?_
  simp only [Act.put, sA9, sB9, sC9]
  refine Step.p_val rfl (.pointer (some ⟨cb, 0, none⟩)) (by unfold execOp; go_simp; try rfl) ?_
  simp only [Act.put, sA9, sB9, sC9]
  refine Step.p_val rfl (.int .i64 0) (by unfold execOp; go_simp; try rfl) ?_
  simp only [Act.put, sA9, sB9, sC9]
  refine Step.p_assign rfl _ rfl (.pointer (some ⟨cb, 0, none⟩)) rfl ?_
  simp only [Act.put, sA9, sB9, sC9]
  refine Step.p_assign rfl _ rfl (.int .i64 0) rfl ?_
  simp only [Act.put, sA9, sB9, sC9]
  refine wpList_nil ?_
  go_upto_region 3 with fail
  go_cut [8, 9] from 22 to 30 (fun r e wx => ∃ rb, r = .pointer (some ⟨rb, 0, none⟩) ∧ e = .int .i64 0 ∧ Below w5.heap.size w5 wx)
  case first =>
    refine Step.begin_ (S := fun w' => Below w5.heap.size w5 w') 11 rfl (by kernel_rfl) (Below.refl _ _).drew ?_
    intro hS
    have SX := Lib.hid hS
    clear hS
    have PC : Hid (∀ w', Below w5.heap.size w5 w' → w'.heap[w.heap.size]? = some (.cells #[.int .i64 z, .slice q n cap] 24 (0, 0))) := Lib.hid (fun w' hb => (P4.out.next hb).p)
    have PB : Hid (∀ w', Below w5.heap.size w5 w' → Below w.heap.size w w') := Lib.hid (fun w' hb => (P4.out.next hb).bel)
    refine t_loadrow (i := 0) rfl rfl (by kernel_rfl) (by kernel_rfl) (by kernel_rfl) SX.out _ _ rfl w.heap.size rfl PC.out Tryz.underlying24 rfl (by kernel_rfl) ?_
    simp only [Act.put, sA9, sB9, sC9]
    refine t_loadrow (i := 3) rfl rfl (by kernel_rfl) (by kernel_rfl) (by kernel_rfl) SX.out _ _ rfl w.heap.size rfl PC.out Tryz.underlying24 rfl (by kernel_rfl) ?_
    simp only [Act.put, sA9, sB9, sC9]
    refine Step.t_one (i := 1) rfl rfl (by kernel_rfl) ?_
    refine Step.w_callx 39 [.tmp 23] _ rfl Tryz.func39 (by kernel_rfl) rfl [.agg #[.int .i64 z, .slice q n cap]] rfl (RW.out _ (PB.out _ SX.out)) ?_
    rintro e wa ⟨rfl, hb⟩
    refine ⟨_, rfl, ?_⟩
    have SA := Lib.hid (SX.out.trans (hb.mono SX.out.size))
    refine ⟨SA.out, ?_⟩
    simp only [Act.put, sA9, sB9, sC9]
    clear hb
    refine Step.t_val (i := 2) rfl rfl (by kernel_rfl) (by kernel_rfl) (by kernel_rfl) SA.out (.string spec) (fun w' _ => by unfold execOp; go_simp; try rfl) ?_
    simp only [Act.put, sA9, sB9, sC9]
    refine Step.t_one (i := 4) rfl rfl (by kernel_rfl) ?_
    refine Step.w_callx 31 [.tmp 26] _ rfl Tryz.func31 (by kernel_rfl) rfl [.agg #[.int .i64 z, .slice q n cap]] rfl (KY.out _ (PB.out _ SA.out)) ?_
    rintro e wb ⟨v2, rfl, ho2, hb⟩
    refine ⟨_, rfl, ?_⟩
    have SB := Lib.hid (SA.out.trans (hb.mono SA.out.size))
    refine ⟨SB.out, ?_⟩
    simp only [Act.put, sA9, sB9, sC9]
    obtain ⟨k2, c2, rfl, x1, x2, x3, x4⟩ := ho2
    have X4 : Hid (BL wb (some ⟨k2, 0, none⟩) m F) := Lib.hid (fun i hi => ⟨k2, 0, rfl, by rw [Nat.zero_add]; exact x4 i hi⟩)
    clear x4 x1
    have XB := X4.out
    clear X4
    refine Step.t_one (i := 5) rfl rfl (by kernel_rfl) ?_
    refine Step.w_callx 24 [.tmp 25, .tmp 27] _ rfl Tryz.func24 (by kernel_rfl) rfl [.string spec, .slice (some ⟨k2, 0, none⟩) m c2] rfl (RN.out k2 c2 wb XB x2 x3 (PB.out _ SB.out)) ?_
    rintro e wz ⟨rb, rfl, hb⟩
    refine ⟨_, rfl, ?_⟩
    have SZ := Lib.hid (SB.out.trans (hb.mono SB.out.size))
    refine ⟨SZ.out, ?_⟩
    simp only [Act.put, sA9, sB9, sC9]
    clear hb
    refine Step.t_val (i := 6) rfl rfl (by kernel_rfl) (by kernel_rfl) (by kernel_rfl) SZ.out (.tuple #[.pointer (some ⟨rb, 0, none⟩), .int .i64 0]) (fun w' _ => by unfold execOp; go_simp; try rfl) ?_
    simp only [Act.put, sA9, sB9, sC9]
    refine Step.t_val (i := 7) rfl rfl (by kernel_rfl) (by kernel_rfl) (by kernel_rfl) SZ.out (.pointer (some ⟨rb, 0, none⟩)) (fun w' _ => by unfold execOp; go_simp; try rfl) ?_
    simp only [Act.put, sA9, sB9, sC9]
    refine Step.t_val (i := 8) rfl rfl (by kernel_rfl) (by kernel_rfl) (by kernel_rfl) SZ.out (.int .i64 0) (fun w' _ => by unfold execOp; go_simp; try rfl) ?_
    simp only [Act.put, sA9, sB9, sC9]
    refine Step.t_val (i := 9) rfl rfl (by kernel_rfl) (by kernel_rfl) (by kernel_rfl) SZ.out (.pointer (some ⟨rb, 0, none⟩)) (fun w' _ => by unfold execOp; go_simp; try rfl) ?_
    simp only [Act.put, sA9, sB9, sC9]
    refine Step.t_val (i := 10) rfl rfl (by kernel_rfl) (by kernel_rfl) (by kernel_rfl) SZ.out (.int .i64 0) (fun w' _ => by unfold execOp; go_simp; try rfl) ?_
    simp only [Act.put, sA9, sB9, sC9]
    refine Step.t_end (by kernel_rfl) ?_
    go_wp2
    go_meet
    case rel => exact ⟨rb, rfl, rfl, SZ.out⟩
  obtain ⟨rb, rfl, rfl, hb⟩ := hcut
  have P5 := Lib.hid (P4.out.next hb)
  have C5 := Lib.hid (HPR.out _ _ _ CI.out (Kp.of_below hb))
  have B36 := Lib.hid (B35.out.trans (hb.mono B35.out.size))
  clear hb P4 CI B35 RW NW RN
  go_upto_region 4 with fail
  refine wp_region_lit ?_
  refine Step.p_move rfl _ rfl (.slice (some ⟨g, 0, none⟩) m c) rfl ?_
  simp only [Act.put, sA9, sB9, sC9]
  refine Tree.p_loadrow rfl _ _ rfl (w.heap.size) rfl (P5.out.p) Tryz.underlying24 rfl (by kernel_rfl) ?_
  simp only [Act.put, sA9, sB9, sC9]
  refine Step.p_wp rfl (Step.w_callx 31 [.tmp 32] _ rfl Tryz.func31 (by kernel_rfl) rfl [.agg #[.int .i64 z, .slice q n cap]] rfl (KY.out wc P5.out.bel) ?_)
  rintro e w6 ⟨v2, rfl, ho2, hb⟩
  refine ⟨_, rfl, ?_⟩
  simp only [Act.put, sA9, sB9, sC9]
  obtain ⟨k2, c2, rfl, x1, x2, x3, x4⟩ := ho2
  have P6 := Lib.hid (P5.out.next hb)
  have C6 := Lib.hid (HPR.out _ _ _ C5.out (Kp.of_below hb))
  have B37 := Lib.hid (B36.out.trans (hb.mono B36.out.size))
  clear hb P5 C5 B36 KY
  have WB := Lib.hid (wholeBytes_any g c (some ⟨k2, 0, none⟩) m c2 F w6 (by omega) hgc hcm2 (fun j hj => by
    obtain ⟨u, hu⟩ : ∃ u, (row m F 70)[j]? = some u := ⟨_, List.getElem?_eq_getElem (by simp [row]; omega)⟩
    rw [B37.out.cell (Frame.block_lt ((ROW3.out j hj).trans hu))]
    exact ROW3.out j hj) (fun i hi => ⟨k2, 0, rfl, by rw [Nat.zero_add]; exact x4 i hi⟩))
  clear x4 x1
  refine Step.p_wp rfl (Step.w_callx 25 [.tmp 31, .tmp 33] _ rfl Tryz.func25 (by kernel_rfl) rfl [.slice (some ⟨g, 0, none⟩) m c, .slice (some ⟨k2, 0, none⟩) m c2] rfl (WB.out) ?_)
  rintro e w7 ⟨rfl, hb⟩
  refine ⟨_, rfl, ?_⟩
  simp only [Act.put, sA9, sB9, sC9]
  refine Step.p_val rfl (.bool false) (by unfold execOp; go_simp; try rfl) ?_
  simp only [Act.put, sA9, sB9, sC9]
  refine wpList_nil ?_
  have M7 : Hid (MG (Pr cb) g m w w7) := Lib.hid (by
    obtain ⟨cur, hcur⟩ := CUR3.out
    have B38 := B37.out.trans (hb.mono B37.out.size)
    refine ⟨⟨cur, (B38.block g (Array.getElem?_eq_some_iff.1 hcur).1).trans hcur, fun j hj => ⟨F j, KL.out j, ?_⟩⟩, HPR.out _ _ _ C6.out (Kp.of_below hb), (P6.out.next hb).bel⟩
    have h := ROW3.out j (by omega)
    rw [cell_of_row w3 g j _ _ _ hcur, row_get _ _ _ _ hj] at h
    exact h)
  clear hb P6 C6 B37 ROW3 CUR3 WB
  go_wp2
  go_loopw [10] (fun i wr => ∃ k : Nat, k ≤ m ∧ i = .int .i64 k ∧ MG (Pr cb) g m w wr) (fun i _ => m - (RowKit.intOf i).toNat)
  case atStart => exact ⟨0, by omega, rfl, M7.out⟩
  case round =>
    obtain ⟨k, hk, rfl, hms⟩ := hrel
    have MR := Lib.hid hms
    clear hms M7
    by_cases hlt : k < m
    · obtain ⟨cur, hcur, hcz⟩ := MR.out.cur
      obtain ⟨x, hx, hxc⟩ := hcz k hlt
      have HCU := Lib.hid hcur
      have hkl : k < cur.size := (Array.getElem?_eq_some_iff.1 hxc).1
      have HX : Hid (wr.cell? ⟨g, k, none⟩ = some (.int .u8 (x : Nat))) := Lib.hid (by rw [cell_of_row wr g k _ _ _ hcur]; exact hxc)
      clear hcur hcz hxc
      go_upto_region 9 with fail
      refine wp_region_lit ?_
      refine Step.p_move rfl _ rfl (.slice (some ⟨g, 0, none⟩) m c) rfl ?_
      simp only [Act.put, sA9, sB9, sC9]
      refine Step.p_move rfl _ rfl (.int .i64 k) rfl ?_
      simp only [Act.put, sA9, sB9, sC9]
      refine Step.p_move rfl _ rfl (.slice (some ⟨g, 0, none⟩) m c) rfl ?_
      simp only [Act.put, sA9, sB9, sC9]
      refine Step.p_move rfl _ rfl (.int .i64 k) rfl ?_
      simp only [Act.put, sA9, sB9, sC9]
      refine Step.p_index rfl _ 5 _ _ rfl g 0 m c rfl k rfl hlt 1 Tryz.underlying22 (by kernel_rfl) ?_
      simp only [Act.put, sA9, sB9, sC9]
      refine Tree.p_load1 rfl _ _ rfl (g) (0 + k * 1) rfl (.int .u8 (x : Nat)) (by rw [Nat.zero_add, Nat.mul_one]; exact HX.out) Tryz.underlying5 rfl ?_
      simp only [Act.put, sA9, sB9, sC9]
      refine Step.p_val rfl (.int .u8 (255 ^^^ x : Nat)) (by unfold execOp; go_simp; first | exact xor_u8 255 _ (by decide) hx | trace_state) ?_
      simp only [Act.put, sA9, sB9, sC9]
      refine Step.p_index rfl _ 5 _ _ rfl g 0 m c rfl k rfl hlt 1 Tryz.underlying22 (by kernel_rfl) ?_
      simp only [Act.put, sA9, sB9, sC9]
      refine Step.p_storeV rfl 5 _ _ rfl g (0 + k * 1) rfl (.int .u8 (255 ^^^ x : Nat)) rfl (fun _ e => by cases e) rfl (by kernel_rfl) HCU.out (by omega) ?_
      intro w8 hr hg2 _
      simp only [Act.put]
      refine wpList_nil ?_
      have M8 := Lib.hid (MR.out.put (HPR.out cb) (by omega) hgr HCU.out (Nat.xor_lt_two_pow (n := 8) (by decide) hx) hr hg2 HG)
      clear hr hg2 HCU HX MR
      go_wp2
      exact ⟨⟨k + 1, by omega, by go_num, M8.out⟩, by simp [RowKit.intOf]; omega⟩
    · obtain rfl : k = m := by omega
      go_upto_region 10 with fail
      refine wp_region_lit ?_
      refine Step.p_move rfl _ rfl (.pointer (some ⟨cb, 0, none⟩)) rfl ?_
      simp only [Act.put, sA9, sB9, sC9]
      refine Step.p_move rfl _ rfl (.pointer (some ⟨rb, 0, none⟩)) rfl ?_
      simp only [Act.put, sA9, sB9, sC9]
      refine Step.p_move rfl _ rfl (.int .i64 0) rfl ?_
      simp only [Act.put, sA9, sB9, sC9]
      refine Step.p_wp rfl (Step.w_callx 15 [.tmp 52] _ rfl Tryz.func15 (by kernel_rfl) rfl [.int .i64 0] rfl (num_any 0 _) ?_)
      rintro e w9 ⟨rfl, hw⟩
      refine ⟨_, rfl, ?_⟩
      simp only [Act.put, sA9, sB9, sC9]
      subst hw
      refine Step.p_val rfl (.bool true) (by unfold execOp; go_simp; try rfl) ?_
      simp only [Act.put, sA9, sB9, sC9]
      refine Step.p_move rfl _ rfl (.bool true) rfl ?_
      simp only [Act.put, sA9, sB9, sC9]
      refine Step.p_move rfl _ rfl (.pointer (some ⟨cb, 0, none⟩)) rfl ?_
      simp only [Act.put, sA9, sB9, sC9]
      refine Step.p_val rfl (.bool true) (by unfold execOp; go_simp; try rfl) ?_
      simp only [Act.put, sA9, sB9, sC9]
      refine Step.p_pick rfl _ _ _ rfl true rfl (.bool true) rfl ?_
      simp only [Act.put, sA9, sB9, sC9]
      refine Step.p_assign rfl _ rfl (.pointer (some ⟨cb, 0, none⟩)) rfl ?_
      simp only [Act.put, sA9, sB9, sC9]
      refine Step.p_assign rfl _ rfl (.pointer (some ⟨rb, 0, none⟩)) rfl ?_
      simp only [Act.put, sA9, sB9, sC9]
      refine Step.p_assign rfl _ rfl (.bool true) rfl ?_
      simp only [Act.put, sA9, sB9, sC9]
      refine wpList_nil ?_
      go_wp2
      go_ret3
      exact ⟨cb, rb, rfl, MR.out.ci, MR.out.bel⟩
end Go.Proofs.YtmifebcaifbmoaaGreatDoor.G
end
