/- cofferlaw03: Pick.made of a row of LRW. -/
import Derived.Test.YtcgjhjijfhgclaaGreatDoorMPickOf
import Derived.Test.YtcgjhjijfhgclaaGreatDoorMRefF
import Derived.Test.YtcgjhjijfhgclaaGreatDoorMSeal
import Derived.Test.YtcgjhjijfhgclaaGreatDoorMPick
import Derived.Test.YtcgjhjijfhgclaaGreatDoorRows
import Derived.WideShapes
import Derived.ChangeSlices
import Derived.Lib.LaidU8T
import Derived.Deep.Slices
namespace Go.Proofs.YtcgjhjijfhgclaaGreatDoor.Tw
open Go.RowKit Go.Lib Go.Proofs.YtcgjhjijfhgclaaGreatDoor.Blk Go.Proofs.YtcgjhjijfhgclaaGreatDoor.Aes Go.Proofs.YtcgjhjijfhgclaaGreatDoor.Tab Go.Proofs.YtcgjhjijfhgclaaGreatDoor.Byts Go.Proofs.YtcgjhjijfhgclaaGreatDoor.Push

theorem keyF_lt {n : Nat} {f : Nat → Nat} (hf : ∀ j, f j < 256) (j : Nat) : keyF n f j < 256 := by
  unfold keyF
  split
  · exact Nat.mod_lt _ (by decide)
  · exact hf _
/-- a cipher of LRW stays where bytes of no block of its own change -/
theorem CiphLrw.over {key : Nat → Nat} {nk cb g : Nat} {w w' : World} {cur : Array Value} {z : Nat} (h : CiphLrw key nk cb w) (hg : w.heap[g]? = some (.cells cur 5 (0, 0))) (h0 : cur[0]? = some (.int .u8 (z : Nat))) (hb : w.grownBy w' (some g)) : CiphLrw key nk cb w' := by
  obtain ⟨xb, gk, d, s, u, cs, v, h1, h2, h3, h4, h5, h6, h7⟩ := h
  have c0 : w.cell? ⟨g, 0, none⟩ = some (.int .u8 (z : Nat)) := by rw [cell_of_row w g 0 _ _ _ hg]; exact h0
  have blk : ∀ {b : Nat} {C : Array Value} {T : TypeId}, w.heap[b]? = some (.cells C T (0, 0)) → T ≠ 5 → w'.heap[b]? = some (.cells C T (0, 0)) := fun {b C T} hc hT => (hb.block b (Array.getElem?_eq_some_iff.1 hc).1 (fun e => by
    cases e
    rw [hg] at hc
    cases hc
    exact hT rfl)).trans hc
  have ne0 : ∀ {b : Nat} {x : Value}, w.cell? ⟨b, 0, none⟩ = some x → (∀ z, x ≠ .int .u8 z) → b ≠ g := fun hx hz => ne_u8 hx c0 hz
  have lrw : ∀ {f : FuncId} {s : Value}, LrwAt f cb s w → LrwAt f cb s w' := fun {f s} hl => by
    obtain ⟨x, d, u, rfl, l1, l2, p, rfl, l3⟩ := hl
    exact ⟨x, d, _, rfl, cell_gb hb (ne0 l1 (fun _ e => by cases e)) l1, cell_gb hb (ne0 l2 (fun _ e => by cases e)) l2, p, rfl, cell_gb hb (ne0 l3 (fun _ e => by cases e)) l3⟩
  have hk0 := h5.c 0 (by decide) 0 _ rfl
  exact ⟨xb, gk, d, s, u, cs, v, blk h1 (by decide), blk h2 (by decide), h3, h4.grown hg (by decide) (by decide) h0 (fun _ e => by cases e) hb, KindsAt_gb h5 hb (ne0 hk0 (fun _ e => by cases e)) (fun e => by
    have h5d := h5.d
    rw [e, hg] at h5d
    cases h5d), lrw h6, lrw h7⟩

/-- bytes that are the key's no more, and the cipher beside them -/
structure MS (key : Nat → Nat) (nk cb g n : Nat) (w w' : World) : Prop where
  cur : ∃ cur, w'.heap[g]? = some (.cells cur 5 (0, 0)) ∧ ∀ j, j < n → ∃ z : Nat, z < 256 ∧ cur[j]? = some (.int .u8 (z : Nat))
  ci : CiphLrw key nk cb w'
  bel : Below w.heap.size w w'
theorem MS.put {key : Nat → Nat} {nk cb g n : Nat} {w w1 w2 : World} {cur : Array Value} {j z : Nat} (h : MS key nk cb g n w w1) (hn : 0 < n) (hc : w1.heap[g]? = some (.cells cur 5 (0, 0))) (hz : z < 256) (hp : w2.heap[g]? = some (.cells (cur.setIfInBounds j (.int .u8 (z : Nat))) 5 (0, 0))) (hg : w1.grownBy w2 (some g)) (hgw : w.heap.size ≤ g) : MS key nk cb g n w w2 := by
  obtain ⟨cur', e1, e2⟩ := h.cur
  rw [hc] at e1
  cases e1
  obtain ⟨z0, _, hz0⟩ := e2 0 hn
  refine ⟨⟨_, hp, fun i hi => ?_⟩, h.ci.over hc hz0 hg, h.bel.grown hg h.bel.size (fun j hj => by cases hj; exact hgw)⟩
  by_cases hij : j = i
  · subst hij
    obtain ⟨z1, _, hz1⟩ := e2 j hi
    exact ⟨z, hz, by rw [Array.getElem?_setIfInBounds_self_of_lt (Array.getElem?_eq_some_iff.1 hz1).1]⟩
  · obtain ⟨z1, l1, hz1⟩ := e2 i hi
    exact ⟨z1, l1, by rw [Array.getElem?_setIfInBounds_ne hij]; exact hz1⟩
theorem MS.drew {key : Nat → Nat} {nk cb g n : Nat} {w w1 : World} (h : MS key nk cb g n w w1) : MS key nk cb g n w w1.drew := ⟨h.cur, h.ci.below (Below.refl _ _).drew, h.bel.drew⟩

section
variable {P : Program} {Q : Exit → Act → World → Prop} {S : World → Prop} {a : Act} {w : World} {fuel : Nat} {listed : Array Bool} {i : Nat} {o : Oper} {tl l : List Oper}
theorem t_loadrow (hi : l.drop i = o :: tl) (hg : Region.wanted o (yielded l.toArray a.tmps) = true) (hs : Region.noSelect l.toArray = true) (hf : Region.free .any l.toArray listed i = true) (hr : (Region.ready .any l.toArray listed).contains i = true) (hS : S w) (ty : TypeId) (x : Operand) (ho : o.op = .load ty x) (b : Nat) (hx : a.eval x = .pointer (some ⟨b, 0, none⟩))
    {t : TypeId} {cs : Array Value} {d : TypeDesc} (hA : ∀ w, S w → w.heap[b]? = some (.cells cs t (0, 0))) (hu : P.underlying ty = some d) (hd : (match d with | .struct _ | .array _ _ => true | _ => false) = true)
    (hi' : (P.info? ty).map (·.size) = some cs.size) (h : wpAnyH P .any l.toArray (NoPanic Q) S fuel (listed.setIfInBounds i true) (a.put o.dst (.agg cs)) w) : wpAnyH P .any l.toArray (NoPanic Q) S (fuel + 1) listed a w :=
  Step.t_val hi hg hs hf hr hS _ (fun w hw => by
    unfold execOp
    simp only [ho, hx, Instr.loadAt, Instr.sureAddr, Sem.run_bind, Sem.run_pure, Result.andThen_ok, run_loadVar_row w b t ty _ _ d (hA w hw) hu hd hi']) h
end
/-- the row that LRW's pick picks -/
theorem pk_lrw (i0 : Nat) (hi : i0 < 3) : pk ((1 + 17 * i0 + 14 : Nat) : Int) = 1 + 17 * i0 + 14 := by
  rcases (show i0 = 0 ∨ i0 = 1 ∨ i0 = 2 by omega) with rfl | rfl | rfl <;> decide
theorem szN_lrw (i0 : Nat) (hi : i0 < 3) : szN (1 + 17 * i0 + 14) = 4 * (4 + 2 * i0) + 16 := by
  rcases (show i0 = 0 ∨ i0 = 1 ∨ i0 = 2 by omega) with rfl | rfl | rfl <;> decide

set_option maxRecDepth 100000 in
set_option maxHeartbeats 4000000 in
theorem madeLrw_any (i0 : Nat) (hi : i0 < 3) (q : Option Addr) (n cap : Nat) (f : Nat → Nat) (hf : ∀ j, f j < 256) (w : World) (hM : Modes w) (hS : Sizes w) (hR : RconAt w) (hB : BL w q n f) (hnc : n ≤ cap) (hcm : cap ≤ 9223372036854775807) :
    Calls Tryz.prog 8 #[pickV ((1 + 17 * i0 + 14 : Nat) : Int) q n cap] w fun e w' => ∃ cb rb, e = .returned (.tuple #[.pointer (some ⟨cb, 0, none⟩), .pointer (some ⟨rb, 0, none⟩), .bool true]) ∧ CiphLrw (keyF n f) (4 + 2 * i0) cb w' ∧ Below w.heap.size w w' := by
  have hz : IntKind.i64.has ((1 + 17 * i0 + 14 : Nat) : Int) := by
    rcases (show i0 = 0 ∨ i0 = 1 ∨ i0 = 2 by omega) with rfl | rfl | rfl <;> exact ⟨by decide, by decide⟩
  have KL := Lib.hid (keyF_lt (n := n) hf)
  have EP := pk_lrw i0 hi
  have KY := Lib.hid (fun w' (b : Below w.heap.size w w') => key_any _ hz q n cap f w' (hM.below b) (hB.below b) hnc hcm (by rw [EP, szN_lrw i0 hi]; omega))
  have RW := Lib.hid (fun w' (b : Below w.heap.size w w') => row_any _ hz q n cap w' (hM.below b))
  have NW := Lib.hid (fun g cap w' (hc : KeyB w' g 0 (4 * (4 + 2 * i0) + 16) (keyF n f)) h1 h2 (b : Below w.heap.size w w') => newLrw_any (keyF n f) i0 hi (fun j _ => KL.out j) g 0 cap w' hc h1 h2 (hR.below b) (hS.below b))
  have RN := Lib.hid (fun g cap w' (hc : BL w' (some ⟨g, 0, none⟩) (4 * (4 + 2 * i0) + 16) (keyF n f)) h1 h2 (b : Below w.heap.size w w') => Ref3.newLrw_any i0 hi g 0 cap (keyF n f) KL.out w' hc h1 h2 (hM.below b))
  rw [EP, szN_lrw i0 hi] at KY
  have RA : rowL (1 + 17 * i0 + 14) = [.string (pre i0 ++ nm 14), .string ⟨#[108, 114, 119]⟩, .string ⟨#[98, 101, 110, 98, 105]⟩, .int .i64 (16 + 8 * (i0 : Int)), .int .i64 (szT i0 14)] := by
    rw [rowL_at i0 14 (by decide)]
    rfl
  rw [EP, RA] at RW
  have EN : name (1 + 17 * i0 + 14) = pre i0 ++ nm 14 := name_at i0 14 (by decide)
  rw [EN] at RN
  have P0 := Lib.hid (pkv_new ((1 + 17 * i0 + 14 : Nat) : Int) q n cap w)
  have hm : 20 ≤ 4 * (4 + 2 * i0) + 16 ∧ 4 * (4 + 2 * i0) + 16 ≤ 48 := by omega
  clear hM hS hR hB EP RA EN hf hz hi
  unfold pickV at *
  generalize pre i0 ++ nm 14 = spec at *
  generalize 4 + 2 * i0 = nk at *
  generalize hmm : 4 * nk + 16 = m at *
  clear hmm
  generalize szT i0 14 = zz at *
  generalize ((1 + 17 * i0 + 14 : Nat) : Int) = z at *
  generalize keyF n f = F at *
  go_enter Tryz.func8, Tryz.ntmps8
  go_upto_region 1 with fail
  generalize (w.alloc (.cells #[.int .i64 z, .slice q n cap] 24)) = w1 at *
  refine wp_region_lit ?_
  refine Tree.p_loadrow rfl _ _ rfl (w.heap.size) rfl (P0.out.p) Tryz.underlying24 rfl (by kernel_rfl) ?_
  simp only [Act.put, List.setIfInBounds_toArray, List.set_cons_zero, List.set_cons_succ]
  refine Step.p_wp rfl (Step.w_callx 15 [.tmp 11] _ rfl Tryz.func15 (by kernel_rfl) rfl [.agg #[.int .i64 z, .slice q n cap]] rfl (KY.out w1 P0.out.bel) ?_)
  rintro e w2 ⟨v, rfl, ho, hb⟩
  refine ⟨_, rfl, ?_⟩
  simp only [Act.put, List.setIfInBounds_toArray, List.set_cons_zero, List.set_cons_succ]
  obtain ⟨k1, c1, rfl, e1, e2, e3, e4⟩ := ho
  have P1 := Lib.hid (P0.out.next hb)
  clear hb P0
  have BY := Lib.hid (bytes_any (some ⟨k1, 0, none⟩) m c1 F w2 (by omega) e2 (fun e => by cases e) (fun i hi => ⟨k1, 0, rfl, by rw [Nat.zero_add]; exact e4 i hi⟩))
  clear e4
  refine Step.p_wp rfl (Step.w_callx 10 [.tmp 12] _ rfl Tryz.func10 (by kernel_rfl) rfl [.slice (some ⟨k1, 0, none⟩) m c1] rfl (BY.out) ?_)
  rintro e w3 ⟨g, c, rfl, hg, hgc, hcm2, hrow, hb, cur, hcur⟩
  refine ⟨_, rfl, ?_⟩
  simp only [Act.put, List.setIfInBounds_toArray, List.set_cons_zero, List.set_cons_succ]
  have P2 := Lib.hid (P1.out.next hb)
  have HG : w.heap.size ≤ g := Nat.le_trans P1.out.bel.size hg
  have ROW3 := Lib.hid hrow
  have CUR3 : Hid (∃ cur, w3.heap[g]? = some (.cells cur 5 (0, 0))) := Lib.hid ⟨cur, hcur⟩
  clear hb hrow hcur P1 BY
  have hcm3 : c ≤ 9223372036854775807 := hcm2
  refine Step.p_assign rfl _ rfl (.slice (some ⟨g, 0, none⟩) m c) rfl ?_
  simp only [Act.put, List.setIfInBounds_toArray, List.set_cons_zero, List.set_cons_succ]
  refine wpList_nil ?_
  go_upto_region 2 with fail
  refine wp_region_lit ?_
  refine Tree.p_loadrow rfl _ _ rfl (w.heap.size) rfl (P2.out.p) Tryz.underlying24 rfl (by kernel_rfl) ?_
  simp only [Act.put, List.setIfInBounds_toArray, List.set_cons_zero, List.set_cons_succ]
  refine Step.p_wp rfl (Step.w_callx 17 [.tmp 15] _ rfl Tryz.func17 (by kernel_rfl) rfl [.agg #[.int .i64 z, .slice q n cap]] rfl (RW.out w3 P2.out.bel) ?_)
  rintro e w4 ⟨rfl, hb⟩
  refine ⟨_, rfl, ?_⟩
  simp only [Act.put, List.setIfInBounds_toArray, List.set_cons_zero, List.set_cons_succ]
  have P3 := Lib.hid (P2.out.next hb)
  have B34 := Lib.hid hb
  clear hb P2
  refine Step.p_val rfl (.string spec) (by unfold execOp; go_simp; try rfl) ?_
  simp only [Act.put, List.setIfInBounds_toArray, List.set_cons_zero, List.set_cons_succ]
  refine Step.p_move rfl _ rfl (.slice (some ⟨g, 0, none⟩) m c) rfl ?_
  simp only [Act.put, List.setIfInBounds_toArray, List.set_cons_zero, List.set_cons_succ]
  have K4 : Hid (KeyB w4 g 0 m F) := Lib.hid (fun j hj => by rw [Nat.zero_add, (B34.out.cell (Frame.block_lt ((ROW3.out j (by omega)).trans (row_get _ _ _ _ hj)))), ROW3.out j (by omega)]; exact row_get _ _ _ _ hj)
  refine Step.p_wp rfl (Step.w_callx 16 [.tmp 17, .tmp 18] _ rfl Tryz.func16 (by kernel_rfl) rfl [.string spec, .slice (some ⟨g, 0, none⟩) m c] rfl (NW.out g c w4 K4.out (by omega) hcm3 P3.out.bel) ?_)
  rintro e w5 ⟨cb, rfl, hci, hb⟩
  refine ⟨_, rfl, ?_⟩
  simp only [Act.put, List.setIfInBounds_toArray, List.set_cons_zero, List.set_cons_succ]
  have P4 := Lib.hid (P3.out.next hb)
  have CI := Lib.hid hci
  have B35 := Lib.hid (B34.out.trans (hb.mono B34.out.size))
  clear hb hci K4 P3 B34
  refine Step.p_move rfl _ rfl (.tuple #[.pointer (some ⟨cb, 0, none⟩), .int .i64 0]) rfl ?_
  simp only [Act.put, List.setIfInBounds_toArray, List.set_cons_zero, List.set_cons_succ]
  refine Step.p_val rfl (.pointer (some ⟨cb, 0, none⟩)) (by unfold execOp; go_simp; try rfl) ?_
  simp only [Act.put, List.setIfInBounds_toArray, List.set_cons_zero, List.set_cons_succ]
  refine Step.p_val rfl (.int .i64 0) (by unfold execOp; go_simp; try rfl) ?_
  simp only [Act.put, List.setIfInBounds_toArray, List.set_cons_zero, List.set_cons_succ]
  refine Step.p_assign rfl _ rfl (.pointer (some ⟨cb, 0, none⟩)) rfl ?_
  simp only [Act.put, List.setIfInBounds_toArray, List.set_cons_zero, List.set_cons_succ]
  refine Step.p_assign rfl _ rfl (.int .i64 0) rfl ?_
  simp only [Act.put, List.setIfInBounds_toArray, List.set_cons_zero, List.set_cons_succ]
  refine wpList_nil ?_
  go_upto_region 3 with fail
  go_cut [8, 9] from 22 to 30 (fun r e wx => ∃ rb, r = .pointer (some ⟨rb, 0, none⟩) ∧ e = .int .i64 0 ∧ Below w5.heap.size w5 wx)
  case first =>
    refine Step.begin_ (S := fun w' => Below w5.heap.size w5 w') 11 rfl (by kernel_rfl) (Below.refl _ _).drew ?_
    intro hS
    have SX := Lib.hid hS
    clear hS
    have PC : Hid (∀ w', Below w5.heap.size w5 w' → w'.heap[w.heap.size]? = some (.cells #[.int .i64 z, .slice q n cap] 24 (0, 0))) := Lib.hid (fun w' hb => (P4.out.next hb).p)
    have PB : Hid (∀ w', Below w5.heap.size w5 w' → Below w.heap.size w w') := Lib.hid (fun w' hb => (P4.out.next hb).bel)
    refine t_loadrow (i := 0) rfl rfl (by kernel_rfl) (by kernel_rfl) (by kernel_rfl) SX.out _ _ rfl w.heap.size rfl PC.out Tryz.underlying24 rfl (by kernel_rfl) ?_
    simp only [Act.put, List.setIfInBounds_toArray, List.set_cons_zero, List.set_cons_succ]
    refine t_loadrow (i := 3) rfl rfl (by kernel_rfl) (by kernel_rfl) (by kernel_rfl) SX.out _ _ rfl w.heap.size rfl PC.out Tryz.underlying24 rfl (by kernel_rfl) ?_
    simp only [Act.put, List.setIfInBounds_toArray, List.set_cons_zero, List.set_cons_succ]
    refine Step.t_one (i := 1) rfl rfl (by kernel_rfl) ?_
    refine Step.w_callx 17 [.tmp 23] _ rfl Tryz.func17 (by kernel_rfl) rfl [.agg #[.int .i64 z, .slice q n cap]] rfl (RW.out _ (PB.out _ SX.out)) ?_
    rintro e wa ⟨rfl, hb⟩
    refine ⟨_, rfl, ?_⟩
    have SA := Lib.hid (SX.out.trans (hb.mono SX.out.size))
    refine ⟨SA.out, ?_⟩
    simp only [Act.put, List.setIfInBounds_toArray, List.set_cons_zero, List.set_cons_succ]
    clear hb
    refine Step.t_val (i := 2) rfl rfl (by kernel_rfl) (by kernel_rfl) (by kernel_rfl) SA.out (.string spec) (fun w' _ => by unfold execOp; go_simp; try rfl) ?_
    simp only [Act.put, List.setIfInBounds_toArray, List.set_cons_zero, List.set_cons_succ]
    refine Step.t_one (i := 4) rfl rfl (by kernel_rfl) ?_
    refine Step.w_callx 15 [.tmp 26] _ rfl Tryz.func15 (by kernel_rfl) rfl [.agg #[.int .i64 z, .slice q n cap]] rfl (KY.out _ (PB.out _ SA.out)) ?_
    rintro e wb ⟨v2, rfl, ho2, hb⟩
    refine ⟨_, rfl, ?_⟩
    have SB := Lib.hid (SA.out.trans (hb.mono SA.out.size))
    refine ⟨SB.out, ?_⟩
    simp only [Act.put, List.setIfInBounds_toArray, List.set_cons_zero, List.set_cons_succ]
    obtain ⟨k2, c2, rfl, x1, x2, x3, x4⟩ := ho2
    have X4 : Hid (BL wb (some ⟨k2, 0, none⟩) m F) := Lib.hid (fun i hi => ⟨k2, 0, rfl, by rw [Nat.zero_add]; exact x4 i hi⟩)
    clear x4 x1
    have XB := X4.out
    clear X4
    refine Step.t_one (i := 5) rfl rfl (by kernel_rfl) ?_
    refine Step.w_callx 18 [.tmp 25, .tmp 27] _ rfl Tryz.func18 (by kernel_rfl) rfl [.string spec, .slice (some ⟨k2, 0, none⟩) m c2] rfl (RN.out k2 c2 wb XB x2 x3 (PB.out _ SB.out)) ?_
    rintro e wz ⟨rb, rfl, hb⟩
    refine ⟨_, rfl, ?_⟩
    have SZ := Lib.hid (SB.out.trans (hb.mono SB.out.size))
    refine ⟨SZ.out, ?_⟩
    simp only [Act.put, List.setIfInBounds_toArray, List.set_cons_zero, List.set_cons_succ]
    clear hb
    refine Step.t_val (i := 6) rfl rfl (by kernel_rfl) (by kernel_rfl) (by kernel_rfl) SZ.out (.tuple #[.pointer (some ⟨rb, 0, none⟩), .int .i64 0]) (fun w' _ => by unfold execOp; go_simp; try rfl) ?_
    simp only [Act.put, List.setIfInBounds_toArray, List.set_cons_zero, List.set_cons_succ]
    refine Step.t_val (i := 7) rfl rfl (by kernel_rfl) (by kernel_rfl) (by kernel_rfl) SZ.out (.pointer (some ⟨rb, 0, none⟩)) (fun w' _ => by unfold execOp; go_simp; try rfl) ?_
    simp only [Act.put, List.setIfInBounds_toArray, List.set_cons_zero, List.set_cons_succ]
    refine Step.t_val (i := 8) rfl rfl (by kernel_rfl) (by kernel_rfl) (by kernel_rfl) SZ.out (.int .i64 0) (fun w' _ => by unfold execOp; go_simp; try rfl) ?_
    simp only [Act.put, List.setIfInBounds_toArray, List.set_cons_zero, List.set_cons_succ]
    refine Step.t_val (i := 9) rfl rfl (by kernel_rfl) (by kernel_rfl) (by kernel_rfl) SZ.out (.pointer (some ⟨rb, 0, none⟩)) (fun w' _ => by unfold execOp; go_simp; try rfl) ?_
    simp only [Act.put, List.setIfInBounds_toArray, List.set_cons_zero, List.set_cons_succ]
    refine Step.t_val (i := 10) rfl rfl (by kernel_rfl) (by kernel_rfl) (by kernel_rfl) SZ.out (.int .i64 0) (fun w' _ => by unfold execOp; go_simp; try rfl) ?_
    simp only [Act.put, List.setIfInBounds_toArray, List.set_cons_zero, List.set_cons_succ]
    refine Step.t_end (by kernel_rfl) ?_
    go_wp2
    go_meet
    case rel => exact ⟨rb, rfl, rfl, SZ.out⟩
  obtain ⟨rb, rfl, rfl, hb⟩ := hcut
  have P5 := Lib.hid (P4.out.next hb)
  have C5 := Lib.hid (CI.out.below hb)
  have B36 := Lib.hid (B35.out.trans (hb.mono B35.out.size))
  clear hb P4 CI B35 RW NW RN
  go_upto_region 4 with fail
  refine wp_region_lit ?_
  refine Step.p_move rfl _ rfl (.slice (some ⟨g, 0, none⟩) m c) rfl ?_
  simp only [Act.put, List.setIfInBounds_toArray, List.set_cons_zero, List.set_cons_succ]
  refine Tree.p_loadrow rfl _ _ rfl (w.heap.size) rfl (P5.out.p) Tryz.underlying24 rfl (by kernel_rfl) ?_
  simp only [Act.put, List.setIfInBounds_toArray, List.set_cons_zero, List.set_cons_succ]
  refine Step.p_wp rfl (Step.w_callx 15 [.tmp 32] _ rfl Tryz.func15 (by kernel_rfl) rfl [.agg #[.int .i64 z, .slice q n cap]] rfl (KY.out wc P5.out.bel) ?_)
  rintro e w6 ⟨v2, rfl, ho2, hb⟩
  refine ⟨_, rfl, ?_⟩
  simp only [Act.put, List.setIfInBounds_toArray, List.set_cons_zero, List.set_cons_succ]
  obtain ⟨k2, c2, rfl, x1, x2, x3, x4⟩ := ho2
  have P6 := Lib.hid (P5.out.next hb)
  have C6 := Lib.hid (C5.out.below hb)
  have B37 := Lib.hid (B36.out.trans (hb.mono B36.out.size))
  clear hb P5 C5 B36 KY
  have WB := Lib.hid (wholeBytes_any g c (some ⟨k2, 0, none⟩) m c2 F w6 (by omega) hgc hcm2 (fun j hj => by
    obtain ⟨u, hu⟩ : ∃ u, (row m F 70)[j]? = some u := ⟨_, List.getElem?_eq_getElem (by simp [row]; omega)⟩
    rw [B37.out.cell (Frame.block_lt ((ROW3.out j hj).trans hu))]
    exact ROW3.out j hj) (fun i hi => ⟨k2, 0, rfl, by rw [Nat.zero_add]; exact x4 i hi⟩))
  clear x4 x1
  refine Step.p_wp rfl (Step.w_callx 19 [.tmp 31, .tmp 33] _ rfl Tryz.func19 (by kernel_rfl) rfl [.slice (some ⟨g, 0, none⟩) m c, .slice (some ⟨k2, 0, none⟩) m c2] rfl (WB.out) ?_)
  rintro e w7 ⟨rfl, hb⟩
  refine ⟨_, rfl, ?_⟩
  simp only [Act.put, List.setIfInBounds_toArray, List.set_cons_zero, List.set_cons_succ]
  refine Step.p_val rfl (.bool false) (by unfold execOp; go_simp; try rfl) ?_
  simp only [Act.put, List.setIfInBounds_toArray, List.set_cons_zero, List.set_cons_succ]
  refine wpList_nil ?_
  have M7 : Hid (MS F nk cb g m w w7) := Lib.hid (by
    obtain ⟨cur, hcur⟩ := CUR3.out
    have B38 := B37.out.trans (hb.mono B37.out.size)
    refine ⟨⟨cur, (B38.block g (Array.getElem?_eq_some_iff.1 hcur).1).trans hcur, fun j hj => ⟨F j, KL.out j, ?_⟩⟩, C6.out.below hb, (P6.out.next hb).bel⟩
    have h := ROW3.out j (by omega)
    rw [cell_of_row w3 g j _ _ _ hcur, row_get _ _ _ _ hj] at h
    exact h)
  clear hb P6 C6 B37 ROW3 CUR3 WB
  go_wp2
  go_loopw [10] (fun i wr => ∃ k : Nat, k ≤ m ∧ i = .int .i64 k ∧ MS F nk cb g m w wr) (fun i _ => m - (Lib.intOf i).toNat)
  case atStart => exact ⟨0, by omega, rfl, M7.out⟩
  case round =>
    obtain ⟨k, hk, rfl, hms⟩ := hrel
    have MR := Lib.hid hms
    clear hms M7
    by_cases hlt : k < m
    · obtain ⟨cur, hcur, hcz⟩ := MR.out.cur
      obtain ⟨x, hx, hxc⟩ := hcz k hlt
      have HCU := Lib.hid hcur
      have hkl : k < cur.size := (Array.getElem?_eq_some_iff.1 hxc).1
      have HX : Hid (wr.cell? ⟨g, k, none⟩ = some (.int .u8 (x : Nat))) := Lib.hid (by rw [cell_of_row wr g k _ _ _ hcur]; exact hxc)
      clear hcur hcz hxc
      go_upto_region 9 with fail
      refine wp_region_lit ?_
      refine Step.p_move rfl _ rfl (.slice (some ⟨g, 0, none⟩) m c) rfl ?_
      simp only [Act.put, List.setIfInBounds_toArray, List.set_cons_zero, List.set_cons_succ]
      refine Step.p_move rfl _ rfl (.int .i64 k) rfl ?_
      simp only [Act.put, List.setIfInBounds_toArray, List.set_cons_zero, List.set_cons_succ]
      refine Step.p_move rfl _ rfl (.slice (some ⟨g, 0, none⟩) m c) rfl ?_
      simp only [Act.put, List.setIfInBounds_toArray, List.set_cons_zero, List.set_cons_succ]
      refine Step.p_move rfl _ rfl (.int .i64 k) rfl ?_
      simp only [Act.put, List.setIfInBounds_toArray, List.set_cons_zero, List.set_cons_succ]
      refine Step.p_index rfl _ 5 _ _ rfl g 0 m c rfl k rfl hlt 1 Tryz.underlying22 (by kernel_rfl) ?_
      simp only [Act.put, List.setIfInBounds_toArray, List.set_cons_zero, List.set_cons_succ]
      refine Tree.p_load1 rfl _ _ rfl (g) (0 + k * 1) rfl (.int .u8 (x : Nat)) (by rw [Nat.zero_add, Nat.mul_one]; exact HX.out) Tryz.underlying5 rfl ?_
      simp only [Act.put, List.setIfInBounds_toArray, List.set_cons_zero, List.set_cons_succ]
      refine Step.p_val rfl (.int .u8 (255 ^^^ x : Nat)) (by unfold execOp; go_simp; first | exact xor_u8 255 _ (by decide) hx | trace_state) ?_
      simp only [Act.put, List.setIfInBounds_toArray, List.set_cons_zero, List.set_cons_succ]
      refine Step.p_index rfl _ 5 _ _ rfl g 0 m c rfl k rfl hlt 1 Tryz.underlying22 (by kernel_rfl) ?_
      simp only [Act.put, List.setIfInBounds_toArray, List.set_cons_zero, List.set_cons_succ]
      refine Step.p_storeV rfl 5 _ _ rfl g (0 + k * 1) rfl (.int .u8 (255 ^^^ x : Nat)) rfl (fun _ e => by cases e) rfl (by kernel_rfl) HCU.out (by omega) ?_
      intro w8 hr hg2 _
      simp only [Act.put]
      refine wpList_nil ?_
      have M8 := Lib.hid (MR.out.put (by omega) HCU.out (Nat.xor_lt_two_pow (n := 8) (by decide) hx) hr hg2 HG)
      clear hr hg2 HCU HX MR
      go_wp2
      exact ⟨⟨k + 1, by omega, by go_num, M8.out⟩, by simp [Lib.intOf]; omega⟩
    · obtain rfl : k = m := by omega
      go_upto_region 10 with fail
      refine wp_region_lit ?_
      refine Step.p_move rfl _ rfl (.pointer (some ⟨cb, 0, none⟩)) rfl ?_
      simp only [Act.put, List.setIfInBounds_toArray, List.set_cons_zero, List.set_cons_succ]
      refine Step.p_move rfl _ rfl (.pointer (some ⟨rb, 0, none⟩)) rfl ?_
      simp only [Act.put, List.setIfInBounds_toArray, List.set_cons_zero, List.set_cons_succ]
      refine Step.p_move rfl _ rfl (.int .i64 0) rfl ?_
      simp only [Act.put, List.setIfInBounds_toArray, List.set_cons_zero, List.set_cons_succ]
      refine Step.p_wp rfl (Step.w_callx 12 [.tmp 52] _ rfl Tryz.func12 (by kernel_rfl) rfl [.int .i64 0] rfl (num_any 0 _) ?_)
      rintro e w9 ⟨rfl, hw⟩
      refine ⟨_, rfl, ?_⟩
      simp only [Act.put, List.setIfInBounds_toArray, List.set_cons_zero, List.set_cons_succ]
      subst hw
      refine Step.p_val rfl (.bool true) (by unfold execOp; go_simp; try rfl) ?_
      simp only [Act.put, List.setIfInBounds_toArray, List.set_cons_zero, List.set_cons_succ]
      refine Step.p_move rfl _ rfl (.bool true) rfl ?_
      simp only [Act.put, List.setIfInBounds_toArray, List.set_cons_zero, List.set_cons_succ]
      refine Step.p_move rfl _ rfl (.pointer (some ⟨cb, 0, none⟩)) rfl ?_
      simp only [Act.put, List.setIfInBounds_toArray, List.set_cons_zero, List.set_cons_succ]
      refine Step.p_val rfl (.bool true) (by unfold execOp; go_simp; try rfl) ?_
      simp only [Act.put, List.setIfInBounds_toArray, List.set_cons_zero, List.set_cons_succ]
      refine Step.p_pick rfl _ _ _ rfl true rfl (.bool true) rfl ?_
      simp only [Act.put, List.setIfInBounds_toArray, List.set_cons_zero, List.set_cons_succ]
      refine Step.p_assign rfl _ rfl (.pointer (some ⟨cb, 0, none⟩)) rfl ?_
      simp only [Act.put, List.setIfInBounds_toArray, List.set_cons_zero, List.set_cons_succ]
      refine Step.p_assign rfl _ rfl (.pointer (some ⟨rb, 0, none⟩)) rfl ?_
      simp only [Act.put, List.setIfInBounds_toArray, List.set_cons_zero, List.set_cons_succ]
      refine Step.p_assign rfl _ rfl (.bool true) rfl ?_
      simp only [Act.put, List.setIfInBounds_toArray, List.set_cons_zero, List.set_cons_succ]
      refine wpList_nil ?_
      go_wp2
      go_ret3
      exact ⟨cb, rb, rfl, MR.out.ci, MR.out.bel⟩
end Go.Proofs.YtcgjhjijfhgclaaGreatDoor.Tw

namespace Go.Proofs.YtcgjhjijfhgclaaGreatDoor.TRows
open Go.RowKit Go.Lib Go.Proofs.YtcgjhjijfhgclaaGreatDoor.Blk Go.Proofs.YtcgjhjijfhgclaaGreatDoor.Aes Go.Proofs.YtcgjhjijfhgclaaGreatDoor.Tab Go.Proofs.YtcgjhjijfhgclaaGreatDoor.Byts Go.Proofs.YtcgjhjijfhgclaaGreatDoor.Push Go.Proofs.YtcgjhjijfhgclaaGreatDoor.Poly Go.Proofs.YtcgjhjijfhgclaaGreatDoor.Field Go.Proofs.YtcgjhjijfhgclaaGreatDoor.Tw

/-- a sector's block alone, with its own number -/
theorem seal_row (key : Nat → Nat) (nk s n : Nat) (f : Nat → Nat) (j i : Nat) (hj : j < n / 16) (hi : i < 16) : sealF key nk s n f (16 * j + i) = sealF key nk (s * (n / 16) + j) 16 (fun i => f (16 * j + i)) i := by
  unfold sealF lrwF
  have e1 : (16 * j + i) / 16 = j := by omega
  have e2 : (16 * j + i) % 16 = i := by omega
  have e3 : i / 16 = 0 := by omega
  have e4 : i % 16 = i := by omega
  rw [e1, e2, e3, e4, if_pos hj, if_pos (by decide)]
  refine congrArg (fun x => byt x i) ?_
  unfold lrwB
  have ea : aN (s * (n / 16) + j) 16 0 = aN s n j := by
    unfold aN
    rw [show 16 / 16 = 1 from rfl, Nat.mul_one]
    refine congrArg (· % 2 ^ 128) ?_
    omega
  have eb : blkN (fun i => f (16 * j + i)) 0 = blkN f j := by
    unfold blkN
    refine congrArg (fun g => lowN g 16) (funext fun i => ?_)
    dsimp only
    rw [Nat.mul_zero, Nat.zero_add]
  rw [ea, eb]
theorem fitF_lt {n : Nat} {f : Nat → Nat} (hf : ∀ j, f j < 256) (j : Nat) : fitF n f j < 256 := by
  unfold fitF
  split
  · exact Nat.mod_lt _ (by decide)
  · exact hf _
theorem fitN_16 (z : Int) : fitN z true % 16 = 0 := by
  unfold fitN
  rw [if_pos rfl]
  omega
theorem sealF_lt {key : Nat → Nat} {nk s n : Nat} {f : Nat → Nat} (hf : ∀ i, f i < 256) (i : Nat) : sealF key nk s n f i < 256 := lrwF_lt hf _ _
theorem sec_bl {w : World} {g n off k : Nat} {f : Nat → Nat} (h : Sec w g n f) (hk : off + k ≤ n) : BL w (some ⟨g, off, none⟩) k (fun i => f (off + i)) := fun i hi => ⟨g, off, rfl, h.cell (by omega)⟩

set_option maxRecDepth 100000 in
set_option maxHeartbeats 4000000 in
theorem law_any (z nz jz : Int) (hz : IntKind.i64.has z) (hnz : IntKind.i64.has nz) (s : Nat) (q : Option Addr) (n cap : Nat) (fk : Nat → Nat) (hfk : ∀ j, fk j < 256) (bq : Option Addr) (bn bcap : Nat) (fb : Nat → Nat) (hfb : ∀ j, fb j < 256) (w : World) (hM : Modes w) (hS : Sizes w) (hR : RconAt w)
    (hB : BL w q n fk) (hnc : n ≤ cap) (hcm : cap ≤ 9223372036854775807) (hB2 : BL w bq bn fb) (hnc2 : bn ≤ bcap) (hcm2 : bcap ≤ 9223372036854775807) :
    Calls Tryz.prog 5 #[pickV z q n cap, .int .u64 s, .slice bq bn bcap, .int .i64 nz, .int .i64 jz] w fun e w' => e = .returned (.bool true) ∧ Below w.heap.size w w' := by
  have hi0 : nnP z % 3 < 3 := Nat.mod_lt _ (by decide)
  obtain ⟨i0, hie⟩ : ∃ i0, nnP z % 3 = i0 := ⟨_, rfl⟩
  rw [hie] at hi0
  have OF := Lib.hid (fun g w' hc => of_any (fun _ => 15) 1 (by decide) (by decide) (fun _ _ => by decide) z hz q n cap g 1 w' hc)
  have EO : ofN (fun _ => 15) 1 z = 1 + 17 * i0 + 14 := by
    unfold ofN
    rw [Nat.div_one, hie]
    show 15 + 17 * i0 = 1 + 17 * i0 + 14
    omega
  rw [EO] at OF
  have KL := keyF_lt (n := n) hfk
  have MD := Lib.hid (fun w' (b : Below w.heap.size w w') => madeLrw_any i0 hi0 q n cap fk hfk w' (hM.below b) (hS.below b) (hR.below b) (hB.below b) hnc hcm)
  have FT := Lib.hid (fun w' (b : Below w.heap.size w w') => fit_any bq bn bcap fb nz hnz true w' (hB2.below b) hnc2 hcm2)
  have FL := Lib.hid (fitF_lt (n := bn) hfb)
  have P0 := Lib.hid (pkv_new z q n cap w)
  obtain ⟨F1, F2⟩ := fitN_bd nz true
  have F3 := fitN_16 nz
  have SE := Lib.hid (fun cb s hs b off m cap hn16 hn0 hn f hf w hC hB => sealLrw_any (keyF n fk) (4 + 2 * i0) cb (fun _ _ => KL _) s hs b off m cap hn16 hn0 hn f hf w hC hB)
  clear hM hS hR hB hB2 EO hfk hfb KL hz hnz hie hi0
  unfold pickV at *
  generalize (1 + 17 * i0 + 14 : Nat) = t at *
  generalize 4 + 2 * i0 = nk at *
  generalize fitN nz true = N at *
  generalize fitF bn fb = fB at *
  generalize keyF n fk = key at *
  go_enter Tryz.func5, Tryz.ntmps5
  go_upto_region 1 with fail
  generalize (w.alloc (.cells #[.int .i64 z, .slice q n cap] 24)) = w1 at *
  refine wp_region_lit ?_
  refine Tree.p_loadrow rfl _ _ rfl (w.heap.size) rfl (P0.out.p) Tryz.underlying24 rfl (by kernel_rfl) ?_
  simp only [Act.put, List.setIfInBounds_toArray, List.set_cons_zero, List.set_cons_succ]
  refine Step.p_wp rfl (w_lit1 _ _ _ rfl .i64 15 rfl Tryz.underlying29 (by kernel_rfl) (by kernel_rfl) ?_)
  skip
  simp only [Act.put, List.setIfInBounds_toArray, List.set_cons_zero, List.set_cons_succ]
  have P1 := Lib.hid (P0.out.alloc (.cells #[.int .i64 15] 3))
  have hc15 : ∀ j, j < 1 → (w1.alloc (.cells #[.int .i64 15] 3)).cell? ⟨w1.heap.size, j, none⟩ = some (.int .i64 ((15 : Nat) : Int)) := fun j hj => by
    have hj0 : j = 0 := by omega
    subst hj0
    rw [cell_of_row _ _ _ _ _ _ (heap_alloc_new w1 _)]
    rfl
  have H1 := Lib.hid (OF.out w1.heap.size (w1.alloc (.cells #[.int .i64 15] 3)) hc15)
  clear hc15
  generalize w1.alloc (.cells #[.int .i64 15] 3) = w2 at *
  clear P0 OF
  refine Step.p_wp rfl (Step.w_callx 7 [.tmp 20, .tmp 21] _ rfl Tryz.func7 (by kernel_rfl) rfl [.agg #[.int .i64 z, .slice q n cap], .slice (some ⟨w1.heap.size, 0, none⟩) 1 1] rfl (H1.out) ?_)
  rintro e w3 ⟨rfl, hb⟩
  refine ⟨_, rfl, ?_⟩
  simp only [Act.put, List.setIfInBounds_toArray, List.set_cons_zero, List.set_cons_succ]
  have P2 := Lib.hid (P1.out.next hb)
  clear hb P1 H1
  refine Cell.p_storerow rfl 24 _ _ rfl w.heap.size rfl #[.int .i64 (t : Nat), .slice q n cap] rfl (by kernel_rfl) (by simp [Value.oneCell']) P2.out.p rfl ?_
  intro w4 hr4 hg4 _
  simp only [Act.put]
  refine wpList_nil ?_
  have P3 : Hid (PkV (t : Nat) q n cap w.heap.size w w4) := Lib.hid ⟨hr4, P2.out.bel.grown hg4 P2.out.bel.size (fun j hj => by cases hj; exact Nat.le_refl _)⟩
  clear hr4 hg4 P2
  go_upto_region 2 with fail
  refine wp_region_lit ?_
  refine Tree.p_loadrow rfl _ _ rfl (w.heap.size) rfl (P3.out.p) Tryz.underlying24 rfl (by kernel_rfl) ?_
  simp only [Act.put, List.setIfInBounds_toArray, List.set_cons_zero, List.set_cons_succ]
  refine Step.p_wp rfl (Step.w_callx 8 [.tmp 24] _ rfl Tryz.func8 (by kernel_rfl) rfl [.agg #[.int .i64 (t : Nat), .slice q n cap]] rfl (MD.out w4 P3.out.bel) ?_)
  rintro e w5 ⟨cb, rb, rfl, hci, hb⟩
  refine ⟨_, rfl, ?_⟩
  simp only [Act.put, List.setIfInBounds_toArray, List.set_cons_zero, List.set_cons_succ]
  have B5 := Lib.hid (P3.out.bel.trans (hb.mono P3.out.bel.size))
  have C5 := Lib.hid hci
  clear hb hci P3 MD
  refine Step.p_move rfl _ rfl (.tuple #[.pointer (some ⟨cb, 0, none⟩), .pointer (some ⟨rb, 0, none⟩), .bool true]) rfl ?_
  simp only [Act.put, List.setIfInBounds_toArray, List.set_cons_zero, List.set_cons_succ]
  refine Step.p_val rfl (.pointer (some ⟨cb, 0, none⟩)) (by unfold execOp; go_simp; try rfl) ?_
  simp only [Act.put, List.setIfInBounds_toArray, List.set_cons_zero, List.set_cons_succ]
  refine Step.p_val rfl (.pointer (some ⟨rb, 0, none⟩)) (by unfold execOp; go_simp; try rfl) ?_
  simp only [Act.put, List.setIfInBounds_toArray, List.set_cons_zero, List.set_cons_succ]
  refine Step.p_val rfl (.bool true) (by unfold execOp; go_simp; try rfl) ?_
  simp only [Act.put, List.setIfInBounds_toArray, List.set_cons_zero, List.set_cons_succ]
  refine Step.p_assign rfl _ rfl (.pointer (some ⟨cb, 0, none⟩)) rfl ?_
  simp only [Act.put, List.setIfInBounds_toArray, List.set_cons_zero, List.set_cons_succ]
  refine Step.p_assign rfl _ rfl (.pointer (some ⟨rb, 0, none⟩)) rfl ?_
  simp only [Act.put, List.setIfInBounds_toArray, List.set_cons_zero, List.set_cons_succ]
  refine Step.p_assign rfl _ rfl (.bool true) rfl ?_
  simp only [Act.put, List.setIfInBounds_toArray, List.set_cons_zero, List.set_cons_succ]
  refine wpList_nil ?_
  go_upto_region 5 with fail
  refine wp_region_lit ?_
  refine Step.p_move rfl _ rfl (.slice bq bn bcap) rfl ?_
  simp only [Act.put, List.setIfInBounds_toArray, List.set_cons_zero, List.set_cons_succ]
  refine Step.p_move rfl _ rfl (.int .i64 nz) rfl ?_
  simp only [Act.put, List.setIfInBounds_toArray, List.set_cons_zero, List.set_cons_succ]
  refine Step.p_wp rfl (Step.w_callx 9 [.tmp 31, .tmp 32, .const (.bool true)] _ rfl Tryz.func9 (by kernel_rfl) rfl [.slice bq bn bcap, .int .i64 nz, .bool true] rfl (FT.out w5 B5.out) ?_)
  rintro e w6 ⟨v, rfl, ho, hb⟩
  refine ⟨_, rfl, ?_⟩
  simp only [Act.put, List.setIfInBounds_toArray, List.set_cons_zero, List.set_cons_succ]
  obtain ⟨gb, c, rfl, x1, x2, x3, x4⟩ := ho
  have BB : Hid (BL w6 (some ⟨gb, 0, none⟩) N fB) := Lib.hid (fun i hi => ⟨gb, 0, rfl, by rw [Nat.zero_add]; exact x4 i hi⟩)
  have B6 := Lib.hid (B5.out.trans (hb.mono B5.out.size))
  have C6 := Lib.hid (C5.out.below hb)
  clear hb x4 x1 B5 C5 FT
  refine Step.p_assign rfl _ rfl (.slice (some ⟨gb, 0, none⟩) N c) rfl ?_
  simp only [Act.put, List.setIfInBounds_toArray, List.set_cons_zero, List.set_cons_succ]
  refine wpList_nil ?_
  obtain ⟨m, hm⟩ : ∃ m, N / 16 = m := ⟨_, rfl⟩
  have hm1 : 1 ≤ m ∧ m ≤ 32 := by omega
  have hNm : N = 16 * m := by omega
  have HM : Hid ((N : Int).tdiv 16 = (m : Nat)) := Lib.hid (by rw [← hm]; rfl)
  have HNM := Lib.hid hNm
  have HMD := Lib.hid hm
  clear hNm hm
  go_upto_region 6 with fail
  refine wp_region_lit ?_
  refine Step.p_move rfl _ rfl (.slice (some ⟨gb, 0, none⟩) N c) rfl ?_
  simp only [Act.put, List.setIfInBounds_toArray, List.set_cons_zero, List.set_cons_succ]
  refine Step.p_len rfl _ _ 5 rfl (_) (N) (c) rfl Tryz.underlying22 ?_
  simp only [Act.put, List.setIfInBounds_toArray, List.set_cons_zero, List.set_cons_succ]
  refine Step.p_val rfl (.int .i64 m) (by unfold execOp; have := HM.out; have := HNM.out; go_simp; try (first | omega | exact (IntWalk.i64_in _ (by omega)).trans (by omega))) ?_
  simp only [Act.put, List.setIfInBounds_toArray, List.set_cons_zero, List.set_cons_succ]
  refine Step.p_assign rfl _ rfl (.int .i64 m) rfl ?_
  simp only [Act.put, List.setIfInBounds_toArray, List.set_cons_zero, List.set_cons_succ]
  refine wpList_nil ?_
  obtain ⟨s2, hs2⟩ : ∃ s2, s % 288230376151711744 = s2 := ⟨_, rfl⟩
  have HS2 : Hid ((s : Int).tmod 288230376151711744 = (s2 : Nat)) := Lib.hid (by rw [← hs2]; rfl)
  have hs3 : s2 < 288230376151711744 := by omega
  clear hs2
  go_upto_region 7 with fail
  refine wp_region_lit ?_
  refine Step.p_move rfl _ rfl (.int .u64 s) rfl ?_
  simp only [Act.put, List.setIfInBounds_toArray, List.set_cons_zero, List.set_cons_succ]
  refine Step.p_val rfl (.int .u64 s2) (by unfold execOp; have := HS2.out; go_simp; try (first | omega | exact congrArg _ HS2.out | rw [HS2.out])) ?_
  simp only [Act.put, List.setIfInBounds_toArray, List.set_cons_zero, List.set_cons_succ]
  refine Step.p_assign rfl _ rfl (.int .u64 s2) rfl ?_
  simp only [Act.put, List.setIfInBounds_toArray, List.set_cons_zero, List.set_cons_succ]
  refine wpList_nil ?_
  obtain ⟨j, hj⟩ : ∃ j, (jz % 18446744073709551616).toNat % m = j := ⟨_, rfl⟩
  have hjm : j < m := by rw [← hj]; exact Nat.mod_lt _ (by omega)
  have HJ : Hid ((jz % 18446744073709551616).tmod (m : Int) = (j : Nat)) := Lib.hid (by rw [← hj, Int.tmod_eq_emod_of_nonneg (by omega), Int.natCast_emod, Int.toNat_of_nonneg (by omega)])
  have hm0 : ¬ ((m : Int) = 0) := by omega
  clear hj
  go_upto_region 8 with fail
  refine wp_region_lit ?_
  refine Step.p_move rfl _ rfl (.int .i64 jz) rfl ?_
  simp only [Act.put, List.setIfInBounds_toArray, List.set_cons_zero, List.set_cons_succ]
  refine Step.p_val rfl (.int .u64 (jz % 18446744073709551616)) (by unfold execOp; go_simp; exact IntKind.wrap_u64 jz) ?_
  simp only [Act.put, List.setIfInBounds_toArray, List.set_cons_zero, List.set_cons_succ]
  refine Step.p_move rfl _ rfl (.int .i64 m) rfl ?_
  simp only [Act.put, List.setIfInBounds_toArray, List.set_cons_zero, List.set_cons_succ]
  refine Step.p_val rfl (.int .u64 m) (by unfold execOp; go_simp; try (exact (IntWalk.u64_in _ (by omega)).trans (by omega))) ?_
  simp only [Act.put, List.setIfInBounds_toArray, List.set_cons_zero, List.set_cons_succ]
  refine Step.p_val rfl (.int .u64 j) (by unfold execOp; have := HJ.out; go_simp; try (first | omega | (rw [if_neg hm0, HJ.out]) | trace_state)) ?_
  simp only [Act.put, List.setIfInBounds_toArray, List.set_cons_zero, List.set_cons_succ]
  refine Step.p_val rfl (.int .i64 j) (by unfold execOp; go_simp; try (exact IntWalk.i64_in _ (by omega))) ?_
  simp only [Act.put, List.setIfInBounds_toArray, List.set_cons_zero, List.set_cons_succ]
  refine Step.p_assign rfl _ rfl (.int .i64 j) rfl ?_
  simp only [Act.put, List.setIfInBounds_toArray, List.set_cons_zero, List.set_cons_succ]
  refine wpList_nil ?_
  go_upto_region 9 with fail
  refine wp_region_lit ?_
  refine Step.p_move rfl _ rfl (.pointer (some ⟨cb, 0, none⟩)) rfl ?_
  simp only [Act.put, List.setIfInBounds_toArray, List.set_cons_zero, List.set_cons_succ]
  refine Step.p_move rfl _ rfl (.int .u64 s2) rfl ?_
  simp only [Act.put, List.setIfInBounds_toArray, List.set_cons_zero, List.set_cons_succ]
  refine Step.p_move rfl _ rfl (.slice (some ⟨gb, 0, none⟩) N c) rfl ?_
  simp only [Act.put, List.setIfInBounds_toArray, List.set_cons_zero, List.set_cons_succ]
  refine Step.p_wp rfl (Step.w_callx 11 [.tmp 46, .tmp 47, .tmp 48] _ rfl Tryz.func11 (by kernel_rfl) rfl [.pointer (some ⟨cb, 0, none⟩), .int .u64 s2, .slice (some ⟨gb, 0, none⟩) N c] rfl (SE.out cb s2 (by omega) gb 0 N c F3 F1 (by omega) fB FL.out w6 C6.out BB.out) ?_)
  rintro e w7 ⟨g1, rfl, hsec, hg1, hb⟩
  refine ⟨_, rfl, ?_⟩
  simp only [Act.put, List.setIfInBounds_toArray, List.set_cons_zero, List.set_cons_succ]
  have S1 := Lib.hid hsec
  have B7 := Lib.hid (B6.out.trans (hb.mono B6.out.size))
  have C7 := Lib.hid (C6.out.below hb)
  have BB7 := Lib.hid (BB.out.below hb)
  clear hb hsec B6 C6 BB hg1
  refine Step.p_move rfl _ rfl (.tuple #[.slice (some ⟨g1, 0, none⟩) N N, .int .i64 0]) rfl ?_
  simp only [Act.put, List.setIfInBounds_toArray, List.set_cons_zero, List.set_cons_succ]
  refine Step.p_val rfl (.slice (some ⟨g1, 0, none⟩) N N) (by unfold execOp; go_simp; try rfl) ?_
  simp only [Act.put, List.setIfInBounds_toArray, List.set_cons_zero, List.set_cons_succ]
  refine Step.p_val rfl (.int .i64 0) (by unfold execOp; go_simp; try rfl) ?_
  simp only [Act.put, List.setIfInBounds_toArray, List.set_cons_zero, List.set_cons_succ]
  refine Step.p_assign rfl _ rfl (.slice (some ⟨g1, 0, none⟩) N N) rfl ?_
  simp only [Act.put, List.setIfInBounds_toArray, List.set_cons_zero, List.set_cons_succ]
  refine Step.p_assign rfl _ rfl (.int .i64 0) rfl ?_
  simp only [Act.put, List.setIfInBounds_toArray, List.set_cons_zero, List.set_cons_succ]
  refine wpList_nil ?_
  go_upto_region 10 with fail
  refine wp_region_lit ?_
  refine Step.p_move rfl _ rfl (.pointer (some ⟨cb, 0, none⟩)) rfl ?_
  simp only [Act.put, List.setIfInBounds_toArray, List.set_cons_zero, List.set_cons_succ]
  refine Step.p_move rfl _ rfl (.int .u64 s2) rfl ?_
  simp only [Act.put, List.setIfInBounds_toArray, List.set_cons_zero, List.set_cons_succ]
  refine Step.p_move rfl _ rfl (.int .i64 m) rfl ?_
  simp only [Act.put, List.setIfInBounds_toArray, List.set_cons_zero, List.set_cons_succ]
  refine Step.p_val rfl (.int .u64 m) (by unfold execOp; go_simp; try (exact (IntWalk.u64_in _ (by omega)).trans (by omega))) ?_
  simp only [Act.put, List.setIfInBounds_toArray, List.set_cons_zero, List.set_cons_succ]
  have hmul : s2 * m ≤ 288230376151711744 * 32 := Nat.mul_le_mul (by omega) (by omega)
  obtain ⟨sm, hsm⟩ : ∃ sm, s2 * m = sm := ⟨_, rfl⟩
  rw [hsm] at hmul
  have HSM : Hid (((s2 : Nat) : Int) * ((m : Nat) : Int) = ((sm : Nat) : Int)) := Lib.hid (by rw [← hsm, Int.natCast_mul])
  have HSS := Lib.hid hsm
  clear hsm
  refine Step.p_val rfl (.int .u64 (sm : Nat)) (by unfold execOp; go_simp; rw [HSM.out]; exact IntWalk.u64_in _ (by omega)) ?_
  simp only [Act.put, List.setIfInBounds_toArray, List.set_cons_zero, List.set_cons_succ]
  clear HSM
  refine Step.p_move rfl _ rfl (.int .i64 j) rfl ?_
  simp only [Act.put, List.setIfInBounds_toArray, List.set_cons_zero, List.set_cons_succ]
  refine Step.p_val rfl (.int .u64 j) (by unfold execOp; go_simp; try (exact (IntWalk.u64_in _ (by omega)).trans (by omega))) ?_
  simp only [Act.put, List.setIfInBounds_toArray, List.set_cons_zero, List.set_cons_succ]
  refine Step.p_val rfl (.int .u64 (sm + j : Nat)) (by unfold execOp; go_simp; try (exact (IntWalk.u64_in _ (by omega)).trans (by omega))) ?_
  simp only [Act.put, List.setIfInBounds_toArray, List.set_cons_zero, List.set_cons_succ]
  refine Step.p_move rfl _ rfl (.slice (some ⟨gb, 0, none⟩) N c) rfl ?_
  simp only [Act.put, List.setIfInBounds_toArray, List.set_cons_zero, List.set_cons_succ]
  refine Step.p_move rfl _ rfl (.int .i64 j) rfl ?_
  simp only [Act.put, List.setIfInBounds_toArray, List.set_cons_zero, List.set_cons_succ]
  refine Step.p_val rfl (.int .i64 (16 * j : Nat)) (by unfold execOp; go_simp; try (exact (IntWalk.i64_in _ (by omega)).trans (by omega))) ?_
  simp only [Act.put, List.setIfInBounds_toArray, List.set_cons_zero, List.set_cons_succ]
  refine Step.p_move rfl _ rfl (.int .i64 j) rfl ?_
  simp only [Act.put, List.setIfInBounds_toArray, List.set_cons_zero, List.set_cons_succ]
  refine Step.p_val rfl (.int .i64 (16 * j : Nat)) (by unfold execOp; go_simp; try (exact (IntWalk.i64_in _ (by omega)).trans (by omega))) ?_
  simp only [Act.put, List.setIfInBounds_toArray, List.set_cons_zero, List.set_cons_succ]
  refine Step.p_val rfl (.int .i64 (16 * j + 16 : Nat)) (by unfold execOp; go_simp; try (exact (IntWalk.i64_in _ (by omega)).trans (by omega))) ?_
  simp only [Act.put, List.setIfInBounds_toArray, List.set_cons_zero, List.set_cons_succ]
  refine Step.p_val rfl (.slice (some ⟨gb, 16 * j, none⟩) 16 (c - 16 * j)) (by unfold execOp; have := HNM.out; go_simp; rw [if_pos ⟨by omega, by omega⟩, if_pos ⟨by omega, by omega⟩, show (16 * (j : Int)).toNat = 16 * j by omega, show (16 * (j : Int) + 16).toNat = 16 * j + 16 by omega, if_neg (by omega), show 16 * j + 16 - 16 * j = 16 by omega]) ?_
  simp only [Act.put, List.setIfInBounds_toArray, List.set_cons_zero, List.set_cons_succ]
  refine Step.p_wp rfl (Step.w_callx 11 [.tmp 53, .tmp 60, .tmp 67] _ rfl Tryz.func11 (by kernel_rfl) rfl [.pointer (some ⟨cb, 0, none⟩), .int .u64 (sm + j : Nat), .slice (some ⟨gb, 16 * j, none⟩) 16 (c - 16 * j)] rfl (SE.out cb (sm + j) (by omega) gb (16 * j) 16 (c - 16 * j) (by decide) (by decide) (by decide) (fun i => fB (16 * j + i)) (fun i => FL.out _) w7 C7.out (fun i hi => by have := HNM.out; obtain ⟨g0, o0, e, hc⟩ := BB7.out (16 * j + i) (by omega); cases e; exact ⟨gb, 16 * j, rfl, by rw [Nat.zero_add] at hc; exact hc⟩)) ?_)
  rintro e w8 ⟨g2, rfl, hsec, hg2, hb⟩
  refine ⟨_, rfl, ?_⟩
  simp only [Act.put, List.setIfInBounds_toArray, List.set_cons_zero, List.set_cons_succ]
  have S2 := Lib.hid hsec
  have S18 := Lib.hid (S1.out.below hb)
  have B8 := Lib.hid (B7.out.trans (hb.mono B7.out.size))
  clear hb hsec B7 C7 BB7 hg2 S1
  refine Step.p_move rfl _ rfl (.tuple #[.slice (some ⟨g2, 0, none⟩) 16 16, .int .i64 0]) rfl ?_
  simp only [Act.put, List.setIfInBounds_toArray, List.set_cons_zero, List.set_cons_succ]
  refine Step.p_val rfl (.slice (some ⟨g2, 0, none⟩) 16 16) (by unfold execOp; go_simp; try rfl) ?_
  simp only [Act.put, List.setIfInBounds_toArray, List.set_cons_zero, List.set_cons_succ]
  refine Step.p_val rfl (.int .i64 0) (by unfold execOp; go_simp; try rfl) ?_
  simp only [Act.put, List.setIfInBounds_toArray, List.set_cons_zero, List.set_cons_succ]
  refine Step.p_assign rfl _ rfl (.slice (some ⟨g2, 0, none⟩) 16 16) rfl ?_
  simp only [Act.put, List.setIfInBounds_toArray, List.set_cons_zero, List.set_cons_succ]
  refine Step.p_assign rfl _ rfl (.int .i64 0) rfl ?_
  simp only [Act.put, List.setIfInBounds_toArray, List.set_cons_zero, List.set_cons_succ]
  refine wpList_nil ?_
  have SB := Lib.hid (sameBytes_any (some ⟨g1, 16 * j, none⟩) (some ⟨g2, 0, none⟩) 16 (N - 16 * j) 16 (fun i => sealF key nk s2 N fB (16 * j + i)) w8 (by decide) (sec_bl S18.out (by have := HNM.out; omega)) (fun i hi => ⟨g2, 0, rfl, by
    rw [Nat.zero_add, S2.out.cell hi]
    have h := seal_row key nk s2 N fB j i (by rw [HMD.out]; omega) hi
    rw [HMD.out, HSS.out] at h
    exact congrArg (fun x : Nat => some (Value.int .u8 (x : Int))) h.symm⟩))
  clear S2 S18
  go_upto_region 11 with fail
  refine wp_region_lit ?_
  refine Step.p_move rfl _ rfl (.int .i64 0) rfl ?_
  simp only [Act.put, List.setIfInBounds_toArray, List.set_cons_zero, List.set_cons_succ]
  refine Step.p_wp rfl (Step.w_callx 12 [.tmp 71] _ rfl Tryz.func12 (by kernel_rfl) rfl [.int .i64 0] rfl (num_any 0 _) ?_)
  rintro e w9 ⟨rfl, hw⟩
  refine ⟨_, rfl, ?_⟩
  simp only [Act.put, List.setIfInBounds_toArray, List.set_cons_zero, List.set_cons_succ]
  subst hw
  refine Step.p_val rfl (.bool true) (by unfold execOp; go_simp; try rfl) ?_
  simp only [Act.put, List.setIfInBounds_toArray, List.set_cons_zero, List.set_cons_succ]
  refine Step.p_move rfl _ rfl (.bool true) rfl ?_
  simp only [Act.put, List.setIfInBounds_toArray, List.set_cons_zero, List.set_cons_succ]
  refine Step.p_move rfl _ rfl (.int .i64 0) rfl ?_
  simp only [Act.put, List.setIfInBounds_toArray, List.set_cons_zero, List.set_cons_succ]
  refine Step.p_wp rfl (Step.w_callx 12 [.tmp 75] _ rfl Tryz.func12 (by kernel_rfl) rfl [.int .i64 0] rfl (num_any 0 _) ?_)
  rintro e w9 ⟨rfl, hw⟩
  refine ⟨_, rfl, ?_⟩
  simp only [Act.put, List.setIfInBounds_toArray, List.set_cons_zero, List.set_cons_succ]
  subst hw
  refine Step.p_val rfl (.bool true) (by unfold execOp; go_simp; try rfl) ?_
  simp only [Act.put, List.setIfInBounds_toArray, List.set_cons_zero, List.set_cons_succ]
  refine Step.p_pick rfl _ _ _ rfl true rfl (.bool true) rfl ?_
  simp only [Act.put, List.setIfInBounds_toArray, List.set_cons_zero, List.set_cons_succ]
  refine Step.p_move rfl _ rfl (.bool true) rfl ?_
  simp only [Act.put, List.setIfInBounds_toArray, List.set_cons_zero, List.set_cons_succ]
  refine Step.p_move rfl _ rfl (.slice (some ⟨g1, 0, none⟩) N N) rfl ?_
  simp only [Act.put, List.setIfInBounds_toArray, List.set_cons_zero, List.set_cons_succ]
  refine Step.p_len rfl _ _ 5 rfl (_) (N) (N) rfl Tryz.underlying22 ?_
  simp only [Act.put, List.setIfInBounds_toArray, List.set_cons_zero, List.set_cons_succ]
  refine Step.p_move rfl _ rfl (.slice (some ⟨gb, 0, none⟩) N c) rfl ?_
  simp only [Act.put, List.setIfInBounds_toArray, List.set_cons_zero, List.set_cons_succ]
  refine Step.p_len rfl _ _ 5 rfl (_) (N) (c) rfl Tryz.underlying22 ?_
  simp only [Act.put, List.setIfInBounds_toArray, List.set_cons_zero, List.set_cons_succ]
  refine Step.p_val rfl (.bool true) (by unfold execOp; go_simp; try rfl) ?_
  simp only [Act.put, List.setIfInBounds_toArray, List.set_cons_zero, List.set_cons_succ]
  refine Step.p_pick rfl _ _ _ rfl true rfl (.bool true) rfl ?_
  simp only [Act.put, List.setIfInBounds_toArray, List.set_cons_zero, List.set_cons_succ]
  refine Step.p_move rfl _ rfl (.bool true) rfl ?_
  simp only [Act.put, List.setIfInBounds_toArray, List.set_cons_zero, List.set_cons_succ]
  refine Step.p_move rfl _ rfl (.slice (some ⟨g1, 0, none⟩) N N) rfl ?_
  simp only [Act.put, List.setIfInBounds_toArray, List.set_cons_zero, List.set_cons_succ]
  refine Step.p_move rfl _ rfl (.int .i64 j) rfl ?_
  simp only [Act.put, List.setIfInBounds_toArray, List.set_cons_zero, List.set_cons_succ]
  refine Step.p_val rfl (.int .i64 (16 * j : Nat)) (by unfold execOp; go_simp; try (exact (IntWalk.i64_in _ (by omega)).trans (by omega))) ?_
  simp only [Act.put, List.setIfInBounds_toArray, List.set_cons_zero, List.set_cons_succ]
  refine Step.p_move rfl _ rfl (.int .i64 j) rfl ?_
  simp only [Act.put, List.setIfInBounds_toArray, List.set_cons_zero, List.set_cons_succ]
  refine Step.p_val rfl (.int .i64 (16 * j : Nat)) (by unfold execOp; go_simp; try (exact (IntWalk.i64_in _ (by omega)).trans (by omega))) ?_
  simp only [Act.put, List.setIfInBounds_toArray, List.set_cons_zero, List.set_cons_succ]
  refine Step.p_val rfl (.int .i64 (16 * j + 16 : Nat)) (by unfold execOp; go_simp; try (exact (IntWalk.i64_in _ (by omega)).trans (by omega))) ?_
  simp only [Act.put, List.setIfInBounds_toArray, List.set_cons_zero, List.set_cons_succ]
  refine Step.p_val rfl (.slice (some ⟨g1, 16 * j, none⟩) 16 (N - 16 * j)) (by unfold execOp; have := HNM.out; go_simp; rw [if_pos ⟨by omega, by omega⟩, if_pos ⟨by omega, by omega⟩, show (16 * (j : Int)).toNat = 16 * j by omega, show (16 * (j : Int) + 16).toNat = 16 * j + 16 by omega, if_neg (by omega), show 16 * j + 16 - 16 * j = 16 by omega]) ?_
  simp only [Act.put, List.setIfInBounds_toArray, List.set_cons_zero, List.set_cons_succ]
  refine Step.p_move rfl _ rfl (.slice (some ⟨g2, 0, none⟩) 16 16) rfl ?_
  simp only [Act.put, List.setIfInBounds_toArray, List.set_cons_zero, List.set_cons_succ]
  refine Step.p_wp rfl (Step.w_callx 14 [.tmp 93, .tmp 94] _ rfl Tryz.func14 (by kernel_rfl) rfl [.slice (some ⟨g1, 16 * j, none⟩) 16 (N - 16 * j), .slice (some ⟨g2, 0, none⟩) 16 16] rfl (SB.out) ?_)
  rintro e w10 ⟨rfl, hb⟩
  refine ⟨_, rfl, ?_⟩
  simp only [Act.put, List.setIfInBounds_toArray, List.set_cons_zero, List.set_cons_succ]
  have B9 := Lib.hid (B8.out.trans (hb.mono B8.out.size))
  clear hb SB B8
  refine Step.p_pick rfl _ _ _ rfl true rfl (.bool true) rfl ?_
  simp only [Act.put, List.setIfInBounds_toArray, List.set_cons_zero, List.set_cons_succ]
  refine Step.p_assign rfl _ rfl (.bool true) rfl ?_
  simp only [Act.put, List.setIfInBounds_toArray, List.set_cons_zero, List.set_cons_succ]
  refine wpList_nil ?_
  go_wp2
  go_ret
  exact ⟨rfl, B9.out⟩
end Go.Proofs.YtcgjhjijfhgclaaGreatDoor.TRows

namespace Go.Proofs.YtcgjhjijfhgclaaGreatDoor.OpenM
open Go.ChangeShapes Go.WideShapes Go.ChangeAt Go.RowKit Go.Lib Go.Deep Go.Proofs.YtcgjhjijfhgclaaGreatDoor.Tab Go.Proofs.YtcgjhjijfhgclaaGreatDoor.Byts
section
variable {P : Program} {w : World}
/-- a listed slice -/
theorem open_listed {name : String} {t e : TypeId} {sz g : Nat} {dl : List (DataW Unit)} (hV : VarReads P w name (.slice dl [])) (hg : P.globalNamed name = some g) (hty : (P.globals[g]?).map (·.type) = some t) (ht : P.underlying t = some (.slice e)) (hc : P.cellsOf e = sz) (hz : 0 < sz) (hn : 0 < dl.length) :
    ∃ b o cap, w.cell? ⟨g, 0, none⟩ = some (.slice (some ⟨b, o, none⟩) dl.length cap) ∧ dl.length ≤ cap ∧ cap ≤ maxLen ∧
      ∀ i (hi : i < dl.length), ∃ l n p, l.length = sz ∧ DataW.trod (fun _ => ()) P w 0 (fun _ => true) false n e l = some (dl[i]'hi, p) ∧ ∀ k, k < sz → w.cell? ⟨b, o + (i * sz + k), none⟩ = l[k]? := by
  obtain ⟨g', t', cs, fuel, p, hg', ht', hvar, hd⟩ := hV
  obtain rfl := Option.some.inj (hg.symm.trans hg')
  obtain rfl := Option.some.inj (hty.symm.trans ht')
  rcases open_slice ht hd with ⟨_, hx⟩ | ⟨a, len, cap, m, n, D, Pl, hv, _, hl, hm, hmm, hx, hel⟩
  · simp at hx
  · simp only [Prod.mk.injEq, DataW.slice.injEq] at hx
    obtain ⟨⟨hx, _⟩, _⟩ := hx
    simp only [if_true] at hmm
    have hlen : dl.length = len := by rw [hx]; simp
    subst hlen
    have cell0 : w.cell? ⟨g, 0, none⟩ = some (.slice (some a) dl.length cap) := by
      rw [World.var?_cell hg hvar, ← Array.getElem?_toList, hv]
      rfl
    have each : ∀ i (hi : i < dl.length), ∃ l n p, l.length = sz ∧ DataW.trod (fun _ => ()) P w 0 (fun _ => true) false n e l = some (dl[i]'hi, p) ∧ ∀ k, k < sz → w.cell? ((a.add (i * sz)).add k) = l[k]? := fun i hi => by
      obtain ⟨cs', h1, h2⟩ := hel i (by omega)
      rw [hc] at h1
      have h3 := World.cells?_some h1
      have e1 : dl[i]'hi = D i := by
        have := congrArg (fun l => l[i]?) hx
        simp only [List.getElem?_map, List.getElem?_range hi, Option.map_some] at this
        rw [List.getElem?_eq_getElem hi] at this
        exact Option.some.inj this
      exact ⟨cs', n, Pl i, h3.2.1, by rw [e1]; exact h2, h3.2.2⟩
    obtain ⟨l0, _, _, h1, _, h3⟩ := each 0 hn
    have h4 := h3 0 hz
    rw [List.getElem?_eq_getElem (by omega), Nat.zero_mul] at h4
    obtain ⟨b, o, sp⟩ := a
    have hsp : sp = none := by simpa [Addr.add] using World.cell?_spot h4
    subst hsp
    refine ⟨b, o, cap, cell0, hl, hm, fun i hi => ?_⟩
    obtain ⟨l, n', p', h5, h6, h7⟩ := each i hi
    refine ⟨l, n', p', h5, h6, fun k hk => ?_⟩
    rw [← h7 k hk, Addr.add_mid, Addr.add_mid, Nat.add_assoc]
theorem lit_str {n : Nat} {t : TypeId} {v : Value} {b : List UInt8} {s : ByteArray} {p : List MemPlace} (hu : P.underlying t = some .string) (h : DataW.trod (fun _ : TypeId × Value => ()) P w 0 (fun _ => true) false n t [v] = some (.lit (.string b), p)) (hs : b = s.data.toList) : v = .string s := by
  obtain ⟨s', e, hx, _⟩ := DataW.trod_string hu h
  simp only [List.cons.injEq, and_true] at e
  simp only [Prod.mk.injEq, DataW.lit.injEq, Lit.string.injEq] at hx
  rw [e]
  congr 1
  have h1 : s.data.toList = s'.data.toList := hs.symm.trans hx.1
  cases s; cases s'
  simp only [ByteArray.mk.injEq]
  exact Array.toList_inj.1 h1.symm
theorem lit_int {n : Nat} {t : TypeId} {v : Value} {k : IntKind} {z : Int} {p : List MemPlace} (hu : P.underlying t = some (.int k)) (h : DataW.trod (fun _ : TypeId × Value => ()) P w 0 (fun _ => true) false n t [v] = some (.lit (.int k z), p)) : v = .int k z := by
  obtain ⟨z', e, hx, _⟩ := DataW.trod_int hu h
  simp only [List.cons.injEq, and_true] at e
  simp only [Prod.mk.injEq, DataW.lit.injEq, Lit.int.injEq, true_and] at hx
  rw [e, hx.1]
end
section
variable {P : Program} {w : World} {r : Reach} {b : Nat} {t : TypeId} {v : Value}
theorem cell_bool (hu : P.underlying t = some .bool) (h : Cell.okWide P w r b t v) : ∃ x, v = .bool x := by
  unfold Cell.okWide at h
  rw [hu] at h
  cases v <;> simp_all [Cell.ok]
theorem cell_int {k : IntKind} (hu : P.underlying t = some (.int k)) (h : Cell.okWide P w r b t v) : ∃ z, v = .int k z ∧ k.has z := by
  unfold Cell.okWide at h
  rw [hu] at h
  cases v <;> simp_all [Cell.ok]
theorem cell_str (hu : P.underlying t = some .string) (h : Cell.okWide P w r b t v) : ∃ s : ByteArray, v = .string s ∧ (s.size : Int) ≤ IntKind.i64.max := by
  unfold Cell.okWide at h
  rw [hu] at h
  cases v <;> simp_all [Cell.ok]
theorem open_cells {fs : Array Field} {ts : List TypeId} {n : Nat} (hs : P.underlying t = some (.struct fs)) (hc : P.cellTypes P.depth t = some ts) (hsz : P.cellsOf t = n) (h : Value.okWide P w r b t v) :
    ∃ cs : Array Value, v = .agg cs ∧ cs.size = n ∧ ∀ (i : Nat) (u : TypeId) (x : Value), ts[i]? = some u → cs[i]? = some x → Cell.okWide P w r b u x := by
  simp only [Value.okWide, hs] at h
  obtain ⟨cs, rfl, h1, ts', h2, _, h3⟩ := h
  obtain rfl : ts = ts' := Option.some.inj (hc.symm.trans h2)
  refine ⟨cs, rfl, h1.trans hsz, fun i u x hu hx => ?_⟩
  obtain ⟨u', hu', hk⟩ := h3 i x hx
  have hi : i < ts.length := (List.getElem?_eq_some_iff.1 hu).1
  rw [Nat.mod_eq_of_lt hi, hu] at hu'
  cases hu'
  exact hk
end

theorem sizes_data : ∃ dl, (Rows.laid_coffer_tweak_sizes : DataW Unit) = .slice dl [] ∧ dl.length = 3 ∧ ∀ k, k < 3 → dl[k]? = some (.agg [.lit (.string (pre k).data.toList), .lit (.int .i64 (aesT k : Nat))]) :=
  ⟨_, rfl, rfl, fun k hk => by
    match k, hk with
    | 0, _ => rfl
    | 1, _ => rfl
    | 2, _ => rfl⟩
theorem modes_data : ∃ dl, (Rows.laid_coffer_cofferref03_modes : DataW Unit) = .slice dl [] ∧ dl.length = 17 ∧ ∀ k, k < 17 → dl[k]? = some (.agg [.lit (.string (nm k).data.toList), .lit (.string (mdT k).data.toList), .lit (.string (stT k).data.toList), .lit (.int .i64 (moT k))]) :=
  ⟨_, rfl, rfl, fun k hk => by
    match k, hk with
    | 0, _ => rfl
    | 1, _ => rfl
    | 2, _ => rfl
    | 3, _ => rfl
    | 4, _ => rfl
    | 5, _ => rfl
    | 6, _ => rfl
    | 7, _ => rfl
    | 8, _ => rfl
    | 9, _ => rfl
    | 10, _ => rfl
    | 11, _ => rfl
    | 12, _ => rfl
    | 13, _ => rfl
    | 14, _ => rfl
    | 15, _ => rfl
    | 16, _ => rfl
    | k + 17, hk => exact absurd hk (by omega)⟩
set_option maxRecDepth 100000 in
theorem sizes_of {w : World} (hV : VarReads Tryz.prog w "coffer/tweak.sizes" Rows.laid_coffer_tweak_sizes) : Sizes w := by
  obtain ⟨dl, e, hl, hd⟩ := sizes_data
  rw [e] at hV
  obtain ⟨b, o, cap, h0, h1, h2, h3⟩ := open_listed (t := 82) (e := 83) (sz := 2) (g := 0) hV (by kernel_rfl) (by kernel_rfl) Tryz.underlying82 (by kernel_rfl) (by decide) (by omega)
  rw [hl] at h0 h1
  refine ⟨b, o, cap, h0, h1, h2, fun i hi => ?_⟩
  obtain ⟨l, n, p, hll, ht, hc⟩ := h3 i (by omega)
  have hz := hd i hi
  rw [List.getElem?_eq_getElem (by omega)] at hz
  rw [Option.some.inj hz] at ht
  obtain ⟨xs, m, _, hx, _, hlen, hf⟩ := DataW.trod_struct Tryz.underlying83 ht
  simp only [Prod.mk.injEq, DataW.agg.injEq] at hx
  match l, hll, xs, hlen with
  | [a0, a1], _, [y0, y1], _ =>
    obtain ⟨hx, _⟩ := hx
    simp only [List.map_cons, List.map_nil, List.cons.injEq, and_true] at hx
    have g0 := hf 0 _ rfl
    have g1 := hf 1 _ rfl
    simp only [List.getElem?_cons_zero, List.getElem?_cons_succ] at g0 g1
    obtain rfl := lit_str (p := y0.2) Tryz.underlying9 (g0.trans (by rw [hx.1])) rfl
    obtain rfl := lit_int (p := y1.2) Tryz.underlying3 (g1.trans (by rw [hx.2]))
    exact ⟨hc 0 (by omega), hc 1 (by omega)⟩
set_option maxRecDepth 100000 in
theorem modes_of {w : World} (hV : VarReads Tryz.prog w "coffer/cofferref03.modes" Rows.laid_coffer_cofferref03_modes) : Modes w := by
  obtain ⟨dl, e, hl, hd⟩ := modes_data
  rw [e] at hV
  obtain ⟨b, o, cap, h0, h1, h2, h3⟩ := open_listed (t := 89) (e := 90) (sz := 4) (g := 1) hV (by kernel_rfl) (by kernel_rfl) Tryz.underlying89 (by kernel_rfl) (by decide) (by omega)
  rw [hl] at h0 h1
  refine ⟨b, o, cap, h0, h1, h2, fun i hi => ?_⟩
  obtain ⟨l, n, p, hll, ht, hc⟩ := h3 i (by omega)
  have hz := hd i hi
  rw [List.getElem?_eq_getElem (by omega)] at hz
  rw [Option.some.inj hz] at ht
  obtain ⟨xs, m, _, hx, _, hlen, hf⟩ := DataW.trod_struct Tryz.underlying90 ht
  simp only [Prod.mk.injEq, DataW.agg.injEq] at hx
  match l, hll, xs, hlen with
  | [a0, a1, a2, a3], _, [y0, y1, y2, y3], _ =>
    obtain ⟨hx, _⟩ := hx
    simp only [List.map_cons, List.map_nil, List.cons.injEq, and_true] at hx
    have g0 := hf 0 _ rfl
    have g1 := hf 1 _ rfl
    have g2 := hf 2 _ rfl
    have g3 := hf 3 _ rfl
    simp only [List.getElem?_cons_zero, List.getElem?_cons_succ] at g0 g1 g2 g3
    obtain rfl := lit_str (p := y0.2) Tryz.underlying9 (g0.trans (by rw [hx.1])) rfl
    obtain rfl := lit_str (p := y1.2) (s := mdT i) Tryz.underlying9 (g1.trans (by rw [hx.2.1])) rfl
    obtain rfl := lit_str (p := y2.2) (s := stT i) Tryz.underlying9 (g2.trans (by rw [hx.2.2.1])) rfl
    obtain rfl := lit_int (p := y3.2) Tryz.underlying3 (g3.trans (by rw [hx.2.2.2]))
    exact ⟨hc 0 (by omega), hc 1 (by omega), hc 2 (by omega), hc 3 (by omega)⟩

section
variable {H : Type} {enc : TypeId × Value → H} {P : Program}
/-- bytes that came in -/
theorem open_u8 {w : World} {held : Bool} {fuel : Nat} {t e : TypeId} {v : Value} {y : DataW H × List MemPlace} (ht : P.underlying t = some (.slice e)) (he : P.underlying e = some (.int .u8)) (hc : P.cellsOf e = 1)
    (h : DataW.trod enc P w 0 (fun _ => true) held fuel t [v] = some y) :
    ∃ (q : Option Addr) (n cap : Nat) (f : Nat → Nat), v = .slice q n cap ∧ n ≤ cap ∧ cap ≤ 9223372036854775807 ∧ (∀ j, f j < 256) ∧ BL w q n f := by
  rcases open_ints ht he hc h with ⟨hv, _⟩ | ⟨a, len, cap, zs, hv, _, hl, hm, hz, hx, hcell, hwf⟩
  · simp only [List.cons.injEq, and_true] at hv
    exact ⟨none, 0, 0, fun _ => 0, hv, Nat.le_refl _, by decide, fun _ => Nat.zero_lt_succ _, fun i hi => by omega⟩
  · simp only [List.cons.injEq, and_true] at hv
    simp only [if_true] at hz
    refine ⟨some a, len, cap, fun i => (zs.getD i 0).toNat % 256, hv, hl, hm, fun _ => Nat.mod_lt _ (by decide), fun i hi => ?_⟩
    have hc2 := hcell i (by omega)
    have h0 := hcell 0 (by omega)
    obtain ⟨b, o, sp⟩ := a
    have hsp : sp = none := by simpa [Addr.add] using World.cell?_spot h0
    subst hsp
    refine ⟨b, o, rfl, ?_⟩
    have hb : 0 ≤ zs.getD i 0 ∧ zs.getD i 0 ≤ 255 := by
      have hi2 : i < zs.length := by omega
      refine bounds_u8 (hwf _ ?_)
      rw [List.getD_eq_getElem?_getD, List.getElem?_eq_getElem hi2]
      exact List.getElem_mem hi2
    have e : (((zs.getD i 0).toNat % 256 : Nat) : Int) = zs.getD i 0 := by omega
    rw [e, ← hc2, Addr.add_mid]
end
section
variable {H : Type} {enc : TypeId × Value → H} {w : World} {held : Bool}
theorem rc_list : ∀ i, i < 10 → (([1, 2, 4, 8, 16, 32, 64, 128, 27, 54] : List Int).getD i 0) = ((Aes.rc i : Nat) : Int) := by decide
theorem has_of {z : Int} (h : (Lit.int .i64 z).wf = true) : IntKind.i64.has z := by
  have := bounds_i64 h
  constructor <;> simp [IntKind.min, IntKind.max, IntKind.signed, IntKind.bits] <;> omega
set_option maxRecDepth 100000 in
/-- a pick that came in -/
theorem open_pick {r : Reach} {b : Nat} {v : Value} {d : DataW H} {pl : List MemPlace} (hv : Value.okWide Tryz.prog w r b 24 v) (h : DataW.Trod enc Tryz.prog w 0 (fun _ => true) held 24 v d pl) :
    ∃ (z : Int) (q : Option Addr) (n cap : Nat) (f : Nat → Nat), v = pickV z q n cap ∧ IntKind.i64.has z ∧ n ≤ cap ∧ cap ≤ 9223372036854775807 ∧ (∀ j, f j < 256) ∧ BL w q n f := by
  obtain ⟨cs, rfl, hn, hk⟩ := open_cells (ts := [3, 22]) (n := 2) Tryz.underlying24 (by kernel_rfl) (by kernel_rfl) hv
  obtain ⟨l⟩ := cs
  match l, hn with
  | [a0, a1], _ =>
    obtain ⟨z, rfl, hz⟩ := cell_int Tryz.underlying3 (hk 0 _ _ rfl rfl)
    obtain ⟨fuel, hf1⟩ := h
    obtain ⟨y0, y1, n0, _, _, _, h1⟩ := trod_struct2 Tryz.underlying24 hf1
    have kS : Tryz.prog.cellsOf 22 = 1 := by kernel_rfl
    have h2 : DataW.trod enc Tryz.prog w 0 (fun _ => true) held n0 22 [a1] = some y1 := by
      rw [← h1]
      show _ = DataW.trod enc Tryz.prog w 0 (fun _ => true) held n0 22 (([Value.int .i64 z, a1].drop 1).take (Tryz.prog.cellsOf 22))
      rw [kS]
      rfl
    obtain ⟨q, n, cap, f, rfl, e1, e2, e3, e4⟩ := open_u8 Tryz.underlying22 Tryz.underlying5 (by kernel_rfl) h2
    exact ⟨z, q, n, cap, f, rfl, hz, e1, e2, e3, e4⟩
set_option maxRecDepth 100000 in
/-- bytes that came in, as an argument -/
theorem open_bytes {r : Reach} {b : Nat} {v : Value} {d : DataW H} {pl : List MemPlace} (hv : Value.okWide Tryz.prog w r b 22 v) (h : DataW.Trod enc Tryz.prog w 0 (fun _ => true) held 22 v d pl) :
    ∃ (q : Option Addr) (n cap : Nat) (f : Nat → Nat), v = .slice q n cap ∧ n ≤ cap ∧ cap ≤ 9223372036854775807 ∧ (∀ j, f j < 256) ∧ BL w q n f := by
  obtain ⟨fuel, hf⟩ := h
  obtain ⟨a0, len0, cap0, rfl⟩ := okWide_slice Tryz.underlying22 hv
  exact open_u8 Tryz.underlying22 Tryz.underlying5 (by kernel_rfl) hf
end
end Go.Proofs.YtcgjhjijfhgclaaGreatDoor.OpenM
