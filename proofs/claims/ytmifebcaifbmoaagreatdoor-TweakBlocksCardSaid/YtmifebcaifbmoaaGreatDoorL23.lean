/- Parts of the proof of TweakBlocks. Made: cofferlaw03: Pick.made of a row of LRW. G0: Ciphers told by what they do: what stays where only bytes change; keys, starts, runs, sealings as contracts. General. -/
import Derived.Test.YtmifebcaifbmoaaGreatDoorL00
import Derived.Test.YtmifebcaifbmoaaGreatDoorL15
import Derived.Test.YtmifebcaifbmoaaGreatDoorL22
import Derived.Test.YtmifebcaifbmoaaGreatDoorL18
/- Made -/
section
namespace Go.Proofs.YtmifebcaifbmoaaGreatDoor.Tw
open Go.RowKit Go.Lib Go.Proofs.YtmifebcaifbmoaaGreatDoor.Blk Go.Proofs.YtmifebcaifbmoaaGreatDoor.Aes Go.Proofs.YtmifebcaifbmoaaGreatDoor.Tab Go.Proofs.YtmifebcaifbmoaaGreatDoor.Byts Go.Proofs.YtmifebcaifbmoaaGreatDoor.Push

theorem keyF_lt {n : Nat} {f : Nat → Nat} (hf : ∀ j, f j < 256) (j : Nat) : keyF n f j < 256 := by
  unfold keyF
  split
  · exact Nat.mod_lt _ (by decide)
  · exact hf _
/-- a cipher of LRW stays where bytes of no block of its own change -/
theorem CiphLrw.over {key : Nat → Nat} {nk cb g : Nat} {w w' : World} {cur : Array Value} {z : Nat} (h : CiphLrw key nk cb w) (hg : w.heap[g]? = some (.cells cur 5 (0, 0))) (h0 : cur[0]? = some (.int .u8 (z : Nat))) (hb : w.grownBy w' (some g)) : CiphLrw key nk cb w' := by
  obtain ⟨xb, gk, d, s, u, cs, v, h1, h2, h3, h4, h5, h6, h7⟩ := h
  have c0 : w.cell? ⟨g, 0, none⟩ = some (.int .u8 (z : Nat)) := by rw [cell_of_row w g 0 _ _ _ hg]; exact h0
  have blk : ∀ {b : Nat} {C : Array Value} {T : TypeId}, w.heap[b]? = some (.cells C T (0, 0)) → T ≠ 5 → w'.heap[b]? = some (.cells C T (0, 0)) := fun {b C T} hc hT => (hb.block b (Array.getElem?_eq_some_iff.1 hc).1 (fun e => by
    cases e
    rw [hg] at hc
    cases hc
    exact hT rfl)).trans hc
  have ne0 : ∀ {b : Nat} {x : Value}, w.cell? ⟨b, 0, none⟩ = some x → (∀ z, x ≠ .int .u8 z) → b ≠ g := fun hx hz => ne_u8 hx c0 hz
  have lrw : ∀ {f : FuncId} {s : Value}, LrwAt f cb s w → LrwAt f cb s w' := fun {f s} hl => by
    obtain ⟨x, d, u, rfl, l1, l2, p, rfl, l3⟩ := hl
    exact ⟨x, d, _, rfl, cell_gb hb (ne0 l1 (fun _ e => by cases e)) l1, cell_gb hb (ne0 l2 (fun _ e => by cases e)) l2, p, rfl, cell_gb hb (ne0 l3 (fun _ e => by cases e)) l3⟩
  have hk0 := h5.c 0 (by decide) 0 _ rfl
  exact ⟨xb, gk, d, s, u, cs, v, blk h1 (by decide), blk h2 (by decide), h3, h4.grown hg (by decide) (by decide) h0 (fun _ e => by cases e) hb, KindsAt_gb h5 hb (ne0 hk0 (fun _ e => by cases e)) (fun e => by
    have h5d := h5.d
    rw [e, hg] at h5d
    cases h5d), lrw h6, lrw h7⟩

/-- bytes that are the key's no more, and the cipher beside them -/
structure MS (key : Nat → Nat) (nk cb g n : Nat) (w w' : World) : Prop where
  cur : ∃ cur, w'.heap[g]? = some (.cells cur 5 (0, 0)) ∧ ∀ j, j < n → ∃ z : Nat, z < 256 ∧ cur[j]? = some (.int .u8 (z : Nat))
  ci : CiphLrw key nk cb w'
  bel : Below w.heap.size w w'
theorem MS.put {key : Nat → Nat} {nk cb g n : Nat} {w w1 w2 : World} {cur : Array Value} {j z : Nat} (h : MS key nk cb g n w w1) (hn : 0 < n) (hc : w1.heap[g]? = some (.cells cur 5 (0, 0))) (hz : z < 256) (hp : w2.heap[g]? = some (.cells (cur.setIfInBounds j (.int .u8 (z : Nat))) 5 (0, 0))) (hg : w1.grownBy w2 (some g)) (hgw : w.heap.size ≤ g) : MS key nk cb g n w w2 := by
  obtain ⟨cur', e1, e2⟩ := h.cur
  rw [hc] at e1
  cases e1
  obtain ⟨z0, _, hz0⟩ := e2 0 hn
  refine ⟨⟨_, hp, fun i hi => ?_⟩, h.ci.over hc hz0 hg, h.bel.grown hg h.bel.size (fun j hj => by cases hj; exact hgw)⟩
  by_cases hij : j = i
  · subst hij
    obtain ⟨z1, _, hz1⟩ := e2 j hi
    exact ⟨z, hz, by rw [Array.getElem?_setIfInBounds_self_of_lt (Array.getElem?_eq_some_iff.1 hz1).1]⟩
  · obtain ⟨z1, l1, hz1⟩ := e2 i hi
    exact ⟨z1, l1, by rw [Array.getElem?_setIfInBounds_ne hij]; exact hz1⟩
theorem MS.drew {key : Nat → Nat} {nk cb g n : Nat} {w w1 : World} (h : MS key nk cb g n w w1) : MS key nk cb g n w w1.drew := ⟨h.cur, h.ci.below (Below.refl _ _).drew, h.bel.drew⟩

section
variable {P : Program} {Q : Exit → Act → World → Prop} {S : World → Prop} {a : Act} {w : World} {fuel : Nat} {listed : Array Bool} {i : Nat} {o : Oper} {tl l : List Oper}
theorem t_loadrow (hi : l.drop i = o :: tl) (hg : Region.wanted o (yielded l.toArray a.tmps) = true) (hs : Region.noSelect l.toArray = true) (hf : Region.free .any l.toArray listed i = true) (hr : (Region.ready .any l.toArray listed).contains i = true) (hS : S w) (ty : TypeId) (x : Operand) (ho : o.op = .load ty x) (b : Nat) (hx : a.eval x = .pointer (some ⟨b, 0, none⟩))
    {t : TypeId} {cs : Array Value} {d : TypeDesc} (hA : ∀ w, S w → w.heap[b]? = some (.cells cs t (0, 0))) (hu : P.underlying ty = some d) (hd : (match d with | .struct _ | .array _ _ => true | _ => false) = true)
    (hi' : (P.info? ty).map (·.size) = some cs.size) (h : wpAnyH P .any l.toArray (NoPanic Q) S fuel (listed.setIfInBounds i true) (a.put o.dst (.agg cs)) w) : wpAnyH P .any l.toArray (NoPanic Q) S (fuel + 1) listed a w :=
  Step.t_val hi hg hs hf hr hS _ (fun w hw => by
    unfold execOp
    simp only [ho, hx, Instr.loadAt, Instr.sureAddr, Sem.run_bind, Sem.run_pure, Result.andThen_ok, run_loadVar_row w b t ty _ _ d (hA w hw) hu hd hi']) h
end
/-- the row that LRW's pick picks -/
theorem pk_lrw (i0 : Nat) (hi : i0 < 3) : pk ((1 + 17 * i0 + 14 : Nat) : Int) = 1 + 17 * i0 + 14 := by
  rcases (show i0 = 0 ∨ i0 = 1 ∨ i0 = 2 by omega) with rfl | rfl | rfl <;> decide
theorem szN_lrw (i0 : Nat) (hi : i0 < 3) : szN (1 + 17 * i0 + 14) = 4 * (4 + 2 * i0) + 16 := by
  rcases (show i0 = 0 ∨ i0 = 1 ∨ i0 = 2 by omega) with rfl | rfl | rfl <;> decide

set_option maxRecDepth 100000 in
set_option maxHeartbeats 4000000 in
theorem madeLrw_any (i0 : Nat) (hi : i0 < 3) (q : Option Addr) (n cap : Nat) (f : Nat → Nat) (hf : ∀ j, f j < 256) (w : World) (hM : Modes w) (hS : Sizes w) (hR : RconAt w) (hB : BL w q n f) (hnc : n ≤ cap) (hcm : cap ≤ 9223372036854775807) :
    Calls Tryz.prog 11 #[pickV ((1 + 17 * i0 + 14 : Nat) : Int) q n cap] w fun e w' => ∃ cb rb, e = .returned (.tuple #[.pointer (some ⟨cb, 0, none⟩), .pointer (some ⟨rb, 0, none⟩), .bool true]) ∧ CiphLrw (keyF n f) (4 + 2 * i0) cb w' ∧ Below w.heap.size w w' := by
  have hz : IntKind.i64.has ((1 + 17 * i0 + 14 : Nat) : Int) := by
    rcases (show i0 = 0 ∨ i0 = 1 ∨ i0 = 2 by omega) with rfl | rfl | rfl <;> exact ⟨by decide, by decide⟩
  have KL := Lib.hid (keyF_lt (n := n) hf)
  have EP := pk_lrw i0 hi
  have KY := Lib.hid (fun w' (b : Below w.heap.size w w') => key_any _ hz q n cap f w' (hM.below b) (hB.below b) hnc hcm (by rw [EP, szN_lrw i0 hi]; omega))
  have RW := Lib.hid (fun w' (b : Below w.heap.size w w') => row_any _ hz q n cap w' (hM.below b))
  have NW := Lib.hid (fun g cap w' (hc : KeyB w' g 0 (4 * (4 + 2 * i0) + 16) (keyF n f)) h1 h2 (b : Below w.heap.size w w') => newLrw_any (keyF n f) i0 hi (fun j _ => KL.out j) g 0 cap w' hc h1 h2 (hR.below b) (hS.below b))
  have RN := Lib.hid (fun g cap w' (hc : BL w' (some ⟨g, 0, none⟩) (4 * (4 + 2 * i0) + 16) (keyF n f)) h1 h2 (b : Below w.heap.size w w') => Ref3.newLrw_any i0 hi g 0 cap (keyF n f) KL.out w' hc h1 h2 (hM.below b))
  rw [EP, szN_lrw i0 hi] at KY
  have RA : rowL (1 + 17 * i0 + 14) = [.string (pre i0 ++ nm 14), .string ⟨#[108, 114, 119]⟩, .string ⟨#[98, 101, 110, 98, 105]⟩, .int .i64 (16 + 8 * (i0 : Int)), .int .i64 (szT i0 14)] := by
    rw [rowL_at i0 14 (by decide)]
    rfl
  rw [EP, RA] at RW
  have EN : name (1 + 17 * i0 + 14) = pre i0 ++ nm 14 := name_at i0 14 (by decide)
  rw [EN] at RN
  have P0 := Lib.hid (pkv_new ((1 + 17 * i0 + 14 : Nat) : Int) q n cap w)
  have hm : 20 ≤ 4 * (4 + 2 * i0) + 16 ∧ 4 * (4 + 2 * i0) + 16 ≤ 48 := by omega
  clear hM hS hR hB EP RA EN hf hz hi
  unfold pickV at *
  generalize pre i0 ++ nm 14 = spec at *
  generalize 4 + 2 * i0 = nk at *
  generalize hmm : 4 * nk + 16 = m at *
  clear hmm
  generalize szT i0 14 = zz at *
  generalize ((1 + 17 * i0 + 14 : Nat) : Int) = z at *
  generalize keyF n f = F at *
  go_enter Tryz.func11, Tryz.ntmps11
  go_upto_region 1 with fail
  generalize (w.alloc (.cells #[.int .i64 z, .slice q n cap] 24)) = w1 at *
  refine wp_region_lit ?_
  refine Tree.p_loadrow rfl _ _ rfl (w.heap.size) rfl (P0.out.p) Tryz.underlying24 rfl (by kernel_rfl) ?_
  simp only [Act.put, sA9, sB9, sC9]
  refine Step.p_wp rfl (Step.w_callx 31 [.tmp 11] _ rfl Tryz.func31 (by kernel_rfl) rfl [.agg #[.int .i64 z, .slice q n cap]] rfl (KY.out w1 P0.out.bel) ?_)
  rintro e w2 ⟨v, rfl, ho, hb⟩
  refine ⟨_, rfl, ?_⟩
  simp only [Act.put, sA9, sB9, sC9]
  obtain ⟨k1, c1, rfl, e1, e2, e3, e4⟩ := ho
  have P1 := Lib.hid (P0.out.next hb)
  clear hb P0
  have BY := Lib.hid (bytes_any (some ⟨k1, 0, none⟩) m c1 F w2 (by omega) e2 (fun e => by cases e) (fun i hi => ⟨k1, 0, rfl, by rw [Nat.zero_add]; exact e4 i hi⟩))
  clear e4
  refine Step.p_wp rfl (Step.w_callx 13 [.tmp 12] _ rfl Tryz.func13 (by kernel_rfl) rfl [.slice (some ⟨k1, 0, none⟩) m c1] rfl (BY.out) ?_)
  rintro e w3 ⟨g, c, rfl, hg, hgc, hcm2, hrow, hb, cur, hcur⟩
  refine ⟨_, rfl, ?_⟩
  simp only [Act.put, sA9, sB9, sC9]
  have P2 := Lib.hid (P1.out.next hb)
  have HG : w.heap.size ≤ g := Nat.le_trans P1.out.bel.size hg
  have ROW3 := Lib.hid hrow
  have CUR3 : Hid (∃ cur, w3.heap[g]? = some (.cells cur 5 (0, 0))) := Lib.hid ⟨cur, hcur⟩
  clear hb hrow hcur P1 BY
  have hcm3 : c ≤ 9223372036854775807 := hcm2
  refine Step.p_assign rfl _ rfl (.slice (some ⟨g, 0, none⟩) m c) rfl ?_
  simp only [Act.put, sA9, sB9, sC9]
  refine wpList_nil ?_
  go_upto_region 2 with fail
  refine wp_region_lit ?_
  refine Tree.p_loadrow rfl _ _ rfl (w.heap.size) rfl (P2.out.p) Tryz.underlying24 rfl (by kernel_rfl) ?_
  simp only [Act.put, sA9, sB9, sC9]
  refine Step.p_wp rfl (Step.w_callx 39 [.tmp 15] _ rfl Tryz.func39 (by kernel_rfl) rfl [.agg #[.int .i64 z, .slice q n cap]] rfl (RW.out w3 P2.out.bel) ?_)
  rintro e w4 ⟨rfl, hb⟩
  refine ⟨_, rfl, ?_⟩
  simp only [Act.put, sA9, sB9, sC9]
  have P3 := Lib.hid (P2.out.next hb)
  have B34 := Lib.hid hb
  clear hb P2
  refine Step.p_val rfl (.string spec) (by unfold execOp; go_simp; try rfl) ?_
  simp only [Act.put, sA9, sB9, sC9]
  refine Step.p_move rfl _ rfl (.slice (some ⟨g, 0, none⟩) m c) rfl ?_
  simp only [Act.put, sA9, sB9, sC9]
  have K4 : Hid (KeyB w4 g 0 m F) := Lib.hid (fun j hj => by rw [Nat.zero_add, (B34.out.cell (Frame.block_lt ((ROW3.out j (by omega)).trans (row_get _ _ _ _ hj)))), ROW3.out j (by omega)]; exact row_get _ _ _ _ hj)
  refine Step.p_wp rfl (Step.w_callx 23 [.tmp 17, .tmp 18] _ rfl Tryz.func23 (by kernel_rfl) rfl [.string spec, .slice (some ⟨g, 0, none⟩) m c] rfl (NW.out g c w4 K4.out (by omega) hcm3 P3.out.bel) ?_)
  rintro e w5 ⟨cb, rfl, hci, hb⟩
  refine ⟨_, rfl, ?_⟩
  simp only [Act.put, sA9, sB9, sC9]
  have P4 := Lib.hid (P3.out.next hb)
  have CI := Lib.hid hci
  have B35 := Lib.hid (B34.out.trans (hb.mono B34.out.size))
  clear hb hci K4 P3 B34
  refine Step.p_move rfl _ rfl (.tuple #[.pointer (some ⟨cb, 0, none⟩), .int .i64 0]) rfl ?_
  simp only [Act.put, sA9, sB9, sC9]
  refine Step.p_val rfl (.pointer (some ⟨cb, 0, none⟩)) (by unfold execOp; go_simp; try rfl) ?_
  simp only [Act.put, sA9, sB9, sC9]
  refine Step.p_val rfl (.int .i64 0) (by unfold execOp; go_simp; try rfl) ?_
  simp only [Act.put, sA9, sB9, sC9]
  refine Step.p_assign rfl _ rfl (.pointer (some ⟨cb, 0, none⟩)) rfl ?_
  simp only [Act.put, sA9, sB9, sC9]
  refine Step.p_assign rfl _ rfl (.int .i64 0) rfl ?_
  simp only [Act.put, sA9, sB9, sC9]
  refine wpList_nil ?_
  go_upto_region 3 with fail
  go_cut [8, 9] from 22 to 30 (fun r e wx => ∃ rb, r = .pointer (some ⟨rb, 0, none⟩) ∧ e = .int .i64 0 ∧ Below w5.heap.size w5 wx)
  case first =>
    refine Step.begin_ (S := fun w' => Below w5.heap.size w5 w') 11 rfl (by kernel_rfl) (Below.refl _ _).drew ?_
    intro hS
    have SX := Lib.hid hS
    clear hS
    have PC : Hid (∀ w', Below w5.heap.size w5 w' → w'.heap[w.heap.size]? = some (.cells #[.int .i64 z, .slice q n cap] 24 (0, 0))) := Lib.hid (fun w' hb => (P4.out.next hb).p)
    have PB : Hid (∀ w', Below w5.heap.size w5 w' → Below w.heap.size w w') := Lib.hid (fun w' hb => (P4.out.next hb).bel)
    refine t_loadrow (i := 0) rfl rfl (by kernel_rfl) (by kernel_rfl) (by kernel_rfl) SX.out _ _ rfl w.heap.size rfl PC.out Tryz.underlying24 rfl (by kernel_rfl) ?_
    simp only [Act.put, sA9, sB9, sC9]
    refine t_loadrow (i := 3) rfl rfl (by kernel_rfl) (by kernel_rfl) (by kernel_rfl) SX.out _ _ rfl w.heap.size rfl PC.out Tryz.underlying24 rfl (by kernel_rfl) ?_
    simp only [Act.put, sA9, sB9, sC9]
    refine Step.t_one (i := 1) rfl rfl (by kernel_rfl) ?_
    refine Step.w_callx 39 [.tmp 23] _ rfl Tryz.func39 (by kernel_rfl) rfl [.agg #[.int .i64 z, .slice q n cap]] rfl (RW.out _ (PB.out _ SX.out)) ?_
    rintro e wa ⟨rfl, hb⟩
    refine ⟨_, rfl, ?_⟩
    have SA := Lib.hid (SX.out.trans (hb.mono SX.out.size))
    refine ⟨SA.out, ?_⟩
    simp only [Act.put, sA9, sB9, sC9]
    clear hb
    refine Step.t_val (i := 2) rfl rfl (by kernel_rfl) (by kernel_rfl) (by kernel_rfl) SA.out (.string spec) (fun w' _ => by unfold execOp; go_simp; try rfl) ?_
    simp only [Act.put, sA9, sB9, sC9]
    refine Step.t_one (i := 4) rfl rfl (by kernel_rfl) ?_
    refine Step.w_callx 31 [.tmp 26] _ rfl Tryz.func31 (by kernel_rfl) rfl [.agg #[.int .i64 z, .slice q n cap]] rfl (KY.out _ (PB.out _ SA.out)) ?_
    rintro e wb ⟨v2, rfl, ho2, hb⟩
    refine ⟨_, rfl, ?_⟩
    have SB := Lib.hid (SA.out.trans (hb.mono SA.out.size))
    refine ⟨SB.out, ?_⟩
    simp only [Act.put, sA9, sB9, sC9]
    obtain ⟨k2, c2, rfl, x1, x2, x3, x4⟩ := ho2
    have X4 : Hid (BL wb (some ⟨k2, 0, none⟩) m F) := Lib.hid (fun i hi => ⟨k2, 0, rfl, by rw [Nat.zero_add]; exact x4 i hi⟩)
    clear x4 x1
    have XB := X4.out
    clear X4
    refine Step.t_one (i := 5) rfl rfl (by kernel_rfl) ?_
    refine Step.w_callx 24 [.tmp 25, .tmp 27] _ rfl Tryz.func24 (by kernel_rfl) rfl [.string spec, .slice (some ⟨k2, 0, none⟩) m c2] rfl (RN.out k2 c2 wb XB x2 x3 (PB.out _ SB.out)) ?_
    rintro e wz ⟨rb, rfl, hb⟩
    refine ⟨_, rfl, ?_⟩
    have SZ := Lib.hid (SB.out.trans (hb.mono SB.out.size))
    refine ⟨SZ.out, ?_⟩
    simp only [Act.put, sA9, sB9, sC9]
    clear hb
    refine Step.t_val (i := 6) rfl rfl (by kernel_rfl) (by kernel_rfl) (by kernel_rfl) SZ.out (.tuple #[.pointer (some ⟨rb, 0, none⟩), .int .i64 0]) (fun w' _ => by unfold execOp; go_simp; try rfl) ?_
    simp only [Act.put, sA9, sB9, sC9]
    refine Step.t_val (i := 7) rfl rfl (by kernel_rfl) (by kernel_rfl) (by kernel_rfl) SZ.out (.pointer (some ⟨rb, 0, none⟩)) (fun w' _ => by unfold execOp; go_simp; try rfl) ?_
    simp only [Act.put, sA9, sB9, sC9]
    refine Step.t_val (i := 8) rfl rfl (by kernel_rfl) (by kernel_rfl) (by kernel_rfl) SZ.out (.int .i64 0) (fun w' _ => by unfold execOp; go_simp; try rfl) ?_
    simp only [Act.put, sA9, sB9, sC9]
    refine Step.t_val (i := 9) rfl rfl (by kernel_rfl) (by kernel_rfl) (by kernel_rfl) SZ.out (.pointer (some ⟨rb, 0, none⟩)) (fun w' _ => by unfold execOp; go_simp; try rfl) ?_
    simp only [Act.put, sA9, sB9, sC9]
    refine Step.t_val (i := 10) rfl rfl (by kernel_rfl) (by kernel_rfl) (by kernel_rfl) SZ.out (.int .i64 0) (fun w' _ => by unfold execOp; go_simp; try rfl) ?_
    simp only [Act.put, sA9, sB9, sC9]
    refine Step.t_end (by kernel_rfl) ?_
    go_wp2
    go_meet
    case rel => exact ⟨rb, rfl, rfl, SZ.out⟩
  obtain ⟨rb, rfl, rfl, hb⟩ := hcut
  have P5 := Lib.hid (P4.out.next hb)
  have C5 := Lib.hid (CI.out.below hb)
  have B36 := Lib.hid (B35.out.trans (hb.mono B35.out.size))
  clear hb P4 CI B35 RW NW RN
  go_upto_region 4 with fail
  refine wp_region_lit ?_
  refine Step.p_move rfl _ rfl (.slice (some ⟨g, 0, none⟩) m c) rfl ?_
  simp only [Act.put, sA9, sB9, sC9]
  refine Tree.p_loadrow rfl _ _ rfl (w.heap.size) rfl (P5.out.p) Tryz.underlying24 rfl (by kernel_rfl) ?_
  simp only [Act.put, sA9, sB9, sC9]
  refine Step.p_wp rfl (Step.w_callx 31 [.tmp 32] _ rfl Tryz.func31 (by kernel_rfl) rfl [.agg #[.int .i64 z, .slice q n cap]] rfl (KY.out wc P5.out.bel) ?_)
  rintro e w6 ⟨v2, rfl, ho2, hb⟩
  refine ⟨_, rfl, ?_⟩
  simp only [Act.put, sA9, sB9, sC9]
  obtain ⟨k2, c2, rfl, x1, x2, x3, x4⟩ := ho2
  have P6 := Lib.hid (P5.out.next hb)
  have C6 := Lib.hid (C5.out.below hb)
  have B37 := Lib.hid (B36.out.trans (hb.mono B36.out.size))
  clear hb P5 C5 B36 KY
  have WB := Lib.hid (wholeBytes_any g c (some ⟨k2, 0, none⟩) m c2 F w6 (by omega) hgc hcm2 (fun j hj => by
    obtain ⟨u, hu⟩ : ∃ u, (row m F 70)[j]? = some u := ⟨_, List.getElem?_eq_getElem (by simp [row]; omega)⟩
    rw [B37.out.cell (Frame.block_lt ((ROW3.out j hj).trans hu))]
    exact ROW3.out j hj) (fun i hi => ⟨k2, 0, rfl, by rw [Nat.zero_add]; exact x4 i hi⟩))
  clear x4 x1
  refine Step.p_wp rfl (Step.w_callx 25 [.tmp 31, .tmp 33] _ rfl Tryz.func25 (by kernel_rfl) rfl [.slice (some ⟨g, 0, none⟩) m c, .slice (some ⟨k2, 0, none⟩) m c2] rfl (WB.out) ?_)
  rintro e w7 ⟨rfl, hb⟩
  refine ⟨_, rfl, ?_⟩
  simp only [Act.put, sA9, sB9, sC9]
  refine Step.p_val rfl (.bool false) (by unfold execOp; go_simp; try rfl) ?_
  simp only [Act.put, sA9, sB9, sC9]
  refine wpList_nil ?_
  have M7 : Hid (MS F nk cb g m w w7) := Lib.hid (by
    obtain ⟨cur, hcur⟩ := CUR3.out
    have B38 := B37.out.trans (hb.mono B37.out.size)
    refine ⟨⟨cur, (B38.block g (Array.getElem?_eq_some_iff.1 hcur).1).trans hcur, fun j hj => ⟨F j, KL.out j, ?_⟩⟩, C6.out.below hb, (P6.out.next hb).bel⟩
    have h := ROW3.out j (by omega)
    rw [cell_of_row w3 g j _ _ _ hcur, row_get _ _ _ _ hj] at h
    exact h)
  clear hb P6 C6 B37 ROW3 CUR3 WB
  go_wp2
  go_loopw [10] (fun i wr => ∃ k : Nat, k ≤ m ∧ i = .int .i64 k ∧ MS F nk cb g m w wr) (fun i _ => m - (RowKit.intOf i).toNat)
  case atStart => exact ⟨0, by omega, rfl, M7.out⟩
  case round =>
    obtain ⟨k, hk, rfl, hms⟩ := hrel
    have MR := Lib.hid hms
    clear hms M7
    by_cases hlt : k < m
    · obtain ⟨cur, hcur, hcz⟩ := MR.out.cur
      obtain ⟨x, hx, hxc⟩ := hcz k hlt
      have HCU := Lib.hid hcur
      have hkl : k < cur.size := (Array.getElem?_eq_some_iff.1 hxc).1
      have HX : Hid (wr.cell? ⟨g, k, none⟩ = some (.int .u8 (x : Nat))) := Lib.hid (by rw [cell_of_row wr g k _ _ _ hcur]; exact hxc)
      clear hcur hcz hxc
      go_upto_region 9 with fail
      refine wp_region_lit ?_
      refine Step.p_move rfl _ rfl (.slice (some ⟨g, 0, none⟩) m c) rfl ?_
      simp only [Act.put, sA9, sB9, sC9]
      refine Step.p_move rfl _ rfl (.int .i64 k) rfl ?_
      simp only [Act.put, sA9, sB9, sC9]
      refine Step.p_move rfl _ rfl (.slice (some ⟨g, 0, none⟩) m c) rfl ?_
      simp only [Act.put, sA9, sB9, sC9]
      refine Step.p_move rfl _ rfl (.int .i64 k) rfl ?_
      simp only [Act.put, sA9, sB9, sC9]
      refine Step.p_index rfl _ 5 _ _ rfl g 0 m c rfl k rfl hlt 1 Tryz.underlying22 (by kernel_rfl) ?_
      simp only [Act.put, sA9, sB9, sC9]
      refine Tree.p_load1 rfl _ _ rfl (g) (0 + k * 1) rfl (.int .u8 (x : Nat)) (by rw [Nat.zero_add, Nat.mul_one]; exact HX.out) Tryz.underlying5 rfl ?_
      simp only [Act.put, sA9, sB9, sC9]
      refine Step.p_val rfl (.int .u8 (255 ^^^ x : Nat)) (by unfold execOp; go_simp; first | exact xor_u8 255 _ (by decide) hx | trace_state) ?_
      simp only [Act.put, sA9, sB9, sC9]
      refine Step.p_index rfl _ 5 _ _ rfl g 0 m c rfl k rfl hlt 1 Tryz.underlying22 (by kernel_rfl) ?_
      simp only [Act.put, sA9, sB9, sC9]
      refine Step.p_storeV rfl 5 _ _ rfl g (0 + k * 1) rfl (.int .u8 (255 ^^^ x : Nat)) rfl (fun _ e => by cases e) rfl (by kernel_rfl) HCU.out (by omega) ?_
      intro w8 hr hg2 _
      simp only [Act.put]
      refine wpList_nil ?_
      have M8 := Lib.hid (MR.out.put (by omega) HCU.out (Nat.xor_lt_two_pow (n := 8) (by decide) hx) hr hg2 HG)
      clear hr hg2 HCU HX MR
      go_wp2
      exact ⟨⟨k + 1, by omega, by go_num, M8.out⟩, by simp [RowKit.intOf]; omega⟩
    · obtain rfl : k = m := by omega
      go_upto_region 10 with fail
      refine wp_region_lit ?_
      refine Step.p_move rfl _ rfl (.pointer (some ⟨cb, 0, none⟩)) rfl ?_
      simp only [Act.put, sA9, sB9, sC9]
      refine Step.p_move rfl _ rfl (.pointer (some ⟨rb, 0, none⟩)) rfl ?_
      simp only [Act.put, sA9, sB9, sC9]
      refine Step.p_move rfl _ rfl (.int .i64 0) rfl ?_
      simp only [Act.put, sA9, sB9, sC9]
      refine Step.p_wp rfl (Step.w_callx 15 [.tmp 52] _ rfl Tryz.func15 (by kernel_rfl) rfl [.int .i64 0] rfl (num_any 0 _) ?_)
      rintro e w9 ⟨rfl, hw⟩
      refine ⟨_, rfl, ?_⟩
      simp only [Act.put, sA9, sB9, sC9]
      subst hw
      refine Step.p_val rfl (.bool true) (by unfold execOp; go_simp; try rfl) ?_
      simp only [Act.put, sA9, sB9, sC9]
      refine Step.p_move rfl _ rfl (.bool true) rfl ?_
      simp only [Act.put, sA9, sB9, sC9]
      refine Step.p_move rfl _ rfl (.pointer (some ⟨cb, 0, none⟩)) rfl ?_
      simp only [Act.put, sA9, sB9, sC9]
      refine Step.p_val rfl (.bool true) (by unfold execOp; go_simp; try rfl) ?_
      simp only [Act.put, sA9, sB9, sC9]
      refine Step.p_pick rfl _ _ _ rfl true rfl (.bool true) rfl ?_
      simp only [Act.put, sA9, sB9, sC9]
      refine Step.p_assign rfl _ rfl (.pointer (some ⟨cb, 0, none⟩)) rfl ?_
      simp only [Act.put, sA9, sB9, sC9]
      refine Step.p_assign rfl _ rfl (.pointer (some ⟨rb, 0, none⟩)) rfl ?_
      simp only [Act.put, sA9, sB9, sC9]
      refine Step.p_assign rfl _ rfl (.bool true) rfl ?_
      simp only [Act.put, sA9, sB9, sC9]
      refine wpList_nil ?_
      go_wp2
      go_ret3
      exact ⟨cb, rb, rfl, MR.out.ci, MR.out.bel⟩
end Go.Proofs.YtmifebcaifbmoaaGreatDoor.Tw
end

/- G0 -/
section
namespace Go.Proofs.YtmifebcaifbmoaaGreatDoor.G
open Go.RowKit Go.Lib Go.Proofs.YtmifebcaifbmoaaGreatDoor.Blk Go.Proofs.YtmifebcaifbmoaaGreatDoor.Aes Go.Proofs.YtmifebcaifbmoaaGreatDoor.Rj Go.Proofs.YtmifebcaifbmoaaGreatDoor.Field Go.Proofs.YtmifebcaifbmoaaGreatDoor.Poly Go.Proofs.YtmifebcaifbmoaaGreatDoor.Tab Go.Proofs.YtmifebcaifbmoaaGreatDoor.Byts Go.Proofs.YtmifebcaifbmoaaGreatDoor.Tw

section
variable {P : Program} {o : Oper} {a : Act} {w : World} {K : Act → World → Prop} {Q : Exit → Act → World → Prop}
/-- a call of a function's value that holds arguments already -/
theorem w_callv2 (x : Operand) (args : List Operand) (ts : Array TypeId) (ho : o.op = .call { callee := .value x, args := args.toArray, argTypes := ts }) (f : FuncId) (ars caps : List Value) (hx : a.eval x = .func (.func f) ars.toArray caps.toArray)
    {fn : Func} (hf : P.funcs[f]? = some fn) (hn : (fn.name == "runtime.NumGoroutine") = false) (hb : fn.body.isNone = false) (vs : List Value) (hvs : args.map a.eval = vs) {R : Ending → World → Prop}
    (hc : Calls P f (ars ++ vs ++ caps).toArray w R) (h : ∀ e w', R e w' → ∃ v, e = .returned v ∧ K (a.put o.dst v) w') : o.wp P a w K Q := by
  unfold Oper.wp execOp
  rw [ho]
  simp only [resolve, hx, Deferred.ofValue, Sem.run_bind, Sem.run_pure, Result.andThen_ok, invoke, callFunc, run_program, hf, hn, hb, Bool.false_eq_true, if_false]
  rw [List.map_toArray, show (args.map a.eval) = vs from hvs, List.append_toArray, List.append_toArray]
  exact hc.mono fun e w' hr => by
    obtain ⟨v, rfl, hk⟩ := h e w' hr
    exact hk
end
theorem cell_open {w : World} {b o : Nat} {v : Value} (h : w.cell? ⟨b, o, none⟩ = some v) : ∃ cs T fz, w.heap[b]? = some (.cells cs T fz) ∧ cs[o]? = some v := by
  unfold World.cell? at h
  cases hb : w.heap[b]? with
  | none => simp [hb] at h
  | some ob => cases ob with
    | cells cs T fz => simp only [hb, Option.isSome_none, Bool.false_eq_true, if_false] at h; exact ⟨cs, T, fz, rfl, h⟩
    | _ => simp [hb] at h
/-- keys stay -/
def Kq (w w' : World) : Prop := ∀ (b : Nat) (cs : Array Value) (T : TypeId) (fz : Nat × Nat), w.heap[b]? = some (.cells cs T fz) → (T = 149 ∨ T = 191 ∨ ∃ z, cs[0]? = some (.int .u32 z)) → w'.heap[b]? = some (.cells cs T fz)
/-- all stays but bytes -/
def Kp (w w' : World) : Prop := w.heap.size ≤ w'.heap.size ∧ ∀ (b : Nat) (cs : Array Value) (T : TypeId) (fz : Nat × Nat), w.heap[b]? = some (.cells cs T fz) → (T ≠ 5 ∨ (∃ x, cs[0]? = some x ∧ ∀ z, x ≠ .int .u8 z) ∨ b = 2) → w'.heap[b]? = some (.cells cs T fz)
theorem Kq.refl (w : World) : Kq w w := fun _ _ _ _ h _ => h
theorem Kq.trans {a b c : World} (h : Kq a b) (k : Kq b c) : Kq a c := fun x cs T fz e t => k x cs T fz (h x cs T fz e t) t
theorem Kp.refl (w : World) : Kp w w := ⟨Nat.le_refl _, fun _ _ _ _ h _ => h⟩
theorem Kp.trans {a b c : World} (h : Kp a b) (k : Kp b c) : Kp a c := ⟨Nat.le_trans h.1 k.1, fun x cs T fz e t => k.2 x cs T fz (h.2 x cs T fz e t) t⟩
theorem Kp.q {w w' : World} (h : Kp w w') : Kq w w' := fun b cs T fz e t => h.2 b cs T fz e (by
  rcases t with rfl | rfl | ⟨z, hz⟩
  · exact .inl (by decide)
  · exact .inl (by decide)
  · exact .inr (.inl ⟨_, hz, fun _ e => by cases e⟩))
theorem Kp.of_below {w w' : World} (h : Below w.heap.size w w') : Kp w w' := ⟨h.size, fun b _ _ _ e _ => (h.block b (Array.getElem?_eq_some_iff.1 e).1).trans e⟩
theorem Kq.of_below {w w' : World} (h : Below w.heap.size w w') : Kq w w' := (Kp.of_below h).q
theorem Kp.of_gb {w w' : World} {g n : Nat} {F : Nat → Nat} (hS : Sec w g n F) (hn : 0 < n) (hg : g ≠ 2) (h : w.grownBy w' (some g)) : Kp w w' := ⟨h.size, fun b cs T fz e t => (h.block b (Array.getElem?_eq_some_iff.1 e).1 (fun e2 => by
  cases e2
  obtain ⟨cur, h1, h2, h3⟩ := hS.c
  rw [h1] at e
  cases e
  rcases t with t | ⟨x, hx, t⟩ | t
  · exact t rfl
  · rw [h3 0 hn] at hx
    cases hx
    exact t _ rfl
  · exact hg t)).trans e⟩
/-- a block that is no key's changes -/
theorem Kq.of_gb {w w' : World} {g : Nat} {cs : Array Value} {T : TypeId} {fz : Nat × Nat} (hc : w.heap[g]? = some (.cells cs T fz)) (h1 : T ≠ 149) (h2 : T ≠ 191) (h3 : ∀ z, cs[0]? ≠ some (.int .u32 z)) (h : w.grownBy w' (some g)) : Kq w w' := fun b cs T fz e t => (h.block b (Array.getElem?_eq_some_iff.1 e).1 (fun e2 => by
  cases e2
  rw [hc] at e
  cases e
  rcases t with t | t | ⟨z, t⟩
  · exact h1 t
  · exact h2 t
  · exact h3 z t)).trans e
theorem Kp.cells {w w' : World} (h : Kp w w') {b : Nat} {cs : Array Value} {T : TypeId} {fz : Nat × Nat} (hc : w.heap[b]? = some (.cells cs T fz)) (hT : T ≠ 5) : w'.heap[b]? = some (.cells cs T fz) := h.2 b cs T fz hc (.inl hT)
theorem Kp.cell {w w' : World} (h : Kp w w') {b o : Nat} {x v : Value} (h0 : w.cell? ⟨b, 0, none⟩ = some x) (hx : ∀ z, x ≠ .int .u8 z) (hv : w.cell? ⟨b, o, none⟩ = some v) : w'.cell? ⟨b, o, none⟩ = some v := by
  obtain ⟨cs, T, fz, e, e0⟩ := cell_open h0
  rw [cell_of_row w b o _ _ _ e] at hv
  rw [cell_of_row w' b o _ _ _ (h.2 b cs T fz e (.inr (.inl ⟨x, e0, hx⟩)))]
  exact hv
theorem Kp.cell0 {w w' : World} (h : Kp w w') {b : Nat} {x : Value} (h0 : w.cell? ⟨b, 0, none⟩ = some x) (hx : ∀ z, x ≠ .int .u8 z) : w'.cell? ⟨b, 0, none⟩ = some x := h.cell h0 hx h0
theorem RconAt.kp {w w' : World} (h : RconAt w) (k : Kp w w') : RconAt w' := fun i hi => by
  obtain ⟨cs, T, fz, e, e0⟩ := cell_open (h i hi)
  rw [cell_of_row w' _ _ _ _ _ (k.2 _ cs T fz e (.inr (.inr rfl)))]
  exact e0
theorem _root_.Go.Proofs.YtmifebcaifbmoaaGreatDoor.Tw.Sched.kq {key : Nat → Nat} {nk : Nat} {v : Value} {w w' : World} (h : Sched key nk v w) (k : Kq w w') : Sched key nk v w' := by
  obtain ⟨a1, a2, tb, wb, bb, kb, a3, K⟩ := h
  have word : ∀ {b : Nat} {z : Int}, w.cell? ⟨b, 0, none⟩ = some (.int .u32 z) → ∀ {o : Nat} {u : Value}, w.cell? ⟨b, o, none⟩ = some u → w'.cell? ⟨b, o, none⟩ = some u := fun {b z} h0 {o u} hu => by
    obtain ⟨cs, T, fz, e, e0⟩ := cell_open h0
    rw [cell_of_row w b o _ _ _ e] at hu
    rw [cell_of_row w' b o _ _ _ (k b cs T fz e (.inr (.inr ⟨z, e0⟩)))]
    exact hu
  refine ⟨a1, a2, tb, wb, bb, kb, a3, k _ _ _ _ K.c (.inl rfl), ?_, fun r c hr hc => word (K.ws 0 0 (by omega) (by decide)) (K.ws r c hr hc), fun r c hr hc => word (K.bs 0 0 (by omega) (by decide)) (K.bs r c hr hc)⟩
  obtain ⟨C, e, e2⟩ := K.t
  exact ⟨C, k _ _ _ _ e (.inr (.inl rfl)), e2⟩
theorem _root_.Go.Proofs.YtmifebcaifbmoaaGreatDoor.Tab.KindsAt.kp {g d : Nat} {w w' : World} (h : KindsAt g d w) (k : Kp w w') : KindsAt g d w' :=
  ⟨fun j hj i v hv => k.cell (h.c 0 (by decide) 0 _ rfl) (fun _ e => by cases e) (h.c j hj i v hv), k.cells h.d (by decide)⟩

/-- a function that does a block by a key -/
def DoK (f : FuncId) (v : Value) (F : Nat → Nat) (w : World) : Prop := ∀ n, n < 2 ^ 128 → ∀ w', Kq w w' → Calls Tryz.prog f #[v, B16 n] w' fun e w2 => e = .returned (B16 (F n)) ∧ Below w'.heap.size w' w2
theorem DoK.kq {f : FuncId} {v : Value} {F : Nat → Nat} {w w' : World} (h : DoK f v F w) (k : Kq w w') : DoK f v F w' := fun n hn w2 k2 => h n hn w2 (k.trans k2)
theorem DoK.at_ {f : FuncId} {v : Value} {F : Nat → Nat} {w w' : World} (h : DoK f v F w) (k : Kq w w') : DoAt f v F w' := fun n hn w2 hb => h n hn w2 (k.trans (Kq.of_below hb))
theorem doK_code {key : Nat → Nat} {nk : Nat} {v : Value} {w : World} (h : Sched key nk v w) : DoK 106 v (keyE key nk) w := fun n _ w' k => code_any key nk v n w' (h.kq k)
/-- what a sector begins with -/
def StAt (sf : FuncId) (xb : Nat) (iv : Nat → Nat → Nat) (w : World) : Prop := ∀ (s n : Nat) (w' : World), s < 2 ^ 64 → n ≤ 4096 → Kp w w' → Calls Tryz.prog sf #[.pointer (some ⟨xb, 0, none⟩), .int .u64 s, .int .i64 n] w' fun e w2 => e = .returned (B16 (iv s n)) ∧ Below w'.heap.size w' w2
theorem StAt.kp {sf : FuncId} {xb : Nat} {iv : Nat → Nat → Nat} {w w' : World} (h : StAt sf xb iv w) (k : Kp w w') : StAt sf xb iv w' := fun s n w2 h1 h2 k2 => h s n w2 h1 h2 (k.trans k2)
structure FnOk (f : FuncId) : Prop where
  h : ∃ fn, Tryz.prog.funcs[f]? = some fn ∧ (fn.name == "runtime.NumGoroutine") = false ∧ fn.body.isNone = false
/-- a function that changes a sector's bytes -/
def RunAt (f : FuncId) (ars caps : List Value) (ok : Nat → Prop) (Fn : Nat → Nat → (Nat → Nat) → Nat → Nat) (w : World) : Prop := ∀ (s n g cap : Nat) (F0 : Nat → Nat) (w' : World), s < 2 ^ 64 → 16 ≤ n → n ≤ 4096 → ok n → n ≤ cap → cap ≤ 9223372036854775807 → (∀ i, F0 i < 256) → Kp w w' → Sec w' g n F0 → g ≠ 2 →
  Calls Tryz.prog f (ars ++ ([.int .u64 s, .slice (some ⟨g, 0, none⟩) n cap] : List Value) ++ caps).toArray w' fun e w2 => e = .returned (.tuple #[]) ∧ Sec w2 g n (Fn s n F0) ∧ w'.grownBy w2 (some g)
theorem RunAt.kp {f : FuncId} {ars caps : List Value} {ok : Nat → Prop} {Fn : Nat → Nat → (Nat → Nat) → Nat → Nat} {w w' : World} (h : RunAt f ars caps ok Fn w) (k : Kp w w') : RunAt f ars caps ok Fn w' := fun s n g cap F0 w2 h1 h2 h3 h4 h5 h6 h7 k2 => h s n g cap F0 w2 h1 h2 h3 h4 h5 h6 h7 (k.trans k2)
/-- a number of bytes that a mode takes -/
def okN (loose : Bool) (n : Nat) : Prop := loose = true ∨ n % 16 = 0
/-- a cipher of mode k: what it seals and opens bytes as -/
structure CiphG (k cb : Nat) (loose : Bool) (iv : Nat → Nat → Nat) (S O : Nat → Nat → (Nat → Nat) → Nat → Nat) (w : World) : Prop where
  hk : k < 17
  hl : ∀ d, (kindL d k)[6]? = some (.bool loose)
  h : ∃ xb gk d f1 a1 c1 f2 a2 c2, w.heap[cb]? = some (.cells #[.pointer (some ⟨xb, 0, none⟩), .pointer (some ⟨gk, k * 7, none⟩), .func (.func f1) (List.toArray a1) (List.toArray c1), .func (.func f2) (List.toArray a2) (List.toArray c2)] 80 (0, 0)) ∧
    (∃ cs, w.heap[xb]? = some (.cells cs 96 (0, 0)) ∧ cs[36]? = some (.bool false)) ∧ KindsAt gk d w ∧ FnOk f1 ∧ FnOk f2 ∧ RunAt f1 a1 c1 (okN loose) S w ∧ RunAt f2 a2 c2 (okN loose) O w ∧ ∀ sf, (kindL 0 k)[3]? = some (fv sf) → StAt sf xb iv w
theorem CiphG.kp {k cb : Nat} {loose : Bool} {iv : Nat → Nat → Nat} {S O : Nat → Nat → (Nat → Nat) → Nat → Nat} {w w' : World} (h : CiphG k cb loose iv S O w) (q : Kp w w') : CiphG k cb loose iv S O w' := by
  obtain ⟨a, b, xb, gk, d, f1, a1, c1, f2, a2, c2, h1, ⟨cs, h2, h3⟩, h4, h5, h6, h7, h8, h9⟩ := h
  exact ⟨a, b, xb, gk, d, f1, a1, c1, f2, a2, c2, q.cells h1 (by decide), ⟨cs, q.cells h2 (by decide), h3⟩, h4.kp q, h5, h6, h7.kp q, h8.kp q, fun sf e => (h9 sf e).kp q⟩
end Go.Proofs.YtmifebcaifbmoaaGreatDoor.G
end
